/-
  A call that was seen, loaded whole, in the order of the text; stored whole into a block of its own.
-/
import Derived.Test.YtlniiaopindjnaaDoorLoadE
import Derived.Test.YtlniiaopindjnaaDoorHisK
import Derived.Lib.LazyBuf
namespace Go.Proofs.YtlniiaopindjnaaDoor
set_option linter.unusedVariables false
open Go.RowKit

theorem wpList_load_event {ops : Array Oper} {rest : List Oper} {a : Act} {w : World} {Q : Exit → Act → World → Prop} {d : Option Nat} {ty : TypeId} {pos : String} {aft : Array _} {g : Option (Nat × Bool)} {t : Nat} (x : EventD) {b q : Nat}
    (h : ∀ j, j < 16 → w.cell? ⟨b, q + j, none⟩ = x.cells[j]?)
    (hev : a.eval (.tmp t) = .pointer (some ⟨b, q, none⟩))
    (hw : Region.wanted { dst := d, op := .load 44 (.tmp t), type := ty, pos := pos, after := aft, guard := g } (yielded ops a.tmps) = true)
    (hn : wpList Tryd.prog ops Q rest (a.put d x.agg) w) : wpList Tryd.prog ops Q ({ dst := d, op := .load 44 (.tmp t), type := ty, pos := pos, after := aft, guard := g } :: rest) a w := by
  unfold wpList
  rw [if_pos hw]
  left
  unfold Oper.wp
  rw [load_event0 d t ty pos aft g a.eval b q x w hev h]
  exact hn
theorem CapAt.sixteen {w : World} {g : Nat} {x : EventD} (h : CapAt w g x) : ∀ j, j < 16 → w.cell? ⟨g, 0 + j, none⟩ = x.cells[j]? := by
  intro j hj
  rw [Nat.zero_add]
  have hl : x.cells.length = 16 := rfl
  rw [List.getElem?_eq_getElem (by omega)]
  exact h.cell j _ (List.getElem?_eq_getElem (by omega))
/-- A block with a call's cells, not frozen, whatever they hold. -/
structure RowAt (w : World) (g : Nat) : Prop where
  lt : g < w.heap.size
  cell : ∀ j, j < 16 → ∃ v, w.cell? ⟨g, j, none⟩ = some v
  free : ∀ j, j < 16 → w.frozen? ⟨g, j, none⟩ = false
theorem RowAt.new (w : World) (cs : Array Value) (t : TypeId) (h : cs.size = 16) : RowAt (w.alloc (.cells cs t)) w.heap.size where
  lt := by simp
  cell := fun j hj => ⟨cs[j]'(by omega), by rw [cell_of_row _ _ j _ _ _ (heap_alloc_new w _)]; exact Array.getElem?_eq_getElem (by omega)⟩
  free := fun j hj => by
    unfold World.frozen?
    simp only [heap_alloc_new w (.cells cs t)]
    simp
theorem RowAt.on {w w' : World} {g : Nat} (h : RowAt w g) (hb : Below w.heap.size w w') : RowAt w' g where
  lt := Nat.lt_of_lt_of_le h.lt hb.size
  cell := fun j hj => by
    obtain ⟨v, hv⟩ := h.cell j hj
    exact ⟨v, (hb.cell (p := ⟨g, j, none⟩) h.lt).trans hv⟩
  free := fun j hj => (hb.frozen (p := ⟨g, j, none⟩) h.lt).trans (h.free j hj)
theorem size_setCells (b : Nat) : ∀ (vs : List Value) (o : Nat) (w : World), (w.setCells b o vs).heap.size = w.heap.size
  | [], _, _ => rfl
  | v :: r, o, w => by
    show ((w.setCell ⟨b, o, none⟩ v).setCells b (o + 1) r).heap.size = _
    rw [size_setCells b r]
    simp
theorem RowAt.beside {w : World} {g b : Nat} (h : RowAt w g) (hne : g ≠ b) (vs : List Value) : RowAt (w.setCells b 0 vs) g where
  lt := by rw [size_setCells]; exact h.lt
  cell := fun j hj => by
    obtain ⟨v, hv⟩ := h.cell j hj
    exact ⟨v, (World.cell?_setCells_out b vs 0 w ⟨g, j, none⟩ (fun e => absurd e hne)).trans hv⟩
  free := fun j hj => (World.frozen?_setCells b vs 0 w ⟨g, j, none⟩).trans (h.free j hj)
theorem CapAt.beside {w : World} {g b : Nat} {x : EventD} (h : CapAt w g x) (hne : g ≠ b) (vs : List Value) : CapAt (w.setCells b 0 vs) g x where
  lt := by rw [size_setCells]; exact h.lt
  cell := fun j v hj => (World.cell?_setCells_out b vs 0 w ⟨g, j, none⟩ (fun e => absurd e hne)).trans (h.cell j v hj)
theorem CapAt.stored {w : World} {g : Nat} (h : RowAt w g) (x : EventD) : CapAt (w.setCells g 0 x.cells) g x where
  lt := by rw [size_setCells]; exact h.lt
  cell := fun j v hj => by
    have hl : x.cells.length = 16 := rfl
    have hj2 : j < x.cells.length := (List.getElem?_eq_some_iff.1 hj).1
    have := World.cell?_setCells_in g x.cells 0 w (fun i hi => by
      obtain ⟨u, hu⟩ := h.cell i (by omega)
      rw [Nat.zero_add, hu]; rfl) j hj2
    rw [Nat.zero_add] at this
    rw [this, ← hj, List.getElem?_eq_getElem hj2]
theorem below_stored {B g : Nat} {a w : World} (h : Below B a w) (hg : B ≤ g) (vs : List Value) : Below B a (w.setCells g 0 vs) := Go.below_setCells hg _ _ _ h
set_option maxHeartbeats 8000000 in
set_option maxRecDepth 100000 in
theorem store_event0 (d : Option Nat) (s t : Nat) (ty : TypeId) (pos : String) (aft : Array _) (gd : Option (Nat × Bool)) (ev : Operand → Value) (g : Nat) (x : EventD) (w : World) (hs : ev (.tmp s) = .pointer (some ⟨g, 0, none⟩)) (ht : ev (.tmp t) = x.agg)
    (hc : ∀ j, j < 16 → ∃ v, w.cell? ⟨g, j, none⟩ = some v) (hf : ∀ j, j < 16 → w.frozen? ⟨g, j, none⟩ = false) :
    Sem.run Tryd.prog (execOp ev { dst := d, op := .store 44 (.tmp s) (.tmp t), type := ty, pos := pos, after := aft, guard := gd }) w = .ok .skip (w.setCells g 0 x.cells) := by
  obtain ⟨v0, c0⟩ := hc 0 (by omega)
  obtain ⟨v1, c1⟩ := hc 1 (by omega)
  obtain ⟨v2, c2⟩ := hc 2 (by omega)
  obtain ⟨v3, c3⟩ := hc 3 (by omega)
  obtain ⟨v4, c4⟩ := hc 4 (by omega)
  obtain ⟨v5, c5⟩ := hc 5 (by omega)
  obtain ⟨v6, c6⟩ := hc 6 (by omega)
  obtain ⟨v7, c7⟩ := hc 7 (by omega)
  obtain ⟨v8, c8⟩ := hc 8 (by omega)
  obtain ⟨v9, c9⟩ := hc 9 (by omega)
  obtain ⟨v10, c10⟩ := hc 10 (by omega)
  obtain ⟨v11, c11⟩ := hc 11 (by omega)
  obtain ⟨v12, c12⟩ := hc 12 (by omega)
  obtain ⟨v13, c13⟩ := hc 13 (by omega)
  obtain ⟨v14, c14⟩ := hc 14 (by omega)
  obtain ⟨v15, c15⟩ := hc 15 (by omega)
  have f0 := hf 0 (by omega)
  have f1 := hf 1 (by omega)
  have f2 := hf 2 (by omega)
  have f3 := hf 3 (by omega)
  have f4 := hf 4 (by omega)
  have f5 := hf 5 (by omega)
  have f6 := hf 6 (by omega)
  have f7 := hf 7 (by omega)
  have f8 := hf 8 (by omega)
  have f9 := hf 9 (by omega)
  have f10 := hf 10 (by omega)
  have f11 := hf 11 (by omega)
  have f12 := hf 12 (by omega)
  have f13 := hf 13 (by omega)
  have f14 := hf 14 (by omega)
  have f15 := hf 15 (by omega)
  clear hc hf
  simp only [World.setCells, EventD.cells]
  go_simp
end Go.Proofs.YtlniiaopindjnaaDoor
