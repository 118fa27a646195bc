/-
  A struct, or an array, read and written whole: its type's row as one Bool. No program is named here.
-/
import Derived.Deep.MidRow
import Derived.Deep.Draws
import Derived.Test.YtcicjklhbnipcaaGreatDoorLexH
namespace Go.Proofs.YtcicjklhbnipcaaGreatDoor
set_option linter.unusedVariables false
set_option linter.unusedSimpArgs false

/-- The type has 'n' cells, and is a struct or an array. -/
def rowB (P : Program) (t : TypeId) (n : Nat) : Bool :=
  (match P.underlying t with | some d => d.isRow | none => false) && ((P.info? t).map (·.size) == some n)
section
variable {P : Program} {ops : Array Oper} {Q : Exit → Act → World → Prop} {a : Act} {w : World} {op : Oper}
theorem rowB_spec {t : TypeId} {n : Nat} (h : rowB P t n = true) : ∃ d, P.underlying t = some d ∧ d.isRow = true ∧ (P.info? t).map (·.size) = some n := by
  unfold rowB at h
  simp only [Bool.and_eq_true] at h
  obtain ⟨h1, h2⟩ := h
  cases hu : P.underlying t with
  | none => rw [hu] at h1; cases h1
  | some d => rw [hu] at h1; exact ⟨d, rfl, h1, by simpa using h2⟩
theorem wpList_load_row {rest : List Oper} (hgd : op.guard = none) {ty : TypeId} {x : Operand} (hx : op.op = .load ty x) {b o : Nat} (hev : a.eval x = .pointer (some ⟨b, o, none⟩)) (cs : List Value) (hB : rowB P ty cs.length = true) (hc : w.rangeAt b o cs)
    (h : wpList P ops Q rest (a.put op.dst (.agg cs.toArray)) w) : wpList P ops Q (op :: rest) a w := by
  obtain ⟨d, h1, h2, h3⟩ := rowB_spec hB
  exact wpList_load_mid hgd ty x hx b o hev cs d hc h1 h2 h3 h
theorem wpList_store_row {rest : List Oper} (hgd : op.guard = none) {ty : TypeId} {x y : Operand} (hx : op.op = .store ty x y) {b o : Nat} {cells : Array Value} (hev : a.eval x = .pointer (some ⟨b, o, none⟩)) (hy : a.eval y = .agg cells)
    (ht : w.there b o cells.size) (hB : rowB P ty cells.size = true) (h1 : cells.all (·.oneCell') = true)
    (h : wpList P ops Q rest (a.put op.dst undef) (w.setCells b o cells.toList)) : wpList P ops Q (op :: rest) a w := by
  obtain ⟨d, -, -, h3⟩ := rowB_spec hB
  exact wpList_store_mid hgd ty x y hx b o cells hev hy ht h3 h1 h
end
/-! ### Blocks that are known whole -/
/-- Block 'b' holds just these cells, and none of them is frozen. -/
def Blk (w : World) (b : Nat) (cs : List Value) (t : TypeId) : Prop := w.heap[b]? = some (.cells cs.toArray t (0, 0))
section
variable {w w' : World} {b : Nat} {cs : List Value} {t : TypeId}
theorem Blk.lt (h : Blk w b cs t) : b < w.heap.size := (Array.getElem?_eq_some_iff.1 h).1
theorem Blk.cell (h : Blk w b cs t) (o : Nat) : w.cell? ⟨b, o, none⟩ = cs[o]? := by
  unfold Blk at h
  unfold World.cell?
  simp only [h]
  simp
theorem Blk.free (h : Blk w b cs t) (o : Nat) : w.frozen? ⟨b, o, none⟩ = false := by
  unfold World.frozen?
  unfold Blk at h
  simp only [h]
  simp
theorem Blk.range (h : Blk w b cs t) : w.rangeAt b 0 cs := fun j v hv => by rw [h.cell, Nat.zero_add]; exact hv
theorem Blk.part (h : Blk w b cs t) (o : Nat) (vs : List Value) (hv : (cs.drop o).take vs.length = vs) : w.rangeAt b o vs := fun j v hj => by
  have hl : j < vs.length := (List.getElem?_eq_some_iff.1 hj).1
  have e : vs[j]? = cs[o + j]? := by
    have : ((cs.drop o).take vs.length)[j]? = cs[o + j]? := by rw [List.getElem?_take, if_pos hl, List.getElem?_drop]
    rw [hv] at this
    exact this
  rw [h.cell, ← e, hj]
theorem Blk.there (h : Blk w b cs t) (o n : Nat) (hn : o + n ≤ cs.length) : w.there b o n := fun j hj =>
  ⟨by rw [h.cell, List.getElem?_eq_getElem (by omega)]; rfl, h.free _⟩
/-- A list whose part from 'o' on is written over. -/
def over (cs : List Value) (o : Nat) : List Value → List Value
  | [] => cs
  | v :: r => over (cs.set o v) (o + 1) r
theorem Blk.setCell (h : Blk w b cs t) (o : Nat) (v : Value) : Blk (w.setCell ⟨b, o, none⟩ v) b (cs.set o v) t := by
  unfold Blk at *
  have hb := (Array.getElem?_eq_some_iff.1 h).1
  simp only [World.setCell, Array.getElem?_modify, h]
  simp
theorem Blk.setCell_other (h : Blk w b cs t) {p : Addr} (hp : p.block ≠ b) (v : Value) : Blk (w.setCell p v) b cs t := by
  unfold Blk at *
  simp only [World.setCell, Array.getElem?_modify, h]
  simp [hp]
theorem Blk.setCells_other (h : Blk w b cs t) {c : Nat} (hp : c ≠ b) : ∀ (vs : List Value) (o : Nat), Blk (w.setCells c o vs) b cs t := by
  intro vs
  induction vs generalizing w with
  | nil => intro o; exact h
  | cons v r ih => intro o; exact ih (h.setCell_other (p := ⟨c, o, none⟩) hp v) (o + 1)
theorem Blk.setCells (h : Blk w b cs t) : ∀ (vs : List Value) (o : Nat), Blk (w.setCells b o vs) b (over cs o vs) t := by
  intro vs
  induction vs generalizing w cs with
  | nil => intro o; exact h
  | cons v r ih => intro o; exact ih (h.setCell o v) (o + 1)
theorem Blk.drew (h : Blk w b cs t) : Blk w.drew b cs t := h
theorem Blk.drewN (h : Blk w b cs t) (n : Nat) : Blk (w.drewN n) b cs t := h
end
end Go.Proofs.YtcicjklhbnipcaaGreatDoor
