/-
  Small words for the walks (of seats without the store's types): posts of functions that answer a bool, loops' facts on lists, a slice opened at an index.
-/
import Derived.Test.YtjldgieffkemlaaGreatDoorRep
import Derived.Test.YtjldgieffkemlaaGreatDoorChecked
import Derived.WalkKit
import Derived.WalkSpells
import Derived.WalkLawsBesides
import Derived.Lib.Hide
namespace Go.Proofs.YtjldgieffkemlaaGreatDoor
set_option linter.unusedVariables false
set_option linter.unusedSimpArgs false
open Go.RowKit

/-- It answers a bool of which Q holds, and the world is as it was. -/
def SomeB (Q : Bool → Prop) (w : World) (e : Ending) (w' : World) : Prop := ∃ b : Bool, e = .returned (.bool b) ∧ w = w' ∧ Q b
/-- It answers a bool of which Q holds; what was there is as it was. -/
def SomeBel (Q : Bool → Prop) (w : World) (e : Ending) (w' : World) : Prop := ∃ b : Bool, e = .returned (.bool b) ∧ Below w.heap.size w w' ∧ Q b

theorem grow_all {α : Type} {Q : α → Prop} {xs : List α} {k : Nat} {s : α} (h : ∀ j x, j < k → xs[j]? = some x → Q x) (hs : xs[k]? = some s) (hq : Q s) : ∀ j x, j < k + 1 → xs[j]? = some x → Q x := by
  intro j x hj hx
  rcases Nat.lt_succ_iff_lt_or_eq.1 hj with hlt | rfl
  · exact h j x hlt hx
  · rw [hs] at hx; injection hx with hx; subst hx; exact hq
theorem all_of {α : Type} {Q : α → Prop} {xs : List α} {k : Nat} (h : ∀ j x, j < k → xs[j]? = some x → Q x) (hk : xs.length ≤ k) : ∀ x ∈ xs, Q x := by
  intro x hx
  obtain ⟨j, hj, rfl⟩ := List.getElem_of_mem hx
  exact h j _ (by omega) (List.getElem?_eq_getElem hj)
theorem none_before {α : Type} {Q : α → Prop} (xs : List α) : ∀ j x, j < 0 → xs[j]? = some x → Q x := fun _ _ h => absurd h (by omega)

theorem slice_form {size : Nat} {α : Type} {R : Rep α} {w : World} {B : Nat} {v : Value} {xs : List α} (h : RSlice size R w B [v] xs) : ∃ a cap, v = .slice a xs.length cap := by
  obtain ⟨a, cap, h1, _⟩ := h
  exact ⟨a, cap, by simpa using h1⟩

theorem slice_open {size : Nat} {α : Type} {R : Rep α} {w : World} {B : Nat} {a : Option Addr} {n cap : Nat} {xs : List α} (h : RSlice size R w B [.slice a n cap] xs) :
    n = xs.length ∧ n ≤ cap ∧ cap ≤ maxLen ∧ (a = none → cap = 0) ∧ (0 < n → ∃ b off, a = some ⟨b, off, none⟩ ∧ b < B ∧
      ∀ k x, xs[k]? = some x → ∃ es : List Value, es.length = size ∧ (∀ j, j < size → w.cell? ⟨b, off + k * size + j, none⟩ = es[j]?) ∧ R w B es x) := by
  obtain ⟨a', cap', h1, h2, h3, h5, h4⟩ := h
  simp only [List.cons.injEq, Value.slice.injEq, and_true] at h1
  obtain ⟨rfl, rfl, rfl⟩ := h1
  exact ⟨rfl, h2, h3, h5, h4⟩

theorem maxLen_val : maxLen = 9223372036854775807 := by decide
theorem get_at {α : Type} {xs : List α} {k : Nat} (h : k < xs.length) : ∃ x, xs[k]? = some x := ⟨xs[k], List.getElem?_eq_getElem h⟩
theorem Same.alloc (B : Nat) (w : World) (o : Obj) (hB : B ≤ w.heap.size) : Same B w (w.alloc o) := Same.of_below ((Below.refl w.heap.size w).alloc (Nat.le_refl _) o) hB
theorem bcell {W w1 : World} {B : Nat} (hb : Below B W w1) : (∀ b o, b < B → w1.cell? ⟨b, o, none⟩ = W.cell? ⟨b, o, none⟩) ∧ (∀ b o, b < B → w1.frozen? ⟨b, o, none⟩ = W.frozen? ⟨b, o, none⟩) :=
  ⟨fun b o h => hb.cell (p := ⟨b, o, none⟩) h, fun b o h => hb.frozen (p := ⟨b, o, none⟩) h⟩
/-- A parameter's struct lies in the call's first new block: what is known of any world behind. -/
structure BoxedAt (w wx : World) (cs : List Value) : Prop where
  below : Below w.heap.size w wx
  size : w.heap.size < wx.heap.size
  cell : ∀ j v, cs[j]? = some v → wx.cell? ⟨w.heap.size, j, none⟩ = some v
theorem BoxedAt.alloc (w : World) (cs : List Value) (t : TypeId) : BoxedAt w (w.alloc (.cells cs.toArray t)) cs where
  below := (Below.refl _ _).alloc (Nat.le_refl _) _
  size := by simp
  cell := fun j v h => by
    have : (w.alloc (.cells cs.toArray t)).heap[w.heap.size]? = some (.cells cs.toArray t (0, 0)) := heap_alloc_new w _
    rw [cell_of_row _ _ j _ _ _ this]
    simpa using h
theorem BoxedAt.on {w wx wy : World} {cs : List Value} (h : BoxedAt w wx cs) (hb : Below wx.heap.size wx wy) : BoxedAt w wy cs where
  below := h.below.trans (hb.mono (Nat.le_of_lt h.size))
  size := Nat.lt_of_lt_of_le h.size hb.size
  cell := fun j v hj => (hb.cell (p := ⟨w.heap.size, j, none⟩) h.size).trans (h.cell j v hj)
theorem BoxedAt.on' {w wx wy : World} {cs : List Value} (h : BoxedAt w wx cs) (hb : Below (w.heap.size + 1) wx wy) : BoxedAt w wy cs where
  below := h.below.trans (hb.mono (by omega))
  size := Nat.lt_of_lt_of_le h.size hb.size
  cell := fun j v hj => (hb.cell (p := ⟨w.heap.size, j, none⟩) (by simp)).trans (h.cell j v hj)
theorem BoxedAt.grown {w wx wy : World} {cs : List Value} {row : Option Nat} (h : BoxedAt w wx cs) (hg : wx.grownBy wy row) (hr : ∀ k, row = some k → w.heap.size < k) : BoxedAt w wy cs :=
  h.on' ((Below.refl (w.heap.size + 1) wx).grown hg (by have := h.size; omega) (fun k hk => by have := hr k hk; omega))
theorem Kept.on {α : Type} {R : Rep α} (h : Kept R) {w w' : World} {cs : List Value} {x : α} (hb : Below w.heap.size w w') (hr : R w w.heap.size cs x) : R w' w'.heap.size cs x :=
  h.go (Same.of_below hb (Nat.le_refl _)) hb.size hr
theorem str_beq (x t : ByteArray) : (x.toList == t.toList) = (x.data.toList == t.data.toList) := by rw [ByteArray.toList_eq, ByteArray.toList_eq]
/-- A block that the call itself made holds these cells. -/
structure HoldsAt (w0 w : World) (g : Nat) (cs : List Value) : Prop where
  below : Below w0.heap.size w0 w
  lt : g < w.heap.size
  cell : ∀ j v, cs[j]? = some v → w.cell? ⟨g, j, none⟩ = some v
theorem HoldsAt.on {w0 w w' : World} {g : Nat} {cs : List Value} (h : HoldsAt w0 w g cs) (hs : w0.heap.size ≤ w.heap.size) (hb : Below w.heap.size w w') : HoldsAt w0 w' g cs where
  below := h.below.trans (hb.mono hs)
  lt := Nat.lt_of_lt_of_le h.lt hb.size
  cell := fun j v hj => (hb.cell (p := ⟨g, j, none⟩) h.lt).trans (h.cell j v hj)
/-- A slice over a block that is known whole. -/
theorem slice_of_block {size : Nat} {α : Type} {R : Rep α} {w : World} {g cap B : Nat} {cells : Array Value} {t : TypeId} {fz : Nat × Nat} {xs : List α} (hb : w.heap[g]? = some (.cells cells t fz)) (hg : g < B) (hl : xs.length ≤ cap) (hm : cap ≤ maxLen)
    (hx : ∀ i x, xs[i]? = some x → ∃ es : List Value, es.length = size ∧ (∀ j, j < size → cells[i * size + j]? = es[j]?) ∧ R w B es x) : RSlice size R w B [.slice (some ⟨g, 0, none⟩) xs.length cap] xs := by
  refine ⟨some ⟨g, 0, none⟩, cap, rfl, hl, hm, (fun h => by cases h), fun hp => ⟨g, 0, rfl, hg, fun i x hi => ?_⟩⟩
  obtain ⟨es, h1, h2, h3⟩ := hx i x hi
  refine ⟨es, h1, fun j hj => ?_, h3⟩
  rw [show 0 + i * size + j = i * size + j by omega, cell_of_row w g _ cells t fz hb]
  exact h2 j hj
theorem slice_nil {size : Nat} {α : Type} {R : Rep α} {w : World} {B : Nat} : RSlice size R w B [.slice none 0 0] ([] : List α) :=
  ⟨none, 0, rfl, Nat.le_refl _, by simp [maxLen], fun _ => rfl, fun h => absurd h (Nat.lt_irrefl _)⟩
end Go.Proofs.YtjldgieffkemlaaGreatDoor
