/-
  Layer 1: a number in decimal digits: the program's Dec, walked; small facts.
-/
import Derived.Test.YtjldgieffkemlaaGreatDoorBase0
import Derived.Test.YtjldgieffkemlaaGreatDoorOpAt
import Derived.Test.YtjldgieffkemlaaGreatDoorShelf
import Derived.Laws.IdiomStrings
import Derived.Laws.BytesArg
import Derived.Lib.ItoaLen
import Derived.Sort.Grow
import Derived.OpenShut
namespace Go.Proofs.YtjldgieffkemlaaGreatDoor
set_option linter.unusedVariables false
set_option linter.unusedSimpArgs false
open Go.RowKit
open Go.Lib hiding intOf

abbrev Fits (x : Int) : Prop := (Lit.int .i64 x).wf = true
theorem fits_bounds {a : Int} (h : Fits a) : -9223372036854775808 ≤ a ∧ a ≤ 9223372036854775807 := bounds_i64 h
theorem below_drew {B : Nat} {a w : World} (h : Below B a w) (n : Nat) : Below B a (w.drewN n) := h.trans ⟨rfl, rfl, rfl, Nat.le_refl _, fun _ _ => rfl⟩
/-- The table that numbers' digits are counted by. -/
def Pow (w : World) : Prop := Lib.TabIs Tryz.prog w "internal/strconv.uint64pow10" .u64 Lib.pow10Tab
theorem var_below {P : Program} {w w' : World} {name : String} {cs : Array Value} (h : w.var? P name = some cs) (hb : Below w.heap.size w w') : w'.var? P name = some cs := by
  unfold World.var? at h ⊢
  cases hg : P.globalNamed name with
  | none => rw [hg] at h; cases h
  | some g =>
    rw [hg] at h
    simp only [Option.bind_some] at h ⊢
    rcases Nat.lt_or_ge g w.heap.size with hlt | hge
    · rw [hb.block g hlt]; exact h
    · rw [Array.getElem?_eq_none hge] at h; cases h
theorem Pow.on {w w' : World} (h : Pow w) (hb : Below w.heap.size w w') : Pow w' := var_below h hb
theorem below_grow {B : Nat} {a w : World} (h : Below B a w) (hB : B ≤ w.heap.size) (os : Array Obj) : Below B a (Sort.grow w os) :=
  ⟨h.os, h.tape, h.output, by simp [Sort.grow]; have := h.size; omega, fun k hk => by
    rw [← h.block k hk]
    simp only [Sort.grow]
    rw [Array.getElem?_append_left (by omega)]⟩
theorem bel1 (w : World) (o : Obj) : Below w.heap.size w (w.alloc o) := (Below.refl _ _).alloc (Nat.le_refl _) _
theorem str_size (a : List UInt8) : (⟨a.toArray⟩ : ByteArray).size = a.length := rfl
theorem ret_str {a b : ByteArray} (h : a = b) : Ending.returned (.string a) = .returned (.string b) := by rw [h]

set_option maxHeartbeats 400000 in
theorem digits_Dec_any (n : Int) (w : World) (hn : Fits n) (ht : Pow w) : Calls Tryz.prog 29 #[.int .i64 n] w fun e w' => e = .returned (.string ⟨(Lib.itoa n).toArray⟩) ∧ Below w.heap.size w w' := by
  have hb := fits_bounds hn
  have H := Lib.hid (Tryz.strconv_Itoa n hb.1 hb.2 w ht)
  clear ht
  go_enter Tryz.func29, Tryz.ntmps29
  go_wp2_with (go_at_call 51; refine H.out.mono ?_; rintro e w2 ⟨rfl, k, os, rfl⟩)
  go_ret
  exact ⟨rfl, below_grow (below_drew (Below.refl _ _) k) (by simp) os⟩
end Go.Proofs.YtjldgieffkemlaaGreatDoor
