/-
  Layer 35: whether numbers rise: IsSorted, Clone, Compact, rise.
-/
import Derived.Test.YtlniiaopindjnaaDoorHisC
import Derived.Test.YtlniiaopindjnaaDoorBel
import Derived.Deep.DeepCutAuto
import Derived.Deep.CutBlock
namespace Go.Proofs.YtlniiaopindjnaaDoor
set_option linter.unusedVariables false
open Go.RowKit

/-- From place k on no number is less than the one before it. -/
def RisesFrom (xs : List Int) (k : Nat) : Prop := ∀ j x y, k ≤ j → xs[j]? = some x → xs[j + 1]? = some y → x ≤ y
def SomeBelB (Q : Bool → Prop) (w : World) (e : Ending) (w' : World) : Prop := ∃ b : Bool, e = .returned (.bool b) ∧ Below w.heap.size w w' ∧ Q b
set_option maxHeartbeats 400000 in
theorem cmp_isNaN_any (x : Int) (w : World) : Calls Tryd.prog 81 #[.int .i64 x] w fun e w' => e = .returned (.bool false) ∧ w = w' := by
  have h : (x != x) = false := by simp
  go_enter Tryd.func81, Tryd.ntmps81
  go_wp2
  go_ret
  exact ⟨rfl, rfl⟩
set_option maxHeartbeats 400000 in
theorem cmp_Less_any (x y : Int) (w : World) : Calls Tryd.prog 78 #[.int .i64 x, .int .i64 y] w fun e w' => e = .returned (.bool (decide (x < y))) ∧ w = w' := by
  go_enter Tryd.func78, Tryd.ntmps78
  go_wp2_with (go_at_call 81; refine (cmp_isNaN_any _ _).mono ?_; rintro e w2 ⟨rfl, rfl⟩)
  all_goals
    go_ret
    exact ⟨ret_bool (by simp [*]), rfl⟩
set_option maxHeartbeats 2000000 in
set_option maxRecDepth 100000 in
theorem isSorted_any (a : Option Addr) (n cap : Nat) (xs : List Int) (w : World) (h : RInts w w.heap.size [.slice a n cap] xs) :
    Calls Tryd.prog 64 #[.slice a n cap] w (SomeBelB (fun b => b = true ↔ RisesFrom xs 0) w) := by
  obtain ⟨rfl, hm1, hm2, _, _⟩ := ints_open h
  rw [maxLen_val] at hm2
  have H := Lib.hid h
  have HB := Lib.hid (Below.refl w.heap.size w)
  clear h
  by_cases h0 : xs.length = 0
  · have HR := Lib.hid (show RisesFrom xs 0 from fun j x y _ hx => by rw [List.getElem?_eq_none (by omega)] at hx; cases hx)
    go_enter Tryd.func64, Tryd.ntmps64
    go_wp2_with fail
    go_loopw [3] (fun i wr => i = .int .i64 ((xs.length : Int) - 1) ∧ wr = w) (fun _ _ => 0)
    case atStart => exact ⟨by go_num, rfl⟩
    case round =>
      obtain ⟨rfl, rfl⟩ := hrel
      go_wp2_with fail
      go_ret
      exact ⟨true, rfl, Below.refl _ _, ⟨fun _ => HR.out, fun _ => rfl⟩⟩
  · go_enter Tryd.func64, Tryd.ntmps64
    go_wp2_with fail
    go_loopw [3] (fun i wr => ∃ k : Nat, k < xs.length ∧ i = .int .i64 k ∧ Below w.heap.size w wr ∧ RisesFrom xs k) (fun i _ => (intOf i).toNat)
    case atStart => exact ⟨xs.length - 1, by omega, by go_num, Below.refl _ _, fun j x y hj _ hy => by rw [List.getElem?_eq_none (by omega)] at hy; cases hy⟩
    case round =>
      obtain ⟨k, hk, rfl, hbel, hris⟩ := hrel
      have HB := Lib.hid hbel
      have HS := Lib.hid hris
      obtain ⟨_, _, _, _, hev⟩ := ints_open (kept_ints.on hbel H.out)
      clear hbel hris
      by_cases hlt : 0 < k
      · obtain ⟨m, rfl⟩ : ∃ m, k = m + 1 := ⟨k - 1, by omega⟩
        obtain ⟨y, hy⟩ := get_at hk
        obtain ⟨x, hx⟩ := get_at (show m < xs.length by omega)
        obtain ⟨b, off, rfl, hb, hc⟩ := hev (by omega)
        obtain ⟨_, c1⟩ := hc (m + 1) y hy
        obtain ⟨_, c0⟩ := hc m x hx
        clear hc hev
        have HX := Lib.hid hx
        have HY := Lib.hid hy
        have C0 := Lib.hid c0
        have C1 := Lib.hid c1
        clear hx hy c0 c1
        go_upto_region 4 with fail
        have c1x : ∀ x_ : Ext wr.heap.size wr, x_.w.cell? ⟨b, off + (m + 1), none⟩ = some (.int .i64 y) := fun x_ => (x_.b.cell (p := ⟨b, off + (m + 1), none⟩) hb).trans C1.out
        have c0x : ∀ x_ : Ext wr.heap.size wr, x_.w.cell? ⟨b, off + m, none⟩ = some (.int .i64 x) := fun x_ => (x_.b.cell (p := ⟨b, off + m, none⟩) hb).trans C0.out
        refine wp_region_bel wr.heap.size (by kernel_rfl) (by kernel_rfl) ?_
        repeat (go_big_quiet_step (first | (go_at_call 78; exact Calls.bel_same (cmp_Less_any _ _ _))))
        refine wpQuiet_nil ?_
        intro x_
        have HBX := Lib.hid (HB.out.trans (x_.b.mono HB.out.size))
        generalize x_.w = wx at HBX ⊢
        clear c0x c1x
        by_cases hlt2 : y < x
        · go_wp2_with fail
          go_ret
          exact ⟨false, rfl, HBX.out, ⟨(fun h => by cases h), fun h => absurd (h m x y (by omega) HX.out HY.out) (by omega)⟩⟩
        · go_wp2_with fail
          go_roundw
          case rel => exact ⟨m, by omega, by go_num, HBX.out, fun j p q hj hp hq => by
            rcases Nat.lt_or_ge m j with h | h
            · exact HS.out j p q h hp hq
            · obtain rfl : j = m := by omega
              rw [HX.out] at hp
              rw [HY.out] at hq
              injection hp with hp
              injection hq with hq
              omega⟩
          case measure => simp [intOf]
      · obtain rfl : k = 0 := by omega
        clear hev
        go_wp2_with fail
        go_ret
        exact ⟨true, rfl, HB.out, ⟨fun _ => HS.out, fun _ => rfl⟩⟩
end Go.Proofs.YtlniiaopindjnaaDoor
