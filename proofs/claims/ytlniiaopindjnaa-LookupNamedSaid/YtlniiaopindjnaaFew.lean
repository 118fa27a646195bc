/-
  Few, in the references: whatever it answers, where it answers yes the parts are as few as the text says; it writes nothing that was there. Condition: the arguments read as lists.
-/
import Derived.Test.YtlniiaopindjnaaBase
namespace Go.Proofs.Ytlniiaopindjnaa
set_option linter.unusedVariables false
open Go.RowKit

def FewTP (xs : List ByteArray) (b : Bool) : Prop := b = true → xs.length ≤ 8 ∧ ∀ x ∈ xs, x.size ≤ 100
def FewIP (xs : List ItemD) (b : Bool) : Prop := b = true → xs.length ≤ 8
set_option maxHeartbeats 400000 in
theorem ref06_few_any (a : Option Addr) (n cap : Nat) (xs : List ByteArray) (w : World) (B : Nat) (h : RStrs w B [.slice a n cap] xs) :
    Calls Try.prog 48 #[.slice a n cap] w (SomeB (FewTP xs) w) := by
  obtain ⟨rfl, hm1, hm2, _, hx⟩ := strs_open h
  clear h
  rw [maxLen_val] at hm2
  go_enter Try.func48, Try.ntmps48
  go_wp2
  go_loop [3] (fun i => ∃ k : Nat, k ≤ xs.length ∧ k ≤ 8 ∧ i = .int .i64 k ∧ ∀ j x, j < k → xs[j]? = some x → x.size ≤ 100) (fun i => xs.length - (intOf i).toNat)
  case atStart => exact ⟨0, by omega, by omega, rfl, none_before xs⟩
  case round =>
    obtain ⟨k, hk, hk8, rfl, hall⟩ := hrel
    have hall' := Lib.hid hall; clear hall
    by_cases hlt : k < xs.length ∧ k < 8
    · obtain ⟨h1, h2⟩ := hlt
      obtain ⟨b, off, rfl, hb, hc⟩ := hx (by omega)
      obtain ⟨s, hs⟩ := get_at h1
      obtain ⟨hsm, hcell⟩ := hc k s hs
      clear hc hx
      have hs' := Lib.hid hs; clear hs
      rw [maxLen_val] at hsm
      by_cases hsz : s.size ≤ 100
      · go_wp2
        go_round
        case rel => exact ⟨k + 1, by omega, by omega, by go_num, grow_all hall'.out hs'.out hsz⟩
        case measure => simp [intOf]; omega
      · go_wp2
        go_ret
        exact ⟨false, rfl, rfl, fun h => by cases h⟩
    · clear hx
      go_wp2
      all_goals
        go_ret
        exact ⟨_, rfl, rfl, fun h => by
          have h8 : (xs.length : Int) ≤ 8 := by simpa using h
          exact ⟨by omega, all_of hall'.out (by omega)⟩⟩
set_option maxHeartbeats 400000 in
theorem ref06_fewItems_any (a : Option Addr) (n cap : Nat) (xs : List ItemD) (w : World) (B : Nat) (h : RItems w B [.slice a n cap] xs) :
    Calls Try.prog 49 #[.slice a n cap] w (SomeB (FewIP xs) w) := by
  obtain ⟨rfl, hm1, hm2, _, hx⟩ := items_open h
  clear h
  rw [maxLen_val] at hm2
  go_enter Try.func49, Try.ntmps49
  go_wp2
  go_loop [3] (fun i => ∃ k : Nat, k ≤ xs.length ∧ k ≤ 8 ∧ i = .int .i64 k) (fun i => xs.length - (intOf i).toNat)
  case atStart => exact ⟨0, by omega, by omega, rfl⟩
  case round =>
    obtain ⟨k, hk, hk8, rfl⟩ := hrel
    by_cases hlt : k < xs.length ∧ k < 8
    · obtain ⟨h1, h2⟩ := hlt
      obtain ⟨b, off, rfl, hb, hc⟩ := hx (by omega)
      obtain ⟨s, hs⟩ := get_at h1
      obtain ⟨z1, _, z2, c1, _, c2⟩ := hc k s hs
      clear hc hx hs
      rw [maxLen_val] at z1 z2
      by_cases hs1 : s.key.size ≤ 100
      · by_cases hs2 : s.data.size ≤ 200
        · go_wp2
          go_round
          case rel => exact ⟨k + 1, by omega, by omega, by go_num⟩
          case measure => simp [intOf]; omega
        · go_wp2
          go_ret
          exact ⟨false, rfl, rfl, fun h => by cases h⟩
      · go_wp2
        go_ret
        exact ⟨false, rfl, rfl, fun h => by cases h⟩
    · clear hx
      go_wp2
      all_goals
        go_ret
        exact ⟨_, rfl, rfl, fun h => by
          have h8 : (xs.length : Int) ≤ 8 := by simpa using h
          omega⟩
end Go.Proofs.Ytlniiaopindjnaa
