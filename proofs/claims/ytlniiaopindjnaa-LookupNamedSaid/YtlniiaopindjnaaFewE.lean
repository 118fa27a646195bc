/-
  Few of records, in the reference: just what it answers.
-/
import Derived.Test.YtlniiaopindjnaaTextW
namespace Go.Proofs.Ytlniiaopindjnaa
set_option linter.unusedVariables false
open Go.RowKit

def fewTB (xs : List ByteArray) : Bool := decide (xs.length ≤ 8) && xs.all fun y => decide (y.size ≤ 100)
def fewNB (xs : List NamedD) : Bool := decide (xs.length ≤ 40) && xs.all fun x => decide (x.id.size ≤ 100) && fewTB x.names
theorem fewTB_bad {xs : List ByteArray} {k : Nat} {s : ByteArray} (hs : xs[k]? = some s) (hz : ¬ s.size ≤ 100) : fewTB xs = false := by
  unfold fewTB
  rw [Bool.and_eq_false_iff]
  right
  rw [List.all_eq_false]
  exact ⟨s, List.mem_of_getElem? hs, by simpa using hz⟩
theorem fewTB_all {xs : List ByteArray} (h : ∀ x ∈ xs, x.size ≤ 100) : fewTB xs = decide (xs.length ≤ 8) := by
  unfold fewTB
  have : (xs.all fun y => decide (y.size ≤ 100)) = true := by rw [List.all_eq_true]; intro x hx; simpa using h x hx
  rw [this, Bool.and_true]
theorem fewTB_long {xs : List ByteArray} (h : 8 < xs.length) : fewTB xs = false := by
  unfold fewTB; rw [decide_eq_false (by omega), Bool.false_and]
theorem fewNB_bad {xs : List NamedD} {k : Nat} {x : NamedD} (hs : xs[k]? = some x) (hz : (decide (x.id.size ≤ 100) && fewTB x.names) = false) : fewNB xs = false := by
  unfold fewNB
  rw [Bool.and_eq_false_iff]
  right
  rw [List.all_eq_false]
  exact ⟨x, List.mem_of_getElem? hs, by rw [hz]; decide⟩
theorem fewNB_all {xs : List NamedD} (h : ∀ x ∈ xs, (decide (x.id.size ≤ 100) && fewTB x.names) = true) : fewNB xs = decide (xs.length ≤ 40) := by
  unfold fewNB
  have : (xs.all fun x => decide (x.id.size ≤ 100) && fewTB x.names) = true := by rw [List.all_eq_true]; exact h
  rw [this, Bool.and_true]
theorem fewNB_long {xs : List NamedD} (h : 40 < xs.length) : fewNB xs = false := by
  unfold fewNB; rw [decide_eq_false (by omega), Bool.false_and]
theorem fewNB_few {xs : List NamedD} (h : fewNB xs = true) : FewN xs := by
  unfold fewNB fewTB at h
  simp only [Bool.and_eq_true, decide_eq_true_eq, List.all_eq_true] at h
  exact ⟨h.1, fun x hx => ⟨(h.2 x hx).1, (h.2 x hx).2.1, (h.2 x hx).2.2⟩⟩

set_option maxHeartbeats 400000 in
theorem ref17_FewTexts_eq (a : Option Addr) (n cap : Nat) (xs : List ByteArray) (w : World) (B : Nat) (h : RStrs w B [.slice a n cap] xs) :
    Calls Try.prog 33 #[.slice a n cap] w fun e w' => e = .returned (.bool (fewTB xs)) ∧ w = w' := by
  obtain ⟨rfl, hm1, hm2, _, hx⟩ := strs_open h
  clear h
  rw [maxLen_val] at hm2
  go_enter Try.func33, Try.ntmps33
  go_wp2
  go_loop [3] (fun i => ∃ k : Nat, k ≤ xs.length ∧ k ≤ 8 ∧ i = .int .i64 k ∧ ∀ j x, j < k → xs[j]? = some x → x.size ≤ 100) (fun i => xs.length - (intOf i).toNat)
  case atStart => exact ⟨0, by omega, by omega, rfl, none_before xs⟩
  case round =>
    obtain ⟨k, hk, hk8, rfl, hall⟩ := hrel
    have hall' := Lib.hid hall; clear hall
    by_cases hlt : k < xs.length ∧ k < 8
    · obtain ⟨h1, h2⟩ := hlt
      obtain ⟨b, off, rfl, hb, hc⟩ := hx (by omega)
      obtain ⟨s, hs⟩ := get_at h1
      obtain ⟨hsm, hcell⟩ := hc k s hs
      clear hc hx
      have hs' := Lib.hid hs; clear hs
      rw [maxLen_val] at hsm
      by_cases hsz : s.size ≤ 100
      · go_wp2
        go_round
        case rel => exact ⟨k + 1, by omega, by omega, by go_num, grow_all hall'.out hs'.out hsz⟩
        case measure => simp [intOf]; omega
      · have HF := Lib.hid (fewTB_bad hs'.out hsz)
        go_wp2
        go_ret
        exact ⟨by rw [HF.out]; rfl, rfl⟩
    · clear hx
      by_cases h8 : xs.length ≤ 8
      · have HF := Lib.hid (((fewTB_all (all_of hall'.out (by omega))).trans (decide_eq_true h8)).trans (decide_eq_true (show ((xs.length : Int) ≤ 8) by omega)).symm)
        go_wp2
        go_ret
        exact ⟨by rw [HF.out]; rfl, rfl⟩
      · have HF := Lib.hid ((fewTB_long (show 8 < xs.length by omega)).trans (decide_eq_false (show ¬ ((xs.length : Int) ≤ 8) by omega)).symm)
        go_wp2
        go_ret
        exact ⟨by rw [HF.out]; rfl, rfl⟩

set_option maxHeartbeats 1000000 in
theorem ref17_Few_eq (a : Option Addr) (n cap : Nat) (xs : List NamedD) (w : World) (B : Nat) (h : RNameds w B [.slice a n cap] xs) :
    Calls Try.prog 17 #[.slice a n cap] w fun e w' => e = .returned (.bool (fewNB xs)) ∧ w = w' := by
  obtain ⟨rfl, hm1, hm2, _, hx⟩ := nameds_open h
  clear h
  rw [maxLen_val] at hm2
  have HX := Lib.hid hx; clear hx
  go_enter Try.func17, Try.ntmps17
  go_wp2
  go_loop [3] (fun i => ∃ k : Nat, k ≤ xs.length ∧ k ≤ 40 ∧ i = .int .i64 k ∧ ∀ j x, j < k → xs[j]? = some x → (decide (x.id.size ≤ 100) && fewTB x.names) = true) (fun i => xs.length - (intOf i).toNat)
  case atStart => exact ⟨0, by omega, by omega, rfl, none_before xs⟩
  case round =>
    obtain ⟨k, hk, hk8, rfl, hall⟩ := hrel
    have HA := Lib.hid hall; clear hall
    by_cases hlt : k < xs.length ∧ k < 40
    · obtain ⟨h1, h2⟩ := hlt
      obtain ⟨b, off, rfl, hb, hc⟩ := HX.out (by omega)
      obtain ⟨s, hs⟩ := get_at h1
      obtain ⟨hsm, hcell, na, nc, c1, hn⟩ := hc k s hs
      clear hc HX
      have HN := Lib.hid hn
      have hs' := Lib.hid hs; clear hs hn
      rw [maxLen_val] at hsm
      have hcall := ref17_FewTexts_eq na _ nc s.names w _ HN.out
      obtain ⟨q, hq⟩ : ∃ q, q = fewTB s.names := ⟨_, rfl⟩
      rw [← hq] at hcall
      have HQ := Lib.hid hq
      clear hq
      by_cases hsz : s.id.size ≤ 100
      · cases q
        · have HF := Lib.hid (fewNB_bad hs'.out (by rw [← HQ.out, Bool.and_false]))
          go_wp2_with (go_at_call 33; refine hcall.mono ?_; rintro e w' ⟨rfl, rfl⟩)
          go_ret
          exact ⟨by rw [HF.out]; rfl, rfl⟩
        · go_wp2_with (go_at_call 33; refine hcall.mono ?_; rintro e w' ⟨rfl, rfl⟩)
          go_round
          case rel => exact ⟨k + 1, by omega, by omega, by go_num, grow_all (Q := fun x : NamedD => (decide (x.id.size ≤ 100) && fewTB x.names) = true) HA.out hs'.out (by rw [← HQ.out, decide_eq_true hsz]; rfl)⟩
          case measure => simp [intOf]; omega
      · have HF := Lib.hid (fewNB_bad hs'.out (by rw [decide_eq_false hsz, Bool.false_and]))
        go_wp2_with fail
        go_ret
        exact ⟨by rw [HF.out]; rfl, rfl⟩
    · clear HX
      by_cases h8 : xs.length ≤ 40
      · have HF := Lib.hid (((fewNB_all (all_of HA.out (by omega))).trans (decide_eq_true h8)).trans (decide_eq_true (show ((xs.length : Int) ≤ 40) by omega)).symm)
        go_wp2
        go_ret
        exact ⟨by rw [HF.out]; rfl, rfl⟩
      · have HF := Lib.hid ((fewNB_long (show 40 < xs.length by omega)).trans (decide_eq_false (show ¬ ((xs.length : Int) ≤ 40) by omega)).symm)
        go_wp2
        go_ret
        exact ⟨by rw [HF.out]; rfl, rfl⟩
end Go.Proofs.Ytlniiaopindjnaa
