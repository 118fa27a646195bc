/-
  Text of lookup and of the reference; Few of the reference: walked.
-/
import Derived.Test.YtlniiaopindjnaaLookR
import Derived.Test.YtlniiaopindjnaaBuilder
import Derived.Test.YtlniiaopindjnaaTextP
namespace Go.Proofs.Ytlniiaopindjnaa
set_option linter.unusedVariables false
open Go.RowKit

set_option maxHeartbeats 400000 in
theorem ref17_FewTexts_any (a : Option Addr) (n cap : Nat) (xs : List ByteArray) (w : World) (B : Nat) (h : RStrs w B [.slice a n cap] xs) :
    Calls Try.prog 33 #[.slice a n cap] w (SomeB (FewTP xs) w) := by
  obtain ⟨rfl, hm1, hm2, _, hx⟩ := strs_open h
  clear h
  rw [maxLen_val] at hm2
  go_enter Try.func33, Try.ntmps33
  go_wp2
  go_loop [3] (fun i => ∃ k : Nat, k ≤ xs.length ∧ k ≤ 8 ∧ i = .int .i64 k ∧ ∀ j x, j < k → xs[j]? = some x → x.size ≤ 100) (fun i => xs.length - (intOf i).toNat)
  case atStart => exact ⟨0, by omega, by omega, rfl, none_before xs⟩
  case round =>
    obtain ⟨k, hk, hk8, rfl, hall⟩ := hrel
    have hall' := Lib.hid hall; clear hall
    by_cases hlt : k < xs.length ∧ k < 8
    · obtain ⟨h1, h2⟩ := hlt
      obtain ⟨b, off, rfl, hb, hc⟩ := hx (by omega)
      obtain ⟨s, hs⟩ := get_at h1
      obtain ⟨hsm, hcell⟩ := hc k s hs
      clear hc hx
      have hs' := Lib.hid hs; clear hs
      rw [maxLen_val] at hsm
      by_cases hsz : s.size ≤ 100
      · go_wp2
        go_round
        case rel => exact ⟨k + 1, by omega, by omega, by go_num, grow_all hall'.out hs'.out hsz⟩
        case measure => simp [intOf]; omega
      · go_wp2
        go_ret
        exact ⟨false, rfl, rfl, fun h => by cases h⟩
    · clear hx
      go_wp2
      all_goals
        go_ret
        exact ⟨_, rfl, rfl, fun h => by
          have h8 : (xs.length : Int) ≤ 8 := by simpa using h
          exact ⟨by omega, all_of hall'.out (by omega)⟩⟩

set_option maxHeartbeats 1000000 in
theorem ref17_Few_any (a : Option Addr) (n cap : Nat) (xs : List NamedD) (w : World) (B : Nat) (h : RNameds w B [.slice a n cap] xs) :
    Calls Try.prog 17 #[.slice a n cap] w (SomeB (fun b => b = true → FewN xs) w) := by
  obtain ⟨rfl, hm1, hm2, _, hx⟩ := nameds_open h
  clear h
  rw [maxLen_val] at hm2
  have HX := Lib.hid hx; clear hx
  go_enter Try.func17, Try.ntmps17
  go_wp2
  go_loop [3] (fun i => ∃ k : Nat, k ≤ xs.length ∧ k ≤ 40 ∧ i = .int .i64 k ∧ ∀ j x, j < k → xs[j]? = some x → x.id.size ≤ 100 ∧ x.names.length ≤ 8 ∧ ∀ y ∈ x.names, y.size ≤ 100) (fun i => xs.length - (intOf i).toNat)
  case atStart => exact ⟨0, by omega, by omega, rfl, none_before xs⟩
  case round =>
    obtain ⟨k, hk, hk8, rfl, hall⟩ := hrel
    have HA := Lib.hid hall; clear hall
    by_cases hlt : k < xs.length ∧ k < 40
    · obtain ⟨h1, h2⟩ := hlt
      obtain ⟨b, off, rfl, hb, hc⟩ := HX.out (by omega)
      obtain ⟨s, hs⟩ := get_at h1
      obtain ⟨hsm, hcell, na, nc, c1, hn⟩ := hc k s hs
      clear hc HX
      have HN := Lib.hid hn
      have hs' := Lib.hid hs; clear hs hn
      rw [maxLen_val] at hsm
      by_cases hsz : s.id.size ≤ 100
      · go_wp2_with (go_at_call 33; refine (ref17_FewTexts_any _ _ _ _ _ _ HN.out).mono ?_; rintro e w' ⟨c, rfl, rfl, hq⟩; have HQ := Lib.hid hq; clear hq; cases c)
        · go_ret
          exact ⟨false, rfl, rfl, fun h => by cases h⟩
        · go_round
          case rel => exact ⟨k + 1, by omega, by omega, by go_num, grow_all HA.out hs'.out ⟨hsz, HQ.out rfl⟩⟩
          case measure => simp [intOf]; omega
      · go_wp2_with fail
        go_ret
        exact ⟨false, rfl, rfl, fun h => by cases h⟩
    · clear HX
      go_wp2
      all_goals
        go_ret
        exact ⟨_, rfl, rfl, fun h => by
          have h8 : (xs.length : Int) ≤ 40 := by simpa using h
          exact ⟨by omega, all_of HA.out (by omega)⟩⟩

theorem ba_app (L : List UInt8) (y : ByteArray) : (⟨L.toArray⟩ : ByteArray) ++ y = ⟨(L ++ y.data.toList).toArray⟩ := by
  apply ByteArray.ext
  rw [ByteArray.data_append]
  apply Array.toList_inj.1
  simp

set_option maxHeartbeats 2000000 in
set_option maxRecDepth 100000 in
theorem ref18_Text_any (a : Option Addr) (n c : Nat) (xs : List NamedD) (w : World) (h : RNameds w w.heap.size [.slice a n c] xs) (hf : FewN xs) :
    Calls Try.prog 24 #[.slice a n c] w fun e w' => e = .returned (.string ⟨(Lk.lines xs).toArray⟩) ∧ w = w' := by
  obtain ⟨rfl, l1, l2, -, hx⟩ := nameds_open h
  have HX := Lib.hid hx
  have HF := Lib.hid hf
  have hx40 := hf.1
  rw [maxLen_val] at l2
  clear hx h hf
  go_enter Try.func24, Try.ntmps24
  go_wp2_with fail
  go_loop [3, 4, 5] (fun s i _ => ∃ k : Nat, k ≤ xs.length ∧ i = .int .i64 k ∧ s = .string ⟨(Lk.lines (xs.take k)).toArray⟩) (fun _ i _ => xs.length - (intOf i).toNat)
  case atStart => exact ⟨0, Nat.zero_le _, rfl, rfl⟩
  case round =>
    obtain ⟨k, hk, rfl, rfl⟩ := hrel
    by_cases hlt : k < xs.length
    · obtain ⟨b, off, rfl, hb, hc⟩ := HX.out (by omega)
      obtain ⟨x, hxk⟩ := get_at hlt
      obtain ⟨z, c0, na, nc, c1, hn⟩ := hc k x hxk
      obtain ⟨-, m1, m2, -, hm⟩ := strs_open hn
      obtain ⟨z1, z2, z3⟩ := HF.out.2 x (List.mem_of_getElem? hxk)
      have hll := Lk.lines_take HF.out k
      have hsn := Lk.lines_snoc hxk
      generalize Lk.lines (xs.take k) = L at hll hsn ⊢
      have HSN := Lib.hid hsn
      have HM := Lib.hid hm
      have Z3 := Lib.hid z3
      rw [maxLen_val] at m2
      have hil : x.id.data.toList.length = x.id.size := by simp
      clear hc hxk HX hsn hm hn z3
      go_wp2_with fail
      go_loop [3, 5] (fun s j => ∃ m : Nat, m ≤ x.names.length ∧ j = .int .i64 m ∧ s = .string ⟨(L ++ x.id.data.toList ++ Lk.tail (x.names.take m)).toArray⟩) (fun _ j => x.names.length - (intOf j).toNat)
      case atStart => exact ⟨0, Nat.zero_le _, rfl, by rw [ba_app]; simp [Lk.tail]⟩
      case round =>
        obtain ⟨m, hm, rfl, rfl⟩ := hrel
        have htl := Lk.tail_length Z3.out m z2
        by_cases hlm : m < x.names.length
        · obtain ⟨b2, off2, rfl, -, hc2⟩ := HM.out (by omega)
          obtain ⟨y, hy⟩ := get_at hlm
          obtain ⟨zy, cy⟩ := hc2 m y hy
          have y100 := Z3.out y (List.mem_of_getElem? hy)
          have hsn := Lk.tail_snoc hy
          have hpl : (L ++ x.id.data.toList ++ Lk.tail (x.names.take m)).length ≤ 40000 := by simp only [List.length_append]; omega
          generalize hP : L ++ x.id.data.toList ++ Lk.tail (x.names.take m) = P at hpl ⊢
          have HP := Lib.hid hP
          have HSN2 := Lib.hid hsn
          clear hc2 hy HM hsn hP zy
          go_wp2_with fail
          go_round
          case rel => exact ⟨m + 1, by omega, by go_num, by rw [HSN2.out, ba_app, ba_app, ← List.append_assoc, HP.out]; simp⟩
          case measure => simp [intOf]; omega
        · have he : m = x.names.length := by omega
          subst he
          have hpl : (L ++ x.id.data.toList ++ Lk.tail (x.names.take x.names.length)).length ≤ 40000 := by simp only [List.length_append]; omega
          have hln : L ++ x.id.data.toList ++ Lk.tail (x.names.take x.names.length) ++ [10] = L ++ Lk.line x := by
            rw [List.take_of_length_le (Nat.le_refl _)]
            simp [Lk.line, Lk.tail]
          generalize L ++ x.id.data.toList ++ Lk.tail (x.names.take x.names.length) = P at hpl hln ⊢
          have HLN := Lib.hid hln
          clear HM hln
          go_wp2_with fail
          go_round
          case rel => exact ⟨k + 1, by omega, by go_num, by rw [HSN.out, ba_app, ← HLN.out]⟩
          case measure => simp [intOf]; omega
    · have he : k = xs.length := by omega
      subst he
      rw [List.take_of_length_le (Nat.le_refl _)]
      clear HX
      go_wp2_with fail
      go_ret
      exact ⟨rfl, rfl⟩
end Go.Proofs.Ytlniiaopindjnaa
