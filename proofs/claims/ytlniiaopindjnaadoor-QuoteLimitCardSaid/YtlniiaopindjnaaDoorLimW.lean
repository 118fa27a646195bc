/-
  Layer 4: QuoteLimit, walked.
-/
import Derived.Test.YtlniiaopindjnaaDoorQuoA
import Derived.Test.YtlniiaopindjnaaDoorLimP
namespace Go.Proofs.YtlniiaopindjnaaDoor
set_option linter.unusedVariables false
open Go.RowKit
open Go.Lib hiding intOf

set_option maxHeartbeats 4000000 in
set_option maxRecDepth 100000 in
theorem quoteLimit_walk (more : Bool) (w : World) (hT : Lib.Utf8Tabs 0 1 w) : Calls Tryd.prog 6 #[.bool more] w fun e w' => e = .returned (.bool true) ∧ Below w.heap.size w w' := by
  have HT := Lib.hid hT
  have HB := Lib.hid (Below.refl w.heap.size w)
  clear hT
  go_enter Tryd.func6, Tryd.ntmps6
  go_wp2_with fail
  go_loop [3, 4] (fun v i => ∃ k : Nat, k ≤ 13 ∧ i = .int .i64 k ∧ v = .string ⟨(Qt.dbl k).toArray⟩) (fun _ i => 13 - (intOf i).toNat)
  case atStart => exact ⟨0, by omega, rfl, rfl⟩
  case round =>
    obtain ⟨k, hk, rfl, rfl⟩ := hrel
    by_cases hlt : k < 13
    · have hkl := Qt.dbl_length k
      have hp : 2 ^ k ≤ 4096 := Nat.pow_le_pow_right (n := 2) (by omega) (show k ≤ 12 by omega)
      have HD := Lib.hid (show Qt.dbl (k + 1) = Qt.dbl k ++ Qt.dbl k from rfl)
      have hsz : (⟨(Qt.dbl k).toArray⟩ : ByteArray).size ≤ 100000 := by
        rw [show (⟨(Qt.dbl k).toArray⟩ : ByteArray).size = (Qt.dbl k).length from rfl]; omega
      clear hkl hp
      go_wp2_with fail
      go_round
      case rel => exact ⟨k + 1, by omega, by go_num, by rw [HD.out]; exact congrArg Value.string (ByteArray.ext (by simp))⟩
      case measure => simp [intOf]; omega
    · have he : k = 13 := by omega
      subst he
      have hl := Qt.dbl_length 13
      have hpl := Qt.dbl_plain 13
      generalize Qt.dbl 13 = l at hl hpl ⊢
      have hl' : l.length = 65536 := by rw [hl]
      cases more with
      | true =>
        have hsz : (⟨l.toArray⟩ : ByteArray).size ≤ 100000 := by
          rw [show (⟨l.toArray⟩ : ByteArray).size = l.length from rfl]; omega
        have hl3 : l.length ≤ 100000 := by omega
        have hl4 : (l.length : Int) + 1 ≤ 9223372036854775807 := by omega
        have hl5 : l.length + 1 ≤ maxLen := by unfold maxLen; omega
        obtain ⟨q, hq⟩ : ∃ q : ByteArray, (⟨l.toArray⟩ : ByteArray) ++ ⟨#[120]⟩ = q := ⟨_, rfl⟩
        have hqe : q = ⟨(l ++ [120]).toArray⟩ := by rw [← hq]; exact ByteArray.ext (by simp)
        have hqd : Qt.quoteD q = (⟨#[]⟩, 5) := by
          rw [hqe, Qt.quote_plain (by intro b hb; rcases List.mem_append.1 hb with h | h; exact hpl b h; simp at h; subst h; decide), if_pos (by rw [List.length_append, hl']; simp)]
        have hqs : q.size ≤ 1000000 := by rw [Lib.size_eq, hqe]; simp [hl']
        have h1 := fun (W : World) (hW : Lib.Utf8Tabs 0 1 W) => quote_Quote_any q W hqs hW
        simp only [hqd] at h1
        subst hq
        have H1 := Lib.hid h1
        clear h1 hqd hqs hqe hl hl' hpl
        go_wp2_with (first
          | (go_at_call 10; refine (H1.out _ HT.out).mono ?_; rintro e w2 ⟨rfl, hb2⟩; replace HT := tabs_on HT hb2; replace HB := Lib.hid (HB.out.trans (hb2.mono HB.out.size)); clear hb2)
          | (go_at_call 9; refine (law04_awake_any _ HT.out).mono ?_; rintro e w6 ⟨rfl, hb6⟩; replace HB := Lib.hid (HB.out.trans (hb6.mono HB.out.size)); clear hb6))
        go_ret
        exact ⟨rfl, HB.out⟩
      | false =>
        obtain ⟨q, hq⟩ : ∃ q : ByteArray, (⟨l.toArray⟩ : ByteArray) = q := ⟨_, rfl⟩
        obtain ⟨r, hr⟩ : ∃ r : ByteArray, (⟨(34 :: l ++ [34]).toArray⟩ : ByteArray) = r := ⟨_, rfl⟩
        have hqd : Qt.quoteD q = (r, 0) := by
          rw [← hq, Qt.quote_plain hpl, if_neg (by omega), hr]
        have hqs : q.size ≤ 1000000 := by rw [Lib.size_eq, ← hq]; simp [hl']
        have hrs : r.size = 65538 := by rw [Lib.size_eq, ← hr]; simp [hl']
        have hrz : ((r.size : Int) == 65538) = true := by rw [beq_iff_eq, hrs]; rfl
        have h1 := fun (W : World) (hW : Lib.Utf8Tabs 0 1 W) => quote_Quote_any q W hqs hW
        simp only [hqd] at h1
        have H1 := Lib.hid h1
        rw [hq]
        clear h1 hqd hqs hrs hl hl' hpl hq hr
        go_wp2_with (first
          | (go_at_call 10; refine (H1.out _ HT.out).mono ?_; rintro e w2 ⟨rfl, hb2⟩; replace HT := tabs_on HT hb2; replace HB := Lib.hid (HB.out.trans (hb2.mono HB.out.size)); clear hb2)
          | (go_at_call 9; refine (law04_awake_any _ HT.out).mono ?_; rintro e w6 ⟨rfl, hb6⟩; replace HB := Lib.hid (HB.out.trans (hb6.mono HB.out.size)); clear hb6))
        go_ret
        exact ⟨rfl, HB.out⟩
end Go.Proofs.YtlniiaopindjnaaDoor
