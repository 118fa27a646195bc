/-
  Layer 4's document: Letter is the model's decoding; Valid, walked.
-/
import Derived.Test.YtlniiaopindjnaaDoorQuoL
import Derived.Lib.ValidAsc
namespace Go.Proofs.YtlniiaopindjnaaDoor
set_option linter.unusedVariables false
open Go.RowKit
open Go.Lib hiding intOf

namespace Qt
theorem decodeN_width (n b0 b1 b2 b3 : Nat) (hn : 1 ≤ n) : 1 ≤ (decodeN n b0 b1 b2 b3).2 ∧ (decodeN n b0 b1 b2 b3).2 ≤ n := by
  unfold decodeN
  (repeat' split) <;> simp <;> omega
theorem decodeN_letter (n b0 b1 b2 b3 : Nat) : (decodeN n b0 b1 b2 b3).1 ≤ 1114111 := by
  unfold decodeN
  (repeat' split) <;> simp <;> omega
theorem decodeL_at (s : ByteArray) : decodeL s.data.toList = decodeN s.size (s.get! 0).toNat (s.get! 1).toNat (s.get! 2).toNat (s.get! 3).toNat := by
  have h := decode_at s 0
  simpa [decodeL] using h
theorem dec_width (l : List UInt8) (hl : l ≠ []) : 1 ≤ (decodeL l).2 ∧ (decodeL l).2 ≤ l.length := by
  have h := decodeL_at ⟨l.toArray⟩
  have h1 := decodeN_width (ByteArray.size ⟨l.toArray⟩) (ByteArray.get! ⟨l.toArray⟩ 0).toNat (ByteArray.get! ⟨l.toArray⟩ 1).toNat (ByteArray.get! ⟨l.toArray⟩ 2).toNat (ByteArray.get! ⟨l.toArray⟩ 3).toNat (show 1 ≤ l.length from List.length_pos_iff.2 hl)
  rw [← h] at h1
  exact h1
theorem letterB_dec (s : ByteArray) (h : s.size ≠ 0) : letterB s = shut (decodeL s.data.toList) := by
  unfold letterB
  rw [if_neg h, decodeL_at]
  exact letterN_eq (by omega) (UInt8.toNat_lt _) (UInt8.toNat_lt _) (UInt8.toNat_lt _) (UInt8.toNat_lt _)
/-- No letter begins there. -/
def bad (l : List UInt8) : Bool := decide ((decodeL l).1 = 65533 ∧ (decodeL l).2 = 1)
theorem letterB_bad {s : ByteArray} (h : s.size ≠ 0) (hb : bad s.data.toList = true) : letterB s = (0, 0) := by
  rw [letterB_dec s h]; unfold shut; rw [if_pos (by simpa [bad] using hb)]
theorem letterB_good {s : ByteArray} (h : s.size ≠ 0) (hb : bad s.data.toList = false) : letterB s = decodeL s.data.toList := by
  rw [letterB_dec s h]; unfold shut; rw [if_neg (by simpa [bad] using hb)]
theorem valid_step {l : List UInt8} (h : l ≠ []) : validD l = if bad l = true then false else validD (l.drop (decodeL l).2) := by
  rw [validD_step l h]; simp [bad]
end Qt

set_option maxHeartbeats 2000000 in
set_option maxRecDepth 100000 in
theorem ref04_Valid_any (s : ByteArray) (w : World) (hs : s.size ≤ 1000000) : Calls Tryd.prog 13 #[.string s] w fun e w' => e = .returned (.bool (validD s.data.toList)) ∧ Below w.heap.size w w' := by
  obtain ⟨r, hr⟩ : ∃ r, validD s.data.toList = r := ⟨_, rfl⟩
  rw [hr]
  go_enter Tryd.func13, Tryd.ntmps13
  go_wp2_with fail
  go_loopw [3] (fun i wr => ∃ k : Nat, k ≤ s.size ∧ i = .int .i64 k ∧ Below w.heap.size w wr ∧ validD (s.data.toList.drop k) = r) (fun i _ => s.size - (intOf i).toNat)
  case atStart => exact ⟨0, Nat.zero_le _, rfl, Below.refl _ _, by simpa using hr⟩
  case round =>
    obtain ⟨k, hk, rfl, hbel, hv⟩ := hrel
    have HB := Lib.hid hbel
    by_cases hlt : k < s.size
    · obtain ⟨t, ht⟩ : ∃ t, s.extract k s.size = t := ⟨_, rfl⟩
      have htl : t.data.toList = s.data.toList.drop k := by rw [← ht]; exact ext_list s k
      have hts : t.size = s.size - k := by rw [← ht]; exact ext_size s k
      have hne : t.data.toList ≠ [] := fun h => by
        have : t.size = 0 := by rw [Lib.size_eq, h]; rfl
        omega
      have hwd := Qt.dec_width _ hne
      have hll : t.data.toList.length = t.size := (Lib.size_eq t).symm
      rw [← htl, Qt.valid_step hne] at hv
      have hL := fun W => ref04_Letter_any t W (by unfold maxLen; omega)
      have hz : t.size ≠ 0 := by omega
      have HTL := Lib.hid htl
      by_cases hb : Qt.bad t.data.toList = true
      · rw [if_pos hb] at hv
        subst hv
        simp only [Qt.letterB_bad hz hb] at hL
        have HL := Lib.hid hL
        clear hbel hwd hL hb htl hr
        go_wp2_with (go_at_call 35; refine (HL.out _).mono ?_; rintro e w2 ⟨rfl, hb2⟩; replace HB := Lib.hid (HB.out.trans (hb2.mono HB.out.size)); clear hb2)
        go_ret
        exact ⟨rfl, HB.out⟩
      · rw [if_neg hb] at hv
        rw [Bool.not_eq_true] at hb
        simp only [Qt.letterB_good hz hb] at hL
        obtain ⟨⟨n, d⟩, hd⟩ : ∃ d, decodeL t.data.toList = d := ⟨_, rfl⟩
        rw [hd] at hwd hv
        simp only [hd] at hL hwd hv
        have HL := Lib.hid hL
        have HV := Lib.hid hv
        have hd0 : ¬ ((d : Int) = 0) := by omega
        have hd1 : (1 : Int) ≤ d := by omega
        have hdk : k + d ≤ s.size := by omega
        clear hbel hL hb htl hr hd hv
        go_wp2_with (go_at_call 35; refine (HL.out _).mono ?_; rintro e w2 ⟨rfl, hb2⟩; replace HB := Lib.hid (HB.out.trans (hb2.mono HB.out.size)); clear hb2)
        go_roundw
        case rel => exact ⟨k + d, by omega, by go_num, HB.out, by rw [← HV.out, HTL.out, List.drop_drop]⟩
        case measure => simp [intOf]; omega
    · have he : k = s.size := by omega
      subst he
      rw [List.drop_of_length_le (by simp), validD_nil] at hv
      subst hv
      clear hbel hr
      go_wp2_with fail
      go_ret
      exact ⟨rfl, HB.out⟩
end Go.Proofs.YtlniiaopindjnaaDoor
