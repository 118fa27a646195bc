/-
  Layer 4: the program's next, walked.
-/
import Derived.Test.YtlniiaopindjnaaDoorUnqE
namespace Go.Proofs.YtlniiaopindjnaaDoor
set_option linter.unusedVariables false
open Go.RowKit
open Go.Lib hiding intOf
namespace Qt
/-- A letter that begins with another byte than a quote is no quote. -/
theorem not_quote {s : ByteArray} (h0 : s.size ≠ 0) (hb : bad s.data.toList = false) (hc : s.get! 0 ≠ 34) : (letterB s).1 ≠ 34 := by
  have hg := good_bytes h0 hb
  rw [letterB_good h0 hb]
  intro h
  have h1 := hg.1
  rw [h] at h1
  have hw := dec_width s.data.toList (fun hn => h0 (by rw [Lib.size_eq, hn]; rfl))
  have h2 : (s.data.toList.take (decodeL s.data.toList).2)[0]? = some 34 := by rw [h1]; rfl
  rw [List.getElem?_take_of_lt (by omega)] at h2
  apply hc
  obtain ⟨⟨l⟩⟩ := s
  simp at h2
  simp [ByteArray.get!, h2]
end Qt
set_option maxHeartbeats 4000000 in
set_option maxRecDepth 100000 in
theorem quote_next_any (s : ByteArray) (w : World) (hs : s.size ≤ 1000000) (h1 : 1 ≤ s.size) (h34 : s.get! 0 ≠ 34) (hT : Lib.Utf8Tabs 0 1 w) : Calls Tryd.prog 39 #[.string s] w fun e w' => e = .returned (.tuple #[.int .i32 (Qt.oneB s).1, .int .i64 (Qt.oneB s).2]) ∧ Below w.heap.size w w' := by
  have l0 : 0 < s.size := by omega
  obtain ⟨c0, hc0⟩ : ∃ c0, s.get! 0 = c0 := ⟨_, rfl⟩
  have hs0 : s[0]'l0 = c0 := by rw [← hc0]; exact (Utf8W.get!_of_lt s 0 (by omega)).symm
  by_cases h92 : c0 = 92
  · subst h92
    have HE := Lib.hid (quote_escape_any s w hs h1 hc0)
    clear h34 hT
    go_enter Tryd.func39, Tryd.ntmps39
    go_wp2_with (go_at_call 59; refine HE.out.mono ?_; rintro e w2 ⟨rfl, hb2⟩; have HB := Lib.hid hb2; clear hb2)
    go_ret2
    exact ⟨rfl, HB.out⟩
  · have hq : ((c0.toNat : Int) == 92) = false := u8_beq_false 92 (by decide) h92
    have HO := Lib.hid (show Qt.oneB s = if (Qt.letterB s).2 = 0 ∨ (Qt.letterB s).1 < 32 ∨ (Qt.letterB s).1 = 34 then (0, 0) else Qt.letterB s by unfold Qt.oneB; rw [if_pos (by rw [hc0]; exact h92)])
    have hD := Go.Proofs.Tryd.utf8_DecodeRuneInString s w hT
    have hdg : Lib.decodeGo s = decodeL s.data.toList := by unfold Lib.decodeGo; rw [if_neg (by omega), Qt.decode_from, List.drop_zero]
    rw [hdg] at hD
    have hne : s.data.toList ≠ [] := fun hn => by
      have : s.size = 0 := by rw [Lib.size_eq, hn]; rfl
      omega
    have hwd := Qt.dec_width _ hne
    have hnq := fun hb => Qt.not_quote (s := s) (by omega) hb h34
    have hLb := fun hb => Qt.letterB_bad (s := s) (by omega) hb
    have hLg := fun hb => Qt.letterB_good (s := s) (by omega) hb
    cases hb : Qt.bad s.data.toList with
    | true =>
      have hd : decodeL s.data.toList = (65533, 1) := by
        simp [Qt.bad] at hb
        exact Prod.ext hb.1 hb.2
      rw [hd] at hD
      have HD := Lib.hid hD
      have HL := Lib.hid (show Qt.oneB s = (0, 0) by rw [HO.out, hLb hb, if_pos (.inl rfl)])
      clear hD hLb hLg hnq hwd hne hdg hb hd h92 h34 hc0
      go_enter Tryd.func39, Tryd.ntmps39
      go_wp2_with (go_at_call 60; refine HD.out.mono ?_; rintro e w2 ⟨rfl, hb2⟩; have HB := Lib.hid hb2; clear hb2)
      go_ret2
      exact ⟨by rw [HL.out]; rfl, HB.out⟩
    | false =>
      have hq34 := hnq hb
      rw [hLg hb] at hq34 HO
      obtain ⟨⟨n, k⟩, hd⟩ : ∃ d, decodeL s.data.toList = d := ⟨_, rfl⟩
      have hbb : ¬ (n = 65533 ∧ k = 1) := by
        intro h
        have : Qt.bad s.data.toList = true := by simp [Qt.bad, hd, h]
        rw [hb] at this
        cases this
      simp only [hd] at hD hwd hq34 HO
      have HD := Lib.hid hD
      by_cases hn : n < 32
      · have hnz : (n : Int) < 32 := by omega
        have HL := Lib.hid (show Qt.oneB s = (0, 0) by rw [HO.out, if_pos (.inr (.inl hn))])
        clear hD hLb hLg hnq hwd hne hdg hb hd h92 h34 hc0 hbb hq34 hn
        go_enter Tryd.func39, Tryd.ntmps39
        go_wp2_with (go_at_call 60; refine HD.out.mono ?_; rintro e w2 ⟨rfl, hb2⟩; have HB := Lib.hid hb2; clear hb2)
        go_ret2
        exact ⟨by rw [HL.out]; rfl, HB.out⟩
      · have hnz : ¬ (n : Int) < 32 := by omega
        have HL := Lib.hid (show Qt.oneB s = (n, k) by rw [HO.out, if_neg (by omega)])
        by_cases hr : n = 65533
        · have hrz : ((n : Int) == 65533) = true := by rw [beq_iff_eq]; omega
          have hkz : ¬ (k : Int) < 2 := by omega
          clear hD hLb hLg hnq hwd hne hdg hb hd h92 h34 hc0 hbb hq34 hn hr
          go_enter Tryd.func39, Tryd.ntmps39
          go_wp2_with (go_at_call 60; refine HD.out.mono ?_; rintro e w2 ⟨rfl, hb2⟩; have HB := Lib.hid hb2; clear hb2)
          go_ret2
          exact ⟨by rw [HL.out]; rfl, HB.out⟩
        · have hrz : ((n : Int) == 65533) = false := by rw [beq_eq_false_iff_ne]; omega
          clear hD hLb hLg hnq hwd hne hdg hb hd h92 h34 hc0 hbb hq34 hn hr
          go_enter Tryd.func39, Tryd.ntmps39
          go_wp2_with (go_at_call 60; refine HD.out.mono ?_; rintro e w2 ⟨rfl, hb2⟩; have HB := Lib.hid hb2; clear hb2)
          go_ret2
          exact ⟨by rw [HL.out]; rfl, HB.out⟩
end Go.Proofs.YtlniiaopindjnaaDoor
