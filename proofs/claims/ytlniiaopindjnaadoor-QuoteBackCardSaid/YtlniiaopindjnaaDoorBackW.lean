/-
  Layer 4: QuoteBack, walked.
-/
import Derived.Test.YtlniiaopindjnaaDoorQuoA
import Derived.Test.YtlniiaopindjnaaDoorBackP
namespace Go.Proofs.YtlniiaopindjnaaDoor
set_option linter.unusedVariables false
open Go.RowKit
open Go.Lib hiding intOf

set_option maxHeartbeats 4000000 in
set_option maxRecDepth 100000 in
theorem quoteBack_long1 (s behind : ByteArray) (w : World) (hT : Lib.Utf8Tabs 0 1 w) (h : 512 < s.size) : Calls Tryd.prog 5 #[.string s, .string behind] w fun e w' => e = .returned (.bool true) ∧ Below w.heap.size w w' := by
  have HT := Lib.hid hT
  have HB := Lib.hid (Below.refl w.heap.size w)
  have hz : (512 : Int) < (s.size : Int) := by omega
  clear h hT
  go_enter Tryd.func5, Tryd.ntmps5
  go_wp2_with (first
    | (go_at_call 9; refine (law04_awake_any _ HT.out).mono ?_; rintro e w6 ⟨rfl, hb6⟩; replace HB := Lib.hid (HB.out.trans (hb6.mono HB.out.size)); clear hb6))
  go_ret
  exact ⟨rfl, HB.out⟩

set_option maxHeartbeats 4000000 in
set_option maxRecDepth 100000 in
theorem quoteBack_long2 (s behind : ByteArray) (w : World) (hT : Lib.Utf8Tabs 0 1 w) (h : ¬ 512 < s.size) (h2 : 512 < behind.size) : Calls Tryd.prog 5 #[.string s, .string behind] w fun e w' => e = .returned (.bool true) ∧ Below w.heap.size w w' := by
  have HT := Lib.hid hT
  have HB := Lib.hid (Below.refl w.heap.size w)
  have hz : ¬ (512 : Int) < (s.size : Int) := by omega
  have hz2 : (512 : Int) < (behind.size : Int) := by omega
  clear h h2 hT
  go_enter Tryd.func5, Tryd.ntmps5
  go_wp2_with (first
    | (go_at_call 9; refine (law04_awake_any _ HT.out).mono ?_; rintro e w6 ⟨rfl, hb6⟩; replace HB := Lib.hid (HB.out.trans (hb6.mono HB.out.size)); clear hb6))
  go_ret
  exact ⟨rfl, HB.out⟩

set_option maxHeartbeats 4000000 in
set_option maxRecDepth 100000 in
theorem quoteBack_g0 (s behind : ByteArray) (w : World) (hT : Lib.Utf8Tabs 0 1 w) (h : ¬ 512 < s.size) (h2 : ¬ 512 < behind.size) (hv : Lib.validD s.data.toList = true) (hf : (Qt.unquoteD behind).2.2 = 0) : Calls Tryd.prog 5 #[.string s, .string behind] w fun e w' => e = .returned (.bool true) ∧ Below w.heap.size w w' := by
  have HT := Lib.hid hT
  have HB := Lib.hid (Below.refl w.heap.size w)
  have hz : ¬ (512 : Int) < (s.size : Int) := by omega
  have hz2 : ¬ (512 : Int) < (behind.size : Int) := by omega
  have hl : s.size ≤ 1000000 := by omega
  obtain ⟨b1, b2⟩ := Qt.back hv (by omega)
  replace b2 := b2 behind
  have hqz := Qt.quote_size (s := s) (by omega)
  have h3 := fun (W : World) (hW : Lib.Utf8Tabs 0 1 W) => quote_Quote_any s W hl hW
  have h4 := fun (W : World) (hW : Lib.Utf8Tabs 0 1 W) => quote_Unquote_any ((Qt.quoteD s).1 ++ behind) W (by rw [ByteArray.size_append]; omega) hW (fun _ hb => Utf8Tabs_below hW hb)
  simp only [b1] at h3
  simp only [b2] at h4
  generalize (Qt.quoteD s).1 = q at h3 h4 hqz
  have hqz1 : (q.size : Int) ≤ 400000 := by omega
  have HQ := Lib.hid h3
  have HU := Lib.hid h4
  clear h3 h4 b1 b2
  obtain ⟨c1, c2⟩ := Qt.unquote_told hf
  have h5 := fun (W : World) (hW : Lib.Utf8Tabs 0 1 W) => quote_Unquote_any behind W (by omega) hW (fun _ hb => Utf8Tabs_below hW hb)
  simp only [hf] at h5
  generalize (Qt.unquoteD behind).1 = t at h5 c1 c2
  generalize (Qt.unquoteD behind).2.1 = n at h5
  obtain ⟨d1, d2⟩ := Qt.back c1 (by omega)
  replace d2 := d2 ⟨#[]⟩
  rw [show (Qt.quoteD t).1 ++ (⟨#[]⟩ : ByteArray) = (Qt.quoteD t).1 from ByteArray.append_empty] at d2
  have hqt := Qt.quote_size (s := t) (by omega)
  have h6 := fun (W : World) (hW : Lib.Utf8Tabs 0 1 W) => quote_Quote_any t W (by omega) hW
  have h7 := fun (W : World) (hW : Lib.Utf8Tabs 0 1 W) => quote_Unquote_any (Qt.quoteD t).1 W (by omega) hW (fun _ hb => Utf8Tabs_below hW hb)
  have h8 := fun (W : World) (hW : Lib.Utf8Tabs 0 1 W) => quote_Valid_any t W (by omega) hW
  simp only [d1] at h6
  simp only [d2] at h7
  simp only [c1] at h8
  generalize (Qt.quoteD t).1 = r at h6 h7 hqt
  have HT1 := Lib.hid h5
  have HT2 := Lib.hid h6
  have HT3 := Lib.hid h7
  have HT4 := Lib.hid h8
  clear h5 h6 h7 h8 d1 d2 c1 c2 hf hT hv hl h h2
  go_enter Tryd.func5, Tryd.ntmps5
  go_wp2_with (first
    | (go_at_call 10; (with_reducible refine (HQ.out _ HT.out).mono ?_); rintro e w2 ⟨rfl, hb2⟩; replace HT := tabs_on HT hb2; replace HB := Lib.hid (HB.out.trans (hb2.mono HB.out.size)); clear hb2)
    | (go_at_call 14; (with_reducible refine (HU.out _ HT.out).mono ?_); rintro e w3 ⟨rfl, hb3⟩; replace HT := tabs_on HT hb3; replace HB := Lib.hid (HB.out.trans (hb3.mono HB.out.size)); clear hb3)
    | (go_at_call 14; (with_reducible refine (HT1.out _ HT.out).mono ?_); rintro e w7 ⟨rfl, hb7⟩; replace HT := tabs_on HT hb7; replace HB := Lib.hid (HB.out.trans (hb7.mono HB.out.size)); clear hb7)
    | (go_at_call 10; (with_reducible refine (HT2.out _ HT.out).mono ?_); rintro e w8 ⟨rfl, hb8⟩; replace HT := tabs_on HT hb8; replace HB := Lib.hid (HB.out.trans (hb8.mono HB.out.size)); clear hb8)
    | (go_at_call 14; (with_reducible refine (HT3.out _ HT.out).mono ?_); rintro e w9 ⟨rfl, hb9⟩; replace HT := tabs_on HT hb9; replace HB := Lib.hid (HB.out.trans (hb9.mono HB.out.size)); clear hb9)
    | (go_at_call 12; (with_reducible refine (HT4.out _ HT.out).mono ?_); rintro e w5 ⟨rfl, hb5⟩; replace HT := tabs_on HT hb5; replace HB := Lib.hid (HB.out.trans (hb5.mono HB.out.size)); clear hb5)
    | (go_at_call 9; refine (law04_awake_any _ HT.out).mono ?_; rintro e w6 ⟨rfl, hb6⟩; replace HB := Lib.hid (HB.out.trans (hb6.mono HB.out.size)); clear hb6))
  go_ret
  exact ⟨rfl, HB.out⟩

set_option maxHeartbeats 4000000 in
set_option maxRecDepth 100000 in
theorem quoteBack_g1 (s behind : ByteArray) (w : World) (hT : Lib.Utf8Tabs 0 1 w) (h : ¬ 512 < s.size) (h2 : ¬ 512 < behind.size) (hv : Lib.validD s.data.toList = true) (hf : (Qt.unquoteD behind).2.2 ≠ 0) : Calls Tryd.prog 5 #[.string s, .string behind] w fun e w' => e = .returned (.bool true) ∧ Below w.heap.size w w' := by
  have HT := Lib.hid hT
  have HB := Lib.hid (Below.refl w.heap.size w)
  have hz : ¬ (512 : Int) < (s.size : Int) := by omega
  have hz2 : ¬ (512 : Int) < (behind.size : Int) := by omega
  have hl : s.size ≤ 1000000 := by omega
  obtain ⟨b1, b2⟩ := Qt.back hv (by omega)
  replace b2 := b2 behind
  have hqz := Qt.quote_size (s := s) (by omega)
  have h3 := fun (W : World) (hW : Lib.Utf8Tabs 0 1 W) => quote_Quote_any s W hl hW
  have h4 := fun (W : World) (hW : Lib.Utf8Tabs 0 1 W) => quote_Unquote_any ((Qt.quoteD s).1 ++ behind) W (by rw [ByteArray.size_append]; omega) hW (fun _ hb => Utf8Tabs_below hW hb)
  simp only [b1] at h3
  simp only [b2] at h4
  generalize (Qt.quoteD s).1 = q at h3 h4 hqz
  have hqz1 : (q.size : Int) ≤ 400000 := by omega
  have HQ := Lib.hid h3
  have HU := Lib.hid h4
  clear h3 h4 b1 b2
  have c1 := Qt.unquote_none hf
  have h5 := fun (W : World) (hW : Lib.Utf8Tabs 0 1 W) => quote_Unquote_any behind W (by omega) hW (fun _ hb => Utf8Tabs_below hW hb)
  simp only [c1] at h5
  generalize (Qt.unquoteD behind).2.1 = n at h5
  generalize (Qt.unquoteD behind).2.2 = f at h5 hf
  have hfz : ((f : Int) != 0) = true := by simp; omega
  have HT1 := Lib.hid h5
  clear h5 c1 hf hT hv hl h h2
  go_enter Tryd.func5, Tryd.ntmps5
  go_wp2_with (first
    | (go_at_call 10; (with_reducible refine (HQ.out _ HT.out).mono ?_); rintro e w2 ⟨rfl, hb2⟩; replace HT := tabs_on HT hb2; replace HB := Lib.hid (HB.out.trans (hb2.mono HB.out.size)); clear hb2)
    | (go_at_call 14; (with_reducible refine (HU.out _ HT.out).mono ?_); rintro e w3 ⟨rfl, hb3⟩; replace HT := tabs_on HT hb3; replace HB := Lib.hid (HB.out.trans (hb3.mono HB.out.size)); clear hb3)
    | (go_at_call 14; (with_reducible refine (HT1.out _ HT.out).mono ?_); rintro e w7 ⟨rfl, hb7⟩; replace HT := tabs_on HT hb7; replace HB := Lib.hid (HB.out.trans (hb7.mono HB.out.size)); clear hb7)
    | (go_at_call 9; refine (law04_awake_any _ HT.out).mono ?_; rintro e w6 ⟨rfl, hb6⟩; replace HB := Lib.hid (HB.out.trans (hb6.mono HB.out.size)); clear hb6))
  go_ret
  exact ⟨rfl, HB.out⟩

set_option maxHeartbeats 4000000 in
set_option maxRecDepth 100000 in
theorem quoteBack_b0 (s behind : ByteArray) (w : World) (hT : Lib.Utf8Tabs 0 1 w) (h : ¬ 512 < s.size) (h2 : ¬ 512 < behind.size) (hv : Lib.validD s.data.toList = false) (hf : (Qt.unquoteD behind).2.2 = 0) : Calls Tryd.prog 5 #[.string s, .string behind] w fun e w' => e = .returned (.bool true) ∧ Below w.heap.size w w' := by
  have HT := Lib.hid hT
  have HB := Lib.hid (Below.refl w.heap.size w)
  have hz : ¬ (512 : Int) < (s.size : Int) := by omega
  have hz2 : ¬ (512 : Int) < (behind.size : Int) := by omega
  have hl : s.size ≤ 1000000 := by omega
  have b1 := Qt.quote_bad hv
  have h3 := fun (W : World) (hW : Lib.Utf8Tabs 0 1 W) => quote_Quote_any s W hl hW
  have h4 := fun (W : World) (hW : Lib.Utf8Tabs 0 1 W) => quote_Valid_any s W hl hW
  simp only [b1] at h3
  simp only [hv] at h4
  have HQ := Lib.hid h3
  have HV := Lib.hid h4
  clear h3 h4 b1
  obtain ⟨c1, c2⟩ := Qt.unquote_told hf
  have h5 := fun (W : World) (hW : Lib.Utf8Tabs 0 1 W) => quote_Unquote_any behind W (by omega) hW (fun _ hb => Utf8Tabs_below hW hb)
  simp only [hf] at h5
  generalize (Qt.unquoteD behind).1 = t at h5 c1 c2
  generalize (Qt.unquoteD behind).2.1 = n at h5
  obtain ⟨d1, d2⟩ := Qt.back c1 (by omega)
  replace d2 := d2 ⟨#[]⟩
  rw [show (Qt.quoteD t).1 ++ (⟨#[]⟩ : ByteArray) = (Qt.quoteD t).1 from ByteArray.append_empty] at d2
  have hqt := Qt.quote_size (s := t) (by omega)
  have h6 := fun (W : World) (hW : Lib.Utf8Tabs 0 1 W) => quote_Quote_any t W (by omega) hW
  have h7 := fun (W : World) (hW : Lib.Utf8Tabs 0 1 W) => quote_Unquote_any (Qt.quoteD t).1 W (by omega) hW (fun _ hb => Utf8Tabs_below hW hb)
  have h8 := fun (W : World) (hW : Lib.Utf8Tabs 0 1 W) => quote_Valid_any t W (by omega) hW
  simp only [d1] at h6
  simp only [d2] at h7
  simp only [c1] at h8
  generalize (Qt.quoteD t).1 = r at h6 h7 hqt
  have HT1 := Lib.hid h5
  have HT2 := Lib.hid h6
  have HT3 := Lib.hid h7
  have HT4 := Lib.hid h8
  clear h5 h6 h7 h8 d1 d2 c1 c2 hf hT hv hl h h2
  go_enter Tryd.func5, Tryd.ntmps5
  go_wp2_with (first
    | (go_at_call 10; (with_reducible refine (HQ.out _ HT.out).mono ?_); rintro e w2 ⟨rfl, hb2⟩; replace HT := tabs_on HT hb2; replace HB := Lib.hid (HB.out.trans (hb2.mono HB.out.size)); clear hb2)
    | (go_at_call 12; (with_reducible refine (HV.out _ HT.out).mono ?_); rintro e w4 ⟨rfl, hb4⟩; replace HT := tabs_on HT hb4; replace HB := Lib.hid (HB.out.trans (hb4.mono HB.out.size)); clear hb4)
    | (go_at_call 14; (with_reducible refine (HT1.out _ HT.out).mono ?_); rintro e w7 ⟨rfl, hb7⟩; replace HT := tabs_on HT hb7; replace HB := Lib.hid (HB.out.trans (hb7.mono HB.out.size)); clear hb7)
    | (go_at_call 10; (with_reducible refine (HT2.out _ HT.out).mono ?_); rintro e w8 ⟨rfl, hb8⟩; replace HT := tabs_on HT hb8; replace HB := Lib.hid (HB.out.trans (hb8.mono HB.out.size)); clear hb8)
    | (go_at_call 14; (with_reducible refine (HT3.out _ HT.out).mono ?_); rintro e w9 ⟨rfl, hb9⟩; replace HT := tabs_on HT hb9; replace HB := Lib.hid (HB.out.trans (hb9.mono HB.out.size)); clear hb9)
    | (go_at_call 12; (with_reducible refine (HT4.out _ HT.out).mono ?_); rintro e w5 ⟨rfl, hb5⟩; replace HT := tabs_on HT hb5; replace HB := Lib.hid (HB.out.trans (hb5.mono HB.out.size)); clear hb5)
    | (go_at_call 9; refine (law04_awake_any _ HT.out).mono ?_; rintro e w6 ⟨rfl, hb6⟩; replace HB := Lib.hid (HB.out.trans (hb6.mono HB.out.size)); clear hb6))
  go_ret
  exact ⟨rfl, HB.out⟩

set_option maxHeartbeats 4000000 in
set_option maxRecDepth 100000 in
theorem quoteBack_b1 (s behind : ByteArray) (w : World) (hT : Lib.Utf8Tabs 0 1 w) (h : ¬ 512 < s.size) (h2 : ¬ 512 < behind.size) (hv : Lib.validD s.data.toList = false) (hf : (Qt.unquoteD behind).2.2 ≠ 0) : Calls Tryd.prog 5 #[.string s, .string behind] w fun e w' => e = .returned (.bool true) ∧ Below w.heap.size w w' := by
  have HT := Lib.hid hT
  have HB := Lib.hid (Below.refl w.heap.size w)
  have hz : ¬ (512 : Int) < (s.size : Int) := by omega
  have hz2 : ¬ (512 : Int) < (behind.size : Int) := by omega
  have hl : s.size ≤ 1000000 := by omega
  have b1 := Qt.quote_bad hv
  have h3 := fun (W : World) (hW : Lib.Utf8Tabs 0 1 W) => quote_Quote_any s W hl hW
  have h4 := fun (W : World) (hW : Lib.Utf8Tabs 0 1 W) => quote_Valid_any s W hl hW
  simp only [b1] at h3
  simp only [hv] at h4
  have HQ := Lib.hid h3
  have HV := Lib.hid h4
  clear h3 h4 b1
  have c1 := Qt.unquote_none hf
  have h5 := fun (W : World) (hW : Lib.Utf8Tabs 0 1 W) => quote_Unquote_any behind W (by omega) hW (fun _ hb => Utf8Tabs_below hW hb)
  simp only [c1] at h5
  generalize (Qt.unquoteD behind).2.1 = n at h5
  generalize (Qt.unquoteD behind).2.2 = f at h5 hf
  have hfz : ((f : Int) != 0) = true := by simp; omega
  have HT1 := Lib.hid h5
  clear h5 c1 hf hT hv hl h h2
  go_enter Tryd.func5, Tryd.ntmps5
  go_wp2_with (first
    | (go_at_call 10; (with_reducible refine (HQ.out _ HT.out).mono ?_); rintro e w2 ⟨rfl, hb2⟩; replace HT := tabs_on HT hb2; replace HB := Lib.hid (HB.out.trans (hb2.mono HB.out.size)); clear hb2)
    | (go_at_call 12; (with_reducible refine (HV.out _ HT.out).mono ?_); rintro e w4 ⟨rfl, hb4⟩; replace HT := tabs_on HT hb4; replace HB := Lib.hid (HB.out.trans (hb4.mono HB.out.size)); clear hb4)
    | (go_at_call 14; (with_reducible refine (HT1.out _ HT.out).mono ?_); rintro e w7 ⟨rfl, hb7⟩; replace HT := tabs_on HT hb7; replace HB := Lib.hid (HB.out.trans (hb7.mono HB.out.size)); clear hb7)
    | (go_at_call 9; refine (law04_awake_any _ HT.out).mono ?_; rintro e w6 ⟨rfl, hb6⟩; replace HB := Lib.hid (HB.out.trans (hb6.mono HB.out.size)); clear hb6))
  go_ret
  exact ⟨rfl, HB.out⟩

theorem quoteBack_walk (s behind : ByteArray) (w : World) (hT : Lib.Utf8Tabs 0 1 w) : Calls Tryd.prog 5 #[.string s, .string behind] w fun e w' => e = .returned (.bool true) ∧ Below w.heap.size w w' := by
  by_cases h : 512 < s.size
  · exact quoteBack_long1 s behind w hT h
  · by_cases h2 : 512 < behind.size
    · exact quoteBack_long2 s behind w hT h h2
    · by_cases hf : (Qt.unquoteD behind).2.2 = 0
      · cases hv : Lib.validD s.data.toList with
        | true => exact quoteBack_g0 s behind w hT h h2 hv hf
        | false => exact quoteBack_b0 s behind w hT h h2 hv hf
      · cases hv : Lib.validD s.data.toList with
        | true => exact quoteBack_g1 s behind w hT h h2 hv hf
        | false => exact quoteBack_b1 s behind w hT h h2 hv hf
end Go.Proofs.YtlniiaopindjnaaDoor
