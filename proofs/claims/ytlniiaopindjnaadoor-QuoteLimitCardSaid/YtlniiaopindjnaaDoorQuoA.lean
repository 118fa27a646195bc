/-
  The statements' walks of layer 4: awake, QuoteIs, QuoteReads.
-/
import Derived.Test.YtlniiaopindjnaaDoorUnqX
namespace Go.Proofs.YtlniiaopindjnaaDoor
set_option linter.unusedVariables false
open Go.RowKit
open Go.Lib hiding intOf
namespace Qt
set_option maxRecDepth 100000
theorem aw1 : Qt.quoteD ⟨#[97, 10, 34, 1]⟩ = (⟨#[34, 97, 92, 110, 92, 34, 92, 117, 48, 48, 48, 49, 34]⟩, 0) := by decide +kernel
theorem aw2 : Qt.unquoteD ⟨#[34, 92, 117, 48, 48, 101, 57, 92, 117, 100, 56, 51, 100, 92, 117, 100, 101, 48, 48, 34, 120]⟩ = (⟨#[195, 169, 240, 159, 152, 128]⟩, 20, 0) := by decide +kernel
theorem aw3 : Qt.unquoteD ⟨#[34, 92, 117, 100, 56, 51, 100, 34]⟩ = (⟨#[]⟩, 0, 2) := by decide +kernel
theorem aw4 : Lib.validD (⟨#[195, 169, 240, 159, 152, 128]⟩ : ByteArray).data.toList = true := by decide +kernel
theorem aw5 : Lib.validD ((⟨#[195, 169, 240, 159, 152, 128]⟩ : ByteArray).extract 1 6).data.toList = false := by decide +kernel
end Qt
theorem tabs_on {w w' : World} (h : Hid (Lib.Utf8Tabs 0 1 w)) (hb : Below w.heap.size w w') : Hid (Lib.Utf8Tabs 0 1 w') := Lib.hid (Utf8Tabs_below h.out hb)

set_option maxHeartbeats 4000000 in
set_option maxRecDepth 100000 in
theorem law04_awake_any (w : World) (hT : Lib.Utf8Tabs 0 1 w) : Calls Tryd.prog 9 #[] w fun e w' => e = .returned (.bool true) ∧ Below w.heap.size w w' := by
  have HT := Lib.hid hT
  have HB := Lib.hid (Below.refl w.heap.size w)
  have hq := fun (W : World) (hW : Lib.Utf8Tabs 0 1 W) => quote_Quote_any ⟨#[97, 10, 34, 1]⟩ W (by decide) hW
  have hu := fun (W : World) (hW : Lib.Utf8Tabs 0 1 W) => quote_Unquote_any ⟨#[34, 92, 117, 48, 48, 101, 57, 92, 117, 100, 56, 51, 100, 92, 117, 100, 101, 48, 48, 34, 120]⟩ W (by decide) hW (fun _ hb => Utf8Tabs_below hW hb)
  have hv := fun (W : World) (hW : Lib.Utf8Tabs 0 1 W) => quote_Unquote_any ⟨#[34, 92, 117, 100, 56, 51, 100, 34]⟩ W (by decide) hW (fun _ hb => Utf8Tabs_below hW hb)
  have hx := fun (W : World) (hW : Lib.Utf8Tabs 0 1 W) => (Qt.aw4 ▸ quote_Valid_any ⟨#[195, 169, 240, 159, 152, 128]⟩ W (by decide) hW : Calls Tryd.prog 12 #[.string ⟨#[195, 169, 240, 159, 152, 128]⟩] W fun e w' => e = .returned (.bool true) ∧ Below W.heap.size W w')
  have hy := fun (W : World) (hW : Lib.Utf8Tabs 0 1 W) => quote_Valid_any ((⟨#[195, 169, 240, 159, 152, 128]⟩ : ByteArray).extract 1 6) W (by decide) hW
  simp only [Qt.aw1] at hq
  simp only [Qt.aw2] at hu
  simp only [Qt.aw3] at hv
  simp only [Qt.aw5] at hy
  have HQ := Lib.hid hq
  have HU := Lib.hid hu
  have HV := Lib.hid hv
  have HX := Lib.hid hx
  have HY := Lib.hid hy
  clear hq hu hv hx hy hT
  go_enter Tryd.func9, Tryd.ntmps9
  go_wp2_with (first
    | (go_at_call 10; refine (HQ.out _ HT.out).mono ?_; rintro e w2 ⟨rfl, hb2⟩; replace HT := tabs_on HT hb2; replace HB := Lib.hid (HB.out.trans (hb2.mono HB.out.size)); clear hb2)
    | (go_at_call 14; (with_reducible refine (HU.out _ HT.out).mono ?_); rintro e w3 ⟨rfl, hb3⟩; replace HT := tabs_on HT hb3; replace HB := Lib.hid (HB.out.trans (hb3.mono HB.out.size)); clear hb3)
    | (go_at_call 14; (with_reducible refine (HV.out _ HT.out).mono ?_); rintro e w4 ⟨rfl, hb4⟩; replace HT := tabs_on HT hb4; replace HB := Lib.hid (HB.out.trans (hb4.mono HB.out.size)); clear hb4)
    | (go_at_call 12; (with_reducible refine (HX.out _ HT.out).mono ?_); rintro e w5 ⟨rfl, hb5⟩; replace HT := tabs_on HT hb5; replace HB := Lib.hid (HB.out.trans (hb5.mono HB.out.size)); clear hb5)
    | (go_at_call 12; (with_reducible refine (HY.out _ HT.out).mono ?_); rintro e w6 ⟨rfl, hb6⟩; replace HT := tabs_on HT hb6; replace HB := Lib.hid (HB.out.trans (hb6.mono HB.out.size)); clear hb6))
  go_ret
  exact ⟨rfl, HB.out⟩

set_option maxHeartbeats 4000000 in
set_option maxRecDepth 100000 in
theorem quoteIs_walk (s : ByteArray) (w : World) (hT : Lib.Utf8Tabs 0 1 w) : Calls Tryd.prog 3 #[.string s] w fun e w' => e = .returned (.bool true) ∧ Below w.heap.size w w' := by
  have HT := Lib.hid hT
  have HB := Lib.hid (Below.refl w.heap.size w)
  by_cases hs : 512 < s.size
  · have hz : (512 : Int) < (s.size : Int) := by omega
    clear hs hT
    go_enter Tryd.func3, Tryd.ntmps3
    go_wp2_with (go_at_call 9; refine (law04_awake_any _ HT.out).mono ?_; rintro e w2 ⟨rfl, hb2⟩; replace HB := Lib.hid (HB.out.trans (hb2.mono HB.out.size)); clear hb2)
    go_ret
    exact ⟨rfl, HB.out⟩
  · have hz : ¬ (512 : Int) < (s.size : Int) := by omega
    have hl : s.size ≤ 1000000 := by omega
    obtain ⟨⟨q, k⟩, hq⟩ : ∃ q, Qt.quoteD s = q := ⟨_, rfl⟩
    obtain ⟨v, hv⟩ : ∃ v, validD s.data.toList = v := ⟨_, rfl⟩
    have h1 := fun (W : World) (hW : Lib.Utf8Tabs 0 1 W) => quote_Quote_any s W hl hW
    have h2 := fun (W : World) => ref04_Quote_any s W hl
    have h3 := fun (W : World) (hW : Lib.Utf8Tabs 0 1 W) => quote_Valid_any s W hl hW
    have h4 := fun (W : World) => ref04_Valid_any s W hl
    simp only [hq] at h1 h2
    simp only [hv] at h3 h4
    have H1 := Lib.hid h1
    have H2 := Lib.hid h2
    have H3 := Lib.hid h3
    have H4 := Lib.hid h4
    clear h1 h2 h3 h4 hq hv hs hl hT
    go_enter Tryd.func3, Tryd.ntmps3
    go_wp2_with (first
      | (go_at_call 10; refine (H1.out _ HT.out).mono ?_; rintro e w2 ⟨rfl, hb2⟩; replace HT := tabs_on HT hb2; replace HB := Lib.hid (HB.out.trans (hb2.mono HB.out.size)); clear hb2)
      | (go_at_call 11; refine (H2.out _).mono ?_; rintro e w3 ⟨rfl, hb3⟩; replace HT := tabs_on HT hb3; replace HB := Lib.hid (HB.out.trans (hb3.mono HB.out.size)); clear hb3)
      | (go_at_call 12; refine (H3.out _ HT.out).mono ?_; rintro e w4 ⟨rfl, hb4⟩; replace HT := tabs_on HT hb4; replace HB := Lib.hid (HB.out.trans (hb4.mono HB.out.size)); clear hb4)
      | (go_at_call 13; refine (H4.out _).mono ?_; rintro e w5 ⟨rfl, hb5⟩; replace HT := tabs_on HT hb5; replace HB := Lib.hid (HB.out.trans (hb5.mono HB.out.size)); clear hb5)
      | (go_at_call 9; refine (law04_awake_any _ HT.out).mono ?_; rintro e w6 ⟨rfl, hb6⟩; replace HB := Lib.hid (HB.out.trans (hb6.mono HB.out.size)); clear hb6))
    go_ret
    exact ⟨rfl, HB.out⟩

set_option maxHeartbeats 4000000 in
set_option maxRecDepth 100000 in
theorem quoteReads_walk (s : ByteArray) (w : World) (hT : Lib.Utf8Tabs 0 1 w) : Calls Tryd.prog 4 #[.string s] w fun e w' => e = .returned (.bool true) ∧ Below w.heap.size w w' := by
  have HT := Lib.hid hT
  have HB := Lib.hid (Below.refl w.heap.size w)
  by_cases hs : 512 < s.size
  · have hz : (512 : Int) < (s.size : Int) := by omega
    clear hs hT
    go_enter Tryd.func4, Tryd.ntmps4
    go_wp2_with (go_at_call 9; refine (law04_awake_any _ HT.out).mono ?_; rintro e w2 ⟨rfl, hb2⟩; replace HB := Lib.hid (HB.out.trans (hb2.mono HB.out.size)); clear hb2)
    go_ret
    exact ⟨rfl, HB.out⟩
  · have hz : ¬ (512 : Int) < (s.size : Int) := by omega
    have hl : s.size ≤ 1000000 := by omega
    obtain ⟨⟨q, k, r⟩, hq⟩ : ∃ q, Qt.unquoteD s = q := ⟨_, rfl⟩
    have h1 := fun (W : World) (hW : Lib.Utf8Tabs 0 1 W) => quote_Unquote_any s W hl hW (fun _ hb => Utf8Tabs_below hW hb)
    have h2 := fun (W : World) => ref04_Unquote_any s W hl
    simp only [hq] at h1 h2
    have H1 := Lib.hid h1
    have H2 := Lib.hid h2
    clear h1 h2 hq hs hl hT
    go_enter Tryd.func4, Tryd.ntmps4
    go_wp2_with (first
      | (go_at_call 14; refine (H1.out _ HT.out).mono ?_; rintro e w2 ⟨rfl, hb2⟩; replace HT := tabs_on HT hb2; replace HB := Lib.hid (HB.out.trans (hb2.mono HB.out.size)); clear hb2)
      | (go_at_call 15; refine (H2.out _).mono ?_; rintro e w3 ⟨rfl, hb3⟩; replace HT := tabs_on HT hb3; replace HB := Lib.hid (HB.out.trans (hb3.mono HB.out.size)); clear hb3)
      | (go_at_call 9; refine (law04_awake_any _ HT.out).mono ?_; rintro e w6 ⟨rfl, hb6⟩; replace HB := Lib.hid (HB.out.trans (hb6.mono HB.out.size)); clear hb6))
    go_ret
    exact ⟨rfl, HB.out⟩
end Go.Proofs.YtlniiaopindjnaaDoor
