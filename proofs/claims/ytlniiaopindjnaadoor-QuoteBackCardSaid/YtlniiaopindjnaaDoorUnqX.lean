/-
  Layer 4: the program's Unquote, walked.
-/
import Derived.Test.YtlniiaopindjnaaDoorUnqN
import Derived.Test.YtlniiaopindjnaaDoorQuoX
namespace Go.Proofs.YtlniiaopindjnaaDoor
set_option linter.unusedVariables false
open Go.RowKit
open Go.Lib hiding intOf

set_option maxHeartbeats 4000000 in
set_option maxRecDepth 100000 in
theorem quote_Unquote_any (s : ByteArray) (w : World) (hs : s.size ≤ 1000000) (hT : Lib.Utf8Tabs 0 1 w) (hTB : ∀ w', Below w.heap.size w w' → Lib.Utf8Tabs 0 1 w') : Calls Tryd.prog 14 #[.string s] w fun e w' => e = .returned (.tuple #[.string (Qt.unquoteD s).1, .int .i64 (Qt.unquoteD s).2.1, .int .i64 (Qt.unquoteD s).2.2]) ∧ Below w.heap.size w w' := by
  by_cases h0 : s.size = 0
  · have he : s.toList.isEmpty = true := by rw [empty_eq]; simp [h0]
    have HL := Lib.hid (show Qt.unquoteD s = (⟨#[]⟩, 0, 2) by unfold Qt.unquoteD; rw [if_pos (.inl h0)])
    clear hT hTB
    go_enter Tryd.func14, Tryd.ntmps14
    go_wp2_with fail
    go_ret3
    exact ⟨by rw [HL.out]; rfl, Below.refl _ _⟩
  · have he : s.toList.isEmpty = false := by rw [empty_eq]; simp [h0]
    have l0 : 0 < s.size := by omega
    obtain ⟨c0, hc0⟩ : ∃ c0, s.get! 0 = c0 := ⟨_, rfl⟩
    have hs0 : s[0]'l0 = c0 := by rw [← hc0]; exact (Utf8W.get!_of_lt s 0 (by omega)).symm
    by_cases h34 : c0 = 34
    · subst h34
      obtain ⟨R, hR⟩ : ∃ R, Qt.unquoteD s = R := ⟨_, rfl⟩
      have hr : Qt.unq s.size s 1 [] = R := by rw [← hR]; unfold Qt.unquoteD; rw [if_neg (fun h => h.elim h0 (fun h => h hc0))]
      rw [hR]
      have HR := Lib.hid hr
      have HTB := Lib.hid hTB
      have HI0 := Lib.hid (IsB.fresh 55 5 (fun k => k < w.heap.size) w (fun k hk => hk))
      have BW := Lib.hid ((Below.refl w.heap.size w).alloc (Nat.le_refl _) (.cells #[.pointer none, .slice none 0 0] 55))
      clear hr hR hT hTB
      go_enter Tryd.func14, Tryd.ntmps14
      go_wp2_with fail
      go_loopw [6] (fun i wr => ∃ (k f : Nat) (l : List UInt8), 1 ≤ k ∧ k ≤ s.size ∧ i = .int .i64 k ∧ IsB 55 5 (fun k => k < w.heap.size) w.heap.size (Lib.byteCells l) wr ∧ Below w.heap.size w wr ∧ l.length ≤ 4 * k ∧ Hid (s.size < k + f ∧ Qt.unq f s k l = R)) (fun i _ => s.size - (intOf i).toNat)
      case atStart => exact ⟨1, s.size, [], by omega, by omega, rfl, HI0.out, BW.out, by simp, by omega, HR.out⟩
      case round =>
        obtain ⟨k, f, l, hk1, hk, rfl, hisb, hbel, hll, hinv⟩ := hrel
        have HB := Lib.hid hbel
        have HI := Lib.hid hisb
        obtain ⟨hf, hu⟩ := hinv.out
        obtain ⟨g, rfl⟩ : ∃ g, f = g + 1 := ⟨f - 1, by omega⟩
        rw [Qt.unq] at hu
        clear hisb hinv HR HI0 BW
        by_cases hlt : k < s.size
        · rw [if_neg (by omega)] at hu
          obtain ⟨c, hc⟩ : ∃ c, s.get! k = c := ⟨_, rfl⟩
          have hsk : s[k]'hlt = c := by rw [← hc]; exact (Utf8W.get!_of_lt s k (by omega)).symm
          have hkz : (k : Int) < s.size := by omega
          have hkn : ((k : Int) == (s.size : Int)) = false := by rw [beq_eq_false_iff_ne]; omega
          rw [hc] at hu
          by_cases hq : c = 34
          · subst hq
            rw [if_pos rfl] at hu
            by_cases hbig : 524288 < k - 1
            · have hbz : (524288 : Int) < (k : Int) - 1 := by omega
              rw [if_pos hbig] at hu
              subst hu
              clear hbig hbel
              go_wp2_with fail
              go_ret3
              exact ⟨rfl, HB.out⟩
            · have hbz : ¬ (524288 : Int) < (k : Int) - 1 := by omega
              rw [if_neg hbig] at hu
              subst hu
              have hbs := hbel.size
              have HST := Lib.hid (Go.Proofs.Tryd.Builder_String_any w.heap.size w.heap.size l _ (HI.out.lib (fun k hk => hk)) hbs)
              clear hbig hbel
              go_wp2_with (go_at_call 34; refine HST.out.mono ?_; rintro e w7 ⟨rfl, b7⟩; replace HB := Lib.hid (HB.out.trans b7); clear b7)
              go_ret3
              exact ⟨rfl, HB.out⟩
          · rw [if_neg hq] at hu
            have hqz : ((c.toNat : Int) != 34) = true := u8_bne_true 34 (by decide) hq
            obtain ⟨t, ht⟩ : ∃ t, s.extract k s.size = t := ⟨_, rfl⟩
            have hts : t.size = s.size - k := by rw [← ht]; exact ext_size s k
            have ht0 : t.get! 0 ≠ 34 := by
              have e1 : t.get! 0 = c := by
                rw [← hc, ← ht, Utf8W.get!_of_lt s k hlt, Utf8W.get!_of_lt _ 0 (by rw [ext_size]; omega)]
                simp [ByteArray.getElem_extract]
              rw [e1]
              exact hq
            have ho1 := quote_next_any t wr (by omega) (by omega) ht0 (HTB.out wr hbel)
            have hfa := Qt.oneB_facts (s := t)
            rw [ht] at hu
            obtain ⟨⟨n, d⟩, hd⟩ : ∃ d, Qt.oneB t = d := ⟨_, rfl⟩
            simp only [hd] at ho1 hfa hu
            have HO1 := Lib.hid ho1
            by_cases hd0 : d = 0
            · subst hd0
              rw [if_pos rfl] at hu
              subst hu
              clear hq hd ho1 hfa hc ht0 hbel
              go_wp2_with (go_at_call 39; refine HO1.out.mono ?_; rintro e w2 ⟨rfl, hb2⟩; replace HB := Lib.hid (HB.out.trans (hb2.mono HB.out.size)); clear hb2)
              go_ret3
              exact ⟨rfl, HB.out⟩
            · rw [if_neg hd0] at hu
              obtain ⟨hi, hdt⟩ := hfa hd0
              obtain ⟨m, hm, hm2⟩ := Qt.isLetter_nat hi
              have hmn : n = m := by omega
              subst hmn
              have hdz : ((d : Int) == 0) = false := by rw [beq_eq_false_iff_ne]; omega
              have hdk : k + d ≤ s.size := by omega
              have hd1 : 1 ≤ d := by omega
              have hbl : (Qt.bytesN n).length ≤ 4 := by unfold Qt.bytesN; (repeat' split) <;> simp
              have hul : (u8s (Qt.bytesN n)).length ≤ 4 := by simpa [u8s] using hbl
              have HU := Lib.hid hu
              have HRC := Lib.hid (Qt.rune_cells hi)
              have HLL := Lib.hid (show (l ++ u8s (Qt.bytesN n)).length ≤ 4 * (k + d) by rw [List.length_append]; omega)
              have HWR := Lib.hid (fun (W : World) (hI : IsB 55 5 (fun k => k < w.heap.size) w.heap.size (Lib.byteCells l) W) (hB : w.heap.size ≤ W.heap.size) =>
                writeRune_any (fun k => k < w.heap.size) w.heap.size w.heap.size (Lib.byteCells l) (n : Int) (by omega) (by omega) W hI (by rw [Lib.byteCells_length]; omega) hB (fun k hk => hk) (fun k hk => .inl hk))
              clear hq hd ho1 hfa hc hd0 hi hm hm2 hbl hul hu ht0 hbel
              go_wp2_with (first
                | (go_at_call 39; refine HO1.out.mono ?_; rintro e w2 ⟨rfl, hb2⟩; replace HI := Lib.hid (HI.out.kept hb2.size (fun k hk _ => hb2.block k hk)); replace HB := Lib.hid (HB.out.trans (hb2.mono HB.out.size)); clear hb2)
                | (go_at_call 33; refine (HWR.out _ HI.out HB.out.size).mono ?_; rintro e w6 ⟨rfl, h6, u6⟩; have HI6 := Lib.hid h6; replace HB := Lib.hid (HB.out.trans (u6.below (fun k hk => hk))); clear h6 u6 HI))
              go_roundw
              case rel => exact ⟨k + d, g, l ++ u8s (Qt.bytesN n), by omega, by omega, by go_num, by rw [Lib.byteCells_append, ← HRC.out]; exact HI6.out, HB.out, HLL.out, by omega, HU.out⟩
              case measure => simp [intOf]; omega
        · rw [if_pos (by omega)] at hu
          subst hu
          have he : k = s.size := by omega
          subst he
          clear hbel
          go_wp2_with fail
          go_ret3
          exact ⟨rfl, HB.out⟩
    · have hq : ((c0.toNat : Int) != 34) = true := u8_bne_true 34 (by decide) h34
      have HL := Lib.hid (show Qt.unquoteD s = (⟨#[]⟩, 0, 2) by unfold Qt.unquoteD; rw [if_pos (.inr (by rw [hc0]; exact h34))])
      clear h34 hc0 hT hTB
      go_enter Tryd.func14, Tryd.ntmps14
      go_wp2_with fail
      go_ret3
      exact ⟨by rw [HL.out]; rfl, Below.refl _ _⟩
end Go.Proofs.YtlniiaopindjnaaDoor
