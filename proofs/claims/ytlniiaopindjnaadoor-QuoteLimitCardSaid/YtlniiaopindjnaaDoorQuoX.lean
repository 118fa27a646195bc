/-
  Layer 4: the program's Valid and Quote, walked.
-/
import Derived.Test.YtlniiaopindjnaaDoorQuoW
import Derived.Test.YtlniiaopindjnaaDoorHex
namespace Go.Proofs.YtlniiaopindjnaaDoor
set_option linter.unusedVariables false
open Go.RowKit
open Go.Lib hiding intOf

namespace Qt
theorem no_short_fin : ∀ n : Fin 128, short n.val = 0 → Lib.indexByte [34, 92, 8, 12, 10, 13, 9] ((n.val : Int).toNat.toUInt8) = -1 := by decide +kernel
theorem hex_hx_fin : ∀ n : Fin 128, 92 :: 117 :: hx n.val 4 = [92, 117, 48, 48] ++ Hx.hex [UInt8.ofNat n.val] := by decide +kernel
theorem encode_low {n : Nat} (h : n < 128) : Utf8.encode (n : Int) = ⟨#[UInt8.ofNat n]⟩ := by
  have hv : Utf8.valid (n : Int) = true := by simp [Utf8.valid]; omega
  simp [Utf8.encode, hv, h]
theorem no_short (n : Nat) (h : n < 128) (hs : short n = 0) : Lib.indexByte [34, 92, 8, 12, 10, 13, 9] ((n : Int).toNat.toUInt8) = -1 := no_short_fin ⟨n, h⟩ hs
end Qt

theorem quote_Valid_any (s : ByteArray) (w : World) (hs : s.size ≤ 1000000) (hT : Lib.Utf8Tabs 0 1 w) : Calls Tryd.prog 12 #[.string s] w fun e w' => e = .returned (.bool (validD s.data.toList)) ∧ Below w.heap.size w w' := by
  have HV := Lib.hid (Go.Proofs.Tryd.utf8_ValidString s w (by omega) hT)
  go_enter Tryd.func12, Tryd.ntmps12
  go_wp2_with (go_at_call 38; refine HV.out.mono ?_; rintro e w2 ⟨rfl, hb2⟩; have HB := Lib.hid hb2; clear hb2)
  go_ret
  exact ⟨rfl, HB.out⟩

set_option maxHeartbeats 4000000 in
set_option maxRecDepth 100000 in
theorem quote_Quote_any (s : ByteArray) (w : World) (hs : s.size ≤ 1000000) (hT : Lib.Utf8Tabs 0 1 w) : Calls Tryd.prog 10 #[.string s] w fun e w' => e = .returned (.tuple #[.string (Qt.quoteD s).1, .int .i64 (Qt.quoteD s).2]) ∧ Below w.heap.size w w' := by
  have hV := quote_Valid_any s w hs hT
  by_cases hv : validD s.data.toList = false
  · have hq : Qt.quoteD s = (⟨#[]⟩, 2) := by unfold Qt.quoteD; rw [if_pos hv]
    rw [hv] at hV
    have HV := Lib.hid hV
    rw [hq]
    clear hV hv hq
    go_enter Tryd.func10, Tryd.ntmps10
    go_wp2_with (go_at_call 12; refine HV.out.mono ?_; rintro e w2 ⟨rfl, hb2⟩; have BW := Lib.hid hb2; clear hb2)
    go_ret2
    exact ⟨rfl, BW.out⟩
  · rw [Bool.not_eq_false] at hv
    rw [hv] at hV
    have HV := Lib.hid hV
    have HVV := Lib.hid hv
    by_cases hz : 65536 < s.size
    · have hq : Qt.quoteD s = (⟨#[]⟩, 5) := by unfold Qt.quoteD; rw [if_neg (by simp [hv]), if_pos hz]
      have hzz : (65536 : Int) < (s.size : Int) := by omega
      rw [hq]
      clear hV hv hq
      go_enter Tryd.func10, Tryd.ntmps10
      go_wp2_with (go_at_call 12; refine HV.out.mono ?_; rintro e w2 ⟨rfl, hb2⟩; have BW := Lib.hid hb2; clear hb2)
      go_ret2
      exact ⟨rfl, BW.out⟩
    · have hq : Qt.quoteD s = (⟨(34 :: Qt.body s.data.toList ++ [34]).toArray⟩, 0) := by unfold Qt.quoteD; rw [if_neg (by simp [hv]), if_neg hz]
      have hzz : ¬ (65536 : Int) < (s.size : Int) := by omega
      rw [hq]
      obtain ⟨all, hall⟩ : ∃ all, 34 :: Qt.body s.data.toList = all := ⟨_, rfl⟩
      have HALL := Lib.hid hall
      rw [hall]
      clear hV hv hq
      go_enter Tryd.func10, Tryd.ntmps10
      go_wp2_with (first
        | (go_at_call 12; refine HV.out.mono ?_; rintro e w2 ⟨rfl, hb2⟩; have BW := Lib.hid hb2; have HI0 := Lib.hid (IsB.fresh 55 5 (fun k => k < w.heap.size) w2 (fun k hk => Nat.lt_of_lt_of_le hk hb2.size)); clear hb2)
        | (go_at_call 29; refine (writeByte_any _ _ _ _ _ HI0.out (by simp)).mono ?_; rintro e w3 ⟨rfl, h3, u3⟩; have HI3 := Lib.hid h3; have BW3 := Lib.hid ((BW.out.alloc BW.out.size (.cells #[.pointer none, .slice none 0 0] 55)).trans (u3.below (fun k hk => hk))); clear h3 u3))
      clear hall
      obtain ⟨keep, hkeep⟩ : ∃ keep : Nat → Prop, ∀ k, keep k ↔ (k < w.heap.size ∨ k = w3.heap.size) := ⟨_, fun _ => Iff.rfl⟩
      have HKB := Lib.hid (fun k (hk : k < w.heap.size) => (hkeep k).2 (Or.inl hk))
      have HKI := Lib.hid ((hkeep w3.heap.size).2 (Or.inr rfl))
      have HIA := Lib.hid (HI3.out.wider (.stringIter s 0) (keep' := keep) (fun k hk => (hkeep k).1 hk))
      have HKE := Lib.hid hkeep
      have hws := BW3.out.size
      have HIT := Lib.hid (World.iter_heap w3 s 0)
      have HBA := Lib.hid (BW3.out.alloc BW3.out.size (.stringIter s 0))
      clear hkeep HI3 BW HI0 BW3
      generalize w2.heap.size = b at *
      generalize w3.heap.size = it at *
      go_loopw [6] (fun _ wr => ∃ (pos : Nat) (l : List UInt8), pos ≤ s.size ∧ wr.heap[it]? = some (.stringIter s pos) ∧ IsB 55 5 keep b (Lib.byteCells l) wr ∧ Below w.heap.size w wr ∧ Hid (l ++ Qt.body (s.data.toList.drop pos) = all ∧ l.length ≤ 1 + 6 * pos ∧ validD (s.data.toList.drop pos) = true)) (fun _ wr => s.size - wr.iterPos it)
      case atStart => exact ⟨0, [34], Nat.zero_le _, HIT.out, HIA.out, HBA.out, by rw [List.drop_zero]; exact ⟨HALL.out, by simp, HVV.out⟩⟩
      case round =>
        obtain ⟨pos, l, hps, hk, hisb, hbel, hinv⟩ := hrel
        have BW := Lib.hid (Lib.below_iterAt hbel (show w.heap.size ≤ it from hws))
        have HI := Lib.hid hinv
        clear hinv HIA HIT HBA
        by_cases hlt : pos < s.size
        · obtain ⟨t, ht⟩ : ∃ t, s.extract pos s.size = t := ⟨_, rfl⟩
          have htl : t.data.toList = s.data.toList.drop pos := by rw [← ht]; exact ext_list s pos
          have hts : t.size = s.size - pos := by rw [← ht]; exact ext_size s pos
          have hne : t.data.toList ≠ [] := fun h => by
            have : t.size = 0 := by rw [Lib.size_eq, h]; rfl
            omega
          have hwd := Qt.dec_width _ hne
          have hw4 := Qt.width4 t.data.toList
          have hrl := Qt.rune_le t.data.toList
          have hll : t.data.toList.length = t.size := (Lib.size_eq t).symm
          have hbs := Qt.body_step hne
          have hvs := Qt.valid_step hne
          obtain ⟨i1, i2, i3⟩ := HI.out
          rw [← htl] at i1 i3
          rw [hvs] at i3
          have hb : Qt.bad t.data.toList = false := by
            cases hb : Qt.bad t.data.toList with
            | false => rfl
            | true => rw [if_pos hb] at i3; cases i3
          obtain ⟨hgb, hgl⟩ := Qt.good_bytes (show t.size ≠ 0 by omega) hb
          rw [hb] at i3
          rw [hbs] at i1
          have hnext := fun ty => Lib.run_next_any_at (P := Tryd.prog) wr it s pos ty hk hlt
          rw [Qt.decode_from, ← htl] at hnext
          obtain ⟨⟨n, d⟩, hd⟩ : ∃ d, decodeL t.data.toList = d := ⟨_, rfl⟩
          simp only [hd] at hnext hwd hw4 hrl i1 i3 hgb hgl
          obtain ⟨u, hu⟩ : ∃ u, t.data.toList.take d = u := ⟨_, rfl⟩
          have hul : u.length = d := by rw [← hu, List.length_take]; omega
          have el := Qt.esc_length n u (by omega)
          rw [hu] at i1 hgb
          rw [htl, List.drop_drop] at i1 i3
          have HJ := Lib.hid (show (l ++ Qt.esc n u) ++ Qt.body (s.data.toList.drop (pos + d)) = all ∧ (l ++ Qt.esc n u).length ≤ 1 + 6 * (pos + d) ∧ validD (s.data.toList.drop (pos + d)) = true from ⟨by rw [List.append_assoc]; exact i1, by rw [List.length_append]; omega, by simpa using i3⟩)
          have HMU := Lib.hid (show wr.iterPos it = pos by simp [World.iterPos, hk])
          have HI1 := Lib.hid (hisb.iterAt HKI.out s (pos + d))
          have HK := Lib.hid (Lib.iterAt_heap wr it s pos (pos + d) hk)
          replace BW := Lib.hid (BW.out s (pos + d))
          have hl6 : l.length ≤ 8000000 := by omega
          have HLB := Lib.hid (show (Lib.byteCells l).length + 1 ≤ 140737488355328 by rw [Lib.byteCells_length]; omega)
          have HLB2 := Lib.hid (show (Lib.byteCells l ++ [Value.int .u8 92]).length + 1 ≤ 140737488355328 by rw [List.length_append, Lib.byteCells_length]; simp; omega)
          have HRC := Lib.hid (Qt.rune_cells hgl)
          have HGB := Lib.hid hgb
          have hdp : pos + d ≤ s.size := by omega
          have hd1 : 1 ≤ d := by omega
          clear hk hisb hbel hgb hgl i1 i2 i3 hbs hvs hb hd hne hll htl hu el HI HALL ht hts hwd hw4 HVV
          generalize wr.iterAt it s (pos + d) = w4 at *
          by_cases c34 : n = 34
          · subst c34
            have HE := Lib.hid (show Qt.esc 34 u = [92, 34] from rfl)
            go_wp2_with (first
              | (go_at_call 29; refine (writeByte_any _ _ _ 92 _ HI1.out HLB.out).mono ?_; rintro e w5 ⟨rfl, h5, u5⟩; have HI5 := Lib.hid h5; replace BW := Lib.hid (BW.out.trans (u5.below HKB.out)); replace HK := Lib.hid ((u5.block _ HKI.out).trans HK.out); clear h5 u5 HI1)
              | (go_at_call 29; refine (writeByte_any _ _ _ 34 _ HI5.out HLB2.out).mono ?_; rintro e w6 ⟨rfl, h6, u6⟩; have HI6 := Lib.hid h6; replace BW := Lib.hid (BW.out.trans (u6.below HKB.out)); replace HK := Lib.hid ((u6.block _ HKI.out).trans HK.out); clear h6 u6 HI5)
              | (go_at_call 30; refine (Go.Proofs.Tryd.strings_IndexByte _ _ _).mono ?_; rintro e w9 ⟨he, rfl⟩; obtain rfl : e = .returned (.int .i64 0) := he.trans (congrArg (fun z => Ending.returned (.int .i64 z)) (by decide)); clear he))
            go_roundw
            case rel => exact ⟨pos + d, l ++ Qt.esc 34 u, by omega, HK.out, by rw [HE.out]; simpa [Lib.byteCells] using HI6.out, BW.out, HJ.out⟩
            case measure =>
              have hmu2 := HK.out
              simp only [World.iterPos, hmu2]
              have := HMU.out
              simp only [World.iterPos] at this
              omega
          by_cases c92 : n = 92
          · subst c92
            have HE := Lib.hid (show Qt.esc 92 u = [92, 92] from rfl)
            go_wp2_with (first
              | (go_at_call 29; refine (writeByte_any _ _ _ 92 _ HI1.out HLB.out).mono ?_; rintro e w5 ⟨rfl, h5, u5⟩; have HI5 := Lib.hid h5; replace BW := Lib.hid (BW.out.trans (u5.below HKB.out)); replace HK := Lib.hid ((u5.block _ HKI.out).trans HK.out); clear h5 u5 HI1)
              | (go_at_call 29; refine (writeByte_any _ _ _ 92 _ HI5.out HLB2.out).mono ?_; rintro e w6 ⟨rfl, h6, u6⟩; have HI6 := Lib.hid h6; replace BW := Lib.hid (BW.out.trans (u6.below HKB.out)); replace HK := Lib.hid ((u6.block _ HKI.out).trans HK.out); clear h6 u6 HI5)
              | (go_at_call 30; refine (Go.Proofs.Tryd.strings_IndexByte _ _ _).mono ?_; rintro e w9 ⟨he, rfl⟩; obtain rfl : e = .returned (.int .i64 1) := he.trans (congrArg (fun z => Ending.returned (.int .i64 z)) (by decide)); clear he))
            go_roundw
            case rel => exact ⟨pos + d, l ++ Qt.esc 92 u, by omega, HK.out, by rw [HE.out]; simpa [Lib.byteCells] using HI6.out, BW.out, HJ.out⟩
            case measure =>
              have hmu2 := HK.out
              simp only [World.iterPos, hmu2]
              have := HMU.out
              simp only [World.iterPos] at this
              omega
          by_cases c8 : n = 8
          · subst c8
            have HE := Lib.hid (show Qt.esc 8 u = [92, 98] from rfl)
            go_wp2_with (first
              | (go_at_call 29; refine (writeByte_any _ _ _ 92 _ HI1.out HLB.out).mono ?_; rintro e w5 ⟨rfl, h5, u5⟩; have HI5 := Lib.hid h5; replace BW := Lib.hid (BW.out.trans (u5.below HKB.out)); replace HK := Lib.hid ((u5.block _ HKI.out).trans HK.out); clear h5 u5 HI1)
              | (go_at_call 29; refine (writeByte_any _ _ _ 98 _ HI5.out HLB2.out).mono ?_; rintro e w6 ⟨rfl, h6, u6⟩; have HI6 := Lib.hid h6; replace BW := Lib.hid (BW.out.trans (u6.below HKB.out)); replace HK := Lib.hid ((u6.block _ HKI.out).trans HK.out); clear h6 u6 HI5)
              | (go_at_call 30; refine (Go.Proofs.Tryd.strings_IndexByte _ _ _).mono ?_; rintro e w9 ⟨he, rfl⟩; obtain rfl : e = .returned (.int .i64 2) := he.trans (congrArg (fun z => Ending.returned (.int .i64 z)) (by decide)); clear he))
            go_roundw
            case rel => exact ⟨pos + d, l ++ Qt.esc 8 u, by omega, HK.out, by rw [HE.out]; simpa [Lib.byteCells] using HI6.out, BW.out, HJ.out⟩
            case measure =>
              have hmu2 := HK.out
              simp only [World.iterPos, hmu2]
              have := HMU.out
              simp only [World.iterPos] at this
              omega
          by_cases c12 : n = 12
          · subst c12
            have HE := Lib.hid (show Qt.esc 12 u = [92, 102] from rfl)
            go_wp2_with (first
              | (go_at_call 29; refine (writeByte_any _ _ _ 92 _ HI1.out HLB.out).mono ?_; rintro e w5 ⟨rfl, h5, u5⟩; have HI5 := Lib.hid h5; replace BW := Lib.hid (BW.out.trans (u5.below HKB.out)); replace HK := Lib.hid ((u5.block _ HKI.out).trans HK.out); clear h5 u5 HI1)
              | (go_at_call 29; refine (writeByte_any _ _ _ 102 _ HI5.out HLB2.out).mono ?_; rintro e w6 ⟨rfl, h6, u6⟩; have HI6 := Lib.hid h6; replace BW := Lib.hid (BW.out.trans (u6.below HKB.out)); replace HK := Lib.hid ((u6.block _ HKI.out).trans HK.out); clear h6 u6 HI5)
              | (go_at_call 30; refine (Go.Proofs.Tryd.strings_IndexByte _ _ _).mono ?_; rintro e w9 ⟨he, rfl⟩; obtain rfl : e = .returned (.int .i64 3) := he.trans (congrArg (fun z => Ending.returned (.int .i64 z)) (by decide)); clear he))
            go_roundw
            case rel => exact ⟨pos + d, l ++ Qt.esc 12 u, by omega, HK.out, by rw [HE.out]; simpa [Lib.byteCells] using HI6.out, BW.out, HJ.out⟩
            case measure =>
              have hmu2 := HK.out
              simp only [World.iterPos, hmu2]
              have := HMU.out
              simp only [World.iterPos] at this
              omega
          by_cases c10 : n = 10
          · subst c10
            have HE := Lib.hid (show Qt.esc 10 u = [92, 110] from rfl)
            go_wp2_with (first
              | (go_at_call 29; refine (writeByte_any _ _ _ 92 _ HI1.out HLB.out).mono ?_; rintro e w5 ⟨rfl, h5, u5⟩; have HI5 := Lib.hid h5; replace BW := Lib.hid (BW.out.trans (u5.below HKB.out)); replace HK := Lib.hid ((u5.block _ HKI.out).trans HK.out); clear h5 u5 HI1)
              | (go_at_call 29; refine (writeByte_any _ _ _ 110 _ HI5.out HLB2.out).mono ?_; rintro e w6 ⟨rfl, h6, u6⟩; have HI6 := Lib.hid h6; replace BW := Lib.hid (BW.out.trans (u6.below HKB.out)); replace HK := Lib.hid ((u6.block _ HKI.out).trans HK.out); clear h6 u6 HI5)
              | (go_at_call 30; refine (Go.Proofs.Tryd.strings_IndexByte _ _ _).mono ?_; rintro e w9 ⟨he, rfl⟩; obtain rfl : e = .returned (.int .i64 4) := he.trans (congrArg (fun z => Ending.returned (.int .i64 z)) (by decide)); clear he))
            go_roundw
            case rel => exact ⟨pos + d, l ++ Qt.esc 10 u, by omega, HK.out, by rw [HE.out]; simpa [Lib.byteCells] using HI6.out, BW.out, HJ.out⟩
            case measure =>
              have hmu2 := HK.out
              simp only [World.iterPos, hmu2]
              have := HMU.out
              simp only [World.iterPos] at this
              omega
          by_cases c13 : n = 13
          · subst c13
            have HE := Lib.hid (show Qt.esc 13 u = [92, 114] from rfl)
            go_wp2_with (first
              | (go_at_call 29; refine (writeByte_any _ _ _ 92 _ HI1.out HLB.out).mono ?_; rintro e w5 ⟨rfl, h5, u5⟩; have HI5 := Lib.hid h5; replace BW := Lib.hid (BW.out.trans (u5.below HKB.out)); replace HK := Lib.hid ((u5.block _ HKI.out).trans HK.out); clear h5 u5 HI1)
              | (go_at_call 29; refine (writeByte_any _ _ _ 114 _ HI5.out HLB2.out).mono ?_; rintro e w6 ⟨rfl, h6, u6⟩; have HI6 := Lib.hid h6; replace BW := Lib.hid (BW.out.trans (u6.below HKB.out)); replace HK := Lib.hid ((u6.block _ HKI.out).trans HK.out); clear h6 u6 HI5)
              | (go_at_call 30; refine (Go.Proofs.Tryd.strings_IndexByte _ _ _).mono ?_; rintro e w9 ⟨he, rfl⟩; obtain rfl : e = .returned (.int .i64 5) := he.trans (congrArg (fun z => Ending.returned (.int .i64 z)) (by decide)); clear he))
            go_roundw
            case rel => exact ⟨pos + d, l ++ Qt.esc 13 u, by omega, HK.out, by rw [HE.out]; simpa [Lib.byteCells] using HI6.out, BW.out, HJ.out⟩
            case measure =>
              have hmu2 := HK.out
              simp only [World.iterPos, hmu2]
              have := HMU.out
              simp only [World.iterPos] at this
              omega
          by_cases c9 : n = 9
          · subst c9
            have HE := Lib.hid (show Qt.esc 9 u = [92, 116] from rfl)
            go_wp2_with (first
              | (go_at_call 29; refine (writeByte_any _ _ _ 92 _ HI1.out HLB.out).mono ?_; rintro e w5 ⟨rfl, h5, u5⟩; have HI5 := Lib.hid h5; replace BW := Lib.hid (BW.out.trans (u5.below HKB.out)); replace HK := Lib.hid ((u5.block _ HKI.out).trans HK.out); clear h5 u5 HI1)
              | (go_at_call 29; refine (writeByte_any _ _ _ 116 _ HI5.out HLB2.out).mono ?_; rintro e w6 ⟨rfl, h6, u6⟩; have HI6 := Lib.hid h6; replace BW := Lib.hid (BW.out.trans (u6.below HKB.out)); replace HK := Lib.hid ((u6.block _ HKI.out).trans HK.out); clear h6 u6 HI5)
              | (go_at_call 30; refine (Go.Proofs.Tryd.strings_IndexByte _ _ _).mono ?_; rintro e w9 ⟨he, rfl⟩; obtain rfl : e = .returned (.int .i64 6) := he.trans (congrArg (fun z => Ending.returned (.int .i64 z)) (by decide)); clear he))
            go_roundw
            case rel => exact ⟨pos + d, l ++ Qt.esc 9 u, by omega, HK.out, by rw [HE.out]; simpa [Lib.byteCells] using HI6.out, BW.out, HJ.out⟩
            case measure =>
              have hmu2 := HK.out
              simp only [World.iterPos, hmu2]
              have := HMU.out
              simp only [World.iterPos] at this
              omega
          have hs0 : Qt.short n = 0 := by unfold Qt.short; (repeat' split) <;> omega
          have HS0 := Lib.hid hs0
          clear c34 c92 c8 c12 c10 c13 c9 hs0
          have hkp := Lib.hid (show ∀ k, keep k → k < w.heap.size ∨ ∃ s p, w4.heap[k]? = some (.stringIter s p) from fun k hk => by
            rcases (HKE.out k).1 hk with h | h
            · exact .inl h
            · rw [h]; exact .inr ⟨_, _, HK.out⟩)
          have HWR := Lib.hid (writeRune_any keep w.heap.size b _ (n : Int) (by omega) (by omega) w4 HI1.out (by rw [Lib.byteCells_length]; omega) BW.out.size HKB.out hkp.out)
          have hn0 : (0 : Int) ≤ n := by omega
          by_cases h128 : n < 128
          · have h128z : (n : Int) < 128 := by omega
            have hix := Qt.no_short n h128 HS0.out
            by_cases hn : n < 32 ∨ n = 127
            · clear HWR hkp
              rcases hn with hn | hn
              · have hnz : (n : Int) < 32 := by omega
                have hq6 : (⟨#[92, 117, 48, 48]⟩ ++ (⟨(Hx.hex [UInt8.ofNat n]).toArray⟩ : ByteArray)).data.toList = [92, 117, 48, 48] ++ Hx.hex [UInt8.ofNat n] := by simp
                have HE := Lib.hid (show Qt.esc n u = [92, 117, 48, 48] ++ Hx.hex [UInt8.ofNat n] by unfold Qt.esc; rw [if_neg (by rw [HS0.out]; simp), if_pos (by omega)]; exact Qt.hex_hx_fin ⟨n, h128⟩)
                have HQC := Lib.hid (show Lib.strCells (⟨#[92, 117, 48, 48]⟩ ++ (⟨(Hx.hex [UInt8.ofNat n]).toArray⟩ : ByteArray)) = Lib.byteCells ([92, 117, 48, 48] ++ Hx.hex [UInt8.ofNat n]) by rw [Lib.strCells, hq6]; rfl)
                have HLS := Lib.hid (show (Lib.byteCells l).length + (⟨#[92, 117, 48, 48]⟩ ++ (⟨(Hx.hex [UInt8.ofNat n]).toArray⟩ : ByteArray)).size ≤ 140737488355328 by
                  rw [Lib.byteCells_length, Lib.size_eq, hq6, List.length_append, Hx.hex_length]; simp; omega)
                clear hq6
                clear hn
                go_wp2_with (first
                  | (go_at_call 30; refine (Go.Proofs.Tryd.strings_IndexByte _ _ _).mono ?_; rintro e w9 ⟨he, rfl⟩; obtain rfl : e = .returned (.int .i64 (-1)) := he.trans (congrArg (fun z => Ending.returned (.int .i64 z)) hix); clear he)
                  | (go_at_call 32; rw [Qt.encode_low h128]; refine (hex_any _ _ (by simp [ByteArray.size])).mono ?_; rintro e w7 ⟨rfl, h7⟩; have HI5 := Lib.hid (HI1.out.kept h7.size (fun k hk _ => h7.block k hk)); replace BW := Lib.hid (BW.out.trans (h7.mono BW.out.size)); replace HK := Lib.hid ((h7.block _ (HI1.out.2.1 _ HKI.out)).trans HK.out); clear h7 HI1)
                  | (go_at_call 31; refine (writeString_any _ _ _ _ _ HI5.out HLS.out).mono ?_; rintro e w6 ⟨rfl, h6, u6⟩; have HI6 := Lib.hid h6; replace BW := Lib.hid (BW.out.trans (u6.below HKB.out)); replace HK := Lib.hid ((u6.block _ HKI.out).trans HK.out); clear h6 u6 HI5))
                go_roundw
                case rel => exact ⟨pos + d, l ++ Qt.esc n u, by omega, HK.out, by rw [HE.out, Lib.byteCells_append, ← HQC.out]; exact HI6.out, BW.out, HJ.out⟩
                case measure =>
                  have hmu2 := HK.out
                  simp only [World.iterPos, hmu2]
                  have := HMU.out
                  simp only [World.iterPos] at this
                  omega
              · have hn1 : ¬ (n : Int) < 32 := by omega
                have hn2 : ((n : Int) == 127) = true := by rw [beq_iff_eq]; omega
                have hq6 : (⟨#[92, 117, 48, 48]⟩ ++ (⟨(Hx.hex [UInt8.ofNat n]).toArray⟩ : ByteArray)).data.toList = [92, 117, 48, 48] ++ Hx.hex [UInt8.ofNat n] := by simp
                have HE := Lib.hid (show Qt.esc n u = [92, 117, 48, 48] ++ Hx.hex [UInt8.ofNat n] by unfold Qt.esc; rw [if_neg (by rw [HS0.out]; simp), if_pos (by omega)]; exact Qt.hex_hx_fin ⟨n, h128⟩)
                have HQC := Lib.hid (show Lib.strCells (⟨#[92, 117, 48, 48]⟩ ++ (⟨(Hx.hex [UInt8.ofNat n]).toArray⟩ : ByteArray)) = Lib.byteCells ([92, 117, 48, 48] ++ Hx.hex [UInt8.ofNat n]) by rw [Lib.strCells, hq6]; rfl)
                have HLS := Lib.hid (show (Lib.byteCells l).length + (⟨#[92, 117, 48, 48]⟩ ++ (⟨(Hx.hex [UInt8.ofNat n]).toArray⟩ : ByteArray)).size ≤ 140737488355328 by
                  rw [Lib.byteCells_length, Lib.size_eq, hq6, List.length_append, Hx.hex_length]; simp; omega)
                clear hq6 hn
                go_wp2_with (first
                  | (go_at_call 30; refine (Go.Proofs.Tryd.strings_IndexByte _ _ _).mono ?_; rintro e w9 ⟨he, rfl⟩; obtain rfl : e = .returned (.int .i64 (-1)) := he.trans (congrArg (fun z => Ending.returned (.int .i64 z)) hix); clear he)
                  | (go_at_call 32; rw [Qt.encode_low h128]; refine (hex_any _ _ (by simp [ByteArray.size])).mono ?_; rintro e w7 ⟨rfl, h7⟩; have HI5 := Lib.hid (HI1.out.kept h7.size (fun k hk _ => h7.block k hk)); replace BW := Lib.hid (BW.out.trans (h7.mono BW.out.size)); replace HK := Lib.hid ((h7.block _ (HI1.out.2.1 _ HKI.out)).trans HK.out); clear h7 HI1)
                  | (go_at_call 31; refine (writeString_any _ _ _ _ _ HI5.out HLS.out).mono ?_; rintro e w6 ⟨rfl, h6, u6⟩; have HI6 := Lib.hid h6; replace BW := Lib.hid (BW.out.trans (u6.below HKB.out)); replace HK := Lib.hid ((u6.block _ HKI.out).trans HK.out); clear h6 u6 HI5))
                go_roundw
                case rel => exact ⟨pos + d, l ++ Qt.esc n u, by omega, HK.out, by rw [HE.out, Lib.byteCells_append, ← HQC.out]; exact HI6.out, BW.out, HJ.out⟩
                case measure =>
                  have hmu2 := HK.out
                  simp only [World.iterPos, hmu2]
                  have := HMU.out
                  simp only [World.iterPos] at this
                  omega
            · have hn1 : ¬ (n : Int) < 32 := by omega
              have hn2 : ((n : Int) == 127) = false := by rw [beq_eq_false_iff_ne]; omega
              have HE := Lib.hid (show Qt.esc n u = u by unfold Qt.esc; rw [if_neg (by rw [HS0.out]; simp), if_neg hn])
              clear hn
              go_wp2_with (first
                | (go_at_call 30; refine (Go.Proofs.Tryd.strings_IndexByte _ _ _).mono ?_; rintro e w9 ⟨he, rfl⟩; obtain rfl : e = .returned (.int .i64 (-1)) := he.trans (congrArg (fun z => Ending.returned (.int .i64 z)) hix); clear he)
                | (go_at_call 33; refine HWR.out.mono ?_; rintro e w6 ⟨rfl, h6, u6⟩; have HI6 := Lib.hid h6; replace BW := Lib.hid (BW.out.trans (u6.below HKB.out)); replace HK := Lib.hid ((u6.block _ HKI.out).trans HK.out); clear h6 u6 HI1))
              go_roundw
              case rel => exact ⟨pos + d, l ++ Qt.esc n u, by omega, HK.out, by rw [HE.out, HGB.out, Lib.byteCells_append, ← HRC.out]; exact HI6.out, BW.out, HJ.out⟩
              case measure =>
                have hmu2 := HK.out
                simp only [World.iterPos, hmu2]
                have := HMU.out
                simp only [World.iterPos] at this
                omega
          · have h128z : ¬ (n : Int) < 128 := by omega
            have hn1 : ¬ (n : Int) < 32 := by omega
            have hn2 : ((n : Int) == 127) = false := by rw [beq_eq_false_iff_ne]; omega
            have HE := Lib.hid (show Qt.esc n u = u by unfold Qt.esc; rw [if_neg (by rw [HS0.out]; simp), if_neg (by omega)])
            go_wp2_with (first
              | (go_at_call 33; refine HWR.out.mono ?_; rintro e w6 ⟨rfl, h6, u6⟩; have HI6 := Lib.hid h6; replace BW := Lib.hid (BW.out.trans (u6.below HKB.out)); replace HK := Lib.hid ((u6.block _ HKI.out).trans HK.out); clear h6 u6 HI1))
            go_roundw
            case rel => exact ⟨pos + d, l ++ Qt.esc n u, by omega, HK.out, by rw [HE.out, HGB.out, Lib.byteCells_append, ← HRC.out]; exact HI6.out, BW.out, HJ.out⟩
            case measure =>
              have hmu2 := HK.out
              simp only [World.iterPos, hmu2]
              have := HMU.out
              simp only [World.iterPos] at this
              omega
        · have he : pos = s.size := by omega
          obtain ⟨i1, i2, -⟩ := HI.out
          rw [List.drop_of_length_le (by rw [← Lib.size_eq]; omega), Qt.body_nil, List.append_nil] at i1
          subst i1
          have hnext := fun ty => Lib.run_next_end_at (P := Tryd.prog) wr it s pos ty hk hlt
          have HI1 := Lib.hid hisb
          have HBL := Lib.hid hbel
          have HLB := Lib.hid (show (Lib.byteCells l).length + 1 ≤ 140737488355328 by rw [Lib.byteCells_length]; omega)
          clear hk hisb hbel i2 HI HALL BW
          go_wp2_with (first
            | (go_at_call 29; refine (writeByte_any _ _ _ 34 _ HI1.out HLB.out).mono ?_; rintro e w6 ⟨rfl, h6, u6⟩; have HI6 := Lib.hid h6; replace HBL := Lib.hid (HBL.out.trans (u6.below HKB.out)); clear h6 u6 HI1)
            | (go_at_call 34; refine (Go.Proofs.Tryd.Builder_String_any w.heap.size b (l ++ [34]) _ (by rw [Lib.byteCells_append]; exact HI6.out.lib HKB.out) HBL.out.size).mono ?_; rintro e w7 ⟨rfl, b7⟩; replace HBL := Lib.hid (HBL.out.trans b7); clear b7 HI6))
          go_ret2
          exact ⟨rfl, HBL.out⟩
end Go.Proofs.YtlniiaopindjnaaDoor
