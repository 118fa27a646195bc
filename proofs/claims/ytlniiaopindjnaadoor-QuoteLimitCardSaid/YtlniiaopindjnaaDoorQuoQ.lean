/-
  Layer 4's document: Quote, walked.
-/
import Derived.Test.YtlniiaopindjnaaDoorQuoS
import Derived.Test.YtlniiaopindjnaaDoorOwnB
namespace Go.Proofs.YtlniiaopindjnaaDoor
set_option linter.unusedVariables false
open Go.RowKit
open Go.Lib hiding intOf

namespace Qt
def bodyGo : Nat → List UInt8 → List UInt8
  | 0, _ => []
  | f + 1, l => if l = [] then [] else esc (decodeL l).1 (l.take (decodeL l).2) ++ bodyGo f (l.drop (decodeL l).2)
/-- A text between quotes, without the quotes. -/
def body (l : List UInt8) : List UInt8 := bodyGo l.length l
theorem bodyGo_fuel : ∀ (n m : Nat) (l : List UInt8), l.length ≤ n → l.length ≤ m → bodyGo n l = bodyGo m l := by
  intro n
  induction n with
  | zero =>
    intro m l h1 h2
    have : l = [] := List.length_eq_zero_iff.1 (by omega)
    subst this
    cases m <;> simp [bodyGo]
  | succ n ih =>
    intro m l h1 h2
    by_cases hl : l = []
    · subst hl; cases m <;> simp [bodyGo]
    · have hw := dec_width l hl
      cases m with
      | zero => exact absurd (List.length_eq_zero_iff.1 (by omega)) hl
      | succ m =>
        simp only [bodyGo, if_neg hl]
        rw [ih m (l.drop (decodeL l).2) (by simp; omega) (by simp; omega)]
theorem body_nil : body [] = [] := rfl
theorem body_step {l : List UInt8} (h : l ≠ []) : body l = esc (decodeL l).1 (l.take (decodeL l).2) ++ body (l.drop (decodeL l).2) := by
  have hw := dec_width l h
  unfold body
  obtain ⟨m, hm⟩ : ∃ m, l.length = m + 1 := ⟨l.length - 1, by omega⟩
  rw [hm]
  simp only [bodyGo, if_neg h]
  rw [bodyGo_fuel m (l.drop (decodeL l).2).length _ (by simp; omega) (Nat.le_refl _)]
/-- A text between quotes, or why not. -/
def quoteD (s : ByteArray) : ByteArray × Nat := if validD s.data.toList = false then (⟨#[]⟩, 2) else if 65536 < s.size then (⟨#[]⟩, 5) else (⟨(34 :: body s.data.toList ++ [34]).toArray⟩, 0)
theorem short_lt (n : Nat) : short n < 256 := by unfold short; (repeat' split) <;> omega
theorem esc_length (n : Nat) (t : List UInt8) (h : t.length ≤ 4) : (esc n t).length ≤ 6 := by
  unfold esc
  (repeat' split)
  · simp
  · simp [hx_length]
  · omega
theorem width4 (l : List UInt8) : (decodeL l).2 ≤ 4 := by
  have h := decodeL_at ⟨l.toArray⟩
  have h1 : ∀ n b0 b1 b2 b3, (decodeN n b0 b1 b2 b3).2 ≤ 4 := by
    intro n b0 b1 b2 b3
    unfold decodeN
    (repeat' split) <;> simp
  have h2 := h1 (ByteArray.size ⟨l.toArray⟩) (ByteArray.get! ⟨l.toArray⟩ 0).toNat (ByteArray.get! ⟨l.toArray⟩ 1).toNat (ByteArray.get! ⟨l.toArray⟩ 2).toNat (ByteArray.get! ⟨l.toArray⟩ 3).toNat
  rw [← h] at h2
  exact h2
theorem rune_le (l : List UInt8) : (decodeL l).1 ≤ 1114111 := by
  have h := decodeL_at ⟨l.toArray⟩
  have h2 := decodeN_letter (ByteArray.size ⟨l.toArray⟩) (ByteArray.get! ⟨l.toArray⟩ 0).toNat (ByteArray.get! ⟨l.toArray⟩ 1).toNat (ByteArray.get! ⟨l.toArray⟩ 2).toNat (ByteArray.get! ⟨l.toArray⟩ 3).toNat
  rw [← h] at h2
  exact h2
end Qt

set_option maxHeartbeats 4000000 in
set_option maxRecDepth 100000 in
theorem ref04_Quote_any (s : ByteArray) (w : World) (hs : s.size ≤ 1000000) : Calls Tryd.prog 11 #[.string s] w fun e w' => e = .returned (.tuple #[.string (Qt.quoteD s).1, .int .i64 (Qt.quoteD s).2]) ∧ Below w.heap.size w w' := by
  have hV := fun W => ref04_Valid_any s W hs
  have BW := Lib.hid (Below.refl w.heap.size w)
  by_cases hv : validD s.data.toList = false
  · have hq : Qt.quoteD s = (⟨#[]⟩, 2) := by unfold Qt.quoteD; rw [if_pos hv]
    simp only [hv] at hV
    have HV := Lib.hid hV
    rw [hq]
    clear hV hv hq
    go_enter Tryd.func11, Tryd.ntmps11
    go_wp2_with (go_at_call 13; refine (HV.out _).mono ?_; rintro e w2 ⟨rfl, hb2⟩; replace BW := Lib.hid (BW.out.trans (hb2.mono BW.out.size)); clear hb2)
    go_ret2
    exact ⟨rfl, BW.out⟩
  · rw [Bool.not_eq_false] at hv
    simp only [hv] at hV
    have HV := Lib.hid hV
    have HVV := Lib.hid hv
    by_cases hz : 65536 < s.size
    · have hq : Qt.quoteD s = (⟨#[]⟩, 5) := by unfold Qt.quoteD; rw [if_neg (by simp [hv]), if_pos hz]
      have hzz : (65536 : Int) < (s.size : Int) := by omega
      rw [hq]
      clear hV hv hq
      go_enter Tryd.func11, Tryd.ntmps11
      go_wp2_with (go_at_call 13; refine (HV.out _).mono ?_; rintro e w2 ⟨rfl, hb2⟩; replace BW := Lib.hid (BW.out.trans (hb2.mono BW.out.size)); clear hb2)
      go_ret2
      exact ⟨rfl, BW.out⟩
    · have hq : Qt.quoteD s = (⟨(34 :: Qt.body s.data.toList ++ [34]).toArray⟩, 0) := by unfold Qt.quoteD; rw [if_neg (by simp [hv]), if_neg hz]
      have hzz : ¬ (65536 : Int) < (s.size : Int) := by omega
      rw [hq]
      obtain ⟨all, hall⟩ : ∃ all, 34 :: Qt.body s.data.toList = all := ⟨_, rfl⟩
      have HALL := Lib.hid hall
      rw [hall]
      clear hV hv hq
      go_enter Tryd.func11, Tryd.ntmps11
      go_wp2_with (first
        | (go_at_call 13; refine (HV.out _).mono ?_; rintro e w2 ⟨rfl, hb2⟩; replace BW := Lib.hid (BW.out.trans (hb2.mono BW.out.size)); clear hb2; have hz0 := BW.out.size; have hn0 := OwnB.nil w2 w.heap.size hz0; have HN0 := Lib.hid hn0; clear hn0)
        | (at_builtin; (refine wpList_append_byte rfl _ _ rfl w.heap.size _ [] rfl HN0.out 34 rfl (by simp) ?_; intro v3 w3 ho3 hb3; have HO3 := Lib.hid ho3; replace BW := Lib.hid (BW.out.trans hb3); clear ho3 hb3)))
      clear hall
      go_loopw [4, 5] (fun v i wr => ∃ (k : Nat) (l : List UInt8), k ≤ s.size ∧ i = .int .i64 k ∧ OwnB wr w.heap.size v l ∧ Below w.heap.size w wr ∧ Hid (l ++ Qt.body (s.data.toList.drop k) = all ∧ l.length ≤ 1 + 6 * k ∧ validD (s.data.toList.drop k) = true)) (fun _ i _ => s.size - (intOf i).toNat)
      case atStart => exact ⟨0, _, Nat.zero_le _, rfl, HO3.out, BW.out, by rw [List.drop_zero]; exact ⟨HALL.out, by simp, HVV.out⟩⟩
      case round =>
        obtain ⟨k, l, hk, rfl, hown, hbel, hinv⟩ := hrel
        have HB := Lib.hid hbel
        have HO := Lib.hid hown
        have HI := Lib.hid hinv
        clear hbel hown hinv HO3 BW
        by_cases hlt : k < s.size
        · obtain ⟨t, ht⟩ : ∃ t, s.extract k s.size = t := ⟨_, rfl⟩
          have htl : t.data.toList = s.data.toList.drop k := by rw [← ht]; exact ext_list s k
          have hts : t.size = s.size - k := by rw [← ht]; exact ext_size s k
          have hne : t.data.toList ≠ [] := fun h => by
            have : t.size = 0 := by rw [Lib.size_eq, h]; rfl
            omega
          have hwd := Qt.dec_width _ hne
          have hw4 := Qt.width4 t.data.toList
          have hrl := Qt.rune_le t.data.toList
          have hll : t.data.toList.length = t.size := (Lib.size_eq t).symm
          have hbs := Qt.body_step hne
          have hvs := Qt.valid_step hne
          obtain ⟨i1, i2, i3⟩ := HI.out
          rw [← htl] at i1 i3
          rw [hvs] at i3
          have hb : Qt.bad t.data.toList = false := by
            cases hb : Qt.bad t.data.toList with
            | false => rfl
            | true => rw [if_pos hb] at i3; cases i3
          rw [hb] at i3
          rw [hbs] at i1
          have hL := fun W => ref04_Letter_any t W (by unfold maxLen; omega)
          simp only [Qt.letterB_good (show t.size ≠ 0 by omega) hb] at hL
          obtain ⟨⟨n, d⟩, hd⟩ : ∃ d, decodeL t.data.toList = d := ⟨_, rfl⟩
          simp only [hd] at hL hwd hw4 hrl i1 i3
          obtain ⟨u, hu⟩ : ∃ u, s.extract k (k + d) = u := ⟨_, rfl⟩
          have hul : u.data.toList = t.data.toList.take d := by
            rw [htl, ← hu]
            simp [ByteArray.data_extract]
          have hus : u.size = d := by rw [← hu]; simp; omega
          have hsh := fun W => ref04_short_any n W hrl
          have HL := Lib.hid hL
          have HSH := Lib.hid hsh
          have hd0 : ¬ ((d : Int) = 0) := by omega
          have hd1 : (1 : Int) ≤ d := by omega
          have hd4 : (d : Int) ≤ 4 := by omega
          have hdk : (k : Int) + d ≤ s.size := by omega
          have hdk' : k + d ≤ s.size := by omega
          rw [htl, List.drop_drop] at i1 i3
          rw [← htl, ← hul] at i1
          have el := Qt.esc_length n u.data.toList (by rw [← Lib.size_eq, hus]; exact hw4)
          have HJ := Lib.hid (show (l ++ Qt.esc n u.data.toList) ++ Qt.body (s.data.toList.drop (k + d)) = all ∧ (l ++ Qt.esc n u.data.toList).length ≤ 1 + 6 * (k + d) ∧ validD (s.data.toList.drop (k + d)) = true from ⟨by rw [List.append_assoc]; exact i1, by rw [List.length_append]; omega, by simpa using i3⟩)
          have hl6 : l.length ≤ 8000000 := by omega
          have HL6 := Lib.hid hl6
          clear hL hsh htl hul hwd hw4 i1 i2 i3 hbs hvs hb hd hne hll HI HALL
          by_cases hs0 : Qt.short n = 0
          · have hs1 : ¬ (0 : Int) < (Qt.short n : Int) := by omega
            by_cases hn : n < 32 ∨ n = 127
            · have HE := Lib.hid (show Qt.esc n u.data.toList = 92 :: 117 :: Qt.hx n 4 by unfold Qt.esc; rw [if_neg (by omega), if_pos hn])
              have hhx := fun W => ref04_hexs_any n W hrl
              have hhl := Qt.hx_length n 4
              obtain ⟨q, hq⟩ : ∃ q : ByteArray, ⟨#[92, 117]⟩ ++ (⟨(Qt.hx n 4).toArray⟩ : ByteArray) = q := ⟨_, rfl⟩
              have hql : q.data.toList = 92 :: 117 :: Qt.hx n 4 := by rw [← hq]; simp
              have hqs : q.size ≤ 6 := by rw [Lib.size_eq, hql]; simp [hhl]
              have HHX := Lib.hid hhx
              have HQL := Lib.hid hql
              clear hhx hhl hql el hs0 hu
              rcases hn with hn | hn
              · have hnz : (n : Int) < 32 := by omega
                go_wp2_with (first
                  | (go_at_call 35; refine (HL.out _).mono ?_; rintro e w2 ⟨rfl, hb2⟩; replace HB := Lib.hid (HB.out.trans (hb2.mono HB.out.size)); replace HO := Lib.hid (HO.out.on hb2); clear hb2)
                  | (go_at_call 36; refine (HSH.out _).mono ?_; rintro e w4 ⟨rfl, rfl⟩)
                  | (go_at_call 37; refine (HHX.out _).mono ?_; rintro e w5 ⟨rfl, hb5⟩; replace HB := Lib.hid (HB.out.trans (hb5.mono HB.out.size)); replace HO := Lib.hid (HO.out.on hb5); clear hb5)
                  | (at_builtin; (refine wpList_append_str rfl _ _ rfl w.heap.size _ l rfl HO.out q rfl (by have := HL6.out; omega) ?_; intro v3 w3 ho3 hb3; have HO3 := Lib.hid ho3; have HB3 := Lib.hid (HB.out.trans hb3); clear ho3 hb3 HO)))
                go_roundw
                case rel => exact ⟨k + d, l ++ Qt.esc n u.data.toList, by omega, by go_num, by rw [HE.out, ← HQL.out]; exact HO3.out, HB3.out, HJ.out⟩
                case measure => simp [intOf]; omega
              · subst hn
                go_wp2_with (first
                  | (go_at_call 35; refine (HL.out _).mono ?_; rintro e w2 ⟨rfl, hb2⟩; replace HB := Lib.hid (HB.out.trans (hb2.mono HB.out.size)); replace HO := Lib.hid (HO.out.on hb2); clear hb2)
                  | (go_at_call 36; refine (HSH.out _).mono ?_; rintro e w4 ⟨rfl, rfl⟩)
                  | (go_at_call 37; refine (HHX.out _).mono ?_; rintro e w5 ⟨rfl, hb5⟩; replace HB := Lib.hid (HB.out.trans (hb5.mono HB.out.size)); replace HO := Lib.hid (HO.out.on hb5); clear hb5)
                  | (at_builtin; (refine wpList_append_str rfl _ _ rfl w.heap.size _ l rfl HO.out q rfl (by have := HL6.out; omega) ?_; intro v3 w3 ho3 hb3; have HO3 := Lib.hid ho3; have HB3 := Lib.hid (HB.out.trans hb3); clear ho3 hb3 HO)))
                go_roundw
                case rel => exact ⟨k + d, l ++ Qt.esc 127 u.data.toList, by omega, by go_num, by rw [HE.out, ← HQL.out]; exact HO3.out, HB3.out, HJ.out⟩
                case measure => simp [intOf]; omega
            · have hn1 : ¬ (n : Int) < 32 := by omega
              have hn2 : ((n : Int) == 127) = false := by rw [beq_eq_false_iff_ne]; omega
              have HE := Lib.hid (show Qt.esc n u.data.toList = u.data.toList by unfold Qt.esc; rw [if_neg (by omega), if_neg hn])
              clear el hs0 hn
              go_wp2_with (first
                | (go_at_call 35; refine (HL.out _).mono ?_; rintro e w2 ⟨rfl, hb2⟩; replace HB := Lib.hid (HB.out.trans (hb2.mono HB.out.size)); replace HO := Lib.hid (HO.out.on hb2); clear hb2)
                | (go_at_call 36; refine (HSH.out _).mono ?_; rintro e w4 ⟨rfl, rfl⟩)
                | (at_builtin; (refine wpList_append_str rfl _ _ rfl w.heap.size _ l rfl HO.out u rfl (by have := HL6.out; omega) ?_; intro v3 w3 ho3 hb3; have HO3 := Lib.hid ho3; have HB3 := Lib.hid (HB.out.trans hb3); clear ho3 hb3 HO)))
              go_roundw
              case rel => exact ⟨k + d, l ++ Qt.esc n u.data.toList, by omega, by go_num, by rw [HE.out]; exact HO3.out, HB3.out, HJ.out⟩
              case measure => simp [intOf]; omega
          · have hs1 : (0 : Int) < (Qt.short n : Int) := by omega
            have HE := Lib.hid (show Qt.esc n u.data.toList = [92, UInt8.ofNat (Qt.short n)] by unfold Qt.esc; rw [if_pos hs0])
            have hs2 : ∀ x ∈ [92, Qt.short n], x < 256 := by intro x hx; have := Qt.short_lt n; simp at hx; omega
            have HS2 := Lib.hid hs2
            clear el hs0 hs2 hu
            go_wp2_with (first
              | (go_at_call 35; refine (HL.out _).mono ?_; rintro e w2 ⟨rfl, hb2⟩; replace HB := Lib.hid (HB.out.trans (hb2.mono HB.out.size)); replace HO := Lib.hid (HO.out.on hb2); clear hb2; have hcv := bytes_conv [92, Qt.short n] HS2.out w2 2 rfl #[.int .u8 92, .int .u8 (Qt.short n)] (by simp))
              | (go_at_call 36; refine (HSH.out _).mono ?_; rintro e w4 ⟨rfl, rfl⟩)
              | (at_builtin; (refine wpList_append_str rfl _ _ rfl w.heap.size _ l rfl (HO.out.on ((Below.refl _ _).alloc (Nat.le_refl _) _)) _ rfl (by have := HL6.out; simp only [ByteArray.size]; simp [u8s]; omega) ?_; intro v3 w3 ho3 hb3; have HO3 := Lib.hid ho3; have HB3 := Lib.hid ((HB.out.alloc HB.out.size _).trans hb3); clear ho3 hb3 HO)))
            go_roundw
            case rel => exact ⟨k + d, l ++ Qt.esc n u.data.toList, by omega, by go_num, by rw [HE.out]; exact HO3.out, HB3.out, HJ.out⟩
            case measure => simp [intOf]; omega
        · have he : k = s.size := by omega
          subst he
          obtain ⟨i1, i2, -⟩ := HI.out
          rw [List.drop_of_length_le (by simp), Qt.body_nil, List.append_nil] at i1
          subst i1
          have HL6 := Lib.hid (show l.length ≤ 100000000 by omega)
          clear i2 HI HALL
          go_wp2_with (first
            | (at_builtin; (refine wpList_append_byte rfl _ _ rfl w.heap.size _ l rfl HO.out 34 rfl HL6.out ?_; intro v3 w3 ho3 hb3; have hcv := ho3.conv; have HB3 := Lib.hid (HB.out.trans hb3); clear ho3 hb3 HO)))
          go_ret2
          exact ⟨rfl, HB3.out⟩
end Go.Proofs.YtlniiaopindjnaaDoor
