/-
  Layer 4's document: Unquote, walked.
-/
import Derived.Test.YtlniiaopindjnaaDoorUnqO
import Derived.Test.YtlniiaopindjnaaDoorQuoW
namespace Go.Proofs.YtlniiaopindjnaaDoor
set_option linter.unusedVariables false
open Go.RowKit
open Go.Lib hiding intOf
namespace Qt
theorem letterB_facts {s : ByteArray} (h : (letterB s).2 ≠ 0) : isLetter ((letterB s).1 : Int) = true ∧ (letterB s).2 ≤ s.size := by
  by_cases h0 : s.size = 0
  · rw [letterB_none (.inl h0)] at h; exact absurd rfl h
  · cases hb : bad s.data.toList with
    | true => rw [letterB_bad h0 hb] at h; exact absurd rfl h
    | false =>
      rw [letterB_good h0 hb]
      have hw := dec_width s.data.toList (fun hn => h0 (by rw [Lib.size_eq, hn]; rfl))
      exact ⟨(good_bytes h0 hb).2, by rw [Lib.size_eq]; exact hw.2⟩
theorem fourB_len {l : List UInt8} {n : Nat} (h : fourB l = some n) : 4 ≤ l.length := by
  unfold fourB at h
  split at h
  · cases h
  · omega
theorem longB_facts {s : ByteArray} (h : (longB s).2 ≠ 0) : isLetter ((longB s).1 : Int) = true ∧ (longB s).2 ≤ s.size := by
  unfold longB at h ⊢
  cases e2 : fourB (s.data.toList.drop 2) with
  | none => simp only [e2] at h; exact absurd rfl h
  | some n =>
    have hl := fourB_len e2
    rw [List.length_drop, ← Lib.size_eq] at hl
    have hn := fourB_lt e2
    simp only [e2] at h ⊢
    by_cases hi : isLetter (n : Int) = true
    · rw [if_pos hi]
      exact ⟨hi, by simp only; omega⟩
    · rw [if_neg hi] at h ⊢
      have hr : 55296 ≤ n ∧ n ≤ 57343 := by simp [isLetter] at hi; omega
      by_cases hb : 56319 < n ∨ s.size < 12 ∨ s.get! 6 ≠ 92 ∨ s.get! 7 ≠ 117
      · rw [if_pos hb] at h; exact absurd rfl h
      · rw [if_neg hb] at h ⊢
        cases e8 : fourB (s.data.toList.drop 8) with
        | none => simp only [e8] at h; exact absurd rfl h
        | some m =>
          simp only [e8] at h ⊢
          by_cases hm : m < 56320 ∨ 57343 < m
          · rw [if_pos hm] at h; exact absurd rfl h
          · rw [if_neg hm]
            refine ⟨?_, by simp only; omega⟩
            simp [isLetter]
            omega
theorem oneB_facts {s : ByteArray} (h : (oneB s).2 ≠ 0) : isLetter ((oneB s).1 : Int) = true ∧ (oneB s).2 ≤ s.size := by
  unfold oneB at h ⊢
  by_cases h0 : s.get! 0 ≠ 92
  · simp only [if_pos h0] at h ⊢
    by_cases hb : (letterB s).2 = 0 ∨ (letterB s).1 < 32 ∨ (letterB s).1 = 34
    · simp only [if_pos hb] at h; exact absurd rfl h
    · simp only [if_neg hb] at h ⊢
      exact letterB_facts h
  · simp only [if_neg h0] at h ⊢
    by_cases h2 : s.size < 2
    · simp only [if_pos h2] at h; exact absurd rfl h
    · simp only [if_neg h2] at h ⊢
      by_cases ht : tells (s.get! 1) ≠ 0
      · simp only [if_pos ht] at h ⊢
        have hlt : tells (s.get! 1) < 256 := by
          have := UInt8.toNat_lt (s.get! 1)
          unfold tells
          (repeat' split) <;> omega
        exact ⟨by simp [isLetter]; omega, by omega⟩
      · simp only [if_neg ht] at h ⊢
        by_cases hu : s.get! 1 = 117
        · simp only [if_pos hu] at h ⊢
          exact longB_facts h
        · simp only [if_neg hu] at h; exact absurd rfl h
/-- A text between quotes, read on from place i, behind what was told till there. -/
def unq : Nat → ByteArray → Nat → List UInt8 → ByteArray × Nat × Nat
  | 0, _, _, _ => (⟨#[]⟩, 0, 2)
  | f + 1, s, i, acc => if s.size ≤ i then (⟨#[]⟩, 0, 2) else if s.get! i = 34 then (if 524288 < i - 1 then (⟨#[]⟩, 0, 5) else (⟨acc.toArray⟩, i + 1, 0))
    else if (oneB (s.extract i s.size)).2 = 0 then (⟨#[]⟩, 0, 2) else unq f s (i + (oneB (s.extract i s.size)).2) (acc ++ u8s (bytesN (oneB (s.extract i s.size)).1))
def unquoteD (s : ByteArray) : ByteArray × Nat × Nat := if s.size = 0 ∨ s.get! 0 ≠ 34 then (⟨#[]⟩, 0, 2) else unq s.size s 1 []
end Qt

set_option maxHeartbeats 4000000 in
set_option maxRecDepth 100000 in
theorem ref04_Unquote_any (s : ByteArray) (w : World) (hs : s.size ≤ 1000000) : Calls Tryd.prog 15 #[.string s] w fun e w' => e = .returned (.tuple #[.string (Qt.unquoteD s).1, .int .i64 (Qt.unquoteD s).2.1, .int .i64 (Qt.unquoteD s).2.2]) ∧ Below w.heap.size w w' := by
  by_cases h0 : s.size = 0
  · have he : s.toList.isEmpty = true := by rw [empty_eq]; simp [h0]
    have HL := Lib.hid (show Qt.unquoteD s = (⟨#[]⟩, 0, 2) by unfold Qt.unquoteD; rw [if_pos (.inl h0)])
    go_enter Tryd.func15, Tryd.ntmps15
    go_wp2_with fail
    go_ret3
    exact ⟨by rw [HL.out]; rfl, Below.refl _ _⟩
  · have he : s.toList.isEmpty = false := by rw [empty_eq]; simp [h0]
    have l0 : 0 < s.size := by omega
    obtain ⟨c0, hc0⟩ : ∃ c0, s.get! 0 = c0 := ⟨_, rfl⟩
    have hs0 : s[0]'l0 = c0 := by rw [← hc0]; exact (Utf8W.get!_of_lt s 0 (by omega)).symm
    by_cases h34 : c0 = 34
    · subst h34
      obtain ⟨R, hR⟩ : ∃ R, Qt.unquoteD s = R := ⟨_, rfl⟩
      have hr : Qt.unq s.size s 1 [] = R := by rw [← hR]; unfold Qt.unquoteD; rw [if_neg (fun h => h.elim h0 (fun h => h hc0))]
      rw [hR]
      have HR := Lib.hid hr
      clear hr hR
      go_enter Tryd.func15, Tryd.ntmps15
      go_wp2_with fail
      go_loopw [5, 6] (fun v i wr => ∃ (k f : Nat) (l : List UInt8), 1 ≤ k ∧ k ≤ s.size ∧ i = .int .i64 k ∧ OwnB wr w.heap.size v l ∧ Below w.heap.size w wr ∧ l.length ≤ 4 * k ∧ Hid (s.size < k + f ∧ Qt.unq f s k l = R)) (fun _ i _ => s.size - (intOf i).toNat)
      case atStart => exact ⟨1, s.size, [], by omega, by omega, rfl, OwnB.nil _ _ (Nat.le_refl _), Below.refl _ _, by simp, by omega, HR.out⟩
      case round =>
        obtain ⟨k, f, l, hk1, hk, rfl, hown, hbel, hll, hinv⟩ := hrel
        have HB := Lib.hid hbel
        have HO := Lib.hid hown
        obtain ⟨hf, hu⟩ := hinv.out
        obtain ⟨g, rfl⟩ : ∃ g, f = g + 1 := ⟨f - 1, by omega⟩
        rw [Qt.unq] at hu
        clear hbel hown hinv HR
        by_cases hlt : k < s.size
        · rw [if_neg (by omega)] at hu
          obtain ⟨c, hc⟩ : ∃ c, s.get! k = c := ⟨_, rfl⟩
          have hsk : s[k]'hlt = c := by rw [← hc]; exact (Utf8W.get!_of_lt s k (by omega)).symm
          have hkz : (k : Int) < s.size := by omega
          rw [hc] at hu
          by_cases hq : c = 34
          · subst hq
            rw [if_pos rfl] at hu
            have hcv := HO.out.conv
            by_cases hbig : 524288 < k - 1
            · have hbz : (524288 : Int) < (k : Int) - 1 := by omega
              rw [if_pos hbig] at hu
              subst hu
              clear hbig
              go_wp2_with fail
              go_ret3
              exact ⟨rfl, HB.out⟩
            · have hbz : ¬ (524288 : Int) < (k : Int) - 1 := by omega
              rw [if_neg hbig] at hu
              subst hu
              clear hbig
              go_wp2_with fail
              go_ret3
              exact ⟨rfl, HB.out⟩
          · rw [if_neg hq] at hu
            have hqz : ((c.toNat : Int) == 34) = false := u8_beq_false 34 (by decide) hq
            obtain ⟨t, ht⟩ : ∃ t, s.extract k s.size = t := ⟨_, rfl⟩
            have hts : t.size = s.size - k := by rw [← ht]; exact ext_size s k
            have ho1 := fun W => ref04_one_any t W (by omega) (by omega)
            have hfa := Qt.oneB_facts (s := t)
            rw [ht] at hu
            obtain ⟨⟨n, d⟩, hd⟩ : ∃ d, Qt.oneB t = d := ⟨_, rfl⟩
            simp only [hd] at ho1 hfa hu
            have HO1 := Lib.hid ho1
            by_cases hd0 : d = 0
            · subst hd0
              rw [if_pos rfl] at hu
              subst hu
              clear hq hd ho1 hfa hc
              go_wp2_with (go_at_call 40; refine (HO1.out _).mono ?_; rintro e w2 ⟨rfl, hb2⟩; replace HB := Lib.hid (HB.out.trans (hb2.mono HB.out.size)); clear hb2)
              go_ret3
              exact ⟨rfl, HB.out⟩
            · rw [if_neg hd0] at hu
              obtain ⟨hi, hdt⟩ := hfa hd0
              obtain ⟨m, hm, hm2⟩ := Qt.isLetter_nat hi
              have hmn : n = m := by omega
              subst hmn
              have HBY := Lib.hid (fun W => ref04_Bytes_any n W hm2)
              have hdz : ((d : Int) == 0) = false := by rw [beq_eq_false_iff_ne]; omega
              have hdk : k + d ≤ s.size := by omega
              have hd1 : 1 ≤ d := by omega
              have hbl : (Qt.bytesN n).length ≤ 4 := by unfold Qt.bytesN; (repeat' split) <;> simp
              have hul : (u8s (Qt.bytesN n)).length ≤ 4 := by simpa [u8s] using hbl
              have HU := Lib.hid hu
              obtain ⟨q, hq'⟩ : ∃ q : ByteArray, (⟨(u8s (Qt.bytesN n)).toArray⟩ : ByteArray) = q := ⟨_, rfl⟩
              have hql : q.data.toList = u8s (Qt.bytesN n) := by rw [← hq']
              have hqs : q.size ≤ 4 := by rw [Lib.size_eq, hql]; exact hul
              have hby := HBY.out
              rw [hq'] at hby
              have HBZ := Lib.hid hby
              have HQL := Lib.hid hql
              have hl8 : l.length + q.size ≤ 100000000 := by omega
              have HL8 := Lib.hid hl8
              have HLL := Lib.hid (show (l ++ u8s (Qt.bytesN n)).length ≤ 4 * (k + d) by rw [List.length_append]; omega)
              clear hq hd ho1 hfa hc hd0 hi hm hm2 hbl hul hu hby HBY hql hq' hl8
              go_wp2_with (first
                | (go_at_call 40; refine (HO1.out _).mono ?_; rintro e w2 ⟨rfl, hb2⟩; replace HB := Lib.hid (HB.out.trans (hb2.mono HB.out.size)); replace HO := Lib.hid (HO.out.on hb2); clear hb2)
                | (go_at_call 41; refine (HBZ.out _).mono ?_; rintro e w4 ⟨rfl, hb4⟩; replace HB := Lib.hid (HB.out.trans (hb4.mono HB.out.size)); replace HO := Lib.hid (HO.out.on hb4); clear hb4)
                | (at_builtin; (refine wpList_append_str rfl _ _ rfl w.heap.size _ l rfl HO.out q rfl HL8.out ?_; intro v3 w3 ho3 hb3; have HO3 := Lib.hid ho3; have HB3 := Lib.hid (HB.out.trans hb3); clear ho3 hb3 HO)))
              go_roundw
              case rel => exact ⟨k + d, g, l ++ u8s (Qt.bytesN n), by omega, by omega, by go_num, by rw [← HQL.out]; exact HO3.out, HB3.out, HLL.out, by omega, HU.out⟩
              case measure => simp [intOf]; omega
        · rw [if_pos (by omega)] at hu
          subst hu
          have he : k = s.size := by omega
          subst he
          go_wp2_with fail
          go_ret3
          exact ⟨rfl, HB.out⟩
    · have hq : ((c0.toNat : Int) != 34) = true := u8_bne_true 34 (by decide) h34
      have HL := Lib.hid (show Qt.unquoteD s = (⟨#[]⟩, 0, 2) by unfold Qt.unquoteD; rw [if_pos (.inr (by rw [hc0]; exact h34))])
      clear h34 hc0
      go_enter Tryd.func15, Tryd.ntmps15
      go_wp2_with fail
      go_ret3
      exact ⟨by rw [HL.out]; rfl, Below.refl _ _⟩
end Go.Proofs.YtlniiaopindjnaaDoor
