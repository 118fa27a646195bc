/-
  Layer 4: what is quoted is unquoted as it was: plain.
-/
import Derived.Test.YtlniiaopindjnaaDoorQuoX
import Derived.Test.YtlniiaopindjnaaDoorUnqU
namespace Go.Proofs.YtlniiaopindjnaaDoor
set_option linter.unusedVariables false
open Go.RowKit
open Go.Lib hiding intOf
namespace Qt
def gN (l : List UInt8) (k : Nat) : Nat := (ByteArray.get! ⟨l.toArray⟩ k).toNat
theorem gN_eq (l : List UInt8) (k : Nat) : gN l k = (l.getD k 0).toNat := by
  unfold gN
  by_cases h : k < l.length
  · simp [ByteArray.get!, h]
  · simp [ByteArray.get!, h]; rfl
theorem dec_gN (l : List UInt8) : decodeL l = decodeN l.length (gN l 0) (gN l 1) (gN l 2) (gN l 3) := decodeL_at ⟨l.toArray⟩
theorem gN_append (l r : List UInt8) {k : Nat} (h : k < l.length) : gN (l ++ r) k = gN l k := by
  rw [gN_eq, gN_eq, List.getD_eq_getElem?_getD, List.getD_eq_getElem?_getD, List.getElem?_append_left h]
theorem decodeN_more {n m b0 b1 b2 b3 c1 c2 c3 : Nat} (h1 : 1 < n → c1 = b1) (h2 : 2 < n → c2 = b2) (h3 : 3 < n → c3 = b3) (hb : ¬ ((decodeN n b0 b1 b2 b3).1 = 65533 ∧ (decodeN n b0 b1 b2 b3).2 = 1)) :
    decodeN (n + m) b0 c1 c2 c3 = decodeN n b0 b1 b2 b3 := by
  by_cases a0 : b0 < 128
  · simp [decodeN, a0]
  by_cases a1 : b0 / 32 = 6
  · have e2 : ¬ b0 / 16 = 14 := by omega
    have e3 : ¬ b0 / 8 = 30 := by omega
    simp only [decodeN, a0, a1, e2, e3, if_false, true_and, false_and] at hb ⊢
    by_cases hn : 1 < n
    · rw [h1 hn]
      have : 1 < n + m := by omega
      simp only [hn, this, true_and]
    · simp [hn] at hb
  by_cases a2 : b0 / 16 = 14
  · have e3 : ¬ b0 / 8 = 30 := by omega
    simp only [decodeN, a0, a1, a2, e3, if_false, true_and, false_and] at hb ⊢
    by_cases hn : 2 < n
    · rw [h1 (by omega), h2 hn]
      have t1 : 1 < n := by omega
      have t2 : 1 < n + m := by omega
      have t3 : 2 < n + m := by omega
      simp only [hn, t1, t2, t3, true_and]
    · simp [hn] at hb
  by_cases a3 : b0 / 8 = 30
  · simp only [decodeN, a0, a1, a2, a3, if_false, true_and, false_and] at hb ⊢
    by_cases hn : 3 < n
    · rw [h1 (by omega), h2 (by omega), h3 hn]
      have t1 : 1 < n := by omega
      have t2 : 1 < n + m := by omega
      have t3 : 2 < n := by omega
      have t4 : 2 < n + m := by omega
      have t5 : 3 < n + m := by omega
      simp only [hn, t1, t2, t3, t4, t5, true_and]
    · simp [hn] at hb
  · simp [decodeN, a0, a1, a2, a3] at hb
theorem dec_append {l : List UInt8} (r : List UInt8) (h : l ≠ []) (hb : bad l = false) : decodeL (l ++ r) = decodeL l := by
  have hp := List.length_pos_iff.2 h
  rw [dec_gN, dec_gN l, List.length_append, gN_append _ _ (show 0 < l.length by omega)]
  have hb' : ¬ ((decodeL l).1 = 65533 ∧ (decodeL l).2 = 1) := by simpa [bad] using hb
  rw [dec_gN] at hb'
  exact decodeN_more (fun h => gN_append _ _ h) (fun h => gN_append _ _ h) (fun h => gN_append _ _ h) hb'
theorem valid_append {b : List UInt8} (hb : validD b = true) : ∀ (n : Nat) (a : List UInt8), a.length ≤ n → validD a = true → validD (a ++ b) = true := by
  intro n
  induction n with
  | zero =>
    intro a hl ha
    have : a = [] := List.length_eq_zero_iff.1 (by omega)
    subst this
    exact hb
  | succ n ih =>
    intro a hl ha
    by_cases hne : a = []
    · subst hne; exact hb
    · rw [valid_step hne] at ha
      have hw := dec_width a hne
      cases hbad : bad a with
      | true => rw [hbad] at ha; simp at ha
      | false =>
        rw [hbad] at ha
        simp only [Bool.false_eq_true, if_false] at ha
        have hd := dec_append b hne hbad
        have hbad2 : bad (a ++ b) = false := by
          unfold bad at hbad ⊢
          rw [hd]; exact hbad
        rw [valid_step (by simp [hne]), hbad2, hd]
        simp only [Bool.false_eq_true, if_false]
        rw [List.drop_append_of_le_length hw.2]
        exact ih _ (by rw [List.length_drop]; omega) ha
theorem u8_ofNat {x : Nat} (h : x < 256) : (UInt8.ofNat x).toNat = x := by simp [UInt8.toNat_ofNat', Nat.mod_eq_of_lt h]
theorem dec_bytes {c : Nat} (hi : isLetter (c : Int) = true) : decodeL (u8s (bytesN c)) = (c, (bytesN c).length) := by
  have hi' : c ≤ 1114111 ∧ (c < 55296 ∨ 57343 < c) := by simp [isLetter] at hi; omega
  rw [dec_gN, gN_eq, gN_eq, gN_eq, gN_eq]
  unfold bytesN u8s
  by_cases h1 : c < 128
  · rw [if_pos h1]
    simp only [List.map_cons, List.map_nil, List.length_cons, List.length_nil, List.getD_cons_zero]
    rw [u8_ofNat (by omega)]
    simp [decodeN, h1]
  by_cases h2 : c < 2048
  · rw [if_neg h1, if_pos h2]
    simp only [List.map_cons, List.map_nil, List.length_cons, List.length_nil, List.getD_cons_zero, List.getD_cons_succ]
    rw [u8_ofNat (by omega), u8_ofNat (by omega)]
    have e0 : ¬ 192 + c / 64 < 128 := by omega
    have e1 : (192 + c / 64) / 32 = 6 := by omega
    have e2 : (128 + c % 64) / 64 = 2 := by omega
    have e3 : (192 + c / 64) % 32 * 64 + (128 + c % 64) % 64 = c := by omega
    have e4 : c ≥ 128 := by omega
    simp only [decodeN, e0, e1, e2, e3, e4, if_false, true_and, if_true]
    simp
  by_cases h3 : c < 65536
  · rw [if_neg h1, if_neg h2, if_pos h3]
    simp only [List.map_cons, List.map_nil, List.length_cons, List.length_nil, List.getD_cons_zero, List.getD_cons_succ]
    rw [u8_ofNat (by omega), u8_ofNat (by omega), u8_ofNat (by omega)]
    have e0 : ¬ 224 + c / 4096 < 128 := by omega
    have e1 : ¬ (224 + c / 4096) / 32 = 6 := by omega
    have e1' : (224 + c / 4096) / 16 = 14 := by omega
    have e2 : (128 + c / 64 % 64) / 64 = 2 := by omega
    have e2' : (128 + c % 64) / 64 = 2 := by omega
    have e3 : (224 + c / 4096) % 16 * 4096 + (128 + c / 64 % 64) % 64 * 64 + (128 + c % 64) % 64 = c := by omega
    have e4 : c ≥ 2048 ∧ (c < 55296 ∨ 57344 ≤ c ∧ c ≤ 1114111) := by omega
    simp only [decodeN, e0, e1, e1', e2, e2', e3, e4, if_false, true_and, if_true, false_and]
    simp
  · rw [if_neg h1, if_neg h2, if_neg h3]
    simp only [List.map_cons, List.map_nil, List.length_cons, List.length_nil, List.getD_cons_zero, List.getD_cons_succ]
    rw [u8_ofNat (by omega), u8_ofNat (by omega), u8_ofNat (by omega), u8_ofNat (by omega)]
    have e0 : ¬ 240 + c / 262144 < 128 := by omega
    have e1 : ¬ (240 + c / 262144) / 32 = 6 := by omega
    have e1' : ¬ (240 + c / 262144) / 16 = 14 := by omega
    have e1'' : (240 + c / 262144) / 8 = 30 := by omega
    have e2 : (128 + c / 4096 % 64) / 64 = 2 := by omega
    have e2' : (128 + c / 64 % 64) / 64 = 2 := by omega
    have e2'' : (128 + c % 64) / 64 = 2 := by omega
    have e3 : (240 + c / 262144) % 8 * 262144 + (128 + c / 4096 % 64) % 64 * 4096 + (128 + c / 64 % 64) % 64 * 64 + (128 + c % 64) % 64 = c := by omega
    have e4 : c ≥ 65536 ∧ (c < 55296 ∨ 57344 ≤ c ∧ c ≤ 1114111) := by omega
    simp only [decodeN, e0, e1, e1', e1'', e2, e2', e2'', e3, e4, if_false, true_and, if_true, false_and]
    simp
theorem bytesN_len (c : Nat) : 1 ≤ (bytesN c).length ∧ (bytesN c).length ≤ 4 := by
  unfold bytesN
  (repeat' split) <;> simp
theorem u8s_length (l : List Nat) : (u8s l).length = l.length := by simp [u8s]
theorem bytes_ne (c : Nat) : u8s (bytesN c) ≠ [] := fun h => by
  have h1 := (bytesN_len c).1
  have h2 := u8s_length (bytesN c)
  rw [h] at h2
  simp at h2
  omega
theorem bytes_good {c : Nat} (hi : isLetter (c : Int) = true) : bad (u8s (bytesN c)) = false := by
  unfold bad
  rw [dec_bytes hi]
  simp only [decide_eq_false_iff_not]
  rintro ⟨h1, h2⟩
  subst h1
  revert h2
  decide
theorem bytes_valid {c : Nat} (hi : isLetter (c : Int) = true) : validD (u8s (bytesN c)) = true := by
  rw [valid_step (bytes_ne c), bytes_good hi, dec_bytes hi]
  simp only [Bool.false_eq_true, if_false]
  rw [List.drop_of_length_le (by rw [u8s_length]; exact Nat.le_refl _)]
  rfl
theorem valid_letter {a : List UInt8} (ha : validD a = true) {c : Nat} (hi : isLetter (c : Int) = true) : validD (a ++ u8s (bytesN c)) = true :=
  valid_append (bytes_valid hi) a.length a (Nat.le_refl _) ha
theorem get_at {s : ByteArray} {l : List UInt8} (h : s.data.toList = l) (k : Nat) : s.get! k = l.getD k 0 := by
  obtain ⟨⟨x⟩⟩ := s
  simp at h
  subst h
  by_cases hk : k < x.length
  · simp [ByteArray.get!, hk]
  · simp [ByteArray.get!, hk]; rfl
theorem size_at {s : ByteArray} {l : List UInt8} (h : s.data.toList = l) : s.size = l.length := by rw [Lib.size_eq, h]
theorem four_hx : ∀ n : Fin 128, fourL (hx n.val 4) 0 = some n.val := by decide +kernel
theorem short_fin : ∀ n : Fin 128, short n.val ≠ 0 → tells (UInt8.ofNat (short n.val)) = n.val ∧ n.val ≠ 0 := by decide +kernel
theorem short_small {c : Nat} (h : short c ≠ 0) : c < 128 := by
  unfold short at h
  (repeat' split at h) <;> omega
theorem bytesN_head {c : Nat} (hi : isLetter (c : Int) = true) (h : 128 ≤ c) : ∃ b r, u8s (bytesN c) = b :: r ∧ 128 ≤ b.toNat := by
  have hi' : c ≤ 1114111 ∧ (c < 55296 ∨ 57343 < c) := by simp [isLetter] at hi; omega
  unfold bytesN u8s
  rw [if_neg (by omega)]
  split
  · exact ⟨_, _, rfl, by rw [u8_ofNat (by omega)]; omega⟩
  · split
    · exact ⟨_, _, rfl, by rw [u8_ofNat (by omega)]; omega⟩
    · exact ⟨_, _, rfl, by rw [u8_ofNat (by omega)]; omega⟩
theorem bytesN_first {c : Nat} (hi : isLetter (c : Int) = true) (k : Nat) (hk : k < 128) (h : c ≠ k) : ∃ b r, u8s (bytesN c) = b :: r ∧ b ≠ UInt8.ofNat k := by
  by_cases h1 : c < 128
  · refine ⟨UInt8.ofNat c, [], by simp [bytesN, u8s, h1], fun he => h ?_⟩
    have := congrArg UInt8.toNat he
    rw [u8_ofNat (by omega), u8_ofNat (by omega)] at this
    exact this
  · obtain ⟨b, r, e, hb⟩ := bytesN_head hi (by omega)
    refine ⟨b, r, e, fun he => ?_⟩
    subst he
    rw [u8_ofNat (by omega)] at hb
    omega
/-- A letter as it stands between quotes is read as that letter, whatever stands behind it. -/
theorem one_esc {s : ByteArray} {c : Nat} (hi : isLetter (c : Int) = true) (r : List UInt8) (hs : s.data.toList = esc c (u8s (bytesN c)) ++ r) :
    oneB s = (c, (esc c (u8s (bytesN c))).length) ∧ s.get! 0 ≠ 34 ∧ 1 ≤ (esc c (u8s (bytesN c))).length := by
  have hsz := size_at hs
  rw [List.length_append] at hsz
  have h0 := get_at hs 0
  have h1 := get_at hs 1
  unfold esc at hs hsz h0 h1 ⊢
  by_cases hsh : short c ≠ 0
  · rw [if_pos hsh] at hs hsz h0 h1 ⊢
    simp only [List.cons_append, List.nil_append, List.getD_cons_zero, List.getD_cons_succ, List.length_cons, List.length_nil] at h0 h1 hsz ⊢
    obtain ⟨t1, t2⟩ := short_fin ⟨c, short_small hsh⟩ hsh
    simp only at t1 t2
    refine ⟨?_, by rw [h0]; decide, by omega⟩
    unfold oneB
    rw [if_neg (by rw [h0]; simp), if_neg (by omega), h1, if_pos (by rw [t1]; exact t2), t1]
  · rw [if_neg hsh] at hs hsz h0 h1 ⊢
    by_cases hc : c < 32 ∨ c = 127
    · rw [if_pos hc] at hs hsz h0 h1 ⊢
      simp only [List.cons_append, List.getD_cons_zero, List.getD_cons_succ, List.length_cons, hx_length] at h0 h1 hsz ⊢
      refine ⟨?_, by rw [h0]; decide, by omega⟩
      unfold oneB
      rw [if_neg (by rw [h0]; simp), if_neg (by omega), h1, if_neg (by decide), if_pos rfl]
      have h4 : fourB (s.data.toList.drop 2) = some c := by
        rw [hs]
        unfold fourB
        simp only [List.cons_append, List.drop_succ_cons, List.drop_zero]
        rw [if_neg (by rw [List.length_append, hx_length]; omega)]
        rw [List.take_append_of_le_length (by rw [hx_length]; omega), List.take_of_length_le (by rw [hx_length]; omega)]
        exact four_hx ⟨c, by omega⟩
      unfold longB
      simp only [h4]
      rw [if_pos hi]
    · rw [if_neg hc] at hs hsz h0 h1 ⊢
      have hlen := bytesN_len c
      rw [u8s_length] at hsz ⊢
      have c34 : c ≠ 34 := fun h => hsh (by subst h; decide)
      have c92 : c ≠ 92 := fun h => hsh (by subst h; decide)
      obtain ⟨b, t, he, hb⟩ := bytesN_first hi 92 (by omega) c92
      obtain ⟨b', t', he', hb'⟩ := bytesN_first hi 34 (by omega) c34
      have hd : decodeL s.data.toList = (c, (bytesN c).length) := by rw [hs, dec_append r (bytes_ne c) (bytes_good hi), dec_bytes hi]
      have hbd : bad s.data.toList = false := by
        have := bytes_good hi
        unfold bad at this ⊢
        rw [hd]
        rw [dec_bytes hi] at this
        exact this
      have hlb := letterB_good (s := s) (by omega) hbd
      rw [hd] at hlb
      refine ⟨?_, ?_, by omega⟩
      · unfold oneB
        rw [if_pos, hlb, if_neg (by simp only; omega)]
        rw [h0, he]
        exact hb
      · rw [h0, he']
        exact hb'
theorem body_len (l : List UInt8) : ∀ n, l.length ≤ n → (body l).length ≤ 6 * l.length := by
  intro n
  induction n generalizing l with
  | zero =>
    intro h
    have : l = [] := List.length_eq_zero_iff.1 (by omega)
    subst this
    simp [body_nil]
  | succ n ih =>
    intro h
    by_cases hne : l = []
    · subst hne; simp [body_nil]
    · have hw := dec_width l hne
      have h4 := width4 l
      rw [body_step hne, List.length_append]
      have he := esc_length (decodeL l).1 (l.take (decodeL l).2) (by rw [List.length_take]; omega)
      have := ih (l.drop (decodeL l).2) (by rw [List.length_drop]; omega)
      rw [List.length_drop] at this
      omega
theorem drop_get {s : ByteArray} {i : Nat} {b : UInt8} {r : List UInt8} (h : s.data.toList.drop i = b :: r) : s.get! i = b ∧ i < s.size := by
  have hl : i < s.data.toList.length := by
    rcases Nat.lt_or_ge i s.data.toList.length with h' | h'
    · exact h'
    · rw [List.drop_of_length_le h'] at h; cases h
  refine ⟨?_, by rw [Lib.size_eq]; exact hl⟩
  rw [get_at rfl]
  have : (s.data.toList.drop i).getD 0 0 = b := by rw [h]; rfl
  rw [List.getD_eq_getElem?_getD, List.getElem?_drop] at this
  rw [List.getD_eq_getElem?_getD]
  simpa using this
/-- What is quoted is unquoted as it was, whatever stands behind. -/
theorem unq_body (n : Nat) : ∀ (l : List UInt8), l.length ≤ n → validD l = true → ∀ (f i : Nat) (s : ByteArray) (acc behind : List UInt8), s.data.toList.drop i = body l ++ 34 :: behind → (body l).length < f →
    i + (body l).length ≤ 524289 → unq f s i acc = (⟨(acc ++ l).toArray⟩, i + (body l).length + 1, 0) := by
  induction n with
  | zero =>
    intro l hl hv f i s acc behind hs hf hi
    have : l = [] := List.length_eq_zero_iff.1 (by omega)
    subst this
    rw [body_nil] at hs hf hi ⊢
    obtain ⟨f, rfl⟩ : ∃ g, f = g + 1 := ⟨f - 1, by simp at hf; omega⟩
    obtain ⟨h1, h2⟩ := drop_get (b := 34) hs
    simp only [List.length_nil] at hi ⊢
    rw [unq, if_neg (by omega), if_pos h1, if_neg (by omega)]
    simp
  | succ n ih =>
    intro l hl hv f i s acc behind hs hf hi
    by_cases hne : l = []
    · subst hne
      rw [body_nil] at hs hf hi ⊢
      obtain ⟨f, rfl⟩ : ∃ g, f = g + 1 := ⟨f - 1, by simp at hf; omega⟩
      obtain ⟨h1, h2⟩ := drop_get (b := 34) hs
      simp only [List.length_nil] at hi ⊢
      rw [unq, if_neg (by omega), if_pos h1, if_neg (by omega)]
      simp
    · rw [valid_step hne] at hv
      have hw := dec_width l hne
      cases hbad : bad l with
      | true => rw [hbad] at hv; simp at hv
      | false =>
        rw [hbad] at hv
        simp only [Bool.false_eq_true, if_false] at hv
        have hgb := good_bytes (s := ⟨l.toArray⟩) (by rw [Lib.size_eq]; simpa using hne) hbad
        simp only at hgb
        obtain ⟨hg1, hg2⟩ := hgb
        rw [body_step hne, hg1] at hs hf hi ⊢
        obtain ⟨c, hc⟩ : ∃ c, (decodeL l).1 = c := ⟨_, rfl⟩
        obtain ⟨d, hd⟩ : ∃ d, (decodeL l).2 = d := ⟨_, rfl⟩
        rw [hc] at hg1 hg2 hs hf hi ⊢
        rw [hd] at hg1 hs hf hi hv hw ⊢
        rw [List.append_assoc] at hs
        have hx : (s.extract i s.size).data.toList = esc c (u8s (bytesN c)) ++ (body (l.drop d) ++ 34 :: behind) := by rw [ext_list]; exact hs
        obtain ⟨o1, o2, o3⟩ := one_esc hg2 _ hx
        rw [List.length_append] at hf hi ⊢
        obtain ⟨f, rfl⟩ : ∃ g, f = g + 1 := ⟨f - 1, by omega⟩
        have hl0 : i < s.size := by
          have := congrArg List.length hs
          rw [List.length_drop, List.length_append, ← Lib.size_eq] at this
          omega
        have hn34 : s.get! i ≠ 34 := by
          obtain ⟨b, t, ht⟩ : ∃ b t, s.data.toList.drop i = b :: t := by
            cases hq : s.data.toList.drop i with
            | nil => rw [hq] at hs; have := congrArg List.length hs; simp at this
            | cons b t => exact ⟨b, t, rfl⟩
          rw [(drop_get ht).1]
          have hz := get_at (s := s.extract i s.size) (l := b :: t) (by rw [ext_list]; exact ht) 0
          rw [hz] at o2
          exact o2
        rw [unq, if_neg (by omega), if_neg hn34, o1, if_neg (by simp only; omega)]
        simp only
        rw [ih (l.drop d) (by rw [List.length_drop]; omega) hv f (i + (esc c (u8s (bytesN c))).length) s _ behind ?_ (by omega) (by omega)]
        · rw [List.append_assoc, ← hg1, List.take_append_drop]
          congr 2
          omega
        · rw [← List.drop_drop, hs, List.drop_left]
theorem unquote_quote {l : List UInt8} (hv : validD l = true) (hl : l.length ≤ 65536) (behind : List UInt8) (s : ByteArray) (hs : s.data.toList = 34 :: body l ++ [34] ++ behind) :
    unquoteD s = (⟨l.toArray⟩, (body l).length + 2, 0) := by
  have hb := body_len l _ (Nat.le_refl _)
  have hsz := size_at hs
  simp only [List.length_append, List.length_cons, List.length_nil] at hsz
  unfold unquoteD
  rw [if_neg]
  · rw [unq_body l.length l (Nat.le_refl _) hv s.size 1 s [] behind (by rw [hs]; simp) (by omega) (by omega)]
    simp
    omega
  · rintro (h | h)
    · omega
    · exact h (by rw [get_at hs]; rfl)
/-- What is told is letters, and not much. -/
theorem unq_told : ∀ (f : Nat) (s : ByteArray) (i : Nat) (acc : List UInt8), validD acc = true → (unq f s i acc).2.2 = 0 → validD (unq f s i acc).1.data.toList = true ∧ (unq f s i acc).1.size ≤ acc.length + 4 * (s.size - i)
  | 0, s, i, acc, _, h => by simp [unq] at h
  | f + 1, s, i, acc, hv, h => by
    rw [unq] at h ⊢
    by_cases h1 : s.size ≤ i
    · rw [if_pos h1] at h; simp at h
    · rw [if_neg h1] at h ⊢
      by_cases h2 : s.get! i = 34
      · rw [if_pos h2] at h ⊢
        by_cases h3 : 524288 < i - 1
        · rw [if_pos h3] at h; simp at h
        · rw [if_neg h3]
          exact ⟨hv, by rw [Lib.size_eq]; simp⟩
      · rw [if_neg h2] at h ⊢
        by_cases h3 : (oneB (s.extract i s.size)).2 = 0
        · rw [if_pos h3] at h; simp at h
        · rw [if_neg h3] at h ⊢
          obtain ⟨g1, g2⟩ := oneB_facts h3
          have hb := bytesN_len (oneB (s.extract i s.size)).1
          obtain ⟨e1, e2⟩ := unq_told f s _ _ (valid_letter hv g1) h
          refine ⟨e1, Nat.le_trans e2 ?_⟩
          rw [List.length_append, u8s_length]
          rw [ext_size] at g2
          omega
theorem unq_none : ∀ (f : Nat) (s : ByteArray) (i : Nat) (acc : List UInt8), (unq f s i acc).2.2 ≠ 0 → (unq f s i acc).1 = ⟨#[]⟩
  | 0, s, i, acc, h => rfl
  | f + 1, s, i, acc, h => by
    rw [unq] at h ⊢
    by_cases h1 : s.size ≤ i
    · rw [if_pos h1]
    · rw [if_neg h1] at h ⊢
      by_cases h2 : s.get! i = 34
      · rw [if_pos h2] at h ⊢
        by_cases h3 : 524288 < i - 1
        · rw [if_pos h3]
        · rw [if_neg h3] at h; simp at h
      · rw [if_neg h2] at h ⊢
        by_cases h3 : (oneB (s.extract i s.size)).2 = 0
        · rw [if_pos h3]
        · rw [if_neg h3] at h ⊢
          exact unq_none f s _ _ h
theorem unquote_told {s : ByteArray} (h : (unquoteD s).2.2 = 0) : validD (unquoteD s).1.data.toList = true ∧ (unquoteD s).1.size ≤ 4 * s.size := by
  unfold unquoteD at h ⊢
  split at h
  · simp at h
  · rename_i h1
    rw [if_neg h1]
    obtain ⟨e1, e2⟩ := unq_told s.size s 1 [] rfl h
    exact ⟨e1, by simp at e2; omega⟩
theorem unquote_none {s : ByteArray} (h : (unquoteD s).2.2 ≠ 0) : (unquoteD s).1 = ⟨#[]⟩ := by
  unfold unquoteD at h ⊢
  split at h
  · rename_i h1; rw [if_pos h1]
  · rename_i h1
    rw [if_neg h1]
    exact unq_none s.size s 1 [] h
theorem quote_size {s : ByteArray} (h : s.size ≤ 65536) : (quoteD s).1.size ≤ 400000 := by
  unfold quoteD
  split
  · simp [ByteArray.size]
  · split
    · omega
    · have hb := body_len s.data.toList _ (Nat.le_refl _)
      rw [← Lib.size_eq] at hb
      rw [Lib.size_eq]
      simp
      omega
/-- The two halves of the law, plain. -/
theorem back {s : ByteArray} (hv : validD s.data.toList = true) (hs : s.size ≤ 65536) : (quoteD s).2 = 0 ∧ ∀ behind : ByteArray, unquoteD ((quoteD s).1 ++ behind) = (s, (quoteD s).1.size, 0) := by
  have hq : quoteD s = (⟨(34 :: body s.data.toList ++ [34]).toArray⟩, 0) := by
    unfold quoteD
    rw [if_neg (by rw [hv]; simp), if_neg (by omega)]
  rw [hq]
  refine ⟨rfl, fun behind => ?_⟩
  rw [unquote_quote hv (by rw [← Lib.size_eq]; exact hs) behind.data.toList _ (by simp [ByteArray.data_append])]
  refine Prod.ext ?_ (Prod.ext ?_ rfl)
  · rfl
  · simp only; rw [Lib.size_eq]; simp
theorem quote_bad {s : ByteArray} (hv : validD s.data.toList = false) : quoteD s = (⟨#[]⟩, 2) := by unfold quoteD; rw [if_pos hv]
end Qt
end Go.Proofs.YtlniiaopindjnaaDoor
