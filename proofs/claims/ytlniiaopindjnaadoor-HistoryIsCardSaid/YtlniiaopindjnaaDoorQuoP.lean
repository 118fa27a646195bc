/-
  Layer 4: letters and their bytes: plain numbers and lists. What the document's answer decodes is what the model decodes.
-/
import Derived.Lib.DecodeN
import Derived.Lib.ValidLaws
import Derived.Lib.RuneBytes
set_option linter.unusedVariables false
namespace Go.Proofs.YtlniiaopindjnaaDoor
set_option linter.unusedVariables false
open Go.Lib
namespace Qt

/-- A letter's bytes, as numbers. -/
def bytesN (n : Nat) : List Nat :=
  if n < 128 then [n] else if n < 2048 then [192 + n / 64, 128 + n % 64] else if n < 65536 then [224 + n / 4096, 128 + n / 64 % 64, 128 + n % 64]
  else [240 + n / 262144, 128 + n / 4096 % 64, 128 + n / 64 % 64, 128 + n % 64]
def isLetter (n : Int) : Bool := decide (0 ≤ n) && decide (n ≤ 1114111) && (decide (n < 55296) || decide (57343 < n))
/-- How many bytes a letter has that begins with a byte. -/
def lenN (b : Nat) : Nat := if b < 128 then 1 else if 192 ≤ b ∧ b < 224 then 2 else if 224 ≤ b ∧ b < 240 then 3 else if 240 ≤ b ∧ b < 248 then 4 else 0
/-- The number that k bytes tell. -/
def numN (k b0 b1 b2 b3 : Nat) : Int :=
  if k = 1 then b0 else if k = 2 then ((b0 : Int) - 192) * 64 + b1 - 128 else if k = 3 then (((b0 : Int) - 224) * 64 + b1 - 128) * 64 + b2 - 128
  else ((((b0 : Int) - 240) * 64 + b1 - 128) * 64 + b2 - 128) * 64 + b3 - 128
def takeN (k b0 b1 b2 b3 : Nat) : List Nat := [b0, b1, b2, b3].take k
/-- The letter that begins a text of n bytes that begins b0 b1 b2 b3, and how many bytes it has; 0: there is none. -/
def letterN (n b0 b1 b2 b3 : Nat) : Nat × Nat :=
  if lenN b0 = 0 ∨ n < lenN b0 then (0, 0)
  else if isLetter (numN (lenN b0) b0 b1 b2 b3) = true ∧ bytesN (numN (lenN b0) b0 b1 b2 b3).toNat = takeN (lenN b0) b0 b1 b2 b3 then ((numN (lenN b0) b0 b1 b2 b3).toNat, lenN b0)
  else (0, 0)
def shut (d : Nat × Nat) : Nat × Nat := if d.1 = 65533 ∧ d.2 = 1 then (0, 0) else d

theorem letterN_1 {n b0 b1 b2 b3 : Nat} (hn : 1 ≤ n) (h : b0 < 128) : letterN n b0 b1 b2 b3 = shut (decodeN n b0 b1 b2 b3) := by
  have hl : lenN b0 = 1 := by simp [lenN, h]
  have hd : decodeN n b0 b1 b2 b3 = (b0, 1) := by simp [decodeN, h]
  rw [hd]
  unfold letterN
  rw [hl]
  have h1 : ¬ ((1 : Nat) = 0 ∨ n < 1) := by omega
  have hv : numN 1 b0 b1 b2 b3 = b0 := by simp [numN]
  rw [if_neg h1, hv]
  have hi : isLetter (b0 : Int) = true := by simp [isLetter]; omega
  have hb : bytesN ((b0 : Int).toNat) = takeN 1 b0 b1 b2 b3 := by simp [bytesN, takeN, h]
  rw [if_pos ⟨hi, hb⟩]
  simp [shut]
  omega
theorem letterN_2 {n b0 b1 b2 b3 : Nat} (h : 192 ≤ b0 ∧ b0 < 224) (h1 : b1 < 256) : letterN n b0 b1 b2 b3 = shut (decodeN n b0 b1 b2 b3) := by
  have hl : lenN b0 = 2 := by unfold lenN; rw [if_neg (by omega), if_pos h]
  unfold letterN
  rw [hl]
  have hv : numN 2 b0 b1 b2 b3 = ((b0 : Int) - 192) * 64 + b1 - 128 := by simp [numN]
  rw [hv]
  have hd : decodeN n b0 b1 b2 b3 = if 1 < n ∧ b1 / 64 = 2 then (if b0 % 32 * 64 + b1 % 64 ≥ 128 then (b0 % 32 * 64 + b1 % 64, 2) else (65533, 1)) else (65533, 1) := by
    have e1 : b0 / 32 = 6 := by omega
    have e2 : ¬ b0 / 16 = 14 := by omega
    have e3 : ¬ b0 / 8 = 30 := by omega
    have e0 : ¬ b0 < 128 := by omega
    simp only [decodeN, e0, e1, e2, e3, if_false, true_and, false_and]
  rw [hd]
  by_cases hn : n < 2
  · rw [if_pos (Or.inr hn), if_neg (by omega)]
    simp [shut]
  · rw [if_neg (by omega)]
    by_cases hc : b1 / 64 = 2
    · have hm : (((b0 : Int) - 192) * 64 + b1 - 128) = ((b0 % 32 * 64 + b1 % 64 : Nat) : Int) := by omega
      rw [hm, if_pos (show 1 < n ∧ b1 / 64 = 2 from ⟨by omega, hc⟩)]
      generalize hx : b0 % 32 * 64 + b1 % 64 = x
      rw [Int.toNat_natCast]
      by_cases hg : x ≥ 128
      · have hi : isLetter (x : Int) = true := by simp [isLetter]; omega
        have hb : bytesN x = takeN 2 b0 b1 b2 b3 := by
          unfold bytesN takeN
          rw [if_neg (by omega), if_pos (by omega)]
          simp only [List.take, List.cons.injEq, and_true]
          omega
        rw [if_pos ⟨hi, hb⟩, if_pos hg]
        simp [shut]
      · have hb : ¬ bytesN x = takeN 2 b0 b1 b2 b3 := by
          unfold bytesN takeN
          rw [if_pos (by omega)]
          simp
        rw [if_neg (fun h => hb h.2), if_neg hg]
        simp [shut]
    · rw [if_neg (show ¬ (1 < n ∧ b1 / 64 = 2) from fun h => hc h.2)]
      have hb : ¬ (isLetter (((b0 : Int) - 192) * 64 + b1 - 128) = true ∧ bytesN (((b0 : Int) - 192) * 64 + b1 - 128).toNat = takeN 2 b0 b1 b2 b3) := by
        rintro ⟨hi, hb⟩
        have h0 : 0 ≤ ((b0 : Int) - 192) * 64 + b1 - 128 := by simp [isLetter] at hi; omega
        obtain ⟨x, hx⟩ := Int.eq_ofNat_of_zero_le h0
        rw [hx, Int.toNat_natCast] at hb
        unfold bytesN takeN at hb
        repeat' split at hb
        all_goals simp at hb
        all_goals omega
      rw [if_neg hb]
      simp [shut]
theorem letterN_3 {n b0 b1 b2 b3 : Nat} (h : 224 ≤ b0 ∧ b0 < 240) (h1 : b1 < 256) (h2 : b2 < 256) : letterN n b0 b1 b2 b3 = shut (decodeN n b0 b1 b2 b3) := by
  have hl : lenN b0 = 3 := by unfold lenN; (repeat' split) <;> omega
  unfold letterN
  rw [hl]
  have hv : numN 3 b0 b1 b2 b3 = (((b0 : Int) - 224) * 64 + b1 - 128) * 64 + b2 - 128 := by simp [numN]
  rw [hv]
  have hd : decodeN n b0 b1 b2 b3 = if (1 < n ∧ b1 / 64 = 2) ∧ (2 < n ∧ b2 / 64 = 2) then (if (b0 % 16 * 4096 + b1 % 64 * 64 + b2 % 64) ≥ 2048 ∧ ((b0 % 16 * 4096 + b1 % 64 * 64 + b2 % 64) < 55296 ∨ (57344 ≤ (b0 % 16 * 4096 + b1 % 64 * 64 + b2 % 64) ∧ (b0 % 16 * 4096 + b1 % 64 * 64 + b2 % 64) ≤ 1114111)) then (b0 % 16 * 4096 + b1 % 64 * 64 + b2 % 64, 3) else (65533, 1)) else (65533, 1) := by
    have e1 : ¬ b0 / 32 = 6 := by omega
    have e2 : b0 / 16 = 14 := by omega
    have e3 : ¬ b0 / 8 = 30 := by omega
    have e0 : ¬ b0 < 128 := by omega
    simp only [decodeN, e0, e1, e2, e3, if_false, true_and, false_and]
  rw [hd]
  by_cases hn : n < 3
  · rw [if_pos (Or.inr hn), if_neg (by omega)]
    simp [shut]
  · rw [if_neg (by omega)]
    by_cases hc : b1 / 64 = 2 ∧ b2 / 64 = 2
    · have hm : ((((b0 : Int) - 224) * 64 + b1 - 128) * 64 + b2 - 128) = ((b0 % 16 * 4096 + b1 % 64 * 64 + b2 % 64 : Nat) : Int) := by omega
      rw [hm, if_pos (show (1 < n ∧ b1 / 64 = 2) ∧ (2 < n ∧ b2 / 64 = 2) by omega)]
      have hz : b1 = 128 + b1 % 64 ∧ b2 = 128 + b2 % 64 := by omega
      generalize hx : b0 % 16 * 4096 + b1 % 64 * 64 + b2 % 64 = x
      rw [Int.toNat_natCast]
      by_cases hg : x ≥ 2048 ∧ (x < 55296 ∨ (57344 ≤ x ∧ x ≤ 1114111))
      · have hi : isLetter (x : Int) = true := by simp [isLetter]; omega
        have hb : bytesN x = takeN 3 b0 b1 b2 b3 := by
          unfold bytesN takeN
          rw [if_neg (by omega), if_neg (by omega), if_pos (by omega)]
          simp only [List.take, List.cons.injEq, and_true]
          omega
        rw [if_pos ⟨hi, hb⟩, if_pos hg]
        simp [shut]
      · have hb : ¬ (isLetter (x : Int) = true ∧ bytesN x = takeN 3 b0 b1 b2 b3) := by
          rintro ⟨hi, hb⟩
          have hi' : x ≤ 1114111 ∧ (x < 55296 ∨ 57343 < x) := by simp [isLetter] at hi; omega
          have hlt : x < 2048 := by omega
          unfold bytesN takeN at hb
          repeat' split at hb
          all_goals simp at hb
          all_goals omega
        rw [if_neg hb, if_neg hg]
        simp [shut]
    · rw [if_neg (show ¬ ((1 < n ∧ b1 / 64 = 2) ∧ (2 < n ∧ b2 / 64 = 2)) by omega)]
      have hb : ¬ (isLetter ((((b0 : Int) - 224) * 64 + b1 - 128) * 64 + b2 - 128) = true ∧ bytesN ((((b0 : Int) - 224) * 64 + b1 - 128) * 64 + b2 - 128).toNat = takeN 3 b0 b1 b2 b3) := by
        rintro ⟨hi, hb⟩
        have h0 : 0 ≤ (((b0 : Int) - 224) * 64 + b1 - 128) * 64 + b2 - 128 := by simp [isLetter] at hi; omega
        obtain ⟨x, hx⟩ := Int.eq_ofNat_of_zero_le h0
        rw [hx, Int.toNat_natCast] at hb
        unfold bytesN takeN at hb
        repeat' split at hb
        all_goals simp at hb
        all_goals omega
      rw [if_neg hb]
      simp [shut]
theorem letterN_4 {n b0 b1 b2 b3 : Nat} (h : 240 ≤ b0 ∧ b0 < 248) (h1 : b1 < 256) (h2 : b2 < 256) (h3 : b3 < 256) : letterN n b0 b1 b2 b3 = shut (decodeN n b0 b1 b2 b3) := by
  have hl : lenN b0 = 4 := by unfold lenN; (repeat' split) <;> omega
  unfold letterN
  rw [hl]
  have hv : numN 4 b0 b1 b2 b3 = ((((b0 : Int) - 240) * 64 + b1 - 128) * 64 + b2 - 128) * 64 + b3 - 128 := by simp [numN]
  rw [hv]
  have hd : decodeN n b0 b1 b2 b3 = if (1 < n ∧ b1 / 64 = 2) ∧ (2 < n ∧ b2 / 64 = 2) ∧ (3 < n ∧ b3 / 64 = 2) then (if (b0 % 8 * 262144 + b1 % 64 * 4096 + b2 % 64 * 64 + b3 % 64) ≥ 65536 ∧ ((b0 % 8 * 262144 + b1 % 64 * 4096 + b2 % 64 * 64 + b3 % 64) < 55296 ∨ (57344 ≤ (b0 % 8 * 262144 + b1 % 64 * 4096 + b2 % 64 * 64 + b3 % 64) ∧ (b0 % 8 * 262144 + b1 % 64 * 4096 + b2 % 64 * 64 + b3 % 64) ≤ 1114111)) then (b0 % 8 * 262144 + b1 % 64 * 4096 + b2 % 64 * 64 + b3 % 64, 4) else (65533, 1)) else (65533, 1) := by
    have e1 : ¬ b0 / 32 = 6 := by omega
    have e2 : ¬ b0 / 16 = 14 := by omega
    have e3 : b0 / 8 = 30 := by omega
    have e0 : ¬ b0 < 128 := by omega
    simp only [decodeN, e0, e1, e2, e3, if_false, true_and, false_and]
  rw [hd]
  by_cases hn : n < 4
  · rw [if_pos (Or.inr hn), if_neg (by omega)]
    simp [shut]
  · rw [if_neg (by omega)]
    by_cases hc : b1 / 64 = 2 ∧ b2 / 64 = 2 ∧ b3 / 64 = 2
    · have hm : (((((b0 : Int) - 240) * 64 + b1 - 128) * 64 + b2 - 128) * 64 + b3 - 128) = ((b0 % 8 * 262144 + b1 % 64 * 4096 + b2 % 64 * 64 + b3 % 64 : Nat) : Int) := by omega
      rw [hm, if_pos (show (1 < n ∧ b1 / 64 = 2) ∧ (2 < n ∧ b2 / 64 = 2) ∧ (3 < n ∧ b3 / 64 = 2) by omega)]
      have hz : b1 = 128 + b1 % 64 ∧ b2 = 128 + b2 % 64 ∧ b3 = 128 + b3 % 64 := by omega
      generalize hx : b0 % 8 * 262144 + b1 % 64 * 4096 + b2 % 64 * 64 + b3 % 64 = x
      rw [Int.toNat_natCast]
      by_cases hg : x ≥ 65536 ∧ (x < 55296 ∨ (57344 ≤ x ∧ x ≤ 1114111))
      · have hi : isLetter (x : Int) = true := by simp [isLetter]; omega
        have hb : bytesN x = takeN 4 b0 b1 b2 b3 := by
          unfold bytesN takeN
          rw [if_neg (by omega), if_neg (by omega), if_neg (by omega)]
          simp only [List.take, List.cons.injEq, and_true]
          omega
        rw [if_pos ⟨hi, hb⟩, if_pos hg]
        simp [shut]
      · have hb : ¬ (isLetter (x : Int) = true ∧ bytesN x = takeN 4 b0 b1 b2 b3) := by
          rintro ⟨hi, hb⟩
          have hi' : x ≤ 1114111 ∧ (x < 55296 ∨ 57343 < x) := by simp [isLetter] at hi; omega
          have hlt : x < 65536 := by omega
          unfold bytesN takeN at hb
          repeat' split at hb
          all_goals simp at hb
          all_goals omega
        rw [if_neg hb, if_neg hg]
        simp [shut]
    · rw [if_neg (show ¬ ((1 < n ∧ b1 / 64 = 2) ∧ (2 < n ∧ b2 / 64 = 2) ∧ (3 < n ∧ b3 / 64 = 2)) by omega)]
      have hb : ¬ (isLetter (((((b0 : Int) - 240) * 64 + b1 - 128) * 64 + b2 - 128) * 64 + b3 - 128) = true ∧ bytesN (((((b0 : Int) - 240) * 64 + b1 - 128) * 64 + b2 - 128) * 64 + b3 - 128).toNat = takeN 4 b0 b1 b2 b3) := by
        rintro ⟨hi, hb⟩
        have h0 : 0 ≤ ((((b0 : Int) - 240) * 64 + b1 - 128) * 64 + b2 - 128) * 64 + b3 - 128 := by simp [isLetter] at hi; omega
        obtain ⟨x, hx⟩ := Int.eq_ofNat_of_zero_le h0
        rw [hx, Int.toNat_natCast] at hb
        unfold bytesN takeN at hb
        repeat' split at hb
        all_goals simp at hb
        all_goals omega
      rw [if_neg hb]
      simp [shut]
theorem letterN_0 {n b0 b1 b2 b3 : Nat} (h : (128 ≤ b0 ∧ b0 < 192) ∨ 248 ≤ b0) (h0 : b0 < 256) : letterN n b0 b1 b2 b3 = shut (decodeN n b0 b1 b2 b3) := by
  have hl : lenN b0 = 0 := by unfold lenN; (repeat' split) <;> omega
  have hd : decodeN n b0 b1 b2 b3 = (65533, 1) := by
    have e1 : ¬ b0 / 32 = 6 := by omega
    have e2 : ¬ b0 / 16 = 14 := by omega
    have e3 : ¬ b0 / 8 = 30 := by omega
    have e0 : ¬ b0 < 128 := by omega
    simp only [decodeN, e0, e1, e2, e3, if_false, false_and]
  rw [hd]
  unfold letterN
  rw [if_pos (Or.inl hl)]
  simp [shut]
theorem letterN_eq {n b0 b1 b2 b3 : Nat} (hn : 1 ≤ n) (h0 : b0 < 256) (h1 : b1 < 256) (h2 : b2 < 256) (h3 : b3 < 256) : letterN n b0 b1 b2 b3 = shut (decodeN n b0 b1 b2 b3) := by
  by_cases c1 : b0 < 128
  · exact letterN_1 hn c1
  · by_cases c2 : 192 ≤ b0 ∧ b0 < 224
    · exact letterN_2 c2 h1
    · by_cases c3 : 224 ≤ b0 ∧ b0 < 240
      · exact letterN_3 c3 h1 h2
      · by_cases c4 : 240 ≤ b0 ∧ b0 < 248
        · exact letterN_4 c4 h1 h2 h3
        · exact letterN_0 (by omega) h0
end Qt
end Go.Proofs.YtlniiaopindjnaaDoor
