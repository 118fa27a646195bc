/-
  Layer 39: the plain arithmetic of Need: that the program's capped sums and products come to the document's number. No program is named.
-/
namespace Go.Proofs.Ytlniiaopindjnaa
set_option linter.unusedVariables false
namespace Sp
def most : Int := 9007199254740992
def plus (a b : Int) : Int := min (min a most + min b most) most
def times (a b : Int) : Int := if 0 < a ∧ most / a < b then most else a * b
/-- What the program reckons. -/
def need (p c k : Int) : Int :=
  if p < 0 ∨ c < 0 ∨ k < 0 then 0 else plus 4096 (times (plus (plus p c) (plus k 1)) (plus 16640 (times 8192 (plus c 1))))
/-- What the document says, as the reference reckons it. -/
def needR (p c k : Int) : Int :=
  if p < 0 ∨ c < 0 ∨ k < 0 then 0
  else if (1048576 ≤ p ∨ 1048576 ≤ c ∨ 1048576 ≤ k) ∧ (1125899906842624 ≤ p ∨ 67108864 ≤ c ∨ 1125899906842624 ≤ k) then most
  else if most / (16640 + 8192 * (c + 1)) < p + c + k + 1 then most
  else min (4096 + (p + c + k + 1) * (16640 + 8192 * (c + 1))) most

theorem plus_nat (a b : Int) (ha : 0 ≤ a) (hb : 0 ≤ b) : plus a b = if a + b ≤ most then a + b else most := by
  unfold plus most; split <;> omega
theorem times_nat (a b : Int) (ha : 0 < a) : times a b = if a * b ≤ most then a * b else most := by
  unfold times
  have h : most / a < b ↔ ¬ a * b ≤ most := by
    rw [Int.ediv_lt_iff_lt_mul ha, Int.mul_comm b a]
    omega
  by_cases hc : a * b ≤ most
  · rw [if_neg (by rintro ⟨_, h2⟩; exact (h.1 h2) hc), if_pos hc]
  · rw [if_pos ⟨ha, h.2 hc⟩, if_neg hc]

theorem times8192 (x : Int) : times 8192 x = if 8192 * x ≤ most then 8192 * x else most := times_nat 8192 x (by omega)

def sat (x : Int) : Int := if x ≤ most then x else most
theorem sat_plus (a b : Int) (ha : 0 ≤ a) (hb : 0 ≤ b) : plus (sat a) (sat b) = sat (a + b) := by
  unfold sat
  rw [plus_nat _ _ (by split <;> (unfold most at *; omega)) (by split <;> (unfold most at *; omega))]
  unfold most
  repeat split
  all_goals omega
theorem sat_small (a : Int) (h : a ≤ most) : sat a = a := by unfold sat; rw [if_pos h]
theorem sat_times (a b : Int) (ha : 1 ≤ a) (hb : 1 ≤ b) : times (sat a) (sat b) = sat (a * b) := by
  have h1 : b ≤ a * b := by have := Int.mul_le_mul_of_nonneg_right ha (show 0 ≤ b by omega); omega
  have h2 : a ≤ a * b := by have := Int.mul_le_mul_of_nonneg_left hb (show 0 ≤ a by omega); omega
  have sa : 1 ≤ sat a := by unfold sat most; split <;> omega
  have sb : 1 ≤ sat b := by unfold sat most; split <;> omega
  rw [times_nat _ _ (by omega)]
  by_cases hA : a ≤ most
  · by_cases hB : b ≤ most
    · rw [sat_small a hA, sat_small b hB]; rfl
    · have e : sat b = most := by unfold sat; rw [if_neg hB]
      have e2 : sat (a * b) = most := by unfold sat; rw [if_neg (by omega)]
      have h3 : sat b ≤ sat a * sat b := by have := Int.mul_le_mul_of_nonneg_right sa (show 0 ≤ sat b by omega); omega
      rw [e2]; split <;> omega
  · have e : sat a = most := by unfold sat; rw [if_neg hA]
    have e2 : sat (a * b) = most := by unfold sat; rw [if_neg (by omega)]
    have h3 : sat a ≤ sat a * sat b := by have := Int.mul_le_mul_of_nonneg_left sb (show 0 ≤ sat a by omega); omega
    rw [e2]; split <;> omega

theorem plus_sat (a b : Int) (ha : 0 ≤ a) (hb : 0 ≤ b) : plus a b = sat (a + b) := plus_nat a b ha hb

theorem need_eq (p c k : Int) : need p c k = needR p c k := by
  unfold need needR
  by_cases h0 : p < 0 ∨ c < 0 ∨ k < 0
  · rw [if_pos h0, if_pos h0]
  · rw [if_neg h0, if_neg h0]
    have p0 : 0 ≤ p := by omega
    have c0 : 0 ≤ c := by omega
    have k0 : 0 ≤ k := by omega
    have e1 : plus (plus p c) (plus k 1) = sat (p + c + k + 1) := by
      rw [plus_sat p c p0 c0, plus_sat k 1 k0 (by omega), sat_plus _ _ (by omega) (by omega)]; congr 1; omega
    have e2 : plus 16640 (times 8192 (plus c 1)) = sat (16640 + 8192 * (c + 1)) := by
      rw [plus_sat c 1 c0 (by omega)]
      have : times 8192 (sat (c + 1)) = sat (8192 * (c + 1)) := by
        rw [show times 8192 (sat (c + 1)) = times (sat 8192) (sat (c + 1)) from by rw [sat_small 8192 (by unfold most; omega)]]
        exact sat_times _ _ (by omega) (by omega)
      rw [this, show plus 16640 (sat (8192 * (c + 1))) = plus (sat 16640) (sat (8192 * (c + 1))) from by rw [sat_small 16640 (by unfold most; omega)]]
      exact sat_plus _ _ (by omega) (by omega)
    obtain ⟨m, hm⟩ : ∃ m, m = p + c + k + 1 := ⟨_, rfl⟩
    obtain ⟨E, hE⟩ : ∃ E, E = 16640 + 8192 * (c + 1) := ⟨_, rfl⟩
    rw [e1, e2, ← hm, ← hE, sat_times m E (by omega) (by omega)]
    have e3 : plus 4096 (sat (m * E)) = sat (4096 + m * E) := by
      rw [show plus 4096 (sat (m * E)) = plus (sat 4096) (sat (m * E)) from by rw [sat_small 4096 (by unfold most; omega)]]
      exact sat_plus _ _ (by omega) (Int.mul_nonneg (by omega) (by omega))
    rw [e3]
    have hdiv : most / E < m ↔ most < m * E := by rw [Int.ediv_lt_iff_lt_mul (by omega)]
    by_cases h1 : (1048576 ≤ p ∨ 1048576 ≤ c ∨ 1048576 ≤ k) ∧ (1125899906842624 ≤ p ∨ 67108864 ≤ c ∨ 1125899906842624 ≤ k)
    · rw [if_pos h1]
      have hbig : most < m * E := by
        obtain ⟨_, h2⟩ := h1
        by_cases hc : 67108864 ≤ c
        · have g1 : (67108864 : Int) * E ≤ m * E := Int.mul_le_mul_of_nonneg_right (by omega) (by omega)
          unfold most; omega
        · have g1 : (1125899906842624 : Int) * E ≤ m * E := Int.mul_le_mul_of_nonneg_right (by omega) (by omega)
          unfold most; omega
      unfold sat
      rw [if_neg (by omega)]
    · rw [if_neg h1]
      by_cases h2 : most / E < m
      · rw [if_pos h2]
        have := hdiv.1 h2
        unfold sat
        rw [if_neg (by omega)]
      · rw [if_neg h2]
        unfold sat
        split <;> omega
end Sp
end Go.Proofs.Ytlniiaopindjnaa
