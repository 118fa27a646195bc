/-
  Layer 1: a number's digits, read: as strconv.ParseInt reads them, and as the document does. No program is named here.
-/
import Derived.Lib.ParseIntB
import Derived.Lib.ItoaLen
namespace Go.Proofs.YtjldgieffkemlaaGreatDoor
set_option linter.unusedVariables false
set_option linter.unusedSimpArgs false
namespace Nu
open Go.Lib (decDigits itoa parseIntB parseUintB parseUintM NumEnd nDigits)

/-- What is a number's numeral tells that number; all else tells none. -/
def numD (l : List UInt8) : Int × Bool :=
  match parseIntB 64 l with
  | .ok v => if itoa v = l then (v, true) else (0, false)
  | _ => (0, false)
/-- The document's loop: digits behind those that told '-acc'. -/
def dig (acc : Int) : List UInt8 → Option Int
  | [] => some acc
  | c :: r =>
    if (c.toNat : Int) - 48 < 0 ∨ 9 < (c.toNat : Int) - 48 ∨ acc < -922337203685477580 ∨ (acc = -922337203685477580 ∧ 8 < (c.toNat : Int) - 48) then none
    else dig (10 * acc - ((c.toNat : Int) - 48)) r
def body (l : List UInt8) : List UInt8 := if l.head? = some 45 then l.tail else l
def chk (l : List UInt8) (n : Int) : Int × Bool := if itoa n = l then (n, true) else (0, false)
def fin (l : List UInt8) : Option Int → Int × Bool
  | none => (0, false)
  | some n => if l.head? = some 45 then chk l n else if n = -9223372036854775808 then (0, false) else chk l (-n)
def refNum (l : List UInt8) : Int × Bool := if l.length < 1 ∨ 20 < l.length then (0, false) else fin l (dig 0 (body l))

theorem dgt (u : Nat) (h : u < 10) : (UInt8.ofNat (48 + u)).toNat = 48 + u := by
  simp [UInt8.toNat_ofNat']; omega
theorem dig_dec (u : Nat) : u ≤ 9223372036854775808 → ∀ r, dig 0 (decDigits u ++ r) = dig (-(u : Int)) r := by
  induction u using Nat.strongRecOn with
  | _ u ih =>
    intro hu r
    by_cases h : u < 10
    · rw [decDigits, dif_pos h, List.singleton_append, dig, dgt u h, if_neg (by omega)]
      congr 1; omega
    · rw [decDigits, dif_neg h, List.append_assoc, ih (u / 10) (by omega) (by omega), List.singleton_append, dig, dgt _ (Nat.mod_lt _ (by decide)), if_neg (by omega)]
      congr 1; omega
theorem par_dec (u : Nat) : u ≤ 9223372036854775808 → ∀ r, parseUintM (2 ^ 64 - 1) 0 (decDigits u ++ r) = parseUintM (2 ^ 64 - 1) u r := by
  induction u using Nat.strongRecOn with
  | _ u ih =>
    intro hu r
    by_cases h : u < 10
    · rw [decDigits, dif_pos h, List.singleton_append, parseUintM, dgt u h, if_pos (by omega), if_neg (by omega), if_neg (by omega)]
      congr 1; omega
    · rw [decDigits, dif_neg h, List.append_assoc, ih (u / 10) (by omega) (by omega), List.singleton_append, parseUintM, dgt _ (Nat.mod_lt _ (by decide)), if_pos (by omega), if_neg (by omega), if_neg (by omega)]
      congr 1; omega
theorem dec_head (u : Nat) : ∃ c r, decDigits u = c :: r ∧ 48 ≤ c.toNat ∧ c.toNat ≤ 57 := by
  induction u using Nat.strongRecOn with
  | _ u ih =>
    by_cases h : u < 10
    · exact ⟨_, [], by rw [decDigits, dif_pos h], by rw [dgt u h]; omega, by rw [dgt u h]; omega⟩
    · obtain ⟨c, r, h1, h2, h3⟩ := ih (u / 10) (by omega)
      exact ⟨c, _, by rw [decDigits, dif_neg h, h1]; rfl, h2, h3⟩
theorem len_pow : ∀ (k u : Nat), 1 ≤ k → u < 10 ^ k → nDigits u ≤ k
  | 0, u, h, _ => by omega
  | k + 1, u, _, h => by
    by_cases hu : u < 10
    · rw [Go.Lib.nDigits_small hu]; omega
    · rw [Go.Lib.nDigits_big hu]
      rw [Nat.pow_succ] at h
      have hk : 1 ≤ k := by
        rcases Nat.eq_zero_or_pos k with rfl | hk
        · simp at h; omega
        · exact hk
      have := len_pow k (u / 10) hk (by omega)
      omega
theorem parseM_pos (u : Nat) (hu : u ≤ 9223372036854775808) : parseUintB 64 (decDigits u) = .ok u := by
  obtain ⟨c, r, h1, _, _⟩ := dec_head u
  unfold parseUintB
  rw [if_neg (by rw [h1]; simp)]
  have := par_dec u hu []
  rw [List.append_nil] at this
  rw [this, parseUintM]
theorem parse_itoa (v : Int) (h0 : -9223372036854775808 ≤ v) (h1 : v ≤ 9223372036854775807) : parseIntB 64 (itoa v) = .ok v := by
  by_cases hn : v < 0
  · obtain ⟨u, rfl⟩ : ∃ u : Nat, v = -(u : Int) := ⟨v.natAbs, by omega⟩
    rw [Go.Lib.itoa_neg u (by omega)]
    unfold parseIntB
    simp only
    have e : (45 : UInt8).toNat = 45 := rfl
    rw [e, if_pos (by decide), parseM_pos u (by omega)]
    simp only [not_true_eq_false, false_and, if_false, true_and]
    rw [if_neg (by omega)]
    simp
  · obtain ⟨u, rfl⟩ : ∃ u : Nat, v = u := ⟨v.toNat, by omega⟩
    rw [Go.Lib.itoa_nonneg]
    obtain ⟨c, r, e1, e2, e3⟩ := dec_head u
    have hp := parseM_pos u (by omega)
    rw [e1] at hp ⊢
    unfold parseIntB
    simp only
    rw [if_neg (by omega), hp]
    simp only
    rw [if_neg (by omega), if_neg (by omega), if_neg (by omega)]
theorem parse_fits {l : List UInt8} {v : Int} (h : parseIntB 64 l = .ok v) : -9223372036854775808 ≤ v ∧ v ≤ 9223372036854775807 := by
  unfold parseIntB at h
  cases l with
  | nil => cases h
  | cons c r =>
    simp only at h
    generalize parseUintB 64 (if c.toNat = 43 ∨ c.toNat = 45 then r else c :: r) = p at h
    rcases p with u | _ | _
    · simp only at h
      split at h
      · cases h
      · split at h
        · cases h
        · injection h with h
          rw [← h]
          split <;> omega
    · cases h
    · cases h
theorem numD_itoa {v : Int} (h0 : -9223372036854775808 ≤ v) (h1 : v ≤ 9223372036854775807) : numD (itoa v) = (v, true) := by
  unfold numD
  rw [parse_itoa v h0 h1]
  simp
theorem numD_none {l : List UInt8} (h : ∀ v : Int, -9223372036854775808 ≤ v → v ≤ 9223372036854775807 → itoa v ≠ l) : numD l = (0, false) := by
  unfold numD
  rcases hp : parseIntB 64 l with v | _ | _
  rotate_left
  · rfl
  · rfl
  · obtain ⟨h0, h1⟩ := parse_fits hp
    simp only
    rw [if_neg (h v h0 h1)]
theorem dig_bd : ∀ {l : List UInt8} {acc n : Int}, -9223372036854775808 ≤ acc → acc ≤ 0 → dig acc l = some n → -9223372036854775808 ≤ n ∧ n ≤ 0
  | [], acc, n, h0, h1, h => by rw [dig] at h; injection h with h; omega
  | c :: r, acc, n, h0, h1, h => by
    rw [dig] at h
    split at h
    · cases h
    · rename_i hc
      exact dig_bd (l := r) (by omega) (by omega) h
theorem dig_step {c : UInt8} {r : List UInt8} {acc : Int} (h : ¬ ((c.toNat : Int) - 48 < 0 ∨ 9 < (c.toNat : Int) - 48 ∨ acc < -922337203685477580 ∨ (acc = -922337203685477580 ∧ 8 < (c.toNat : Int) - 48))) : dig acc (c :: r) = dig (10 * acc - ((c.toNat : Int) - 48)) r := by
  rw [dig, if_neg h]
theorem dig_stop {c : UInt8} {r : List UInt8} {acc : Int} (h : (c.toNat : Int) - 48 < 0 ∨ 9 < (c.toNat : Int) - 48 ∨ acc < -922337203685477580 ∨ (acc = -922337203685477580 ∧ 8 < (c.toNat : Int) - 48)) : dig acc (c :: r) = none := by
  rw [dig, if_pos h]
theorem refNum_eq (l : List UInt8) : refNum l = numD l := by
  by_cases h : ∃ v : Int, -9223372036854775808 ≤ v ∧ v ≤ 9223372036854775807 ∧ itoa v = l
  · obtain ⟨v, h0, h1, rfl⟩ := h
    rw [numD_itoa h0 h1]
    unfold refNum
    by_cases hn : v < 0
    · obtain ⟨u, rfl⟩ : ∃ u : Nat, v = -(u : Int) := ⟨v.natAbs, by omega⟩
      have hl := len_pow 19 u (by omega) (by omega)
      have e := Go.Lib.itoa_neg u (by omega)
      have el : (itoa (-(u : Int))).length = nDigits u + 1 := by rw [e, List.length_cons, Go.Lib.decDigits_length]
      rw [if_neg (by rw [el]; omega)]
      have eb : body (itoa (-(u : Int))) = decDigits u := by rw [e]; rfl
      have ed := dig_dec u (by omega) []
      rw [List.append_nil] at ed
      rw [eb, ed]
      simp only [dig, fin]
      rw [if_pos (by rw [e]; rfl)]
      unfold chk
      rw [if_pos rfl]
    · obtain ⟨u, rfl⟩ : ∃ u : Nat, v = u := ⟨v.toNat, by omega⟩
      have hl := len_pow 19 u (by omega) (by omega)
      obtain ⟨c, r, e1, e2, e3⟩ := dec_head u
      have e := Go.Lib.itoa_nonneg u
      have el : (itoa (u : Int)).length = nDigits u := by rw [e, Go.Lib.decDigits_length]
      have hp := Go.Lib.nDigits_pos u
      rw [if_neg (by rw [el]; omega)]
      have hh : (itoa (u : Int)).head? ≠ some 45 := by
        rw [e, e1]
        simp only [List.head?_cons, ne_eq, Option.some.injEq]
        intro hc
        subst hc
        exact absurd e2 (by decide)
      have eb : body (itoa (u : Int)) = decDigits u := by unfold body; rw [if_neg hh, e]
      have ed := dig_dec u (by omega) []
      rw [List.append_nil] at ed
      rw [eb, ed]
      simp only [dig, fin]
      rw [if_neg hh, if_neg (by omega), Int.neg_neg]
      unfold chk
      rw [if_pos rfl]
  · have hno : ∀ v : Int, -9223372036854775808 ≤ v → v ≤ 9223372036854775807 → itoa v ≠ l := fun v h0 h1 e => h ⟨v, h0, h1, e⟩
    rw [numD_none hno]
    unfold refNum
    split
    · rfl
    · cases hd : dig 0 (body l) with
      | none => rfl
      | some n =>
        unfold fin chk
        simp only
        obtain ⟨h0, h1⟩ := dig_bd (by omega) (by omega) hd
        split
        · rw [if_neg (hno n h0 (by omega))]
        · split
          · rfl
          · rw [if_neg (hno (-n) (by omega) (by omega))]
end Nu
end Go.Proofs.YtjldgieffkemlaaGreatDoor
