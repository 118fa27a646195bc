/-
  What a hexadecimal digit tells; what an id is. Plain.
-/
import Derived.Test.YtlniiaopindjnaaHexP
import Derived.Test.YtlniiaopindjnaaIdP
namespace Go.Proofs.Ytlniiaopindjnaa
set_option linter.unusedVariables false
namespace Hx
/-- What a letter tells as a hexadecimal digit; -1: it is none. -/
def val (c : Nat) : Int := if 48 ≤ c ∧ c ≤ 57 then (c : Int) - 48 else if 97 ≤ c ∧ c ≤ 102 then (c : Int) - 87 else -1
def isHex (c : UInt8) : Bool := decide (0 ≤ val c.toNat)
def isId (l : List UInt8) : Bool := decide (l.length = 6) && l.all isHex
theorem val_dig : ∀ k : Fin 16, val (dig k).toNat = k := by decide
theorem dig_nat : ∀ k : Fin 16, (dig k).toNat = if k.val < 10 then 48 + k.val else 87 + k.val := by decide
theorem val_hit (c k : Nat) (hk : k < 16) (h : (dig k).toNat = c) : val c = k := by rw [← h]; exact val_dig ⟨k, hk⟩
theorem val_miss (c : Nat) (h : ∀ k, k < 16 → (dig k).toNat ≠ c) : val c = -1 := by
  unfold val
  split
  · rename_i hc
    have h1 := h (c - 48) (by omega)
    have := dig_nat ⟨c - 48, by omega⟩
    rw [if_pos (by show c - 48 < 10; omega)] at this
    exact absurd (by rw [this]; show 48 + (c - 48) = c; omega) h1
  · split
    · rename_i hc
      have h1 := h (c - 87) (by omega)
      have := dig_nat ⟨c - 87, by omega⟩
      rw [if_neg (by show ¬ c - 87 < 10; omega)] at this
      exact absurd (by rw [this]; show 87 + (c - 87) = c; omega) h1
    · rfl
theorem val_lo (c : Nat) : -1 ≤ val c := by unfold val; split <;> (try split) <;> omega
theorem val_hi (c : Nat) : val c ≤ 15 := by unfold val; split <;> (try split) <;> omega
theorem isHex_dig (k : Nat) (hk : k < 16) : isHex (dig k) = true := by
  unfold isHex; rw [val_dig ⟨k, hk⟩]; simp
theorem isId_idL (n : Nat) (h : n < 16777216) : isId (idL n) = true := by
  rw [← last_six n h]
  unfold isId
  rw [last_length]
  simp only [last, List.all_cons, List.all_nil, Bool.and_true]
  rw [isHex_dig _ (by omega), isHex_dig _ (by omega), isHex_dig _ (by omega), isHex_dig _ (by omega), isHex_dig _ (by omega), isHex_dig _ (by omega)]
  rfl
theorem all_take_two {l : List UInt8} {k : Nat} {a b : UInt8} (ha : l[k]? = some a) (hb : l[k + 1]? = some b) : (l.take (k + 2)).all isHex = ((l.take k).all isHex && (isHex a && isHex b)) := by
  rw [show k + 2 = (k + 1) + 1 from rfl, List.take_add_one, List.take_add_one, ha, hb]
  simp [List.all_append]
end Hx
end Go.Proofs.Ytlniiaopindjnaa
