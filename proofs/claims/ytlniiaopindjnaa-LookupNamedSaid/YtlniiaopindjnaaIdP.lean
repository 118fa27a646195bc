/-
  The id of a number: plain lists.
-/
import Derived.Test.YtlniiaopindjnaaHexP
namespace Go.Proofs.Ytlniiaopindjnaa
set_option linter.unusedVariables false
namespace Hx
/-- The id of a number. -/
def idL (n : Nat) : List UInt8 := hex [UInt8.ofNat (n / 65536), UInt8.ofNat (n / 256 % 256), UInt8.ofNat (n % 256)]
def idS (n : Nat) : ByteArray := ⟨(idL n).toArray⟩
/-- The last k digits of a number. -/
def last (n : Nat) : Nat → List UInt8
  | 0 => []
  | k + 1 => dig (n / 16 ^ k % 16) :: last n k
theorem last_length (n k : Nat) : (last n k).length = k := by
  induction k with
  | zero => rfl
  | succ k ih => simp [last, ih]
theorem last_six (n : Nat) (h : n < 16777216) : last n 6 = idL n := by
  have e1 : (UInt8.ofNat (n / 65536)).toNat = n / 65536 := by simp [UInt8.toNat_ofNat']; omega
  have e2 : (UInt8.ofNat (n / 256 % 256)).toNat = n / 256 % 256 := by simp [UInt8.toNat_ofNat']
  have e3 : (UInt8.ofNat (n % 256)).toNat = n % 256 := by simp [UInt8.toNat_ofNat']
  simp only [last, idL, hex, List.flatMap_cons, List.flatMap_nil, e1, e2, e3, List.cons_append, List.nil_append, List.append_nil]
  have a1 : n / 16 ^ 5 % 16 = n / 65536 / 16 := by omega
  have a2 : n / 16 ^ 4 % 16 = n / 65536 % 16 := by omega
  have a3 : n / 16 ^ 3 % 16 = n / 256 % 256 / 16 := by omega
  have a4 : n / 16 ^ 2 % 16 = n / 256 % 256 % 16 := by omega
  have a5 : n / 16 ^ 1 % 16 = n % 256 / 16 := by omega
  have a6 : n / 16 ^ 0 % 16 = n % 256 % 16 := by omega
  rw [a1, a2, a3, a4, a5, a6]
theorem idL_length (n : Nat) : (idL n).length = 6 := rfl
theorem idS_size (n : Nat) : (idS n).size = 6 := rfl
theorem lower_slice (k : Nat) (h : k < 16) : (⟨#[48, 49, 50, 51, 52, 53, 54, 55, 56, 57, 97, 98, 99, 100, 101, 102]⟩ : ByteArray).extract k (k + 1) = ⟨#[dig k]⟩ := by
  have : ∀ k : Fin 16, (⟨#[48, 49, 50, 51, 52, 53, 54, 55, 56, 57, 97, 98, 99, 100, 101, 102]⟩ : ByteArray).extract k (k + 1) = ⟨#[dig k]⟩ := by decide
  exact this ⟨k, h⟩
end Hx
end Go.Proofs.Ytlniiaopindjnaa
