/-
  Small hexadecimal digits: plain lists.
-/
namespace Go.Proofs.YtlniiaopindjnaaDoor
set_option linter.unusedVariables false
namespace Hx
def lower : List UInt8 := [48, 49, 50, 51, 52, 53, 54, 55, 56, 57, 97, 98, 99, 100, 101, 102]
def dig (n : Nat) : UInt8 := lower.getD n 0
def hex (l : List UInt8) : List UInt8 := l.flatMap fun c => [dig (c.toNat / 16), dig (c.toNat % 16)]
theorem hex_snoc (l : List UInt8) (c : UInt8) : hex (l ++ [c]) = hex l ++ [dig (c.toNat / 16), dig (c.toNat % 16)] := by simp [hex]
theorem hex_length (l : List UInt8) : (hex l).length = 2 * l.length := by
  induction l with
  | nil => rfl
  | cons c r ih => rw [show hex (c :: r) = [dig (c.toNat / 16), dig (c.toNat % 16)] ++ hex r from rfl, List.length_append, ih]; simp; omega
theorem dig_get (n : Nat) (h : n < (⟨#[48, 49, 50, 51, 52, 53, 54, 55, 56, 57, 97, 98, 99, 100, 101, 102]⟩ : ByteArray).size) : (⟨#[48, 49, 50, 51, 52, 53, 54, 55, 56, 57, 97, 98, 99, 100, 101, 102]⟩ : ByteArray)[n]'h = dig n := by
  have h16 : n < lower.length := h
  unfold dig
  rw [List.getD, List.getElem?_eq_getElem h16]
  rfl
end Hx
end Go.Proofs.YtlniiaopindjnaaDoor
