/-
  Layer 4: a text of small letters stands between quotes as it is.
-/
import Derived.Test.YtlniiaopindjnaaDoorQuoX
namespace Go.Proofs.YtlniiaopindjnaaDoor
set_option linter.unusedVariables false
open Go.RowKit
open Go.Lib hiding intOf
namespace Qt
theorem decode_plain (b : UInt8) (l : List UInt8) (h : b.toNat < 128) : decodeL (b :: l) = (b.toNat, 1) := by
  have hd := decodeL_at ⟨(b :: l).toArray⟩
  have hg : ByteArray.get! ⟨(b :: l).toArray⟩ 0 = b := by simp [ByteArray.get!]
  rw [hg] at hd
  rw [show (⟨(b :: l).toArray⟩ : ByteArray).data.toList = b :: l from rfl] at hd
  rw [hd]
  simp [decodeN, h]
theorem body_plain : ∀ l : List UInt8, (∀ b ∈ l, 97 ≤ b.toNat ∧ b.toNat ≤ 122) → body l = l
  | [], _ => rfl
  | b :: l, h => by
    have hb := h b (List.mem_cons_self ..)
    rw [body_step (by simp), decode_plain b l (by omega)]
    have e : esc b.toNat [b] = [b] := by
      have hs : short b.toNat = 0 := by unfold short; (repeat' split) <;> omega
      unfold esc
      rw [if_neg (by simp [hs]), if_neg (by omega)]
    simp only [List.take_succ_cons, List.take_zero, List.drop_succ_cons, List.drop_zero]
    rw [e, body_plain l (fun c hc => h c (List.mem_cons_of_mem _ hc))]
    rfl
theorem valid_plain : ∀ l : List UInt8, (∀ b ∈ l, 97 ≤ b.toNat ∧ b.toNat ≤ 122) → validD l = true
  | [], _ => rfl
  | b :: l, h => by
    have hb := h b (List.mem_cons_self ..)
    rw [validD_cons b l (by omega)]
    exact valid_plain l (fun c hc => h c (List.mem_cons_of_mem _ hc))
def dbl : Nat → List UInt8
  | 0 => [97, 98, 99, 100, 101, 102, 103, 104]
  | k + 1 => dbl k ++ dbl k
theorem dbl_length : ∀ k, (dbl k).length = 8 * 2 ^ k
  | 0 => rfl
  | k + 1 => by rw [dbl, List.length_append, dbl_length k, Nat.pow_succ]; omega
theorem dbl_plain : ∀ k, ∀ b ∈ dbl k, 97 ≤ b.toNat ∧ b.toNat ≤ 122
  | 0 => by decide
  | k + 1 => fun b hb => by
    rw [dbl] at hb
    rcases List.mem_append.1 hb with h | h <;> exact dbl_plain k b h
theorem quote_plain {l : List UInt8} (h : ∀ b ∈ l, 97 ≤ b.toNat ∧ b.toNat ≤ 122) : quoteD ⟨l.toArray⟩ = if 65536 < l.length then (⟨#[]⟩, 5) else (⟨(34 :: l ++ [34]).toArray⟩, 0) := by
  unfold quoteD
  rw [show (⟨l.toArray⟩ : ByteArray).data.toList = l from rfl, show (⟨l.toArray⟩ : ByteArray).size = l.length from rfl, valid_plain l h, body_plain l h]
  simp
end Qt
end Go.Proofs.YtlniiaopindjnaaDoor
