/-
  Layer 4: what stands between quotes, read: plain.
-/
import Derived.Test.YtlniiaopindjnaaDoorQuoV
namespace Go.Proofs.YtlniiaopindjnaaDoor
set_option linter.unusedVariables false
open Go.RowKit
open Go.Lib hiding intOf
namespace Qt
/-- A hexadecimal digit's number; 16: it is none. -/
def hv (c : Nat) : Nat := if 48 ≤ c ∧ c ≤ 57 then c - 48 else if 97 ≤ c ∧ c ≤ 102 then c - 87 else if 65 ≤ c ∧ c ≤ 70 then c - 55 else 16
theorem hv_le (c : Nat) : hv c ≤ 16 := by unfold hv; (repeat' split) <;> omega
def fourL : List UInt8 → Nat → Option Nat
  | [], n => some n
  | c :: r, n => if hv c.toNat = 16 then none else fourL r (16 * n + hv c.toNat)
/-- The number of four hexadecimal digits that begin a text. -/
def fourB (l : List UInt8) : Option Nat := if l.length < 4 then none else fourL (l.take 4) 0
def numO : Option Nat → Int
  | none => -1
  | some n => n
theorem fourL_lt : ∀ (l : List UInt8) (n m : Nat), fourL l n = some m → m < (n + 1) * 16 ^ l.length
  | [], n, m, h => by simp [fourL] at h; subst h; simp
  | c :: r, n, m, h => by
    have h16 := hv_le c.toNat
    rw [fourL] at h
    split at h
    · cases h
    · have h2 := fourL_lt r _ m h
      rw [List.length_cons, Nat.pow_succ, Nat.mul_comm (16 ^ r.length), ← Nat.mul_assoc]
      refine Nat.lt_of_lt_of_le h2 (Nat.mul_le_mul_right _ ?_)
      omega
theorem fourB_lt {l : List UInt8} {m : Nat} (h : fourB l = some m) : m < 65536 := by
  unfold fourB at h
  split at h
  · cases h
  · have := fourL_lt _ _ _ h
    have hl : (l.take 4).length = 4 := by simp; omega
    rw [hl] at this
    simpa using this
end Qt

set_option maxHeartbeats 2000000 in
set_option maxRecDepth 100000 in
theorem ref04_four_any (s : ByteArray) (w : World) (hs : s.size ≤ 1000000000) : Calls Tryd.prog 77 #[.string s] w fun e w' => e = .returned (.int .i64 (Qt.numO (Qt.fourB s.data.toList))) ∧ w = w' := by
  by_cases h4 : s.size < 4
  · have hz : (s.size : Int) < 4 := by omega
    have hr : Qt.fourB s.data.toList = none := by unfold Qt.fourB; rw [if_pos (by rw [← Lib.size_eq]; exact h4)]
    rw [hr]
    go_enter Tryd.func77, Tryd.ntmps77
    go_wp2_with fail
    go_ret
    exact ⟨rfl, rfl⟩
  · have hz : ¬ (s.size : Int) < 4 := by omega
    obtain ⟨R, hR⟩ : ∃ R, Qt.fourB s.data.toList = R := ⟨_, rfl⟩
    have hr : Qt.fourL (s.data.toList.take 4) 0 = R := by rw [← hR]; unfold Qt.fourB; rw [if_neg (by rw [← Lib.size_eq]; exact h4)]
    rw [hR]
    have HR := Lib.hid hr
    have hlt4 : (s.data.toList.take 4).length = 4 := by rw [List.length_take, ← Lib.size_eq]; omega
    have HL4 := Lib.hid hlt4
    clear hr hR hlt4
    go_enter Tryd.func77, Tryd.ntmps77
    go_wp2_with fail
    go_loop [3, 4] (fun v i => ∃ (k n : Nat), k ≤ 4 ∧ i = .int .i64 k ∧ v = .int .i64 n ∧ n < 16 ^ k ∧ Hid (Qt.fourL ((s.data.toList.take 4).drop k) n = R)) (fun _ i => 4 - (intOf i).toNat)
    case atStart => exact ⟨0, 0, by omega, rfl, rfl, by simp, by rw [List.drop_zero]; exact HR.out⟩
    case round =>
      obtain ⟨k, n, hk, rfl, rfl, hn, hinv⟩ := hrel
      by_cases hlt : k < 4
      · obtain ⟨c, hc⟩ : ∃ c, s.get! k = c := ⟨_, rfl⟩
        have hsk : s[k]'(by omega) = c := by rw [← hc]; exact (Utf8W.get!_of_lt s k (by omega)).symm
        have hcl := UInt8.toNat_lt c
        have hd : (s.data.toList.take 4).drop k = c :: (s.data.toList.take 4).drop (k + 1) := by
          have hkl : k < (s.data.toList.take 4).length := by rw [HL4.out]; exact hlt
          rw [List.drop_eq_getElem_cons hkl]
          congr 1
          rw [List.getElem_take, ← hsk]
          rfl
        have hi := hinv.out
        rw [hd, Qt.fourL] at hi
        have hp : 16 ^ k ≤ 4096 := Nat.pow_le_pow_right (n := 16) (by omega) (show k ≤ 3 by omega)
        have hkz : (k : Int) < s.size := by omega
        have hks : k < s.size := by omega
        have hps : 16 ^ (k + 1) = 16 * 16 ^ k := by rw [Nat.pow_succ]; omega
        have HPS := Lib.hid hps
        generalize 16 ^ k = P16 at *
        clear hps hd hc hinv HR
        rcases (show (48 ≤ c.toNat ∧ c.toNat ≤ 57) ∨ (97 ≤ c.toNat ∧ c.toNat ≤ 102) ∨ (65 ≤ c.toNat ∧ c.toNat ≤ 70) ∨ (Qt.hv c.toNat = 16 ∧ ¬ (48 ≤ c.toNat ∧ c.toNat ≤ 57) ∧ ¬ (97 ≤ c.toNat ∧ c.toNat ≤ 102) ∧ ¬ (65 ≤ c.toNat ∧ c.toNat ≤ 70)) by unfold Qt.hv; (repeat' split) <;> omega) with h | h | h | ⟨h, h1, h2, h3⟩
        · have hh : Qt.hv c.toNat = c.toNat - 48 := by unfold Qt.hv; rw [if_pos h]
          rw [if_neg (by omega), hh] at hi
          have HI := Lib.hid hi
          have a1 : (48 : Int) ≤ (c.toNat : Int) := by omega
          have a2 : (c.toNat : Int) ≤ 57 := by omega
          have a3 : ¬ (97 : Int) ≤ (c.toNat : Int) := by omega
          have a4 : ¬ (65 : Int) ≤ (c.toNat : Int) := by omega
          clear hi hh
          go_wp2_with fail
          go_round
          case rel => exact ⟨k + 1, 16 * n + (c.toNat - 48), by omega, by go_num, by go_num, by rw [HPS.out]; omega, HI.out⟩
          case measure => simp [intOf]; omega
        · have hh : Qt.hv c.toNat = c.toNat - 87 := by unfold Qt.hv; rw [if_neg (by omega), if_pos h]
          rw [if_neg (by omega), hh] at hi
          have HI := Lib.hid hi
          have a0 : (48 : Int) ≤ (c.toNat : Int) := by omega
          have a1 : ¬ (c.toNat : Int) ≤ 57 := by omega
          have a2 : (97 : Int) ≤ (c.toNat : Int) := by omega
          have a3 : (c.toNat : Int) ≤ 102 := by omega
          clear hi hh
          go_wp2_with fail
          go_round
          case rel => exact ⟨k + 1, 16 * n + (c.toNat - 87), by omega, by go_num, by go_num, by rw [HPS.out]; omega, HI.out⟩
          case measure => simp [intOf]; omega
        · have hh : Qt.hv c.toNat = c.toNat - 55 := by unfold Qt.hv; rw [if_neg (by omega), if_neg (by omega), if_pos h]
          rw [if_neg (by omega), hh] at hi
          have HI := Lib.hid hi
          have a0 : (48 : Int) ≤ (c.toNat : Int) := by omega
          have a1 : ¬ (c.toNat : Int) ≤ 57 := by omega
          have a2 : ¬ (97 : Int) ≤ (c.toNat : Int) := by omega
          have a3 : (65 : Int) ≤ (c.toNat : Int) := by omega
          have a4 : (c.toNat : Int) ≤ 70 := by omega
          clear hi hh
          go_wp2_with fail
          go_round
          case rel => exact ⟨k + 1, 16 * n + (c.toNat - 55), by omega, by go_num, by go_num, by rw [HPS.out]; omega, HI.out⟩
          case measure => simp [intOf]; omega
        · rw [if_pos h] at hi
          subst hi
          clear h
          rcases (show c.toNat < 48 ∨ (58 ≤ c.toNat ∧ c.toNat ≤ 64) ∨ (71 ≤ c.toNat ∧ c.toNat ≤ 96) ∨ 103 ≤ c.toNat by omega) with h | h | h | h
          · have a0 : ¬ (48 : Int) ≤ (c.toNat : Int) := by omega
            have a1 : ¬ (97 : Int) ≤ (c.toNat : Int) := by omega
            have a2 : ¬ (65 : Int) ≤ (c.toNat : Int) := by omega
            clear h1 h2 h3 h
            go_wp2_with fail
            go_ret
            exact ⟨rfl, rfl⟩
          · have a0 : (48 : Int) ≤ (c.toNat : Int) := by omega
            have a1 : ¬ (c.toNat : Int) ≤ 57 := by omega
            have a2 : ¬ (97 : Int) ≤ (c.toNat : Int) := by omega
            have a3 : ¬ (65 : Int) ≤ (c.toNat : Int) := by omega
            clear h1 h2 h3 h
            go_wp2_with fail
            go_ret
            exact ⟨rfl, rfl⟩
          · have a0 : (48 : Int) ≤ (c.toNat : Int) := by omega
            have a1 : ¬ (c.toNat : Int) ≤ 57 := by omega
            have a2 : ¬ (97 : Int) ≤ (c.toNat : Int) := by omega
            have a3 : (65 : Int) ≤ (c.toNat : Int) := by omega
            have a4 : ¬ (c.toNat : Int) ≤ 70 := by omega
            clear h1 h2 h3 h
            go_wp2_with fail
            go_ret
            exact ⟨rfl, rfl⟩
          · have a0 : (48 : Int) ≤ (c.toNat : Int) := by omega
            have a1 : ¬ (c.toNat : Int) ≤ 57 := by omega
            have a2 : (97 : Int) ≤ (c.toNat : Int) := by omega
            have a3 : ¬ (c.toNat : Int) ≤ 102 := by omega
            have a4 : (65 : Int) ≤ (c.toNat : Int) := by omega
            have a5 : ¬ (c.toNat : Int) ≤ 70 := by omega
            clear h1 h2 h3 h
            go_wp2_with fail
            go_ret
            exact ⟨rfl, rfl⟩
      · have he : k = 4 := by omega
        subst he
        have hi := hinv.out
        rw [List.drop_of_length_le (by rw [HL4.out]; omega), Qt.fourL] at hi
        subst hi
        go_wp2_with fail
        go_ret
        exact ⟨rfl, rfl⟩
end Go.Proofs.YtlniiaopindjnaaDoor
