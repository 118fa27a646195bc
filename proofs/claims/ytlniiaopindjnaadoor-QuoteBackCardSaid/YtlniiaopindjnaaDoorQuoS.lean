/-
  Layer 4's document: short, hexs, walked.
-/
import Derived.Test.YtlniiaopindjnaaDoorQuoV
import Derived.Test.YtlniiaopindjnaaDoorHexP
namespace Go.Proofs.YtlniiaopindjnaaDoor
set_option linter.unusedVariables false
open Go.RowKit
open Go.Lib hiding intOf

namespace Qt
/-- What a letter's short escape has behind the sign; 0: it has none in the one form. -/
def short (n : Nat) : Nat := if n = 34 ∨ n = 92 then n else if n = 8 then 98 else if n = 12 then 102 else if n = 10 then 110 else if n = 13 then 114 else if n = 9 then 116 else 0
/-- A number's last k small hexadecimal digits. -/
def hx (n : Nat) : Nat → List UInt8
  | 0 => []
  | k + 1 => Hx.dig (n / 16 ^ k % 16) :: hx n k
theorem hx_length (n : Nat) : ∀ k, (hx n k).length = k
  | 0 => rfl
  | k + 1 => by rw [hx, List.length_cons, hx_length n k]
theorem dig_low : ∀ d : Fin 16, d.val < 10 → UInt8.ofNat (48 + d.val) = Hx.dig d.val := by decide
theorem dig_high : ∀ d : Fin 16, 10 ≤ d.val → UInt8.ofNat (97 + d.val - 10) = Hx.dig d.val := by decide
/-- How a letter of the bytes t stands between quotes. -/
def esc (n : Nat) (t : List UInt8) : List UInt8 := if short n ≠ 0 then [92, UInt8.ofNat (short n)] else if n < 32 ∨ n = 127 then 92 :: 117 :: hx n 4 else t
end Qt

set_option maxHeartbeats 1000000 in
set_option maxRecDepth 100000 in
theorem ref04_short_any (n : Nat) (w : World) (hn : n ≤ 1114111) : Calls Tryd.prog 36 #[.int .i64 n] w fun e w' => e = .returned (.int .u8 (Qt.short n)) ∧ w = w' := by
  by_cases c1 : n = 34
  · subst c1; go_enter Tryd.func36, Tryd.ntmps36; go_wp2_with fail; go_ret; exact ⟨rfl, rfl⟩
  · by_cases c2 : n = 92
    · subst c2; go_enter Tryd.func36, Tryd.ntmps36; go_wp2_with fail; go_ret; exact ⟨rfl, rfl⟩
    · by_cases c3 : n = 8
      · subst c3; go_enter Tryd.func36, Tryd.ntmps36; go_wp2_with fail; go_ret; exact ⟨rfl, rfl⟩
      · by_cases c4 : n = 12
        · subst c4; go_enter Tryd.func36, Tryd.ntmps36; go_wp2_with fail; go_ret; exact ⟨rfl, rfl⟩
        · by_cases c5 : n = 10
          · subst c5; go_enter Tryd.func36, Tryd.ntmps36; go_wp2_with fail; go_ret; exact ⟨rfl, rfl⟩
          · by_cases c6 : n = 13
            · subst c6; go_enter Tryd.func36, Tryd.ntmps36; go_wp2_with fail; go_ret; exact ⟨rfl, rfl⟩
            · by_cases c7 : n = 9
              · subst c7; go_enter Tryd.func36, Tryd.ntmps36; go_wp2_with fail; go_ret; exact ⟨rfl, rfl⟩
              · have hz : Qt.short n = 0 := by unfold Qt.short; (repeat' split) <;> omega
                rw [hz]
                have z1 : ((n : Int) == 34) = false := by rw [beq_eq_false_iff_ne]; omega
                have z2 : ((n : Int) == 92) = false := by rw [beq_eq_false_iff_ne]; omega
                have z3 : ((n : Int) == 8) = false := by rw [beq_eq_false_iff_ne]; omega
                have z4 : ((n : Int) == 12) = false := by rw [beq_eq_false_iff_ne]; omega
                have z5 : ((n : Int) == 10) = false := by rw [beq_eq_false_iff_ne]; omega
                have z6 : ((n : Int) == 13) = false := by rw [beq_eq_false_iff_ne]; omega
                have z7 : ((n : Int) == 9) = false := by rw [beq_eq_false_iff_ne]; omega
                clear c1 c2 c3 c4 c5 c6 c7 hz
                go_enter Tryd.func36, Tryd.ntmps36
                go_wp2_with fail
                go_ret
                exact ⟨rfl, rfl⟩

set_option maxHeartbeats 1000000 in
set_option maxRecDepth 100000 in
theorem ref04_hexs_any (n : Nat) (w : World) (hn : n ≤ 1114111) : Calls Tryd.prog 37 #[.int .i64 n] w fun e w' => e = .returned (.string ⟨(Qt.hx n 4).toArray⟩) ∧ Below w.heap.size w w' := by
  go_enter Tryd.func37, Tryd.ntmps37
  go_wp2_with fail
  go_loopw [0, 3, 4] (fun a s i wr => ∃ k : Nat, k ≤ 4 ∧ i = .int .i64 k ∧ a = .int .i64 ((n / 16 ^ k : Nat)) ∧ s = .string ⟨(Qt.hx n k).toArray⟩ ∧ Below w.heap.size w wr) (fun _ _ i _ => 4 - (intOf i).toNat)
  case atStart => exact ⟨0, Nat.zero_le _, rfl, by simp, rfl, Below.refl _ _⟩
  case round =>
    obtain ⟨k, hk, rfl, rfl, rfl, hbel⟩ := hrel
    have HB := Lib.hid hbel
    by_cases hlt : k < 4
    · have hb : n / 16 ^ k ≤ n := Nat.div_le_self _ _
      obtain ⟨m, hm⟩ : ∃ m, m = n / 16 ^ k := ⟨_, rfl⟩
      have hl := Qt.hx_length n k
      have hnx : n / 16 ^ (k + 1) = m / 16 := by rw [Nat.pow_succ, ← Nat.div_div_eq_div_mul, ← hm]
      have hls : Qt.hx n (k + 1) = Hx.dig (m % 16) :: Qt.hx n k := by rw [hm]; rfl
      rw [← hm] at hb ⊢
      have HM := Lib.hid hnx
      have HL := Lib.hid hls
      have HBE := Lib.hid (HB.out.alloc HB.out.size (.cells #[.int .u8 0] 5))
      by_cases hd : m % 16 < 10
      · have hdz : ((m : Int) % 16) < 10 := by omega
        have hcv := bytes_conv [48 + m % 16] (by simp; omega) wr 1 rfl #[.int .u8 (48 + (m : Int) % 16)] (by simp)
        have hdd : u8s [48 + m % 16] = [Hx.dig (m % 16)] := by simp only [u8s, List.map_cons, List.map_nil]; rw [Qt.dig_low ⟨m % 16, by omega⟩ hd]
        rw [hdd] at hcv
        have HO := Lib.hid (HB.out.alloc HB.out.size (.cells #[.int .u8 (48 + (m : Int) % 16)] 5))
        clear hm hnx hls hdd hbel
        go_wp2_with fail
        go_roundw
        case rel =>
          refine ⟨k + 1, by omega, by go_num, by rw [HM.out]; go_num, ?_, HO.out⟩
          rw [HL.out]
          exact congrArg Value.string (ByteArray.ext (by simp))
        case measure => simp [intOf]; omega
      · have hdz : ¬ ((m : Int) % 16) < 10 := by omega
        have hcv := bytes_conv [97 + m % 16 - 10] (by simp; omega) wr 1 rfl #[.int .u8 (97 + (m : Int) % 16 - 10)] (by simp; omega)
        have hdd : u8s [97 + m % 16 - 10] = [Hx.dig (m % 16)] := by simp only [u8s, List.map_cons, List.map_nil]; rw [Qt.dig_high ⟨m % 16, by omega⟩ (by simp; omega)]
        rw [hdd] at hcv
        have HO := Lib.hid (HB.out.alloc HB.out.size (.cells #[.int .u8 (97 + (m : Int) % 16 - 10)] 5))
        clear hm hnx hls hdd hbel
        go_wp2_with fail
        go_roundw
        case rel =>
          refine ⟨k + 1, by omega, by go_num, by rw [HM.out]; go_num, ?_, HO.out⟩
          rw [HL.out]
          exact congrArg Value.string (ByteArray.ext (by simp))
        case measure => simp [intOf]; omega
    · have he : k = 4 := by omega
      subst he
      clear hbel
      go_wp2_with fail
      go_ret
      exact ⟨rfl, HB.out⟩
end Go.Proofs.YtlniiaopindjnaaDoor
