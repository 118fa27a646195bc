/-
  Layer 39: the walks of space.plus, times, Need, and of the reference's Need.
-/
import Derived.Test.YtlniiaopindjnaaBase
import Derived.Test.YtlniiaopindjnaaSpaceP
namespace Go.Proofs.Ytlniiaopindjnaa
set_option linter.unusedVariables false
open Go.RowKit

theorem ret_int {k : IntKind} {a b : Int} (h : a = b) : Ending.returned (.int k a) = .returned (.int k b) := by rw [h]
set_option maxHeartbeats 400000 in
theorem plus_any (a b : Int) (w : World) (ha : 0 ≤ a) (hb : 0 ≤ b) (ha' : a ≤ 9223372036854775807) (hb' : b ≤ 9223372036854775807) :
    Calls Try.prog 29 #[.int .i64 a, .int .i64 b] w fun e w' => e = .returned (.int .i64 (Sp.plus a b)) ∧ w = w' := by
  go_enter Try.func29, Try.ntmps29
  go_wp2
  all_goals
    go_ret
    exact ⟨ret_int (by unfold Sp.plus Sp.most; omega), rfl⟩
set_option maxHeartbeats 400000 in
theorem times_any (a b : Int) (w : World) (ha : 0 < a) (hb : 0 ≤ b) (ha' : a ≤ 9007199254740992) (hb' : b ≤ 9007199254740992) :
    Calls Try.prog 30 #[.int .i64 a, .int .i64 b] w fun e w' => e = .returned (.int .i64 (Sp.times a b)) ∧ w = w' := by
  by_cases hm : a * b ≤ 9007199254740992
  · have h1 : ¬ 9007199254740992 / a < b := by rw [Int.ediv_lt_iff_lt_mul ha, Int.mul_comm b a]; omega
    have h0 : 0 ≤ a * b := Int.mul_nonneg (by omega) hb
    go_enter Try.func30, Try.ntmps30
    go_wp2
    go_ret
    exact ⟨ret_int (by unfold Sp.times Sp.most; rw [if_neg (fun h => absurd h.2 (by omega))]), rfl⟩
  · have h1 : 9007199254740992 / a < b := by rw [Int.ediv_lt_iff_lt_mul ha, Int.mul_comm b a]; omega
    go_enter Try.func30, Try.ntmps30
    go_wp2
    go_ret
    exact ⟨ret_int (by unfold Sp.times Sp.most; rw [if_pos ⟨ha, h1⟩]), rfl⟩
theorem plus_bd (a b : Int) (ha : 0 ≤ a) (hb : 0 ≤ b) : 0 ≤ Sp.plus a b ∧ Sp.plus a b ≤ 9007199254740992 ∧ (0 < a → 0 < Sp.plus a b) ∧ (0 < b → 0 < Sp.plus a b) := by
  unfold Sp.plus Sp.most; omega
theorem times_bd (a b : Int) (ha : 0 < a) (hb : 0 ≤ b) : 0 ≤ Sp.times a b ∧ Sp.times a b ≤ 9007199254740992 := by
  rw [Sp.times_nat a b ha]
  have := Int.mul_nonneg (show 0 ≤ a by omega) hb
  unfold Sp.most; split <;> omega
set_option maxHeartbeats 1000000 in
theorem need_any (p c k : Int) (w : World) (hp1 : -9223372036854775808 ≤ p) (hp : p ≤ 9223372036854775807) (hc1 : -9223372036854775808 ≤ c) (hc : c ≤ 9223372036854775807) (hk1 : -9223372036854775808 ≤ k) (hk : k ≤ 9223372036854775807) :
    Calls Try.prog 9 #[.int .i64 p, .int .i64 c, .int .i64 k] w fun e w' => e = .returned (.int .i64 (Sp.need p c k)) ∧ w = w' := by
  by_cases h0 : p < 0 ∨ c < 0 ∨ k < 0
  · go_enter Try.func9, Try.ntmps9
    go_wp2
    all_goals
      go_ret
      exact ⟨ret_int (by unfold Sp.need; rw [if_pos h0]), rfl⟩
  · have p0 : 0 ≤ p := by omega
    have c0 : 0 ≤ c := by omega
    have k0 : 0 ≤ k := by omega
    have hn : Sp.need p c k = Sp.plus 4096 (Sp.times (Sp.plus (Sp.plus p c) (Sp.plus k 1)) (Sp.plus 16640 (Sp.times 8192 (Sp.plus c 1)))) := by unfold Sp.need; rw [if_neg h0]
    have HN := Lib.hid hn
    clear hn h0
    obtain ⟨a1, a2, -, -⟩ := plus_bd p c p0 c0
    obtain ⟨b1, b2, -, b4⟩ := plus_bd k 1 k0 (by omega)
    have b3 := b4 (by omega)
    obtain ⟨d1, d2, d3, d4⟩ := plus_bd _ _ a1 b1
    have d5 := d4 b3
    obtain ⟨e1, e2, -, e4⟩ := plus_bd c 1 c0 (by omega)
    obtain ⟨f1, f2⟩ := times_bd 8192 _ (by omega) e1
    obtain ⟨g1, g2, -, -⟩ := plus_bd 16640 _ (by omega) f1
    obtain ⟨i1, i2⟩ := times_bd _ _ d5 g1
    clear d3 d4 b4 e4
    go_enter Try.func9, Try.ntmps9
    go_wp2_with (first | (go_at_call 29; refine (plus_any _ _ _ (by omega) (by omega) (by omega) (by omega)).mono ?_; rintro e w' ⟨rfl, rfl⟩) | (go_at_call 30; refine (times_any _ _ _ (by omega) (by omega) (by omega) (by omega)).mono ?_; rintro e w' ⟨rfl, rfl⟩))
    all_goals
      go_ret
      exact ⟨ret_int HN.out.symm, rfl⟩
set_option maxHeartbeats 2000000 in
theorem ref39_need_any (p c k : Int) (w : World) (hp1 : -9223372036854775808 ≤ p) (hp : p ≤ 9223372036854775807) (hc1 : -9223372036854775808 ≤ c) (hc : c ≤ 9223372036854775807) (hk1 : -9223372036854775808 ≤ k) (hk : k ≤ 9223372036854775807) :
    Calls Try.prog 10 #[.int .i64 p, .int .i64 c, .int .i64 k] w fun e w' => e = .returned (.int .i64 (Sp.need p c k)) ∧ w = w' := by
  have hn := Sp.need_eq p c k
  unfold Sp.needR at hn
  by_cases h0 : p < 0 ∨ c < 0 ∨ k < 0
  · rw [if_pos h0] at hn
    have HN := Lib.hid hn
    clear hn
    go_enter Try.func10, Try.ntmps10
    go_wp2
    all_goals
      go_ret
      exact ⟨ret_int HN.out.symm, rfl⟩
  · rw [if_neg h0] at hn
    have p0 : 0 ≤ p := by omega
    have c0 : 0 ≤ c := by omega
    have k0 : 0 ≤ k := by omega
    clear h0
    by_cases h1 : (1048576 ≤ p ∨ 1048576 ≤ c ∨ 1048576 ≤ k) ∧ (1125899906842624 ≤ p ∨ 67108864 ≤ c ∨ 1125899906842624 ≤ k)
    · rw [if_pos h1] at hn
      have HN := Lib.hid hn
      obtain ⟨h2, h3⟩ := h1
      clear hn
      go_enter Try.func10, Try.ntmps10
      go_wp2
      all_goals
        go_ret
        exact ⟨ret_int HN.out.symm, rfl⟩
    · rw [if_neg h1] at hn
      have q1 : p < 1125899906842624 := by omega
      have q2 : c < 67108864 := by omega
      have q3 : k < 1125899906842624 := by omega
      have hd : 9007199254740992 / (16640 + 8192 * (c + 1)) < p + c + k + 1 ↔ 9007199254740992 < (p + c + k + 1) * (16640 + 8192 * (c + 1)) := by rw [Int.ediv_lt_iff_lt_mul (by omega)]
      have hpos : 0 ≤ (p + c + k + 1) * (16640 + 8192 * (c + 1)) := Int.mul_nonneg (by omega) (by omega)
      have HN := Lib.hid hn
      clear hn h1
      by_cases h2 : 9007199254740992 / (16640 + 8192 * (c + 1)) < p + c + k + 1
      · clear hd
        go_enter Try.func10, Try.ntmps10
        go_wp2
        all_goals
          go_ret
          exact ⟨ret_int (by rw [HN.out, if_pos (by unfold Sp.most; omega)]; rfl), rfl⟩
      · have h3 : (p + c + k + 1) * (16640 + 8192 * (c + 1)) ≤ 9007199254740992 := by omega
        clear hd
        go_enter Try.func10, Try.ntmps10
        go_wp2
        all_goals
          go_ret
          exact ⟨ret_int (by rw [HN.out, if_neg (by unfold Sp.most; omega)]; unfold Sp.most; omega), rfl⟩
end Go.Proofs.Ytlniiaopindjnaa
