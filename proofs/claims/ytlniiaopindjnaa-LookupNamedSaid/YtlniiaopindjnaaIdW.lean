/-
  lookup.id and the reference's Id, walked.
-/
import Derived.Test.YtlniiaopindjnaaHex
import Derived.Test.YtlniiaopindjnaaIdP
import Derived.Laws.IdiomStrings
namespace Go.Proofs.Ytlniiaopindjnaa
set_option linter.unusedVariables false
open Go.RowKit

set_option maxHeartbeats 1000000 in
set_option maxRecDepth 100000 in
theorem id_any (n : Nat) (w : World) (hn : n < 16777216) :
    Calls Try.prog 41 #[.int .i64 n] w fun e w' => e = .returned (.string (Hx.idS n)) ∧ Below w.heap.size w w' := by
  have hcv : (convert 69 9 (.slice (some ⟨w.heap.size, 0, none⟩) 3 3)).run Try.prog (w.alloc (.cells #[.int .u8 ((n : Int) / 65536), .int .u8 ((n : Int) / 256 % 256), .int .u8 ((n : Int) % 256)] 5)) = .ok (.string ⟨#[UInt8.ofNat (n / 65536), UInt8.ofNat (n / 256 % 256), UInt8.ofNat (n % 256)]⟩) (w.alloc (.cells #[.int .u8 ((n : Int) / 65536), .int .u8 ((n : Int) / 256 % 256), .int .u8 ((n : Int) % 256)] 5)) := by
    refine run_convert_bytes_back _ _ _ 5 _ 3 [UInt8.ofNat (n / 65536), UInt8.ofNat (n / 256 % 256), UInt8.ofNat (n % 256)] Try.underlying69 Try.underlying5 Try.underlying9 ?_
    intro j hj
    have e1 : n / 65536 < 256 := by omega
    match j, hj with
    | 0, _ => simp [Addr.add, UInt8.toNat_ofNat', Nat.mod_eq_of_lt e1]
    | 1, _ => simp [Addr.add, UInt8.toNat_ofNat']
    | 2, _ => simp [Addr.add, UInt8.toNat_ofNat']
  go_enter Try.func41, Try.ntmps41
  go_wp2_with fail
  refine (hex_any ⟨#[UInt8.ofNat (n / 65536), UInt8.ofNat (n / 256 % 256), UInt8.ofNat (n % 256)]⟩ _ (Nat.le_of_ble_eq_true rfl)).mono ?_
  rintro e w2 ⟨rfl, b2⟩
  have B2 := Lib.hid b2
  clear b2
  go_wp2
  go_ret
  exact ⟨rfl, ((Below.refl _ _).alloc (Nat.le_refl _) _).trans (B2.out.mono (by simp))⟩

set_option maxHeartbeats 1000000 in
set_option maxRecDepth 100000 in
theorem ref18_Id_any (n : Nat) (w : World) (hn : n < 16777216) :
    Calls Try.prog 42 #[.int .i64 n] w fun e w' => e = .returned (.string (Hx.idS n)) ∧ w = w' := by
  go_enter Try.func42, Try.ntmps42
  go_wp2
  go_loop [0, 3, 4] (fun a s i => ∃ k : Nat, k ≤ 6 ∧ i = .int .i64 k ∧ a = .int .i64 ((n / 16 ^ k : Nat)) ∧ s = .string ⟨(Hx.last n k).toArray⟩) (fun _ _ i => 6 - (intOf i).toNat)
  case atStart => exact ⟨0, Nat.zero_le _, rfl, by simp, rfl⟩
  case round =>
    obtain ⟨k, hk, rfl, rfl, rfl⟩ := hrel
    by_cases hlt : k < 6
    · have hb : n / 16 ^ k ≤ n := Nat.div_le_self _ _
      obtain ⟨m, hm⟩ : ∃ m, m = n / 16 ^ k := ⟨_, rfl⟩
      have hl := Hx.last_length n k
      have hnx : n / 16 ^ (k + 1) = m / 16 := by rw [Nat.pow_succ, ← Nat.div_div_eq_div_mul, ← hm]
      have hls : Hx.last n (k + 1) = Hx.dig (m % 16) :: Hx.last n k := by rw [hm]; rfl
      have hsl := Hx.lower_slice (m % 16) (by omega)
      rw [← hm] at hb ⊢
      have HM := Lib.hid hnx
      have HL := Lib.hid hls
      have HS := Lib.hid hsl
      clear hm hnx hls hsl
      go_wp2
      go_round
      case rel =>
        refine ⟨k + 1, by omega, by go_num, by rw [HM.out]; go_num, ?_⟩
        rw [HS.out, HL.out]
        congr 1
      case measure => simp [intOf]; omega
    · have he : k = 6 := by omega
      subst he
      go_wp2
      go_ret
      exact ⟨by rw [Hx.last_six n hn]; rfl, rfl⟩
end Go.Proofs.Ytlniiaopindjnaa
