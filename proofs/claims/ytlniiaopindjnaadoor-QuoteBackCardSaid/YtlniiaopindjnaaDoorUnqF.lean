/-
  Layer 4: the program's four, low, high, walked.
-/
import Derived.Test.YtlniiaopindjnaaDoorUnqU
import Derived.Test.YtlniiaopindjnaaDoorShelf
import Derived.Lib.ConvBytes
import Derived.Laws.BitsAllLaws
namespace Go.Proofs.YtlniiaopindjnaaDoor
set_option linter.unusedVariables false
open Go.RowKit
open Go.Lib hiding intOf
namespace Qt
def hexes : List UInt8 := [48, 49, 50, 51, 52, 53, 54, 55, 56, 57, 97, 98, 99, 100, 101, 102, 65, 66, 67, 68, 69, 70]
def hx16 (k : Int) : Nat := if k < 0 then 16 else if 15 < k then (k - 6).toNat else k.toNat
theorem hexes_fin : ∀ n : Fin 256, hx16 (Lib.indexByte hexes ((n.val : Int).toNat.toUInt8)) = hv n.val ∧ -1 ≤ Lib.indexByte hexes ((n.val : Int).toNat.toUInt8) ∧ Lib.indexByte hexes ((n.val : Int).toNat.toUInt8) ≤ 21 := by decide +kernel
theorem or_i32 (n : Nat) (k : Int) (hn : n < 65536) (h0 : 0 ≤ k) (h1 : k < 16) : bits .or .i32 ((n : Int) * 16) k = 16 * n + k := by
  obtain ⟨b, rfl⟩ := Int.eq_ofNat_of_zero_le h0
  have hb : b < 2 ^ 4 := by omega
  have e : n * 16 ||| b = n * 16 + b := by
    have := Nat.two_pow_add_eq_or_of_lt hb n
    rw [Nat.mul_comm n 16]
    exact this.symm
  have e1 : (BitVec.ofInt 32 ((n * 16 : Nat) : Int)).toNat = n * 16 := by rw [BitVec.ofInt_natCast, BitVec.toNat_ofNat]; exact Nat.mod_eq_of_lt (by omega)
  have e2 : (BitVec.ofInt 32 ((b : Nat) : Int)).toNat = b := by rw [BitVec.ofInt_natCast, BitVec.toNat_ofNat]; exact Nat.mod_eq_of_lt (by omega)
  show IntKind.i32.wrap ((BitVec.ofInt 32 (((n : Int) * 16)) ||| BitVec.ofInt 32 (b : Int)).toNat : Int) = _
  rw [show ((n : Int) * 16) = ((n * 16 : Nat) : Int) by simp, BitVec.toNat_or, e1, e2, e]
  simp [IntKind.wrap, IntKind.bits, IntKind.signed]
  omega
end Qt

set_option maxHeartbeats 2000000 in
set_option maxRecDepth 100000 in
theorem quote_low_any (n : Int) (w : World) : Calls Tryd.prog 73 #[.int .i32 n] w fun e w' => e = .returned (.bool (decide (56320 ≤ n) && decide (n < 57344))) ∧ w = w' := by
  by_cases h1 : 56320 ≤ n
  · by_cases h2 : n < 57344
    · go_enter Tryd.func73, Tryd.ntmps73
      go_wp2_with fail
      go_ret
      exact ⟨congrArg (fun b => Ending.returned (.bool b)) (Bool.eq_iff_iff.2 (by first | (simp; done) | (simp; omega))), rfl⟩
    · go_enter Tryd.func73, Tryd.ntmps73
      go_wp2_with fail
      go_ret
      exact ⟨congrArg (fun b => Ending.returned (.bool b)) (Bool.eq_iff_iff.2 (by first | (simp; done) | (simp; omega))), rfl⟩
  · go_enter Tryd.func73, Tryd.ntmps73
    go_wp2_with fail
    go_ret
    exact ⟨congrArg (fun b => Ending.returned (.bool b)) (Bool.eq_iff_iff.2 (by first | (simp; done) | (simp; omega))), rfl⟩
set_option maxHeartbeats 2000000 in
set_option maxRecDepth 100000 in
theorem quote_high_any (n : Int) (w : World) : Calls Tryd.prog 74 #[.int .i32 n] w fun e w' => e = .returned (.bool (decide (55296 ≤ n) && decide (n < 56320))) ∧ w = w' := by
  by_cases h1 : 55296 ≤ n
  · by_cases h2 : n < 56320
    · go_enter Tryd.func74, Tryd.ntmps74
      go_wp2_with fail
      go_ret
      exact ⟨congrArg (fun b => Ending.returned (.bool b)) (Bool.eq_iff_iff.2 (by first | (simp; done) | (simp; omega))), rfl⟩
    · go_enter Tryd.func74, Tryd.ntmps74
      go_wp2_with fail
      go_ret
      exact ⟨congrArg (fun b => Ending.returned (.bool b)) (Bool.eq_iff_iff.2 (by first | (simp; done) | (simp; omega))), rfl⟩
  · go_enter Tryd.func74, Tryd.ntmps74
    go_wp2_with fail
    go_ret
    exact ⟨congrArg (fun b => Ending.returned (.bool b)) (Bool.eq_iff_iff.2 (by first | (simp; done) | (simp; omega))), rfl⟩

set_option maxHeartbeats 2000000 in
set_option maxRecDepth 100000 in
theorem quote_four_any (s : ByteArray) (w : World) (hs : s.size ≤ 1000000) : Calls Tryd.prog 72 #[.string s] w fun e w' => e = .returned (match Qt.fourB s.data.toList with | none => .tuple #[.int .i32 0, .bool false] | some n => .tuple #[.int .i32 n, .bool true]) ∧ Below w.heap.size w w' := by
  by_cases h4 : s.size < 4
  · have hz : (s.size : Int) < 4 := by omega
    have hr : Qt.fourB s.data.toList = none := by unfold Qt.fourB; rw [if_pos (by rw [← Lib.size_eq]; exact h4)]
    rw [hr]
    go_enter Tryd.func72, Tryd.ntmps72
    go_wp2_with fail
    go_ret2
    exact ⟨rfl, Below.refl _ _⟩
  · have hz : ¬ (s.size : Int) < 4 := by omega
    have hz4 : (4 : Int) ≤ s.size := by omega
    obtain ⟨R, hR⟩ : ∃ R, Qt.fourB s.data.toList = R := ⟨_, rfl⟩
    have hr : Qt.fourL (s.data.toList.take 4) 0 = R := by rw [← hR]; unfold Qt.fourB; rw [if_neg (by rw [← Lib.size_eq]; exact h4)]
    rw [hR]
    have HR := Lib.hid hr
    have hcv := fun W : World => Lib.run_convert_string_bytes (P := Tryd.prog) W 9 53 5 (s.extract 0 4) Tryd.underlying9 Tryd.underlying53 Tryd.underlying5
    clear hr hR
    go_enter Tryd.func72, Tryd.ntmps72
    go_wp2_with fail
    obtain ⟨t, ht⟩ : ∃ t, s.extract 0 4 = t := ⟨_, rfl⟩
    have htl : t.data.toList = s.data.toList.take 4 := by rw [← ht]; exact ext_take s 4
    have hts : t.size = 4 := by rw [Lib.size_eq, htl, List.length_take, ← Lib.size_eq]; omega
    rw [ht]
    obtain ⟨w1, hw1⟩ : ∃ w1, w1 = Lib.bytesWorld w 5 t := ⟨_, rfl⟩
    have hcell : ∀ k c, t.data.toList[k]? = some c → w1.cell? ⟨w.heap.size, k, none⟩ = some (.int .u8 c.toNat) := by
      intro k c hc
      have hk : k < t.size := by have := (List.getElem?_eq_some_iff.1 hc).1; rw [Lib.size_eq]; exact this
      rw [hw1, Lib.bytesWorld_cell w 5 t k hk]
      simp [List.getD, hc]
    have hbel : Below w.heap.size w w1 := by
      rw [hw1]
      exact ⟨rfl, rfl, rfl, by rw [Lib.bytesWorld_size]; omega, fun k hk => Lib.bytesWorld_at_old _ _ _ k hk⟩
    have HC := Lib.hid hcell
    have HB := Lib.hid hbel
    have HTL := Lib.hid htl
    rw [← hw1]
    try simp only [hts]
    clear hcell hbel hw1 hcv htl
    go_loop [4, 15] (fun v i => ∃ (k n : Nat), k ≤ 4 ∧ i = .int .i64 k ∧ v = .int .i32 n ∧ n < 16 ^ k ∧ Hid (Qt.fourL (t.data.toList.drop k) n = R)) (fun _ i => 4 - (intOf i).toNat)
    case atStart => exact ⟨0, 0, by omega, rfl, rfl, by simp, by rw [List.drop_zero, HTL.out]; exact HR.out⟩
    case round =>
      obtain ⟨k, n, hk, rfl, rfl, hn, hinv⟩ := hrel
      by_cases hlt : k < 4
      · obtain ⟨c, hc⟩ := get_at (show k < t.data.toList.length by rw [← Lib.size_eq]; omega)
        have hcl := HC.out k c hc
        have hi := hinv.out
        have hd : t.data.toList.drop k = c :: t.data.toList.drop (k + 1) := by
          have hkl : k < t.data.toList.length := by rw [← Lib.size_eq]; omega
          rw [List.drop_eq_getElem_cons hkl]
          congr 1
          rw [List.getElem?_eq_getElem hkl] at hc
          exact Option.some.inj hc
        rw [hd, Qt.fourL] at hi
        have hp : 16 ^ k ≤ 4096 := Nat.pow_le_pow_right (n := 16) (by omega) (show k ≤ 3 by omega)
        have hps : 16 ^ (k + 1) = 16 * 16 ^ k := by rw [Nat.pow_succ]; omega
        have HPS := Lib.hid hps
        generalize 16 ^ k = P16 at *
        obtain ⟨q1, q2, q3⟩ := Qt.hexes_fin ⟨c.toNat, UInt8.toNat_lt c⟩
        simp only at q1 q2 q3
        have hIX := fun W => Go.Proofs.Tryd.strings_IndexByte ⟨#[48, 49, 50, 51, 52, 53, 54, 55, 56, 57, 97, 98, 99, 100, 101, 102, 65, 66, 67, 68, 69, 70]⟩ (c.toNat : Int) W
        have e : (⟨#[48, 49, 50, 51, 52, 53, 54, 55, 56, 57, 97, 98, 99, 100, 101, 102, 65, 66, 67, 68, 69, 70]⟩ : ByteArray).data.toList = Qt.hexes := rfl
        rw [e] at hIX
        obtain ⟨ix, hix⟩ : ∃ ix, Lib.indexByte Qt.hexes ((c.toNat : Int).toNat.toUInt8) = ix := ⟨_, rfl⟩
        simp only [hix] at hIX q1 q2 q3
        rw [← q1] at hi
        have HIX := Lib.hid hIX
        have hcu := UInt8.toNat_lt c
        clear hIX q1 hc hd hinv hps e hix
        by_cases h0 : ix < 0
        · have hv : Qt.hx16 ix = 16 := by unfold Qt.hx16; rw [if_pos h0]
          rw [if_pos hv] at hi
          subst hi
          clear hv
          go_wp2_with (go_at_call 30; refine (HIX.out _).mono ?_; rintro e w9 ⟨rfl, rfl⟩)
          go_ret2
          exact ⟨rfl, HB.out⟩
        · by_cases h15 : 15 < ix
          · have hv : Qt.hx16 ix = (ix - 6).toNat := by unfold Qt.hx16; rw [if_neg h0, if_pos h15]
            rw [if_neg (by omega), hv] at hi
            have HI := Lib.hid hi
            have hor := Qt.or_i32 n (ix - 6) (by omega) (by omega) (by omega)
            clear hi hv
            go_wp2_with (go_at_call 30; refine (HIX.out _).mono ?_; rintro e w9 ⟨rfl, rfl⟩)
            go_round
            case rel => exact ⟨k + 1, 16 * n + (ix - 6).toNat, by omega, by go_num, by go_num, by rw [HPS.out]; omega, HI.out⟩
            case measure => simp [intOf]; omega
          · have hv : Qt.hx16 ix = ix.toNat := by unfold Qt.hx16; rw [if_neg h0, if_neg h15]
            rw [if_neg (by omega), hv] at hi
            have HI := Lib.hid hi
            have hor := Qt.or_i32 n ix (by omega) (by omega) (by omega)
            clear hi hv
            go_wp2_with (go_at_call 30; refine (HIX.out _).mono ?_; rintro e w9 ⟨rfl, rfl⟩)
            go_round
            case rel => exact ⟨k + 1, 16 * n + ix.toNat, by omega, by go_num, by go_num, by rw [HPS.out]; omega, HI.out⟩
            case measure => simp [intOf]; omega
      · have he : k = 4 := by omega
        subst he
        have hi := hinv.out
        rw [List.drop_of_length_le (by rw [← Lib.size_eq]; omega), Qt.fourL] at hi
        subst hi
        go_wp2_with fail
        go_ret2
        exact ⟨rfl, HB.out⟩
end Go.Proofs.YtlniiaopindjnaaDoor
