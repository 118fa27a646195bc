/-
  Layer 4's document: long, one, walked.
-/
import Derived.Test.YtlniiaopindjnaaDoorUnqP
import Derived.Deep.DeepCutAuto
namespace Go.Proofs.YtlniiaopindjnaaDoor
set_option linter.unusedVariables false
open Go.RowKit
open Go.Lib hiding intOf
namespace Qt
/-- The letter of an escape that begins with the sign and a u, and how many bytes it takes; 0: there is none. -/
def longB (s : ByteArray) : Nat × Nat :=
  match fourB (s.data.toList.drop 2) with
  | none => (0, 0)
  | some n => if isLetter (n : Int) = true then (n, 6)
    else if 56319 < n ∨ s.size < 12 ∨ s.get! 6 ≠ 92 ∨ s.get! 7 ≠ 117 then (0, 0)
    else match fourB (s.data.toList.drop 8) with
      | none => (0, 0)
      | some m => if m < 56320 ∨ 57343 < m then (0, 0) else (65536 + (n - 55296) * 1024 + (m - 56320), 12)
end Qt

set_option maxHeartbeats 2000000 in
set_option maxRecDepth 100000 in
theorem ref04_long_any (s : ByteArray) (w : World) (hs : s.size ≤ 1000000000) (h2 : 2 ≤ s.size) : Calls Tryd.prog 61 #[.string s] w fun e w' => e = .returned (.tuple #[.int .i64 (Qt.longB s).1, .int .i64 (Qt.longB s).2]) ∧ w = w' := by
  have hz2 : (2 : Int) ≤ (s.size : Int) := by omega
  have hf2 := fun W => ref04_four_any (s.extract 2 s.size) W (by rw [ext_size]; omega)
  rw [ext_list] at hf2
  cases e2 : Qt.fourB (s.data.toList.drop 2) with
  | none =>
    have hl : Qt.longB s = (0, 0) := by unfold Qt.longB; rw [e2]
    rw [hl]
    simp only [e2, Qt.numO] at hf2
    have HF2 := Lib.hid hf2
    clear hf2 e2 hl
    go_enter Tryd.func61, Tryd.ntmps61
    go_wp2_with (go_at_call 77; refine (HF2.out _).mono ?_; rintro e w2 ⟨rfl, rfl⟩)
    go_ret2
    exact ⟨rfl, rfl⟩
  | some n =>
    have hn := Qt.fourB_lt e2
    simp only [e2, Qt.numO] at hf2
    have HF2 := Lib.hid hf2
    have hn0 : ¬ (n : Int) < 0 := by omega
    have hle := fun W => ref04_isLetter_any (n : Int) W
    by_cases hi : Qt.isLetter (n : Int) = true
    · have hl : Qt.longB s = (n, 6) := by unfold Qt.longB; rw [e2]; simp only [hi, if_true]
      rw [hl]
      simp only [hi] at hle
      have HLE := Lib.hid hle
      clear hf2 e2 hl hle hi
      go_enter Tryd.func61, Tryd.ntmps61
      go_wp2_with (first
        | (go_at_call 77; refine (HF2.out _).mono ?_; rintro e w2 ⟨rfl, rfl⟩)
        | (go_at_call 57; refine (HLE.out _).mono ?_; rintro e w2 ⟨rfl, rfl⟩))
      go_ret2
      exact ⟨rfl, rfl⟩
    · have hi' := hi
      rw [Bool.not_eq_true] at hi
      simp only [hi] at hle
      have HLE := Lib.hid hle
      clear hf2 hle
      have hrange : 55296 ≤ n ∧ n ≤ 57343 := by simp [Qt.isLetter] at hi; omega
      by_cases hbad : 56319 < n ∨ s.size < 12 ∨ s.get! 6 ≠ 92 ∨ s.get! 7 ≠ 117
      · have hl : Qt.longB s = (0, 0) := by unfold Qt.longB; rw [e2]; simp only [if_neg hi', if_pos hbad]
        have HL := Lib.hid hl
        clear e2 hl hi hi'
        by_cases k1 : 56319 < n
        · have z1 : (56319 : Int) < (n : Int) := by omega
          go_enter Tryd.func61, Tryd.ntmps61
          go_wp2_with (first
            | (go_at_call 77; (with_reducible refine (HF2.out _).mono ?_); rintro e w2 ⟨rfl, rfl⟩)
            | (go_at_call 57; refine (HLE.out _).mono ?_; rintro e w2 ⟨rfl, rfl⟩))
          go_ret2
          exact ⟨by rw [HL.out]; rfl, rfl⟩
        · have z1 : ¬ (56319 : Int) < (n : Int) := by omega
          by_cases k2 : s.size < 12
          · have z2 : (s.size : Int) < 12 := by omega
            go_enter Tryd.func61, Tryd.ntmps61
            go_wp2_with (first
              | (go_at_call 77; (with_reducible refine (HF2.out _).mono ?_); rintro e w2 ⟨rfl, rfl⟩)
              | (go_at_call 57; refine (HLE.out _).mono ?_; rintro e w2 ⟨rfl, rfl⟩))
            go_ret2
            exact ⟨by rw [HL.out]; rfl, rfl⟩
          · have z2 : ¬ (s.size : Int) < 12 := by omega
            have z3 : (6 : Int) < s.size := by omega
            have z4 : (7 : Int) < s.size := by omega
            obtain ⟨c6, hc6⟩ : ∃ c6, s.get! 6 = c6 := ⟨_, rfl⟩
            have hs6 : s[6]'(by omega) = c6 := by rw [← hc6]; exact (Utf8W.get!_of_lt s 6 (by omega)).symm
            obtain ⟨c7, hc7⟩ : ∃ c7, s.get! 7 = c7 := ⟨_, rfl⟩
            have hs7 : s[7]'(by omega) = c7 := by rw [← hc7]; exact (Utf8W.get!_of_lt s 7 (by omega)).symm
            rw [hc6, hc7] at hbad
            by_cases k3 : c6 = 92
            · subst k3
              have k4 : c7 ≠ 117 := by
                rcases hbad with h | h | h | h
                · omega
                · omega
                · exact absurd rfl h
                · exact h
              have k5 : ((c7.toNat : Int) != 117) = true := by
                rw [bne_iff_ne]
                intro h
                exact k4 (UInt8.toNat_inj.1 (by have : c7.toNat = 117 := by omega
                                                rw [this]; rfl))
              clear hbad k4 hc6 hc7
              go_enter Tryd.func61, Tryd.ntmps61
              go_wp2_with (first
                | (go_at_call 77; (with_reducible refine (HF2.out _).mono ?_); rintro e w2 ⟨rfl, rfl⟩)
                | (go_at_call 57; refine (HLE.out _).mono ?_; rintro e w2 ⟨rfl, rfl⟩))
              go_ret2
              exact ⟨by rw [HL.out]; rfl, rfl⟩
            · have k5 : ((c6.toNat : Int) != 92) = true := by
                rw [bne_iff_ne]
                intro h
                exact k3 (UInt8.toNat_inj.1 (by have : c6.toNat = 92 := by omega
                                                rw [this]; rfl))
              clear hbad k3 hc6 hc7
              go_enter Tryd.func61, Tryd.ntmps61
              go_wp2_with (first
                | (go_at_call 77; (with_reducible refine (HF2.out _).mono ?_); rintro e w2 ⟨rfl, rfl⟩)
                | (go_at_call 57; refine (HLE.out _).mono ?_; rintro e w2 ⟨rfl, rfl⟩))
              go_ret2
              exact ⟨by rw [HL.out]; rfl, rfl⟩
      · have k1 : ¬ 56319 < n := fun h => hbad (.inl h)
        have k2 : ¬ s.size < 12 := fun h => hbad (.inr (.inl h))
        have z1 : ¬ (56319 : Int) < (n : Int) := by omega
        have z2 : ¬ (s.size : Int) < 12 := by omega
        have z3 : (6 : Int) < s.size := by omega
        have z4 : (7 : Int) < s.size := by omega
        have z5 : (8 : Int) ≤ s.size := by omega
        have q6 : s.get! 6 = 92 := Decidable.byContradiction fun h => hbad (.inr (.inr (.inl h)))
        have q7 : s.get! 7 = 117 := Decidable.byContradiction fun h => hbad (.inr (.inr (.inr h)))
        have l6 : 6 < s.size := by clear hbad; omega
        have l7 : 7 < s.size := by clear hbad; omega
        have hs6 : s[6]'l6 = 92 := by rw [← q6]; exact (Utf8W.get!_of_lt s 6 (by omega)).symm
        have hs7 : s[7]'l7 = 117 := by rw [← q7]; exact (Utf8W.get!_of_lt s 7 (by omega)).symm
        have hf8 := fun W => ref04_four_any (s.extract 8 s.size) W (by rw [ext_size]; omega)
        rw [ext_list] at hf8
        have hl0 : Qt.longB s = match Qt.fourB (s.data.toList.drop 8) with
            | none => (0, 0)
            | some m => if m < 56320 ∨ 57343 < m then (0, 0) else (65536 + (n - 55296) * 1024 + (m - 56320), 12) := by
          unfold Qt.longB; rw [e2]; simp only [if_neg hi', if_neg hbad]
        cases e8 : Qt.fourB (s.data.toList.drop 8) with
        | none =>
          rw [e8] at hl0
          have HL := Lib.hid hl0
          simp only [e8, Qt.numO] at hf8
          have HF8 := Lib.hid hf8
          clear hf8 hl0 e2 e8 hi hi' hbad q6 q7
          go_enter Tryd.func61, Tryd.ntmps61
          go_wp2_with (first
            | (go_at_call 77; (with_reducible refine (HF2.out _).mono ?_); rintro e w2 ⟨rfl, rfl⟩)
            | (go_at_call 57; refine (HLE.out _).mono ?_; rintro e w2 ⟨rfl, rfl⟩)
            | (go_at_call 77; (with_reducible refine (HF8.out _).mono ?_); rintro e w2 ⟨rfl, rfl⟩))
          go_ret2
          exact ⟨by rw [HL.out]; rfl, rfl⟩
        | some m =>
          have hm := Qt.fourB_lt e8
          rw [e8] at hl0
          simp only [e8, Qt.numO] at hf8
          obtain ⟨mz, hmz⟩ : ∃ mz : Int, (m : Int) = mz := ⟨_, rfl⟩
          simp only [hmz] at hf8
          have HF8 := Lib.hid hf8
          by_cases hmm : m < 56320 ∨ 57343 < m
          · have HL := Lib.hid (show Qt.longB s = (0, 0) by rw [hl0]; simp only [if_pos hmm])
            clear hf8 hl0 e2 e8 hi hi' hbad q6 q7
            by_cases m1 : m < 56320
            · have y1 : mz < 56320 := by omega
              clear m1 hmm hm hmz
              go_enter Tryd.func61, Tryd.ntmps61
              go_wp2_with (first
                | (go_at_call 77; (with_reducible refine (HF2.out _).mono ?_); rintro e w2 ⟨rfl, rfl⟩)
                | (go_at_call 57; refine (HLE.out _).mono ?_; rintro e w2 ⟨rfl, rfl⟩)
                | (go_at_call 77; (with_reducible refine (HF8.out _).mono ?_); rintro e w2 ⟨rfl, rfl⟩))
              go_ret2
              exact ⟨by rw [HL.out]; rfl, rfl⟩
            · have y1 : ¬ mz < 56320 := by omega
              have y2 : 57343 < mz := by omega
              clear m1 hmm hm hmz
              go_enter Tryd.func61, Tryd.ntmps61
              go_wp2_with (first
                | (go_at_call 77; (with_reducible refine (HF2.out _).mono ?_); rintro e w2 ⟨rfl, rfl⟩)
                | (go_at_call 57; refine (HLE.out _).mono ?_; rintro e w2 ⟨rfl, rfl⟩)
                | (go_at_call 77; (with_reducible refine (HF8.out _).mono ?_); rintro e w2 ⟨rfl, rfl⟩))
              go_ret2
              exact ⟨by rw [HL.out]; rfl, rfl⟩
          · have hl1 : Qt.longB s = (65536 + (n - 55296) * 1024 + (m - 56320), 12) := by rw [hl0]; simp only [if_neg hmm]
            have HV := Lib.hid (show ((Qt.longB s).1 : Int) = 65536 + ((n : Int) - 55296) * 1024 + mz - 56320 by
              simp only [hl1]
              omega)
            have HV2 := Lib.hid (show ((Qt.longB s).2 : Int) = 12 by simp only [hl1]; rfl)
            have y1 : ¬ mz < 56320 := by omega
            have y2 : ¬ 57343 < mz := by omega
            have y3 : 0 ≤ mz := by omega
            have y4 : mz < 65536 := by omega
            clear hm hmm hmz
            clear hf8 hl0 hl1 e2 e8 hi hi' hbad q6 q7
            go_enter Tryd.func61, Tryd.ntmps61
            go_wp2_with (first
              | (go_at_call 77; (with_reducible refine (HF2.out _).mono ?_); rintro e w2 ⟨rfl, rfl⟩)
              | (go_at_call 57; refine (HLE.out _).mono ?_; rintro e w2 ⟨rfl, rfl⟩)
              | (go_at_call 77; (with_reducible refine (HF8.out _).mono ?_); rintro e w2 ⟨rfl, rfl⟩))
            go_ret2
            exact ⟨by simp only [HV.out, HV2.out]; rfl, rfl⟩
end Go.Proofs.YtlniiaopindjnaaDoor
