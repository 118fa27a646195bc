/-
  Layer 4: the program's escape, walked.
-/
import Derived.Test.YtlniiaopindjnaaDoorUnqF
namespace Go.Proofs.YtlniiaopindjnaaDoor
set_option linter.unusedVariables false
open Go.RowKit
open Go.Lib hiding intOf
namespace Qt
def signs : List UInt8 := [34, 92, 98, 102, 110, 114, 116]
theorem not_sign : ∀ n : Fin 256, tells (UInt8.ofNat n.val) = 0 → n.val ≠ 47 ∧ Lib.indexByte signs ((n.val : Int).toNat.toUInt8) = -1 := by decide +kernel
theorem pre_iff (s : ByteArray) : Lib.hasPrefix (s.data.toList.drop 6) [92, 117] = true ↔ 8 ≤ s.size ∧ s.get! 6 = 92 ∧ s.get! 7 = 117 := by
  obtain ⟨⟨l⟩⟩ := s
  have hg : ∀ i, ByteArray.get! ⟨⟨l⟩⟩ i = l[i]! := fun i => by simp [ByteArray.get!]
  have hz : ByteArray.size ⟨⟨l⟩⟩ = l.length := rfl
  rw [hg, hg, hz, Lib.hasPrefix]
  match l with
  | [] => simp
  | [_] => simp
  | [_, _] => simp
  | [_, _, _] => simp
  | [_, _, _, _] => simp
  | [_, _, _, _, _] => simp
  | [_, _, _, _, _, _] => simp
  | [_, _, _, _, _, _, _] => simp
  | _ :: _ :: _ :: _ :: _ :: _ :: a :: b :: r =>
    simp [List.isPrefixOf]
    constructor
    · rintro ⟨h1, h2⟩; exact ⟨h1.symm, h2.symm⟩
    · rintro ⟨h1, h2⟩; exact ⟨h1.symm, h2.symm⟩
end Qt
set_option maxHeartbeats 4000000 in
set_option maxRecDepth 100000 in
theorem quote_escape_any (s : ByteArray) (w : World) (hs : s.size ≤ 1000000) (h1 : 1 ≤ s.size) (hc0 : s.get! 0 = 92) : Calls Tryd.prog 59 #[.string s] w fun e w' => e = .returned (.tuple #[.int .i32 (Qt.oneB s).1, .int .i64 (Qt.oneB s).2]) ∧ Below w.heap.size w w' := by
  by_cases h2 : s.size < 2
  · have hz : (s.size : Int) < 2 := by omega
    have HL := Lib.hid (show Qt.oneB s = (0, 0) by unfold Qt.oneB; rw [if_neg (by simp [hc0]), if_pos h2])
    go_enter Tryd.func59, Tryd.ntmps59
    go_wp2_with fail
    go_ret2
    exact ⟨by rw [HL.out]; rfl, Below.refl _ _⟩
  · have hz : ¬ (s.size : Int) < 2 := by omega
    have hz1 : (1 : Int) < s.size := by omega
    have hz2 : (2 : Int) ≤ s.size := by omega
    have l1 : 1 < s.size := by omega
    obtain ⟨c1, hc1⟩ : ∃ c1, s.get! 1 = c1 := ⟨_, rfl⟩
    have hs1 : s[1]'l1 = c1 := by rw [← hc1]; exact (Utf8W.get!_of_lt s 1 (by omega)).symm
    have HO := Lib.hid (show Qt.oneB s = if Qt.tells c1 ≠ 0 then (Qt.tells c1, 2) else if c1 = 117 then Qt.longB s else (0, 0) by unfold Qt.oneB; rw [if_neg (by simp [hc0]), if_neg h2, hc1])
    have hIX := fun W => Go.Proofs.Tryd.strings_IndexByte ⟨#[34, 92, 98, 102, 110, 114, 116]⟩ (c1.toNat : Int) W
    rw [show (⟨#[34, 92, 98, 102, 110, 114, 116]⟩ : ByteArray).data.toList = Qt.signs from rfl] at hIX
    clear hc1
    by_cases k47 : c1 = 47
    · subst k47
      clear hIX
      go_enter Tryd.func59, Tryd.ntmps59
      go_wp2_with fail
      go_ret2
      exact ⟨by rw [HO.out]; rfl, Below.refl _ _⟩
    by_cases k34 : c1 = 34
    · subst k34
      have HIX := Lib.hid (show ∀ W, Calls Tryd.prog 30 _ W _ from hIX)
      clear hIX k47
      go_enter Tryd.func59, Tryd.ntmps59
      go_wp2_with (go_at_call 30; refine (HIX.out _).mono ?_; rintro e w9 ⟨he, rfl⟩; obtain rfl : e = .returned (.int .i64 0) := he.trans (congrArg (fun z => Ending.returned (.int .i64 z)) (by decide)); clear he)
      go_ret2
      exact ⟨by rw [HO.out]; exact congrArg (fun z => Ending.returned (.tuple #[.int .i32 z, .int .i64 2])) (show wrap32 (((⟨#[34, 92, 8, 12, 10, 13, 9]⟩ : ByteArray)[0]'(by decide)).toNat : Int) = 34 by decide +kernel), Below.refl _ _⟩
    by_cases k92 : c1 = 92
    · subst k92
      have HIX := Lib.hid (show ∀ W, Calls Tryd.prog 30 _ W _ from hIX)
      clear hIX k47
      go_enter Tryd.func59, Tryd.ntmps59
      go_wp2_with (go_at_call 30; refine (HIX.out _).mono ?_; rintro e w9 ⟨he, rfl⟩; obtain rfl : e = .returned (.int .i64 1) := he.trans (congrArg (fun z => Ending.returned (.int .i64 z)) (by decide)); clear he)
      go_ret2
      exact ⟨by rw [HO.out]; exact congrArg (fun z => Ending.returned (.tuple #[.int .i32 z, .int .i64 2])) (show wrap32 (((⟨#[34, 92, 8, 12, 10, 13, 9]⟩ : ByteArray)[1]'(by decide)).toNat : Int) = 92 by decide +kernel), Below.refl _ _⟩
    by_cases k98 : c1 = 98
    · subst k98
      have HIX := Lib.hid (show ∀ W, Calls Tryd.prog 30 _ W _ from hIX)
      clear hIX k47
      go_enter Tryd.func59, Tryd.ntmps59
      go_wp2_with (go_at_call 30; refine (HIX.out _).mono ?_; rintro e w9 ⟨he, rfl⟩; obtain rfl : e = .returned (.int .i64 2) := he.trans (congrArg (fun z => Ending.returned (.int .i64 z)) (by decide)); clear he)
      go_ret2
      exact ⟨by rw [HO.out]; exact congrArg (fun z => Ending.returned (.tuple #[.int .i32 z, .int .i64 2])) (show wrap32 (((⟨#[34, 92, 8, 12, 10, 13, 9]⟩ : ByteArray)[2]'(by decide)).toNat : Int) = 8 by decide +kernel), Below.refl _ _⟩
    by_cases k102 : c1 = 102
    · subst k102
      have HIX := Lib.hid (show ∀ W, Calls Tryd.prog 30 _ W _ from hIX)
      clear hIX k47
      go_enter Tryd.func59, Tryd.ntmps59
      go_wp2_with (go_at_call 30; refine (HIX.out _).mono ?_; rintro e w9 ⟨he, rfl⟩; obtain rfl : e = .returned (.int .i64 3) := he.trans (congrArg (fun z => Ending.returned (.int .i64 z)) (by decide)); clear he)
      go_ret2
      exact ⟨by rw [HO.out]; exact congrArg (fun z => Ending.returned (.tuple #[.int .i32 z, .int .i64 2])) (show wrap32 (((⟨#[34, 92, 8, 12, 10, 13, 9]⟩ : ByteArray)[3]'(by decide)).toNat : Int) = 12 by decide +kernel), Below.refl _ _⟩
    by_cases k110 : c1 = 110
    · subst k110
      have HIX := Lib.hid (show ∀ W, Calls Tryd.prog 30 _ W _ from hIX)
      clear hIX k47
      go_enter Tryd.func59, Tryd.ntmps59
      go_wp2_with (go_at_call 30; refine (HIX.out _).mono ?_; rintro e w9 ⟨he, rfl⟩; obtain rfl : e = .returned (.int .i64 4) := he.trans (congrArg (fun z => Ending.returned (.int .i64 z)) (by decide)); clear he)
      go_ret2
      exact ⟨by rw [HO.out]; exact congrArg (fun z => Ending.returned (.tuple #[.int .i32 z, .int .i64 2])) (show wrap32 (((⟨#[34, 92, 8, 12, 10, 13, 9]⟩ : ByteArray)[4]'(by decide)).toNat : Int) = 10 by decide +kernel), Below.refl _ _⟩
    by_cases k114 : c1 = 114
    · subst k114
      have HIX := Lib.hid (show ∀ W, Calls Tryd.prog 30 _ W _ from hIX)
      clear hIX k47
      go_enter Tryd.func59, Tryd.ntmps59
      go_wp2_with (go_at_call 30; refine (HIX.out _).mono ?_; rintro e w9 ⟨he, rfl⟩; obtain rfl : e = .returned (.int .i64 5) := he.trans (congrArg (fun z => Ending.returned (.int .i64 z)) (by decide)); clear he)
      go_ret2
      exact ⟨by rw [HO.out]; exact congrArg (fun z => Ending.returned (.tuple #[.int .i32 z, .int .i64 2])) (show wrap32 (((⟨#[34, 92, 8, 12, 10, 13, 9]⟩ : ByteArray)[5]'(by decide)).toNat : Int) = 13 by decide +kernel), Below.refl _ _⟩
    by_cases k116 : c1 = 116
    · subst k116
      have HIX := Lib.hid (show ∀ W, Calls Tryd.prog 30 _ W _ from hIX)
      clear hIX k47
      go_enter Tryd.func59, Tryd.ntmps59
      go_wp2_with (go_at_call 30; refine (HIX.out _).mono ?_; rintro e w9 ⟨he, rfl⟩; obtain rfl : e = .returned (.int .i64 6) := he.trans (congrArg (fun z => Ending.returned (.int .i64 z)) (by decide)); clear he)
      go_ret2
      exact ⟨by rw [HO.out]; exact congrArg (fun z => Ending.returned (.tuple #[.int .i32 z, .int .i64 2])) (show wrap32 (((⟨#[34, 92, 8, 12, 10, 13, 9]⟩ : ByteArray)[6]'(by decide)).toNat : Int) = 9 by decide +kernel), Below.refl _ _⟩
    have ht : Qt.tells c1 = 0 := by unfold Qt.tells; simp [k47, k34, k92, k98, k102, k110, k114, k116]
    obtain ⟨-, hno⟩ := Qt.not_sign ⟨c1.toNat, UInt8.toNat_lt c1⟩ (by simpa using ht)
    simp only at hno
    rw [hno] at hIX
    have HIX := Lib.hid hIX
    have HT := Lib.hid ht
    have z47 : ((c1.toNat : Int) == 47) = false := u8_beq_false 47 (by decide) k47
    clear hIX hno ht k47 k34 k92 k98 k102 k110 k114 k116
    by_cases k117 : c1 = 117
    · subst k117
      have HO2 := Lib.hid (show Qt.oneB s = Qt.longB s by rw [HO.out]; rfl)
      have hf2 := fun W => quote_four_any (s.extract 2 s.size) W (by rw [ext_size]; omega)
      rw [ext_list] at hf2
      cases e2 : Qt.fourB (s.data.toList.drop 2) with
      | none =>
        have HL := Lib.hid (show Qt.oneB s = (0, 0) by rw [HO2.out]; unfold Qt.longB; rw [e2])
        simp only [e2] at hf2
        have HF2 := Lib.hid hf2
        clear hf2 e2
        go_enter Tryd.func59, Tryd.ntmps59
        go_wp2_with (first
          | (go_at_call 30; refine (HIX.out _).mono ?_; rintro e w9 ⟨rfl, rfl⟩)
          | (go_at_call 72; (with_reducible refine (HF2.out _).mono ?_); rintro e w2 ⟨rfl, hb2⟩; have HB := Lib.hid hb2; clear hb2))
        go_ret2
        exact ⟨by rw [HL.out]; rfl, HB.out⟩
      | some n =>
        have hn := Qt.fourB_lt e2
        simp only [e2] at hf2
        obtain ⟨nz, hnz⟩ : ∃ nz : Int, (n : Int) = nz := ⟨_, rfl⟩
        simp only [hnz] at hf2
        have HF2 := Lib.hid hf2
        have hlo := fun W => quote_low_any nz W
        have hhi := fun W => quote_high_any nz W
        clear hf2
        by_cases hl : 56320 ≤ n ∧ n < 57344
        · have hlv : (decide (56320 ≤ nz) && decide (nz < 57344)) = true := by simp; omega
          rw [hlv] at hlo
          have HLO := Lib.hid hlo
          have HL := Lib.hid (show Qt.oneB s = (0, 0) by
            rw [HO2.out]; unfold Qt.longB; rw [e2]
            have hi : ¬ Qt.isLetter (n : Int) = true := by simp [Qt.isLetter]; omega
            simp only [if_neg hi]
            rw [if_pos (.inl (by omega))])
          clear hlo hhi hlv e2 hn hnz hl
          go_enter Tryd.func59, Tryd.ntmps59
          go_wp2_with (first
            | (go_at_call 30; refine (HIX.out _).mono ?_; rintro e w9 ⟨rfl, rfl⟩)
            | (go_at_call 72; (with_reducible refine (HF2.out _).mono ?_); rintro e w2 ⟨rfl, hb2⟩; have HB := Lib.hid hb2; clear hb2)
            | (go_at_call 73; (with_reducible refine (HLO.out _).mono ?_); rintro e w9 ⟨rfl, rfl⟩))
          go_ret2
          exact ⟨by rw [HL.out]; rfl, HB.out⟩
        · have hlv : (decide (56320 ≤ nz) && decide (nz < 57344)) = false := by rw [Bool.and_eq_false_iff, decide_eq_false_iff_not, decide_eq_false_iff_not]; omega
          rw [hlv] at hlo
          have HLO := Lib.hid hlo
          by_cases hh : 55296 ≤ n ∧ n < 56320
          · have hhv : (decide (55296 ≤ nz) && decide (nz < 56320)) = true := by simp; omega
            rw [hhv] at hhi
            have HHI := Lib.hid hhi
            have hcp := fun W => Go.Proofs.Tryd.strings_CutPrefix (s.extract 6 s.size) ⟨#[92, 117]⟩ W
            have hlen := Qt.fourB_len e2
            rw [List.length_drop, ← Lib.size_eq] at hlen
            have hz6 : (6 : Int) ≤ s.size := by omega
            have hi : ¬ Qt.isLetter (n : Int) = true := by simp [Qt.isLetter]; omega
            obtain ⟨q, hq⟩ : ∃ q : ByteArray, ⟨(Lib.trimPrefix (s.extract 6 s.size).data.toList [92, 117]).toArray⟩ = q := ⟨_, rfl⟩
            have hql : q.data.toList = Lib.trimPrefix (s.data.toList.drop 6) [92, 117] := by rw [← hq, ext_list]
            have hqs : q.size ≤ s.size := by
              rw [Lib.size_eq, hql, Lib.trimPrefix, Lib.size_eq s]
              split <;> simp <;> omega
            rw [show (⟨#[92, 117]⟩ : ByteArray).data.toList = [92, 117] from rfl, hq, ext_list] at hcp
            have hf8 := fun W => quote_four_any q W (by omega)
            rw [hql] at hf8
            cases hp : Lib.hasPrefix (s.data.toList.drop 6) [92, 117] with
            | false =>
              rw [hp] at hcp
              have HCP := Lib.hid hcp
              have HL := Lib.hid (show Qt.oneB s = (0, 0) by
                rw [HO2.out]; unfold Qt.longB; rw [e2]
                simp only [if_neg hi]
                rw [if_pos]
                exact Decidable.byContradiction fun hb => by
                  have := (Qt.pre_iff s).2 ⟨by omega, Decidable.byContradiction fun h => hb (.inr (.inr (.inl h))), Decidable.byContradiction fun h => hb (.inr (.inr (.inr h)))⟩
                  rw [hp] at this
                  cases this)
              cases e8 : Qt.fourB (Lib.trimPrefix (s.data.toList.drop 6) [92, 117]) with
              | none =>
                simp only [e8] at hf8
                have HF8 := Lib.hid hf8
                clear hlo hhi hlv hhv e2 e8 hn hnz hl hh hi hcp hf8 hql hqs hp hlen
                go_enter Tryd.func59, Tryd.ntmps59
                go_wp2_with (first
                  | (go_at_call 30; refine (HIX.out _).mono ?_; rintro e w9 ⟨rfl, rfl⟩)
                  | (go_at_call 72; (with_reducible refine (HF2.out _).mono ?_); rintro e w2 ⟨rfl, hb2⟩; have HB := Lib.hid hb2; clear hb2)
                  | (go_at_call 73; (with_reducible refine (HLO.out _).mono ?_); rintro e w9 ⟨rfl, rfl⟩)
                  | (go_at_call 74; (with_reducible refine (HHI.out _).mono ?_); rintro e w9 ⟨rfl, rfl⟩)
                  | (go_at_call 75; (with_reducible refine (HCP.out _).mono ?_); rintro e w9 ⟨rfl, rfl⟩)
                  | (go_at_call 72; (with_reducible refine (HF8.out _).mono ?_); rintro e w3 ⟨rfl, hb3⟩; replace HB := Lib.hid (HB.out.trans (hb3.mono HB.out.size)); clear hb3))
                go_ret2
                exact ⟨by rw [HL.out]; rfl, HB.out⟩
              | some m =>
                simp only [e8] at hf8
                have HF8 := Lib.hid hf8
                clear hlo hhi hlv hhv e2 e8 hn hnz hl hh hi hcp hf8 hql hqs hp hlen
                go_enter Tryd.func59, Tryd.ntmps59
                go_wp2_with (first
                  | (go_at_call 30; refine (HIX.out _).mono ?_; rintro e w9 ⟨rfl, rfl⟩)
                  | (go_at_call 72; (with_reducible refine (HF2.out _).mono ?_); rintro e w2 ⟨rfl, hb2⟩; have HB := Lib.hid hb2; clear hb2)
                  | (go_at_call 73; (with_reducible refine (HLO.out _).mono ?_); rintro e w9 ⟨rfl, rfl⟩)
                  | (go_at_call 74; (with_reducible refine (HHI.out _).mono ?_); rintro e w9 ⟨rfl, rfl⟩)
                  | (go_at_call 75; (with_reducible refine (HCP.out _).mono ?_); rintro e w9 ⟨rfl, rfl⟩)
                  | (go_at_call 72; (with_reducible refine (HF8.out _).mono ?_); rintro e w3 ⟨rfl, hb3⟩; replace HB := Lib.hid (HB.out.trans (hb3.mono HB.out.size)); clear hb3))
                go_ret2
                exact ⟨by rw [HL.out]; rfl, HB.out⟩
            | true =>
              obtain ⟨p1, p2, p3⟩ := (Qt.pre_iff s).1 hp
              rw [hp] at hcp
              have HCP := Lib.hid hcp
              have htp : Lib.trimPrefix (s.data.toList.drop 6) [92, 117] = s.data.toList.drop 8 := by rw [Lib.trimPrefix, if_pos hp, List.drop_drop]; rfl
              rw [htp] at hf8
              cases e8 : Qt.fourB (s.data.toList.drop 8) with
              | none =>
                have HL := Lib.hid (show Qt.oneB s = (0, 0) by
                  rw [HO2.out]; unfold Qt.longB; rw [e2]
                  simp only [if_neg hi, e8]
                  split <;> rfl)
                simp only [e8] at hf8
                have HF8 := Lib.hid hf8
                clear hlo hhi hlv hhv e2 e8 hn hnz hl hh hi hcp hf8 hql hqs hp htp hlen p1 p2 p3
                go_enter Tryd.func59, Tryd.ntmps59
                go_wp2_with (first
                  | (go_at_call 30; refine (HIX.out _).mono ?_; rintro e w9 ⟨rfl, rfl⟩)
                  | (go_at_call 72; (with_reducible refine (HF2.out _).mono ?_); rintro e w2 ⟨rfl, hb2⟩; have HB := Lib.hid hb2; clear hb2)
                  | (go_at_call 73; (with_reducible refine (HLO.out _).mono ?_); rintro e w9 ⟨rfl, rfl⟩)
                  | (go_at_call 74; (with_reducible refine (HHI.out _).mono ?_); rintro e w9 ⟨rfl, rfl⟩)
                  | (go_at_call 75; (with_reducible refine (HCP.out _).mono ?_); rintro e w9 ⟨rfl, rfl⟩)
                  | (go_at_call 72; (with_reducible refine (HF8.out _).mono ?_); rintro e w3 ⟨rfl, hb3⟩; replace HB := Lib.hid (HB.out.trans (hb3.mono HB.out.size)); clear hb3))
                go_ret2
                exact ⟨by rw [HL.out]; rfl, HB.out⟩
              | some m =>
                have hm := Qt.fourB_lt e8
                have hl8 := Qt.fourB_len e8
                rw [List.length_drop, ← Lib.size_eq] at hl8
                have hlb : Qt.oneB s = if m < 56320 ∨ 57343 < m then (0, 0) else (65536 + (n - 55296) * 1024 + (m - 56320), 12) := by
                  rw [HO2.out]; unfold Qt.longB; rw [e2]
                  simp only [if_neg hi, e8]
                  rw [if_neg]
                  rintro (h | h | h | h)
                  · omega
                  · omega
                  · exact h p2
                  · exact h p3
                simp only [e8] at hf8
                obtain ⟨mz, hmz⟩ : ∃ mz : Int, (m : Int) = mz := ⟨_, rfl⟩
                simp only [hmz] at hf8
                have HF8 := Lib.hid hf8
                have hlo2 := fun W => quote_low_any mz W
                by_cases hmm : m < 56320 ∨ 57343 < m
                · have hlv2 : (decide (56320 ≤ mz) && decide (mz < 57344)) = false := by rw [Bool.and_eq_false_iff, decide_eq_false_iff_not, decide_eq_false_iff_not]; omega
                  rw [hlv2] at hlo2
                  have HLO2 := Lib.hid hlo2
                  have HL := Lib.hid (show Qt.oneB s = (0, 0) by rw [hlb, if_pos hmm])
                  clear hlo hhi hlv hhv e2 e8 hn hnz hl hh hi hcp hf8 hql hqs hp htp hlen p1 p2 p3 hlb hlo2 hlv2 hmz hmm hm hl8
                  go_enter Tryd.func59, Tryd.ntmps59
                  go_wp2_with (first
                    | (go_at_call 30; refine (HIX.out _).mono ?_; rintro e w9 ⟨rfl, rfl⟩)
                    | (go_at_call 72; (with_reducible refine (HF2.out _).mono ?_); rintro e w2 ⟨rfl, hb2⟩; have HB := Lib.hid hb2; clear hb2)
                    | (go_at_call 73; (with_reducible refine (HLO.out _).mono ?_); rintro e w9 ⟨rfl, rfl⟩)
                    | (go_at_call 74; (with_reducible refine (HHI.out _).mono ?_); rintro e w9 ⟨rfl, rfl⟩)
                    | (go_at_call 75; (with_reducible refine (HCP.out _).mono ?_); rintro e w9 ⟨rfl, rfl⟩)
                    | (go_at_call 72; (with_reducible refine (HF8.out _).mono ?_); rintro e w3 ⟨rfl, hb3⟩; replace HB := Lib.hid (HB.out.trans (hb3.mono HB.out.size)); clear hb3)
                    | (go_at_call 73; (with_reducible refine (HLO2.out _).mono ?_); rintro e w9 ⟨rfl, rfl⟩))
                  go_ret2
                  exact ⟨by rw [HL.out]; rfl, HB.out⟩
                · have hlv2 : (decide (56320 ≤ mz) && decide (mz < 57344)) = true := by simp; omega
                  rw [hlv2] at hlo2
                  have HLO2 := Lib.hid hlo2
                  have hl1 : Qt.oneB s = (65536 + (n - 55296) * 1024 + (m - 56320), 12) := by rw [hlb, if_neg hmm]
                  have HV := Lib.hid (show ((Qt.oneB s).1 : Int) = 65536 + (nz - 55296) * 1024 + mz - 56320 by
                    simp only [hl1]
                    omega)
                  have HV2 := Lib.hid (show ((Qt.oneB s).2 : Int) = 12 by simp only [hl1]; rfl)
                  have y1 : 55296 ≤ nz := by omega
                  have y2 : nz < 56320 := by omega
                  have y3 : 56320 ≤ mz := by omega
                  have y4 : mz < 57344 := by omega
                  clear hlo hhi hlv hhv e2 e8 hn hnz hl hh hi hcp hf8 hql hqs hp htp hlen p1 p2 p3 hlb hlo2 hlv2 hmz hmm hm hl8 hl1
                  go_enter Tryd.func59, Tryd.ntmps59
                  go_wp2_with (first
                    | (go_at_call 30; refine (HIX.out _).mono ?_; rintro e w9 ⟨rfl, rfl⟩)
                    | (go_at_call 72; (with_reducible refine (HF2.out _).mono ?_); rintro e w2 ⟨rfl, hb2⟩; have HB := Lib.hid hb2; clear hb2)
                    | (go_at_call 73; (with_reducible refine (HLO.out _).mono ?_); rintro e w9 ⟨rfl, rfl⟩)
                    | (go_at_call 74; (with_reducible refine (HHI.out _).mono ?_); rintro e w9 ⟨rfl, rfl⟩)
                    | (go_at_call 75; (with_reducible refine (HCP.out _).mono ?_); rintro e w9 ⟨rfl, rfl⟩)
                    | (go_at_call 72; (with_reducible refine (HF8.out _).mono ?_); rintro e w3 ⟨rfl, hb3⟩; replace HB := Lib.hid (HB.out.trans (hb3.mono HB.out.size)); clear hb3)
                    | (go_at_call 73; (with_reducible refine (HLO2.out _).mono ?_); rintro e w9 ⟨rfl, rfl⟩))
                  go_ret2
                  exact ⟨by simp only [HV.out, HV2.out]; rfl, HB.out⟩
          · have hhv : (decide (55296 ≤ nz) && decide (nz < 56320)) = false := by rw [Bool.and_eq_false_iff, decide_eq_false_iff_not, decide_eq_false_iff_not]; omega
            rw [hhv] at hhi
            have HHI := Lib.hid hhi
            have HL := Lib.hid (show Qt.oneB s = (n, 6) by
              rw [HO2.out]; unfold Qt.longB; rw [e2]
              have hi : Qt.isLetter (n : Int) = true := by simp [Qt.isLetter]; omega
              simp only [if_pos hi])
            have HNZ := Lib.hid hnz
            clear hlo hhi hlv hhv e2 hn hnz hl hh
            go_enter Tryd.func59, Tryd.ntmps59
            go_wp2_with (first
              | (go_at_call 30; refine (HIX.out _).mono ?_; rintro e w9 ⟨rfl, rfl⟩)
              | (go_at_call 72; (with_reducible refine (HF2.out _).mono ?_); rintro e w2 ⟨rfl, hb2⟩; have HB := Lib.hid hb2; clear hb2)
              | (go_at_call 73; (with_reducible refine (HLO.out _).mono ?_); rintro e w9 ⟨rfl, rfl⟩)
              | (go_at_call 74; (with_reducible refine (HHI.out _).mono ?_); rintro e w9 ⟨rfl, rfl⟩))
            go_ret2
            exact ⟨by rw [HL.out, ← HNZ.out]; rfl, HB.out⟩
    · have z117 : ((c1.toNat : Int) != 117) = true := u8_bne_true 117 (by decide) k117
      have HN := Lib.hid k117
      clear k117
      go_enter Tryd.func59, Tryd.ntmps59
      go_wp2_with (go_at_call 30; refine (HIX.out _).mono ?_; rintro e w9 ⟨rfl, rfl⟩)
      go_ret2
      exact ⟨by rw [HO.out, if_neg (by rw [HT.out]; simp), if_neg HN.out]; rfl, Below.refl _ _⟩
end Go.Proofs.YtlniiaopindjnaaDoor
