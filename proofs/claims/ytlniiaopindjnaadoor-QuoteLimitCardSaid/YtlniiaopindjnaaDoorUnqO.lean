/-
  Layer 4's document: one, walked.
-/
import Derived.Test.YtlniiaopindjnaaDoorUnqR
namespace Go.Proofs.YtlniiaopindjnaaDoor
set_option linter.unusedVariables false
open Go.RowKit
open Go.Lib hiding intOf
theorem u8_beq_false {c : UInt8} (k : Nat) (hk : k < 256) (h : c ≠ UInt8.ofNat k) : ((c.toNat : Int) == (k : Int)) = false := by
  rw [beq_eq_false_iff_ne]
  intro e
  refine h (UInt8.toNat_inj.1 ?_)
  rw [UInt8.toNat_ofNat', Nat.mod_eq_of_lt hk]
  omega
theorem u8_bne_true {c : UInt8} (k : Nat) (hk : k < 256) (h : c ≠ UInt8.ofNat k) : ((c.toNat : Int) != (k : Int)) = true := by
  rw [bne, u8_beq_false k hk h]; rfl
namespace Qt
/-- What the letter behind a sign tells; 0: nothing. -/
def tells (c : UInt8) : Nat := if c = 34 ∨ c = 92 ∨ c = 47 then c.toNat else if c = 98 then 8 else if c = 102 then 12 else if c = 110 then 10 else if c = 114 then 13 else if c = 116 then 9 else 0
/-- The letter that begins a text between quotes, and how many bytes it takes; 0: there is none. -/
def oneB (s : ByteArray) : Nat × Nat :=
  if s.get! 0 ≠ 92 then (if (letterB s).2 = 0 ∨ (letterB s).1 < 32 ∨ (letterB s).1 = 34 then (0, 0) else letterB s)
  else if s.size < 2 then (0, 0)
  else if tells (s.get! 1) ≠ 0 then (tells (s.get! 1), 2)
  else if s.get! 1 = 117 then longB s else (0, 0)
end Qt

set_option maxHeartbeats 2000000 in
set_option maxRecDepth 100000 in
theorem ref04_one_any (s : ByteArray) (w : World) (hs : s.size ≤ 1000000000) (h1 : 1 ≤ s.size) : Calls Tryd.prog 40 #[.string s] w fun e w' => e = .returned (.tuple #[.int .i64 (Qt.oneB s).1, .int .i64 (Qt.oneB s).2]) ∧ Below w.heap.size w w' := by
  have l0 : 0 < s.size := by omega
  obtain ⟨c0, hc0⟩ : ∃ c0, s.get! 0 = c0 := ⟨_, rfl⟩
  have hs0 : s[0]'l0 = c0 := by rw [← hc0]; exact (Utf8W.get!_of_lt s 0 (by omega)).symm
  by_cases h92 : c0 = 92
  · subst h92
    by_cases h2 : s.size < 2
    · have hz : (s.size : Int) < 2 := by omega
      have HL := Lib.hid (show Qt.oneB s = (0, 0) by unfold Qt.oneB; rw [if_neg (by simp [hc0]), if_pos h2])
      go_enter Tryd.func40, Tryd.ntmps40
      go_wp2_with fail
      go_ret2
      exact ⟨by rw [HL.out]; rfl, Below.refl _ _⟩
    · have hz : ¬ (s.size : Int) < 2 := by omega
      have hz1 : (1 : Int) < s.size := by omega
      have l1 : 1 < s.size := by omega
      obtain ⟨c1, hc1⟩ : ∃ c1, s.get! 1 = c1 := ⟨_, rfl⟩
      have hs1 : s[1]'l1 = c1 := by rw [← hc1]; exact (Utf8W.get!_of_lt s 1 (by omega)).symm
      have HO := Lib.hid (show Qt.oneB s = if Qt.tells c1 ≠ 0 then (Qt.tells c1, 2) else if c1 = 117 then Qt.longB s else (0, 0) by unfold Qt.oneB; rw [if_neg (by simp [hc0]), if_neg h2, hc1])
      clear hc0 hc1
      by_cases k34 : c1 = 34
      · subst k34
        go_enter Tryd.func40, Tryd.ntmps40
        go_wp2_with fail
        go_ret2
        exact ⟨by rw [HO.out]; rfl, Below.refl _ _⟩
      by_cases k92 : c1 = 92
      · subst k92
        go_enter Tryd.func40, Tryd.ntmps40
        go_wp2_with fail
        go_ret2
        exact ⟨by rw [HO.out]; rfl, Below.refl _ _⟩
      by_cases k47 : c1 = 47
      · subst k47
        go_enter Tryd.func40, Tryd.ntmps40
        go_wp2_with fail
        go_ret2
        exact ⟨by rw [HO.out]; rfl, Below.refl _ _⟩
      by_cases k98 : c1 = 98
      · subst k98
        go_enter Tryd.func40, Tryd.ntmps40
        go_wp2_with fail
        go_ret2
        exact ⟨by rw [HO.out]; rfl, Below.refl _ _⟩
      by_cases k102 : c1 = 102
      · subst k102
        go_enter Tryd.func40, Tryd.ntmps40
        go_wp2_with fail
        go_ret2
        exact ⟨by rw [HO.out]; rfl, Below.refl _ _⟩
      by_cases k110 : c1 = 110
      · subst k110
        go_enter Tryd.func40, Tryd.ntmps40
        go_wp2_with fail
        go_ret2
        exact ⟨by rw [HO.out]; rfl, Below.refl _ _⟩
      by_cases k114 : c1 = 114
      · subst k114
        go_enter Tryd.func40, Tryd.ntmps40
        go_wp2_with fail
        go_ret2
        exact ⟨by rw [HO.out]; rfl, Below.refl _ _⟩
      by_cases k116 : c1 = 116
      · subst k116
        go_enter Tryd.func40, Tryd.ntmps40
        go_wp2_with fail
        go_ret2
        exact ⟨by rw [HO.out]; rfl, Below.refl _ _⟩
      have ht : Qt.tells c1 = 0 := by unfold Qt.tells; simp [k34, k92, k47, k98, k102, k110, k114, k116]
      have HT := Lib.hid ht
      by_cases k117 : c1 = 117
      · subst k117
        clear k34 k92 k47 k98 k102 k110 k114 k116 ht
        have HLG := Lib.hid (fun W => ref04_long_any s W hs (by omega))
        go_enter Tryd.func40, Tryd.ntmps40
        go_wp2_with (go_at_call 61; refine (HLG.out _).mono ?_; rintro e w2 ⟨rfl, rfl⟩)
        go_ret2
        exact ⟨by rw [HO.out]; rfl, Below.refl _ _⟩
      have z34 : ((c1.toNat : Int) == 34) = false := u8_beq_false 34 (by decide) k34
      have z92 : ((c1.toNat : Int) == 92) = false := u8_beq_false 92 (by decide) k92
      have z47 : ((c1.toNat : Int) == 47) = false := u8_beq_false 47 (by decide) k47
      have z98 : ((c1.toNat : Int) == 98) = false := u8_beq_false 98 (by decide) k98
      have z102 : ((c1.toNat : Int) == 102) = false := u8_beq_false 102 (by decide) k102
      have z110 : ((c1.toNat : Int) == 110) = false := u8_beq_false 110 (by decide) k110
      have z114 : ((c1.toNat : Int) == 114) = false := u8_beq_false 114 (by decide) k114
      have z116 : ((c1.toNat : Int) == 116) = false := u8_beq_false 116 (by decide) k116
      have z117 : ((c1.toNat : Int) == 117) = false := u8_beq_false 117 (by decide) k117
      have HN := Lib.hid k117
      clear k34 k92 k47 k98 k102 k110 k114 k116 k117 ht
      go_enter Tryd.func40, Tryd.ntmps40
      go_wp2_with fail
      go_ret2
      exact ⟨by rw [HO.out, if_neg (by rw [HT.out]; simp), if_neg HN.out]; rfl, Below.refl _ _⟩
  · have hq : ((c0.toNat : Int) != 92) = true := u8_bne_true 92 (by decide) h92
    have HO := Lib.hid (show Qt.oneB s = if (Qt.letterB s).2 = 0 ∨ (Qt.letterB s).1 < 32 ∨ (Qt.letterB s).1 = 34 then (0, 0) else Qt.letterB s by unfold Qt.oneB; rw [if_pos (by rw [hc0]; exact h92)])
    have hL := fun W => ref04_Letter_any s W (by unfold maxLen; omega)
    obtain ⟨⟨n, d⟩, hd⟩ : ∃ d, Qt.letterB s = d := ⟨_, rfl⟩
    have HD := Lib.hid hd
    simp only [hd] at hL
    have HL := Lib.hid hL
    clear h92 hc0 hL hd
    by_cases hd0 : d = 0
    · subst hd0
      go_enter Tryd.func40, Tryd.ntmps40
      go_wp2_with (go_at_call 35; refine (HL.out _).mono ?_; rintro e w2 ⟨rfl, hb2⟩; have HB := Lib.hid hb2; clear hb2)
      go_ret2
      exact ⟨by rw [HO.out, HD.out, if_pos (.inl rfl)]; rfl, HB.out⟩
    · have hdz : ((d : Int) == 0) = false := by rw [beq_eq_false_iff_ne]; omega
      by_cases hn : n < 32
      · have hnz : (n : Int) < 32 := by omega
        go_enter Tryd.func40, Tryd.ntmps40
        go_wp2_with (go_at_call 35; refine (HL.out _).mono ?_; rintro e w2 ⟨rfl, hb2⟩; have HB := Lib.hid hb2; clear hb2)
        go_ret2
        exact ⟨by rw [HO.out, HD.out, if_pos (.inr (.inl hn))]; rfl, HB.out⟩
      · have hnz : ¬ (n : Int) < 32 := by omega
        by_cases h34 : n = 34
        · subst h34
          go_enter Tryd.func40, Tryd.ntmps40
          go_wp2_with (go_at_call 35; refine (HL.out _).mono ?_; rintro e w2 ⟨rfl, hb2⟩; have HB := Lib.hid hb2; clear hb2)
          go_ret2
          exact ⟨by rw [HO.out, HD.out, if_pos (.inr (.inr rfl))]; rfl, HB.out⟩
        · have h34z : ((n : Int) == 34) = false := by rw [beq_eq_false_iff_ne]; omega
          have HX := Lib.hid (show ¬ (d = 0 ∨ n < 32 ∨ n = 34) by omega)
          clear hd0 hn h34
          go_enter Tryd.func40, Tryd.ntmps40
          go_wp2_with (go_at_call 35; refine (HL.out _).mono ?_; rintro e w2 ⟨rfl, hb2⟩; have HB := Lib.hid hb2; clear hb2)
          go_ret2
          exact ⟨by rw [HO.out, HD.out, if_neg HX.out]; rfl, HB.out⟩
end Go.Proofs.YtlniiaopindjnaaDoor
