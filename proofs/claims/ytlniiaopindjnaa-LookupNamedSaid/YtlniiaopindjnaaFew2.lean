/-
  Few of a database, of layers, of a store, in the references. Condition: the arguments read as lists.
-/
import Derived.Test.YtlniiaopindjnaaFew
import Derived.Deep.DeepCutAuto
import Derived.Deep.CutBlock
namespace Go.Proofs.Ytlniiaopindjnaa
set_option linter.unusedVariables false
open Go.RowKit

def FewBP (ls : List LayerD) (is : List ImageD) (bs : List BoxD) (b : Bool) : Prop := b = true → ls.length ≤ 40 ∧ is.length ≤ 40 ∧ bs.length ≤ 40
set_option maxRecDepth 100000 in
set_option maxHeartbeats 2000000 in
theorem ref06_Few_any (g : Int) (la ia ba : Option Addr) (ln lc im ic bn bc : Nat) (ls : List LayerD) (is : List ImageD) (bs : List BoxD) (w : World)
    (hl : RLayers w w.heap.size [.slice la ln lc] ls) (hi : RImages w w.heap.size [.slice ia im ic] is) (hb : RBoxes w w.heap.size [.slice ba bn bc] bs) :
    Calls Try.prog 27 #[.agg #[.int .i64 g, .slice la ln lc, .slice ia im ic, .slice ba bn bc]] w (SomeBel (FewBP ls is bs) w) := by
  obtain ⟨w1, hw1⟩ : ∃ w1, w1 = w.alloc (.cells #[.int .i64 g, .slice la ln lc, .slice ia im ic, .slice ba bn bc] 49) := ⟨_, rfl⟩
  have hs : Same w.heap.size w w1 := by rw [hw1]; exact Same.alloc _ _ _ (Nat.le_refl _)
  obtain ⟨rfl, l1, l2, -, l3⟩ := layers_open (kept_layers.out hs hl)
  obtain ⟨rfl, i1, i2, -, i3⟩ := images_open (kept_images.out hs hi)
  obtain ⟨rfl, b1, b2, -, b3⟩ := boxes_open (kept_boxes.out hs hb)
  rw [hw1] at l3 i3 b3
  clear hl hi hb hs hw1
  rw [maxLen_val] at l2 i2 b2
  have l3' := Lib.hid l3; clear l3
  have i3' := Lib.hid i3; clear i3
  have b3' := Lib.hid b3; clear b3
  go_enter Try.func27, Try.ntmps27
  go_upto_block 0 with fail
  go_cut [3] (fun s3 wx => wx = w.alloc (.cells #[.int .i64 g, .slice la ls.length lc, .slice ia is.length ic, .slice ba bs.length bc] 49))
  case first =>
    go_wp2_with fail
    go_loop [3] (fun i => ∃ k : Nat, k ≤ ls.length ∧ k ≤ 40 ∧ i = .int .i64 k) (fun i => ls.length - (intOf i).toNat)
    case atStart => exact ⟨0, by omega, by omega, rfl⟩
    case round =>
      obtain ⟨k, hk, hk8, rfl⟩ := hrel
      by_cases hlt : k < ls.length ∧ k < 40
      · obtain ⟨h1, h2⟩ := hlt
        obtain ⟨b, off, rfl, hb, hc⟩ := l3'.out (by omega)
        obtain ⟨s, hs⟩ := get_at h1
        obtain ⟨-, -, -, -, -, -, -, ⟨na, nc, c3, hn⟩, -⟩ := hc k s hs
        clear hc l3' hs i3' b3'
        have hn' := Lib.hid hn; clear hn
        go_wp2_with (go_at_call 48; refine (ref06_few_any _ _ _ _ _ _ hn'.out).mono ?_; rintro e w' ⟨c, rfl, rfl, -⟩; cases c)
        · go_ret
          exact ⟨false, rfl, (Below.refl _ _).alloc (Nat.le_refl _) _, fun h => by cases h⟩
        · go_round
          case rel => exact ⟨k + 1, by omega, by omega, by go_num⟩
          case measure => simp [intOf]; omega
      · clear l3'
        go_wp2_with fail
        all_goals
          go_meet
          rfl
  case rest =>
    subst hcut
    go_upto_block 2 with fail
    go_cut [4] (fun s4 wx => wx = w.alloc (.cells #[.int .i64 g, .slice la ls.length lc, .slice ia is.length ic, .slice ba bs.length bc] 49))
    case first =>
      go_wp2_with fail
      go_loop [4] (fun i => ∃ k : Nat, k ≤ is.length ∧ k ≤ 40 ∧ i = .int .i64 k) (fun i => is.length - (intOf i).toNat)
      case atStart => exact ⟨0, by omega, by omega, rfl⟩
      case round =>
        obtain ⟨k, hk, hk8, rfl⟩ := hrel
        by_cases hlt : k < is.length ∧ k < 40
        · obtain ⟨h1, h2⟩ := hlt
          obtain ⟨b, off, rfl, hb, hc⟩ := i3'.out (by omega)
          obtain ⟨s, hs⟩ := get_at h1
          obtain ⟨-, -, z, -, ⟨na, nc, c3, hn⟩, -, c4, ⟨ja, jc, c5, hi⟩⟩ := hc k s hs
          clear hc hs l3' i3' b3'
          have hn' := Lib.hid hn; clear hn
          have hi' := Lib.hid hi; clear hi
          rw [maxLen_val] at z
          by_cases hz : s.meta_.size ≤ 200
          · go_wp2_with (first | (go_at_call 48; refine (ref06_few_any _ _ _ _ _ _ hn'.out).mono ?_; rintro e w' ⟨c, rfl, rfl, -⟩; cases c) | (go_at_call 49; refine (ref06_fewItems_any _ _ _ _ _ _ hi'.out).mono ?_; rintro e w' ⟨d, rfl, rfl, -⟩; cases d))
            all_goals first
              | (go_ret; exact ⟨false, rfl, (Below.refl _ _).alloc (Nat.le_refl _) _, fun h => by cases h⟩)
              | (go_round; (case rel => exact ⟨k + 1, by omega, by omega, by go_num⟩); (case measure => simp [intOf]; omega))
          · go_wp2_with (first | (go_at_call 48; refine (ref06_few_any _ _ _ _ _ _ hn'.out).mono ?_; rintro e w' ⟨c, rfl, rfl, -⟩; cases c))
            all_goals (go_ret; exact ⟨false, rfl, (Below.refl _ _).alloc (Nat.le_refl _) _, fun h => by cases h⟩)
        · clear l3' i3' b3'
          go_wp2_with fail
          all_goals
            go_meet
            rfl
    case rest =>
      subst hcut
      go_upto_block 4 with fail
      go_cut [5] (fun s5 wx => wx = w.alloc (.cells #[.int .i64 g, .slice la ls.length lc, .slice ia is.length ic, .slice ba bs.length bc] 49))
      case first =>
        go_wp2_with fail
        go_loop [5] (fun i => ∃ k : Nat, k ≤ bs.length ∧ k ≤ 40 ∧ i = .int .i64 k) (fun i => bs.length - (intOf i).toNat)
        case atStart => exact ⟨0, by omega, by omega, rfl⟩
        case round =>
          obtain ⟨k, hk, hk8, rfl⟩ := hrel
          by_cases hlt : k < bs.length ∧ k < 40
          · obtain ⟨h1, h2⟩ := hlt
            obtain ⟨b, off, rfl, hb, hc⟩ := b3'.out (by omega)
            obtain ⟨s, hs⟩ := get_at h1
            obtain ⟨-, -, -, z, -, ⟨na, nc, c3, hn⟩, -, -, c4, ⟨ja, jc, c5, hi⟩⟩ := hc k s hs
            clear hc hs l3' i3' b3'
            have hn' := Lib.hid hn; clear hn
            have hi' := Lib.hid hi; clear hi
            rw [maxLen_val] at z
            by_cases hz : s.meta_.size ≤ 200
            · go_wp2_with (first | (go_at_call 48; refine (ref06_few_any _ _ _ _ _ _ hn'.out).mono ?_; rintro e w' ⟨c, rfl, rfl, -⟩; cases c) | (go_at_call 49; refine (ref06_fewItems_any _ _ _ _ _ _ hi'.out).mono ?_; rintro e w' ⟨d, rfl, rfl, -⟩; cases d))
              all_goals first
                | (go_ret; exact ⟨false, rfl, (Below.refl _ _).alloc (Nat.le_refl _) _, fun h => by cases h⟩)
                | (go_round; (case rel => exact ⟨k + 1, by omega, by omega, by go_num⟩); (case measure => simp [intOf]; omega))
            · go_wp2_with (first | (go_at_call 48; refine (ref06_few_any _ _ _ _ _ _ hn'.out).mono ?_; rintro e w' ⟨c, rfl, rfl, -⟩; cases c))
              all_goals (go_ret; exact ⟨false, rfl, (Below.refl _ _).alloc (Nat.le_refl _) _, fun h => by cases h⟩)
          · clear l3' i3' b3'
            go_wp2_with fail
            all_goals
              go_meet
              rfl
      case rest =>
        subst hcut
        clear l3' i3' b3'
        go_wp2
        · go_ret
          exact ⟨_, rfl, (Below.refl _ _).alloc (Nat.le_refl _) _, fun h => by
            have h8 : (bs.length : Int) ≤ 40 := by simpa using h
            exact ⟨by omega, by omega, by omega⟩⟩
        all_goals (go_ret; exact ⟨false, rfl, (Below.refl _ _).alloc (Nat.le_refl _) _, fun h => by cases h⟩)
end Go.Proofs.Ytlniiaopindjnaa
