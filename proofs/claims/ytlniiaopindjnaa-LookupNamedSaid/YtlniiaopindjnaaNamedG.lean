/-
  Layer 18: LookupNamed: its walk.
-/
import Derived.Test.YtlniiaopindjnaaLookA
import Derived.Test.YtlniiaopindjnaaNamedW
import Derived.Test.YtlniiaopindjnaaFewE
import Derived.Test.YtlniiaopindjnaaOrd
import Derived.Deep.RegionHeld3
namespace Go.Proofs.Ytlniiaopindjnaa
set_option linter.unusedVariables false
open Go.RowKit

set_option maxHeartbeats 4000000 in
set_option maxRecDepth 100000 in
theorem lookupNamed_good (a : Option Addr) (n c : Nat) (xs : List NamedD) (i : Int) (na : Option Addr) (nc : Nat) (more : NamedD) (w : World) (hi1 : 0 ≤ i) (hi2 : i ≤ 255)
    (h : RNameds w w.heap.size [.slice a n c] xs) (hm : RStrs w w.heap.size [.slice na more.names.length nc] more.names) (hms : more.id.size ≤ maxLen) (g1 : fewNB xs = true) (g2 : ¬ xs.length = 0) (g3 : xs.length ≤ 30) (g4 : fewNB [more] = true) :
    Calls Try.prog 6 #[.slice a n c, .int .u8 i, .agg #[.string more.id, .slice na more.names.length nc]] w fun e w' => e = .returned (.bool true) ∧ Below w.heap.size w w' := by
  obtain ⟨w1, hw1⟩ : ∃ w1, w1 = w.alloc (.cells #[.string more.id, .slice na more.names.length nc] 44) := ⟨_, rfl⟩
  have hb1 : Below w.heap.size w w1 := by rw [hw1]; exact (Below.refl _ _).alloc (Nat.le_refl _) _
  have hs1 : w1.heap.size = w.heap.size + 1 := by rw [hw1]; simp
  have m0 : w1.cell? ⟨w.heap.size, 0, none⟩ = some (.string more.id) := by rw [hw1, cell_of_row _ _ 0 _ _ _ (heap_alloc_new w _)]; rfl
  have m1 : w1.cell? ⟨w.heap.size, 1, none⟩ = some (.slice na more.names.length nc) := by rw [hw1, cell_of_row _ _ 1 _ _ _ (heap_alloc_new w _)]; rfl
  have HR := Lib.hid (kept_nameds.on hb1 h)
  have HM := Lib.hid (kept_strs.on hb1 hm)
  have BW := Lib.hid hb1
  obtain ⟨rfl, l1, l2, -, -⟩ := nameds_open h
  rw [maxLen_val] at l2
  clear hb1 h hm
  go_enter Try.func6, Try.ntmps6
  go_upto_region 1 with fail
  rw [← hw1]
  clear hw1
  have hks : ∀ w' : World, Below w1.heap.size w1 w' → w'.cell? ⟨w.heap.size, 0, none⟩ = some (.string more.id) ∧ w'.cell? ⟨w.heap.size, 1, none⟩ = some (.slice na more.names.length nc) ∧ Below w1.heap.size w1 w' := fun w' hb =>
    ⟨(hb.cell (p := ⟨w.heap.size, 0, none⟩) (by simp only; omega)).trans m0, (hb.cell (p := ⟨w.heap.size, 1, none⟩) (by simp only; omega)).trans m1, hb⟩
  have HKS := Lib.hid hks
  clear hks
  go_cut [45] (fun s wx => (∃ bad : Bool, s = .bool bad ∧ Hid (bad = false → Lk.AloneP (xs ++ [more]))) ∧ Hid (Below w1.heap.size w1 wx))
  case first =>
    have hf1 := fun (W : World) (hW : Below w1.heap.size w1 W) => ref17_Few_eq a _ c xs W _ (kept_nameds.on hW HR.out)
    simp only [g1] at hf1
    have HF1 := Lib.hid hf1
    clear hf1
    have e2 : ((xs.length : Int) == 0) = false := by rw [beq_eq_false_iff_ne]; omega
    have e3 : decide ((30 : Int) < (xs.length : Int)) = false := decide_eq_false (by omega)
    have hsb := BW.out.size
    have hmB := fun (W : World) (hW : Below w1.heap.size w1 W) => kept_strs.out (Same.of_below hW (Nat.le_refl _)) HM.out
    have hf2 : ∀ W : World, Below w1.heap.size w1 W → Calls Try.prog 17 #[.slice (some ⟨W.heap.size, 0, none⟩) 1 1] (W.alloc (.cells #[.string more.id, .slice na more.names.length nc] 44)).drew fun e w' => e = .returned (.bool (fewNB [more])) ∧ (W.alloc (.cells #[.string more.id, .slice na more.names.length nc] 44)).drew = w' := by
      intro W hW
      obtain ⟨ga, gc, he, hr⟩ := (OwnsN.one' (base := w1.heap.size) more (hmB W hW) hms hW.size).drew.reads
      injection he with e1 e2 e3
      subst e1 e3
      exact ref17_Few_eq _ _ _ [more] _ _ hr
    simp only [g4] at hf2
    have HF2 := Lib.hid hf2
    have HXB := Lib.hid (fun (W : World) (hW : Below w1.heap.size w1 W) => BringsN.of_read (kept_nameds.out (Same.of_below hW (Nat.le_refl _)) HR.out) (Nat.le_refl w1.heap.size))
    have HMB := Lib.hid (fun (W : World) (k : Nat) (hk : k = W.heap.size) (hW : Below w1.heap.size w1 W) => BringsN.one_at (base := w1.heap.size) more hk (hmB W hW) hms hW.size)
    have HAL := Lib.hid (fun (W : World) (v : Value) (hv : OwnsN W w1.heap.size v ([] ++ xs ++ [more])) => (show Calls Try.prog 26 #[v] W (SomeBel (fun b => b = true → Lk.AloneP (xs ++ [more])) W) by
      obtain ⟨ga, gc, rfl, hr⟩ := hv.reads
      exact ref17_Alone_any _ _ _ _ _ hr))
    clear hf2 hmB g1 g4 hms g2
    have HG3 := Lib.hid g3
    have HS1 := Lib.hid hs1
    clear g3 hs1 hsb
    go_region_held3 (fun w' => w'.cell? ⟨w.heap.size, 0, none⟩ = some (.string more.id) ∧ w'.cell? ⟨w.heap.size, 1, none⟩ = some (.slice na more.names.length nc) ∧ Below w1.heap.size w1 w')
      ((refine HKS.out _ ?_; repeat (first | assumption | with_reducible exact Below.refl _ _ | exact (‹_ ∧ _ ∧ Below w1.heap.size w1 _›).2.2 | with_reducible refine Below.drew ?_ | with_reducible refine Below.al ?_ (Nat.le_refl _) _)))
      (first
        | (go_at_call 17; with_reducible refine (HF1.out _ (‹_ ∧ _ ∧ Below w1.heap.size w1 _›).2.2).mono ?_; rintro e w' ⟨rfl, rfl⟩)
        | (go_at_call 17; with_reducible refine (HF2.out _ (Below.refl _ _)).mono ?_; rintro e w' ⟨rfl, rfl⟩)
        | (go_at_call 26; (with_reducible refine (HAL.out _ _ (by assumption)).mono ?_); rintro e w' ⟨b, rfl, hbel, hal⟩; have HAL2 := Lib.hid hal; clear hal; have hbel2 := (‹_ ∧ _ ∧ Below w1.heap.size w1 _›).2.2.trans (hbel.mono (‹_ ∧ _ ∧ Below w1.heap.size w1 _›).2.2.size))
        | (rw [if_pos (by rfl)]; refine wp_append_nameds_by _ _ rfl w1.heap.size _ 0 0 [] rfl (by repeat (first | exact OwnsN.none_at (by simp) (Below.size (by repeat (first | with_reducible exact Below.refl _ _ | assumption | with_reducible refine Below.drew ?_ | with_reducible refine Below.al ?_ (Nat.le_refl _) _))) | with_reducible refine OwnsN.drew ?_ | with_reducible refine OwnsN.alloc ?_ _)) a xs.length c xs rfl (HXB.out _ (‹_ ∧ _ ∧ Below w1.heap.size w1 _›).2.2) (by have := HG3.out; show 0 + xs.length ≤ 1000000; omega) 41 _ 1 1 [more] rfl (by repeat (first | exact HMB.out _ _ (by simp) (by repeat (first | with_reducible exact Below.refl _ _ | assumption | with_reducible refine Below.drew ?_ | with_reducible refine Below.al ?_ (Nat.le_refl _) _)) | with_reducible refine BringsN.drew ?_ (Below.size (by repeat (first | with_reducible exact Below.refl _ _ | assumption | with_reducible refine Below.drew ?_ | with_reducible refine Below.al ?_ (Nat.le_refl _) _))) | with_reducible refine BringsN.alloc ?_ (Below.size (by repeat (first | with_reducible exact Below.refl _ _ | assumption | with_reducible refine Below.drew ?_ | with_reducible refine Below.al ?_ (Nat.le_refl _) _))) _)) (by simp) ?_; intro v' w' ho hb hz; have hbel2 := (‹_ ∧ _ ∧ Below w1.heap.size w1 _›).2.2.trans hb)
        | (rw [if_pos (by rfl)]; refine wp_append_nameds _ _ rfl w1.heap.size _ [] rfl (by repeat (first | exact OwnsN.none_at (by simp) (Below.size (by repeat (first | with_reducible exact Below.refl _ _ | assumption | with_reducible refine Below.drew ?_ | with_reducible refine Below.al ?_ (Nat.le_refl _) _))) | with_reducible refine OwnsN.drew ?_ | with_reducible refine OwnsN.alloc ?_ _)) a xs.length c xs rfl (HXB.out _ (‹_ ∧ _ ∧ Below w1.heap.size w1 _›).2.2) (by have := HG3.out; show 0 + xs.length ≤ 1000000; omega) ?_; intro v' w' ho hb hg; have hbel2 := (‹_ ∧ _ ∧ Below w1.heap.size w1 _›).2.2.trans hb; clear hg)
        | (rw [if_pos (by rfl)]; (refine wp_append_nameds _ _ rfl w1.heap.size _ ([] ++ xs) rfl (by first | assumption | exact OwnsN.alloc (by assumption) _) _ 1 1 [more] rfl (by first | assumption | exact HMB.out _ _ (by simp) (by assumption)) (by have := HG3.out; show xs.length + 1 ≤ 1000000; omega) ?_); intro v' w' ho2 hb2 hg; have hbel3 := (‹_ ∧ _ ∧ Below w1.heap.size w1 _›).2.2.trans hb2; clear hg))
    all_goals (go_wp2_with fail; go_meet)
    all_goals exact ⟨⟨_, rfl, fun hb => HAL2.out (by simpa using hb)⟩, (‹_ ∧ _ ∧ Below w1.heap.size w1 _›).2.2⟩
  case rest =>
    obtain ⟨⟨bad, rfl, hq⟩, hbc⟩ := hcut
    have HBC := Lib.hid hbc.out
    have HQ := Lib.hid hq
    clear hq hbc
    have hg3 : 0 < xs.length ∧ xs.length ≤ 30 := ⟨by omega, g3⟩
    have HFEW := Lib.hid (fewNB_few g1)
    have HG3 := Lib.hid hg3.2
    have HMS := Lib.hid hms
    clear g1 g2 g3 g4
    cases bad with
    | true =>
      have HBX := Lib.hid (BW.out.trans (HBC.out.mono BW.out.size))
      clear BW HBC
      go_wp2_with (first
        | (go_at_call 18; refine (law18_awake_any _).mono ?_; rintro e w3 ⟨rfl, hb3⟩; replace HBX := Lib.hid (HBX.out.trans (hb3.mono HBX.out.size)); clear hb3))
      go_ret
      exact ⟨rfl, HBX.out⟩
    | false =>
      have HA := Lib.hid (HQ.out rfl)
      clear HQ
      go_upto_region 3 with fail
      have hRc := kept_nameds.on HBC.out HR.out
      obtain ⟨-, -, -, -, hxr⟩ := nameds_open hRc
      obtain ⟨b, off, rfl, hb, hc⟩ := hxr (by omega)
      obtain ⟨j, hj, hjl⟩ : ∃ j : Nat, i.tmod (xs.length : Int) = (j : Int) ∧ j < xs.length := by
        refine ⟨i.toNat % xs.length, ?_, Nat.mod_lt _ hg3.1⟩
        rw [Int.tmod_eq_emod_of_nonneg hi1]
        conv => lhs; rw [← Int.toNat_of_nonneg hi1]
        rfl
      obtain ⟨x, hxk⟩ := get_at hjl
      obtain ⟨z, c0, nax, ncx, c1, hxn⟩ := hc j x hxk
      have HXK := Lib.hid hxk
      have HRC := Lib.hid hRc
      have HXN := Lib.hid hxn
      have HM0 := Lib.hid m0
      have HM1 := Lib.hid m1
      have HHX := Lib.hid hxr
      clear hxk hRc hc hxn m0 m1 HKS hxr
      go_upto_region 4 with fail
      clear hj c0 c1
      obtain ⟨w3, hw3⟩ : ∃ w3, w3 = wc.alloc (.cells #[.string x.id, .slice nax x.names.length ncx] 44) := ⟨_, rfl⟩
      rw [← hw3]
      have hb3 : Below wc.heap.size wc w3 := by rw [hw3]; exact (Below.refl _ _).alloc (Nat.le_refl _) _
      have hs3 : w3.heap.size = wc.heap.size + 1 := by rw [hw3]; simp
      have n0 : w3.cell? ⟨wc.heap.size, 0, none⟩ = some (.string x.id) := by rw [hw3, cell_of_row _ _ 0 _ _ _ (heap_alloc_new wc _)]; rfl
      have n1 : w3.cell? ⟨wc.heap.size, 1, none⟩ = some (.slice nax x.names.length ncx) := by rw [hw3, cell_of_row _ _ 1 _ _ _ (heap_alloc_new wc _)]; rfl
      have hsc := HBC.out.size
      have hb31 : Below w1.heap.size w1 w3 := HBC.out.trans (hb3.mono hsc)
      have m0' := (hb31.cell (p := ⟨w.heap.size, 0, none⟩) (by simp only; omega)).trans HM0.out
      have m1' := (hb31.cell (p := ⟨w.heap.size, 1, none⟩) (by simp only; omega)).trans HM1.out
      have hks3 : ∀ W : World, Below w3.heap.size w3 W → (W.cell? ⟨w.heap.size, 0, none⟩ = some (.string more.id) ∧ W.cell? ⟨w.heap.size, 1, none⟩ = some (.slice na more.names.length nc)) ∧ W.cell? ⟨wc.heap.size, 0, none⟩ = some (.string x.id) ∧ W.cell? ⟨wc.heap.size, 1, none⟩ = some (.slice nax x.names.length ncx) := fun W hW =>
        ⟨⟨(hW.cell (p := ⟨w.heap.size, 0, none⟩) (by simp only; omega)).trans m0', (hW.cell (p := ⟨w.heap.size, 1, none⟩) (by simp only; omega)).trans m1'⟩, (hW.cell (p := ⟨wc.heap.size, 0, none⟩) (by simp only; omega)).trans n0, (hW.cell (p := ⟨wc.heap.size, 1, none⟩) (by simp only; omega)).trans n1⟩
      have HK3 := Lib.hid hks3
      have HR3 := Lib.hid (kept_nameds.on hb3 HRC.out)
      have HN3 := Lib.hid (kept_strs.on hb3 HXN.out)
      have HM3 := Lib.hid (kept_strs.on hb31 HM.out)
      have HB3 := Lib.hid (show Below w.heap.size w w3 from BW.out.trans (hb31.mono BW.out.size))
      have hx100 := (HFEW.out.2 x (List.mem_of_getElem? HXK.out))
      have hxl1 := hx100.1
      have hxn8 := hx100.2.1
      have HX100 := Lib.hid hx100.2.2
      clear hks3 hb3 hb31 m0' m1' n0 n1 hw3 HRC HXN HM HM0 HM1 HBC HR BW hx100 HHX
      generalize wc.heap.size = bx at *
      go_upto_block 0 with fail
      go_cut [8] (fun _ wx => Hid (Below w3.heap.size w3 wx))
      case first =>
        go_wp2_with fail
        go_loopw [8] (fun v wr => ∃ k : Nat, k ≤ x.names.length ∧ v = .int .i64 k ∧ Below w3.heap.size w3 wr) (fun v _ => x.names.length - (intOf v).toNat)
        case atStart => exact ⟨0, Nat.zero_le _, rfl, Below.refl _ _⟩
        case round =>
          obtain ⟨k, hk, rfl, hbel⟩ := hrel
          obtain ⟨⟨k0, k1⟩, k2, k3⟩ := HK3.out _ hbel
          have HB := Lib.hid hbel
          by_cases hlt : k < x.names.length
          · obtain ⟨-, nl1, nl2, -, hnr⟩ := strs_open (kept_strs.on hbel HN3.out)
            obtain ⟨nb, noff, rfl, hnb, hnc⟩ := hnr (by omega)
            obtain ⟨nm, hnk⟩ := get_at hlt
            obtain ⟨nz, d0⟩ := hnc k nm hnk
            have HNK := Lib.hid hnk
            clear hnk hnc hnr hbel
            rw [maxLen_val] at nl2
            have q0 := fun y : Ext wr.heap.size wr => (y.b.cell (p := ⟨w.heap.size, 0, none⟩) (by simp only; have := HB.out.size; omega)).trans k0
            have q1 := fun y : Ext wr.heap.size wr => (y.b.cell (p := ⟨bx, 1, none⟩) (by simp only; have := HB.out.size; omega)).trans k3
            have q2 := fun y : Ext wr.heap.size wr => (y.b.cell (p := ⟨nb, noff + k, none⟩) (by simpa using hnb)).trans d0
            go_upto_region 7 with fail
            obtain ⟨t0, ht0⟩ : ∃ t0, t0 = (more.id.toList == nm.toList) := ⟨_, rfl⟩
            have HT0 := Lib.hid ht0
            refine wp_region_bel wr.heap.size (by kernel_rfl) (by kernel_rfl) ?_
            repeat (go_big_quiet_step (fail))
            refine wpQuiet_nil ?_
            intro y
            rw [← ht0]
            clear ht0
            have hby := y.b
            obtain ⟨w7, hw7⟩ : ∃ w7, w7 = y.w := ⟨_, rfl⟩
            rw [← hw7] at hby ⊢
            clear q0 q1 q2 hw7 y
            have hb7 := HB.out.trans (hby.mono HB.out.size)
            have HB7 := Lib.hid hb7
            have e0 := (hby.cell (p := ⟨nb, noff + k, none⟩) hnb).trans d0
            have hnb7 := Nat.lt_of_lt_of_le hnb hby.size
            clear HB k0 k1 k2 k3 d0 hb7 hby hnb
            go_upto_block 2 with fail
            go_cut [9] (fun s wx => (∃ t : Bool, s = .bool t ∧ Hid (t = false → more.id ≠ nm ∧ ∀ y ∈ xs, y.id ≠ nm)) ∧ Hid (Below w7.heap.size w7 wx))
            case first =>
              go_wp2_with fail
              go_loopw [9, 10] (fun t v wq => ∃ (tb : Bool) (m : Nat), t = .bool tb ∧ m ≤ xs.length ∧ v = .int .i64 m ∧ Below w7.heap.size w7 wq ∧ Hid (tb = false → more.id ≠ nm ∧ ∀ q y, q < m → xs[q]? = some y → y.id ≠ nm)) (fun _ v _ => xs.length - (intOf v).toNat)
              case atStart => exact ⟨t0, 0, rfl, Nat.zero_le _, rfl, Below.refl _ _, fun h => ⟨ne_of_list (HT0.out.symm.trans h), none_before xs⟩⟩
              case round =>
                obtain ⟨tb, m, rfl, hm, rfl, hbq, hall⟩ := hrel
                obtain ⟨-, -, k3⟩ := HK3.out _ (HB7.out.trans (hbq.mono HB7.out.size))
                have HBQ := Lib.hid hbq
                by_cases hlm : m < xs.length
                · have hRq := kept_nameds.on (HB7.out.trans (hbq.mono HB7.out.size)) HR3.out
                  obtain ⟨-, -, -, -, hyr⟩ := nameds_open hRq
                  obtain ⟨b', off', he', hb', hcc⟩ := hyr (by omega)
                  injection he' with he'
                  injection he' with he1 he2
                  subst he1 he2
                  obtain ⟨y, hyk⟩ := get_at hlm
                  obtain ⟨-, g0, -⟩ := hcc m y hyk
                  have HYK := Lib.hid hyk
                  have f0 := (hbq.cell (p := ⟨nb, noff + k, none⟩) hnb7).trans e0
                  have hnbq := Nat.lt_of_lt_of_le hnb7 hbq.size
                  have hbx : bx < wr.heap.size := by have := HB7.out.size; have := hbq.size; omega
                  have q0 := fun z : Ext wr.heap.size wr => (z.b.cell (p := ⟨b, off + m * 2, none⟩) hb').trans g0
                  have q1 := fun z : Ext wr.heap.size wr => (z.b.cell (p := ⟨bx, 1, none⟩) hbx).trans k3
                  have q2 := fun z : Ext wr.heap.size wr => (z.b.cell (p := ⟨nb, noff + k, none⟩) hnbq).trans f0
                  obtain ⟨t1, ht1⟩ : ∃ t1, t1 = (y.id.toList == nm.toList) := ⟨_, rfl⟩
                  have HT1 := Lib.hid ht1
                  clear hyk hcc hyr hRq hbq g0 f0 k3 e0 hnbq hbx hb'
                  go_upto_region 11 with fail
                  cases tb with
                  | true =>
                    clear q0 q1 q2 ht1
                    refine wp_region_bel wr.heap.size (by kernel_rfl) (by kernel_rfl) ?_
                    repeat (go_big_quiet_step (fail))
                    refine wpQuiet_nil ?_
                    intro z
                    have HBZ := Lib.hid (HBQ.out.trans (z.b.mono HBQ.out.size))
                    go_wp2_with fail
                    go_roundw
                    case rel => exact ⟨true, m + 1, rfl, by omega, by go_num, HBZ.out, fun h => by cases h⟩
                    case measure => simp [intOf]; omega
                  | false =>
                    refine wp_region_bel wr.heap.size (by kernel_rfl) (by kernel_rfl) ?_
                    repeat (go_big_quiet_step (fail))
                    refine wpQuiet_nil ?_
                    intro z
                    rw [← ht1]
                    have HBZ := Lib.hid (HBQ.out.trans (z.b.mono HBQ.out.size))
                    clear q0 q1 q2 ht1
                    go_wp2_with fail
                    go_roundw
                    case rel => exact ⟨t1, m + 1, rfl, by omega, by go_num, HBZ.out, fun h => ⟨(hall rfl).1, grow_all (hall rfl).2 HYK.out (ne_of_list (HT1.out.symm.trans h))⟩⟩
                    case measure => simp [intOf]; omega
                · have he : m = xs.length := by omega
                  subst he
                  clear hbq k3
                  go_wp2_with fail
                  go_meet
                  exact ⟨⟨tb, rfl, fun h => ⟨(hall h).1, fun y hy => by
                    obtain ⟨q, hq⟩ := List.mem_iff_getElem?.1 hy
                    exact (hall h).2 q y (List.getElem?_eq_some_iff.1 hq).1 hq⟩⟩, HBQ.out⟩
            case rest =>
              obtain ⟨⟨t, rfl, hq⟩, hbc⟩ := hcut
              have HB9 := Lib.hid (HB7.out.trans (hbc.out.mono HB7.out.size))
              have h0 := (hbc.out.cell (p := ⟨nb, noff + k, none⟩) hnb7).trans e0
              have hnb9 := Nat.lt_of_lt_of_le hnb7 hbc.out.size
              have HBC := Lib.hid hbc.out
              have HQ := Lib.hid hq
              clear hq hbc e0 hnb7 HB7
              cases t with
              | true =>
                go_wp2_with fail
                go_roundw
                case rel => exact ⟨k + 1, by omega, by go_num, HB9.out⟩
                case measure => simp [intOf]; omega
              | false =>
                obtain ⟨hq1, hq2⟩ := HQ.out rfl
                obtain ⟨p1, p2, p3⟩ := Lk.named_three HA.out HXK.out (List.mem_of_getElem? HNK.out) hq2 hq1
                have hnm := HX100.out nm (List.mem_of_getElem? HNK.out)
                have hnml : nm.size ≤ maxLen := by unfold maxLen; omega
                have HNM := Lib.hid hnml
                have hf1 := fun (W : World) (hW : RNameds W W.heap.size [.slice (some ⟨b, off, none⟩) xs.length c] xs) => lookup_Find_any _ _ _ xs nm W hW hnml (by omega)
                simp only [p1] at hf1
                have HF1 := Lib.hid hf1
                have HP2 := Lib.hid p2
                have HP3 := Lib.hid p3
                have HRQ := Lib.hid (kept_nameds.on HB9.out HR3.out)
                obtain ⟨-, k2, k3⟩ := HK3.out _ HB9.out
                clear hf1 p1 p2 p3 hq1 hq2 HQ HBC HT0
                go_upto_region 14 with (first
                  | (go_at_call 19; refine (HF1.out _ HRQ.out).mono ?_; rintro e w5 ⟨rfl, hb5⟩; have i0 := (hb5.cell (p := ⟨nb, noff + k, none⟩) hnb9).trans h0; replace HB9 := Lib.hid (HB9.out.trans (hb5.mono HB9.out.size)); have hnb5 := Nat.lt_of_lt_of_le hnb9 hb5.size; clear hb5))
                have hks := fun (W : World) (hW : Below w5.heap.size w5 W) => (show W.cell? ⟨w.heap.size, 0, none⟩ = some (.string more.id) ∧ W.cell? ⟨w.heap.size, 1, none⟩ = some (.slice na more.names.length nc) ∧ W.cell? ⟨bx, 1, none⟩ = some (.slice (some ⟨nb, noff, none⟩) x.names.length ncx) ∧ W.cell? ⟨nb, noff + k, none⟩ = some (.string nm) ∧ Below w5.heap.size w5 W from
                  have h3 := HK3.out _ (HB9.out.trans (hW.mono HB9.out.size))
                  ⟨h3.1.1, h3.1.2, h3.2.2, (hW.cell (p := ⟨nb, noff + k, none⟩) hnb5).trans i0, hW⟩)
                have HKS := Lib.hid hks
                have hrr := kept_nameds.on HB9.out HR3.out
                have hmm := kept_strs.on HB9.out HM3.out
                have HXB := Lib.hid (fun (W : World) (hW : Below w5.heap.size w5 W) => BringsN.of_read (kept_nameds.out (Same.of_below hW (Nat.le_refl _)) hrr) (Nat.le_refl w5.heap.size))
                have HMB := Lib.hid (fun (W : World) (q : Nat) (hq : q = W.heap.size) (hW : Below w5.heap.size w5 W) => BringsN.one_at (base := w5.heap.size) more hq (kept_strs.out (Same.of_below hW (Nat.le_refl _)) hmm) HMS.out hW.size)
                have HOB := Lib.hid (fun (W : World) (q : Nat) (hq : q = W.heap.size) (hW : Below w5.heap.size w5 W) => OwnsN.one_at (base := w5.heap.size) more hq (kept_strs.out (Same.of_below hW (Nat.le_refl _)) hmm) HMS.out hW.size)
                have hff := fun (W : World) (v : Value) (hv : OwnsN W w5.heap.size v ([] ++ xs ++ [more])) => (show Calls Try.prog 19 #[v, .string nm] W (fun e w' => e = .returned (.tuple #[.string (Lk.meant ([] ++ xs ++ [more]) nm).1, .int .i64 (Lk.meant ([] ++ xs ++ [more]) nm).2]) ∧ Below W.heap.size W w') by
                  obtain ⟨ga, gc, rfl, hr⟩ := hv.reads
                  exact lookup_Find_any _ _ _ _ nm W hr HNM.out (by have := HG3.out; simp; omega))
                simp only [show Lk.meant ([] ++ xs ++ [more]) nm = (x.id, 0) from HP2.out] at hff
                have HFF := Lib.hid hff
                clear hff hks hrr hmm
                clear k2 k3 HRQ
                go_cut [13, 14] (fun s e wx => (s = .string x.id ∧ e = .int .i64 0) ∧ Hid (Below w5.heap.size w5 wx))
                case first =>
                  refine wp_region_noPanic ?_
                  go_region_held3 (fun w' => w'.cell? ⟨w.heap.size, 0, none⟩ = some (.string more.id) ∧ w'.cell? ⟨w.heap.size, 1, none⟩ = some (.slice na more.names.length nc) ∧ w'.cell? ⟨bx, 1, none⟩ = some (.slice (some ⟨nb, noff, none⟩) x.names.length ncx) ∧ w'.cell? ⟨nb, noff + k, none⟩ = some (.string nm) ∧ Below w5.heap.size w5 w')
                    ((refine HKS.out _ ?_; repeat (first | assumption | with_reducible exact Below.refl _ _ | exact (‹_ ∧ _ ∧ _ ∧ _ ∧ Below _ _ _›).2.2.2.2 | with_reducible refine Below.drew ?_ | with_reducible refine Below.al ?_ (Nat.le_refl _) _)))
                    (first
                      | (go_at_call 19; (with_reducible refine (HFF.out _ _ (by assumption)).mono ?_); rintro e w' ⟨rfl, hbel⟩; have hbel2 := (‹_ ∧ _ ∧ _ ∧ _ ∧ Below w5.heap.size w5 _›).2.2.2.2.trans (hbel.mono (‹_ ∧ _ ∧ _ ∧ _ ∧ Below w5.heap.size w5 _›).2.2.2.2.size))
                      | (rw [if_pos (by rfl)]; refine wp_append_nameds_by _ _ rfl w5.heap.size _ 0 0 [] rfl (by repeat (first | (with_reducible refine OwnsN.none_at ?_ ?_) | (with_reducible refine HOB.out _ _ ?_ ?_) | (with_reducible refine HMB.out _ _ ?_ ?_) | (with_reducible refine OwnsN.drew ?_) | (with_reducible refine OwnsN.alloc ?_ _) | (with_reducible refine BringsN.drew ?_ ?_) | (with_reducible refine BringsN.alloc ?_ ?_ _) | (with_reducible exact Below.refl _ _) | (with_reducible assumption) | (with_reducible refine Below.drew ?_) | (with_reducible refine Below.al ?_ (Nat.le_refl _) _) | (with_reducible refine Below.size (B := w5.heap.size) (w := w5) ?_) | (with_reducible rfl) | exact (by simp))) _ xs.length c xs rfl (HXB.out _ (‹_ ∧ _ ∧ _ ∧ _ ∧ Below w5.heap.size w5 _›).2.2.2.2) (by have := HG3.out; show 0 + xs.length ≤ 1000000; omega) 106 _ 1 1 [more] rfl (by repeat (first | (with_reducible refine OwnsN.none_at ?_ ?_) | (with_reducible refine HOB.out _ _ ?_ ?_) | (with_reducible refine HMB.out _ _ ?_ ?_) | (with_reducible refine OwnsN.drew ?_) | (with_reducible refine OwnsN.alloc ?_ _) | (with_reducible refine BringsN.drew ?_ ?_) | (with_reducible refine BringsN.alloc ?_ ?_ _) | (with_reducible exact Below.refl _ _) | (with_reducible assumption) | (with_reducible refine Below.drew ?_) | (with_reducible refine Below.al ?_ (Nat.le_refl _) _) | (with_reducible refine Below.size (B := w5.heap.size) (w := w5) ?_) | (with_reducible rfl) | exact (by simp))) (by simp) ?_; intro v' w' ho hb hz; have hbel2 := (‹_ ∧ _ ∧ _ ∧ _ ∧ Below w5.heap.size w5 _›).2.2.2.2.trans hb)
                      | (rw [if_pos (by rfl)]; refine wp_append_nameds _ _ rfl w5.heap.size (.slice (some _) 0 0) [] rfl (by repeat (first | (with_reducible refine OwnsN.none_at ?_ ?_) | (with_reducible refine HOB.out _ _ ?_ ?_) | (with_reducible refine HMB.out _ _ ?_ ?_) | (with_reducible refine OwnsN.drew ?_) | (with_reducible refine OwnsN.alloc ?_ _) | (with_reducible refine BringsN.drew ?_ ?_) | (with_reducible refine BringsN.alloc ?_ ?_ _) | (with_reducible exact Below.refl _ _) | (with_reducible assumption) | (with_reducible refine Below.drew ?_) | (with_reducible refine Below.al ?_ (Nat.le_refl _) _) | (with_reducible refine Below.size (B := w5.heap.size) (w := w5) ?_) | (with_reducible rfl) | exact (by simp))) _ xs.length c xs rfl (HXB.out _ (‹_ ∧ _ ∧ _ ∧ _ ∧ Below w5.heap.size w5 _›).2.2.2.2) (by have := HG3.out; show 0 + xs.length ≤ 1000000; omega) ?_; intro v' w' ho hb hg; have hbel2 := (‹_ ∧ _ ∧ _ ∧ _ ∧ Below w5.heap.size w5 _›).2.2.2.2.trans hb; clear hg)
                      | (rw [if_pos (by rfl)]; (refine wp_append_nameds _ _ rfl w5.heap.size _ ([] ++ xs) rfl (by first | exact ‹OwnsN _ w5.heap.size _ ([] ++ xs)› | exact OwnsN.alloc ‹OwnsN _ w5.heap.size _ ([] ++ xs)› _) _ 1 1 [more] rfl (by repeat (first | (with_reducible refine OwnsN.none_at ?_ ?_) | (with_reducible refine HOB.out _ _ ?_ ?_) | (with_reducible refine HMB.out _ _ ?_ ?_) | (with_reducible refine OwnsN.drew ?_) | (with_reducible refine OwnsN.alloc ?_ _) | (with_reducible refine BringsN.drew ?_ ?_) | (with_reducible refine BringsN.alloc ?_ ?_ _) | (with_reducible exact Below.refl _ _) | (with_reducible assumption) | (with_reducible refine Below.drew ?_) | (with_reducible refine Below.al ?_ (Nat.le_refl _) _) | (with_reducible refine Below.size (B := w5.heap.size) (w := w5) ?_) | (with_reducible rfl) | exact (by simp))) (by have := HG3.out; show xs.length + 1 ≤ 1000000; omega) ?_); intro v' w' ho2 hb2 hg; have hbel3 := (‹_ ∧ _ ∧ _ ∧ _ ∧ Below w5.heap.size w5 _›).2.2.2.2.trans hb2; clear hg))
                  all_goals refine NoPanic.normal ?_
                  all_goals (go_wp2_with fail; go_meet)
                  all_goals exact ⟨⟨rfl, rfl⟩, (‹_ ∧ _ ∧ _ ∧ _ ∧ Below w5.heap.size w5 _›).2.2.2.2⟩
                case rest =>
                  obtain ⟨⟨rfl, rfl⟩, hbc⟩ := hcut
                  have HBA := Lib.hid (HB9.out.trans (hbc.out.mono HB9.out.size))
                  have j0 := (hbc.out.cell (p := ⟨nb, noff + k, none⟩) hnb5).trans i0
                  have hnb6 := Nat.lt_of_lt_of_le hnb5 hbc.out.size
                  clear HKS HXB HMB HOB HFF hbc i0 hnb5 HB9
                  go_upto_region 15 with fail
                  have hks := fun (W : World) (hW : Below wc.heap.size wc W) => (show W.cell? ⟨w.heap.size, 0, none⟩ = some (.string more.id) ∧ W.cell? ⟨w.heap.size, 1, none⟩ = some (.slice na more.names.length nc) ∧ W.cell? ⟨bx, 1, none⟩ = some (.slice (some ⟨nb, noff, none⟩) x.names.length ncx) ∧ W.cell? ⟨nb, noff + k, none⟩ = some (.string nm) ∧ Below wc.heap.size wc W from
                    have h3 := HK3.out _ (HBA.out.trans (hW.mono HBA.out.size))
                    ⟨h3.1.1, h3.1.2, h3.2.2, (hW.cell (p := ⟨nb, noff + k, none⟩) hnb6).trans j0, hW⟩)
                  have HKS := Lib.hid hks
                  have hrr := kept_nameds.on HBA.out HR3.out
                  have hmm := kept_strs.on HBA.out HM3.out
                  have HXB := Lib.hid (fun (W : World) (hW : Below wc.heap.size wc W) => BringsN.of_read (kept_nameds.out (Same.of_below hW (Nat.le_refl _)) hrr) (Nat.le_refl wc.heap.size))
                  have HMB := Lib.hid (fun (W : World) (q : Nat) (hq : q = W.heap.size) (hW : Below wc.heap.size wc W) => BringsN.one_at (base := wc.heap.size) more hq (kept_strs.out (Same.of_below hW (Nat.le_refl _)) hmm) HMS.out hW.size)
                  have HOB := Lib.hid (fun (W : World) (q : Nat) (hq : q = W.heap.size) (hW : Below wc.heap.size wc W) => OwnsN.one_at (base := wc.heap.size) more hq (kept_strs.out (Same.of_below hW (Nat.le_refl _)) hmm) HMS.out hW.size)
                  have hff := fun (W : World) (v : Value) (hv : OwnsN W wc.heap.size v ([more] ++ xs)) => (show Calls Try.prog 19 #[v, .string nm] W (fun e w' => e = .returned (.tuple #[.string (Lk.meant ([more] ++ xs) nm).1, .int .i64 (Lk.meant ([more] ++ xs) nm).2]) ∧ Below W.heap.size W w') by
                    obtain ⟨ga, gc, rfl, hr⟩ := hv.reads
                    exact lookup_Find_any _ _ _ _ nm W hr HNM.out (by have := HG3.out; simp; omega))
                  simp only [show Lk.meant ([more] ++ xs) nm = (x.id, 0) from HP3.out] at hff
                  have HFF := Lib.hid hff
                  clear hff hks hrr hmm
                  go_region_held3 (fun w' => w'.cell? ⟨w.heap.size, 0, none⟩ = some (.string more.id) ∧ w'.cell? ⟨w.heap.size, 1, none⟩ = some (.slice na more.names.length nc) ∧ w'.cell? ⟨bx, 1, none⟩ = some (.slice (some ⟨nb, noff, none⟩) x.names.length ncx) ∧ w'.cell? ⟨nb, noff + k, none⟩ = some (.string nm) ∧ Below wc.heap.size wc w')
                    ((refine HKS.out _ ?_; repeat (first | assumption | with_reducible exact Below.refl _ _ | exact (‹_ ∧ _ ∧ _ ∧ _ ∧ Below _ _ _›).2.2.2.2 | with_reducible refine Below.drew ?_ | with_reducible refine Below.al ?_ (Nat.le_refl _) _)))
                    (first
                      | (go_at_call 19; (with_reducible refine (HFF.out _ _ (by assumption)).mono ?_); rintro e w' ⟨rfl, hbel⟩; have hbel2 := (‹_ ∧ _ ∧ _ ∧ _ ∧ Below wc.heap.size wc _›).2.2.2.2.trans (hbel.mono (‹_ ∧ _ ∧ _ ∧ _ ∧ Below wc.heap.size wc _›).2.2.2.2.size))
                      | (rw [if_pos (by rfl)]; refine wp_append_nameds _ _ rfl wc.heap.size (.slice (some _) 1 1) [more] rfl (by repeat (first | (with_reducible refine OwnsN.none_at ?_ ?_) | (with_reducible refine HOB.out _ _ ?_ ?_) | (with_reducible refine HMB.out _ _ ?_ ?_) | (with_reducible refine OwnsN.drew ?_) | (with_reducible refine OwnsN.alloc ?_ _) | (with_reducible refine BringsN.drew ?_ ?_) | (with_reducible refine BringsN.alloc ?_ ?_ _) | (with_reducible exact Below.refl _ _) | (with_reducible assumption) | (with_reducible refine Below.drew ?_) | (with_reducible refine Below.al ?_ (Nat.le_refl _) _) | (with_reducible refine Below.size (B := wc.heap.size) (w := wc) ?_) | (with_reducible rfl) | exact (by simp))) _ xs.length c xs rfl (HXB.out _ (‹_ ∧ _ ∧ _ ∧ _ ∧ Below wc.heap.size wc _›).2.2.2.2) (by have := HG3.out; show 1 + xs.length ≤ 1000000; omega) ?_; intro v' w' ho hb hg; have hbel2 := (‹_ ∧ _ ∧ _ ∧ _ ∧ Below wc.heap.size wc _›).2.2.2.2.trans hb; clear hg))
                  all_goals have HBE := Lib.hid (HBA.out.trans ((‹_ ∧ _ ∧ _ ∧ _ ∧ Below wc.heap.size wc _›).2.2.2.2.mono HBA.out.size))
                  all_goals have k2 := (HK3.out _ HBE.out).2.1
                  all_goals go_wp2_with fail
                  all_goals go_roundw
                  case rel => exact ⟨k + 1, by omega, by go_num, HBE.out⟩
                  case measure => simp [intOf]; omega
          · have he : k = x.names.length := by omega
            subst he
            go_wp2_with fail
            go_meet
            exact HB
      case rest =>
        have HBX := Lib.hid (HB3.out.trans (hcut.out.mono HB3.out.size))
        clear HB3 hcut
        go_wp2_with (first
          | (go_at_call 18; refine (law18_awake_any _).mono ?_; rintro e w3 ⟨rfl, hb3⟩; replace HBX := Lib.hid (HBX.out.trans (hb3.mono HBX.out.size)); clear hb3))
        go_ret
        exact ⟨rfl, HBX.out⟩
end Go.Proofs.Ytlniiaopindjnaa
