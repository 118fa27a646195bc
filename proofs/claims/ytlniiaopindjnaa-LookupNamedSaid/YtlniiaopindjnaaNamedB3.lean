/-
  Layer 18: LookupNamed: its walk.
-/
import Derived.Test.YtlniiaopindjnaaLookA
import Derived.Test.YtlniiaopindjnaaNamedW
import Derived.Test.YtlniiaopindjnaaFewE
import Derived.Test.YtlniiaopindjnaaOrd
import Derived.Deep.RegionHeld3
namespace Go.Proofs.Ytlniiaopindjnaa
set_option linter.unusedVariables false
open Go.RowKit

set_option maxHeartbeats 4000000 in
set_option maxRecDepth 100000 in
theorem lookupNamed_bad3 (a : Option Addr) (n c : Nat) (xs : List NamedD) (i : Int) (na : Option Addr) (nc : Nat) (more : NamedD) (w : World) (hi1 : 0 ≤ i) (hi2 : i ≤ 255)
    (h : RNameds w w.heap.size [.slice a n c] xs) (hm : RStrs w w.heap.size [.slice na more.names.length nc] more.names) (hms : more.id.size ≤ maxLen) (g1 : fewNB xs = true) (g3 : ¬ xs.length ≤ 30) :
    Calls Try.prog 6 #[.slice a n c, .int .u8 i, .agg #[.string more.id, .slice na more.names.length nc]] w fun e w' => e = .returned (.bool true) ∧ Below w.heap.size w w' := by
  obtain ⟨w1, hw1⟩ : ∃ w1, w1 = w.alloc (.cells #[.string more.id, .slice na more.names.length nc] 44) := ⟨_, rfl⟩
  have hb1 : Below w.heap.size w w1 := by rw [hw1]; exact (Below.refl _ _).alloc (Nat.le_refl _) _
  have hs1 : w1.heap.size = w.heap.size + 1 := by rw [hw1]; simp
  have m0 : w1.cell? ⟨w.heap.size, 0, none⟩ = some (.string more.id) := by rw [hw1, cell_of_row _ _ 0 _ _ _ (heap_alloc_new w _)]; rfl
  have m1 : w1.cell? ⟨w.heap.size, 1, none⟩ = some (.slice na more.names.length nc) := by rw [hw1, cell_of_row _ _ 1 _ _ _ (heap_alloc_new w _)]; rfl
  have HR := Lib.hid (kept_nameds.on hb1 h)
  have HM := Lib.hid (kept_strs.on hb1 hm)
  have BW := Lib.hid hb1
  obtain ⟨rfl, l1, l2, -, -⟩ := nameds_open h
  rw [maxLen_val] at l2
  clear hb1 h hm
  go_enter Try.func6, Try.ntmps6
  go_upto_region 1 with fail
  rw [← hw1]
  clear hw1
  have hks : ∀ w' : World, Below w1.heap.size w1 w' → w'.cell? ⟨w.heap.size, 0, none⟩ = some (.string more.id) ∧ w'.cell? ⟨w.heap.size, 1, none⟩ = some (.slice na more.names.length nc) ∧ Below w1.heap.size w1 w' := fun w' hb =>
    ⟨(hb.cell (p := ⟨w.heap.size, 0, none⟩) (by simp only; omega)).trans m0, (hb.cell (p := ⟨w.heap.size, 1, none⟩) (by simp only; omega)).trans m1, hb⟩
  have HKS := Lib.hid hks
  clear hks
  have hq0 : ∀ x : Ext w1.heap.size w1, Below w1.heap.size w1 x.w := fun x => x.b
  have HQ0 := Lib.hid hq0
  clear hq0
  have hf1 := fun (W : World) (hW : Below w1.heap.size w1 W) => ref17_Few_eq a _ c xs W _ (kept_nameds.on hW HR.out)
  simp only [g1] at hf1
  have HF1 := Lib.hid hf1
  clear hf1
  have e2 : ((xs.length : Int) == 0) = false := by rw [beq_eq_false_iff_ne]; omega
  have e3 : decide ((30 : Int) < (xs.length : Int)) = true := decide_eq_true (by omega)
  have g3' : (30 : Int) < (xs.length : Int) := by omega
  clear g1 g3
  refine wp_region_bel w1.heap.size (by kernel_rfl) (by kernel_rfl) ?_
  repeat (go_big_quiet_step (first | (go_at_call 17; refine Calls.bel_same (v := .bool true) ?_; with_reducible exact HF1.out _ (HQ0.out _))))
  refine wpQuiet_nil ?_
  intro x
  have HBX := Lib.hid (BW.out.trans ((HQ0.out x).mono BW.out.size))
  clear BW
  go_wp2_with (first
    | (go_at_call 18; refine (law18_awake_any _).mono ?_; rintro e w3 ⟨rfl, hb3⟩; replace HBX := Lib.hid (HBX.out.trans (hb3.mono HBX.out.size)); clear hb3))
  go_ret
  exact ⟨rfl, HBX.out⟩
end Go.Proofs.Ytlniiaopindjnaa
