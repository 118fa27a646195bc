/-
  Layer 18: LookupNamed: its walk.
-/
import Derived.Test.YtlniiaopindjnaaLookA
import Derived.Test.YtlniiaopindjnaaNamedW
import Derived.Test.YtlniiaopindjnaaFewE
import Derived.Test.YtlniiaopindjnaaOrd
import Derived.Deep.RegionHeld3
namespace Go.Proofs.Ytlniiaopindjnaa
set_option linter.unusedVariables false
open Go.RowKit

set_option maxHeartbeats 4000000 in
set_option maxRecDepth 100000 in
theorem lookupNamed_bad4 (a : Option Addr) (n c : Nat) (xs : List NamedD) (i : Int) (na : Option Addr) (nc : Nat) (more : NamedD) (w : World) (hi1 : 0 ≤ i) (hi2 : i ≤ 255)
    (h : RNameds w w.heap.size [.slice a n c] xs) (hm : RStrs w w.heap.size [.slice na more.names.length nc] more.names) (hms : more.id.size ≤ maxLen) (g1 : fewNB xs = true) (g2 : ¬ xs.length = 0) (g3 : xs.length ≤ 30) (g4 : fewNB [more] = false) :
    Calls Try.prog 6 #[.slice a n c, .int .u8 i, .agg #[.string more.id, .slice na more.names.length nc]] w fun e w' => e = .returned (.bool true) ∧ Below w.heap.size w w' := by
  obtain ⟨w1, hw1⟩ : ∃ w1, w1 = w.alloc (.cells #[.string more.id, .slice na more.names.length nc] 44) := ⟨_, rfl⟩
  have hb1 : Below w.heap.size w w1 := by rw [hw1]; exact (Below.refl _ _).alloc (Nat.le_refl _) _
  have hs1 : w1.heap.size = w.heap.size + 1 := by rw [hw1]; simp
  have m0 : w1.cell? ⟨w.heap.size, 0, none⟩ = some (.string more.id) := by rw [hw1, cell_of_row _ _ 0 _ _ _ (heap_alloc_new w _)]; rfl
  have m1 : w1.cell? ⟨w.heap.size, 1, none⟩ = some (.slice na more.names.length nc) := by rw [hw1, cell_of_row _ _ 1 _ _ _ (heap_alloc_new w _)]; rfl
  have HR := Lib.hid (kept_nameds.on hb1 h)
  have HM := Lib.hid (kept_strs.on hb1 hm)
  have BW := Lib.hid hb1
  obtain ⟨rfl, l1, l2, -, -⟩ := nameds_open h
  rw [maxLen_val] at l2
  clear hb1 h hm
  go_enter Try.func6, Try.ntmps6
  go_upto_region 1 with fail
  rw [← hw1]
  clear hw1
  have hks : ∀ w' : World, Below w1.heap.size w1 w' → w'.cell? ⟨w.heap.size, 0, none⟩ = some (.string more.id) ∧ w'.cell? ⟨w.heap.size, 1, none⟩ = some (.slice na more.names.length nc) ∧ Below w1.heap.size w1 w' := fun w' hb =>
    ⟨(hb.cell (p := ⟨w.heap.size, 0, none⟩) (by simp only; omega)).trans m0, (hb.cell (p := ⟨w.heap.size, 1, none⟩) (by simp only; omega)).trans m1, hb⟩
  have HKS := Lib.hid hks
  clear hks
  have hq0 : ∀ x : Ext w1.heap.size w1, Below w1.heap.size w1 x.w := fun x => x.b
  have HQ0 := Lib.hid hq0
  clear hq0
  have hf1 := fun (W : World) (hW : Below w1.heap.size w1 W) => ref17_Few_eq a _ c xs W _ (kept_nameds.on hW HR.out)
  simp only [g1] at hf1
  have HF1 := Lib.hid hf1
  clear hf1
  have e2 : ((xs.length : Int) == 0) = false := by rw [beq_eq_false_iff_ne]; omega
  have e3 : decide ((30 : Int) < (xs.length : Int)) = false := decide_eq_false (by omega)
  have hsb := BW.out.size
  have hmB := fun (W : World) (hW : Below w1.heap.size w1 W) => kept_strs.out (Same.of_below hW (Nat.le_refl _)) HM.out
  have hf2 : ∀ W : World, Below w1.heap.size w1 W → Calls Try.prog 17 #[.slice (some ⟨W.heap.size, 0, none⟩) 1 1] (W.alloc (.cells #[.string more.id, .slice na more.names.length nc] 44)).drew fun e w' => e = .returned (.bool (fewNB [more])) ∧ (W.alloc (.cells #[.string more.id, .slice na more.names.length nc] 44)).drew = w' := by
    intro W hW
    obtain ⟨ga, gc, he, hr⟩ := (OwnsN.one' (base := w1.heap.size) more (hmB W hW) hms hW.size).drew.reads
    injection he with e1 e2 e3
    subst e1 e3
    exact ref17_Few_eq _ _ _ [more] _ _ hr
  simp only [g4] at hf2
  have HF2 := Lib.hid hf2
  have HS1 := Lib.hid hs1
  clear hf2 hmB g1 g4 hms g2 g3 hs1 hsb
  refine wp_region_noPanic ?_
  refine wp_region_held_drew (S := (fun w' => w'.cell? ⟨w.heap.size, 0, none⟩ = some (.string more.id) ∧ w'.cell? ⟨w.heap.size, 1, none⟩ = some (.slice na more.names.length nc) ∧ Below w1.heap.size w1 w')) (by kernel_rfl) ?_ (fun hHeld => ?_)
  · (refine HKS.out _ ?_; repeat (first | assumption | with_reducible exact Below.refl _ _ | exact (‹_ ∧ _ ∧ Below w1.heap.size w1 _›).2.2 | with_reducible refine Below.drew ?_ | with_reducible refine Below.al ?_ (Nat.le_refl _) _))
  refine wpAnyH_take (i := 0) (v := ?_) opAt0 (by kernel_rfl) (by kernel_rfl) (by kernel_rfl) (fun _ _ _ h => h) (Or.inl ⟨by rfl, ?_⟩) (by assumption) ?_
  rotate_left
  · intro w hSw
    (try dsimp only at hSw)
    go_simp
    try with_reducible rfl
  try simp only [Act.put, List.setIfInBounds_toArray, List.set_cons_zero, List.set_cons_succ]
  refine wpAnyH_ready (rs := [1]) (by kernel_rfl) (by simp) ?_
  refine AllReadyH.cons (opAtS opAt0) (fun K hK => ?_) AllReadyH.nil
  go_simp
  with_reducible refine (HF1.out _ (‹_ ∧ _ ∧ Below w1.heap.size w1 _›).2.2).mono ?_
  rintro e w' ⟨rfl, rfl⟩
  go_wp2_with fail
  refine hK.out _ _ ?_ (fun hHeld => ?_)
  · (refine HKS.out _ ?_; repeat (first | assumption | with_reducible exact Below.refl _ _ | exact (‹_ ∧ _ ∧ Below w1.heap.size w1 _›).2.2 | with_reducible refine Below.drew ?_ | with_reducible refine Below.al ?_ (Nat.le_refl _) _))
  clear hK K
  try simp only [Act.put, List.setIfInBounds_toArray, List.set_cons_zero, List.set_cons_succ]
  refine wpAnyH_take (i := 2) (v := ?_) (opAtS (opAtS opAt0)) (by kernel_rfl) (by kernel_rfl) (by kernel_rfl) (fun _ _ _ h => h) (Or.inl ⟨by rfl, ?_⟩) (by assumption) ?_
  rotate_left
  · intro w hSw
    (try dsimp only at hSw)
    go_simp
    try with_reducible rfl
  try simp only [Act.put, List.setIfInBounds_toArray, List.set_cons_zero, List.set_cons_succ]
  refine wpAnyH_take (i := 3) (v := ?_) (opAtS (opAtS (opAtS opAt0))) (by kernel_rfl) (by kernel_rfl) (by kernel_rfl) (fun _ _ _ h => h) (Or.inl ⟨by rfl, ?_⟩) (by assumption) ?_
  rotate_left
  · intro w hSw
    (try dsimp only at hSw)
    go_simp
    try with_reducible rfl
  try simp only [Act.put, List.setIfInBounds_toArray, List.set_cons_zero, List.set_cons_succ]
  refine wpAnyH_take (i := 4) (v := ?_) (opAtS (opAtS (opAtS (opAtS opAt0)))) (by kernel_rfl) (by kernel_rfl) (by kernel_rfl) (fun _ _ _ h => h) (Or.inl ⟨by rfl, ?_⟩) (by assumption) ?_
  rotate_left
  · intro w hSw
    (try dsimp only at hSw)
    go_simp
    try with_reducible rfl
  try simp only [Act.put, List.setIfInBounds_toArray, List.set_cons_zero, List.set_cons_succ]
  refine wpAnyH_take (i := 5) (v := ?_) (opAtS (opAtS (opAtS (opAtS (opAtS opAt0))))) (by kernel_rfl) (by kernel_rfl) (by kernel_rfl) (fun _ _ _ h => h) (Or.inl ⟨by rfl, ?_⟩) (by assumption) ?_
  rotate_left
  · intro w hSw
    (try dsimp only at hSw)
    go_simp
    try with_reducible rfl
  try simp only [Act.put, List.setIfInBounds_toArray, List.set_cons_zero, List.set_cons_succ]
  refine wpAnyH_take (i := 6) (v := ?_) (opAtS (opAtS (opAtS (opAtS (opAtS (opAtS opAt0)))))) (by kernel_rfl) (by kernel_rfl) (by kernel_rfl) (fun _ _ _ h => h) (Or.inl ⟨by rfl, ?_⟩) (by assumption) ?_
  rotate_left
  · intro w hSw
    (try dsimp only at hSw)
    go_simp
    try with_reducible rfl
  try simp only [Act.put, List.setIfInBounds_toArray, List.set_cons_zero, List.set_cons_succ]
  refine wpAnyH_take (i := 7) (v := ?_) (opAtS (opAtS (opAtS (opAtS (opAtS (opAtS (opAtS opAt0))))))) (by kernel_rfl) (by kernel_rfl) (by kernel_rfl) (fun _ _ _ h => h) (Or.inl ⟨by rfl, ?_⟩) (by assumption) ?_
  rotate_left
  · intro w hSw
    (try dsimp only at hSw)
    go_simp
    try with_reducible rfl
  try simp only [Act.put, List.setIfInBounds_toArray, List.set_cons_zero, List.set_cons_succ]
  refine wpAnyH_take (i := 8) (v := ?_) (opAtS (opAtS (opAtS (opAtS (opAtS (opAtS (opAtS (opAtS opAt0)))))))) (by kernel_rfl) (by kernel_rfl) (by kernel_rfl) (fun _ _ _ h => h) (Or.inl ⟨by rfl, ?_⟩) (by assumption) ?_
  rotate_left
  · intro w hSw
    (try dsimp only at hSw)
    go_simp
    try with_reducible rfl
  try simp only [Act.put, List.setIfInBounds_toArray, List.set_cons_zero, List.set_cons_succ]
  refine wpAnyH_take (i := 9) (v := ?_) (opAtS (opAtS (opAtS (opAtS (opAtS (opAtS (opAtS (opAtS (opAtS opAt0))))))))) (by kernel_rfl) (by kernel_rfl) (by kernel_rfl) (fun _ _ _ h => h) (Or.inl ⟨by rfl, ?_⟩) (by assumption) ?_
  rotate_left
  · intro w hSw
    (try dsimp only at hSw)
    go_simp
    try with_reducible rfl
  try simp only [Act.put, List.setIfInBounds_toArray, List.set_cons_zero, List.set_cons_succ]
  refine wpAnyH_take (i := 10) (v := ?_) (opAtS (opAtS (opAtS (opAtS (opAtS (opAtS (opAtS (opAtS (opAtS (opAtS opAt0)))))))))) (by kernel_rfl) (by kernel_rfl) (by kernel_rfl) (fun _ _ _ h => h) (Or.inl ⟨by rfl, ?_⟩) (by assumption) ?_
  rotate_left
  · intro w hSw
    (try dsimp only at hSw)
    go_simp
    try with_reducible rfl
  try simp only [Act.put, List.setIfInBounds_toArray, List.set_cons_zero, List.set_cons_succ]
  refine wpAnyH_take (i := 11) (v := ?_) (opAtS (opAtS (opAtS (opAtS (opAtS (opAtS (opAtS (opAtS (opAtS (opAtS (opAtS opAt0))))))))))) (by kernel_rfl) (by kernel_rfl) (by kernel_rfl) (fun _ _ _ h => h) (Or.inl ⟨by rfl, ?_⟩) (by assumption) ?_
  rotate_left
  · intro w hSw
    (try dsimp only at hSw)
    go_simp
    try with_reducible rfl
  try simp only [Act.put, List.setIfInBounds_toArray, List.set_cons_zero, List.set_cons_succ]
  refine wpAnyH_take (i := 12) (v := ?_) (opAtS (opAtS (opAtS (opAtS (opAtS (opAtS (opAtS (opAtS (opAtS (opAtS (opAtS (opAtS opAt0)))))))))))) (by kernel_rfl) (by kernel_rfl) (by kernel_rfl) (fun _ _ _ h => h) (Or.inl ⟨by rfl, ?_⟩) (by assumption) ?_
  rotate_left
  · intro w hSw
    (try dsimp only at hSw)
    go_simp
    try with_reducible rfl
  try simp only [Act.put, List.setIfInBounds_toArray, List.set_cons_zero, List.set_cons_succ]
  refine wpAnyH_take (i := 13) (v := ?_) (opAtS (opAtS (opAtS (opAtS (opAtS (opAtS (opAtS (opAtS (opAtS (opAtS (opAtS (opAtS (opAtS opAt0))))))))))))) (by kernel_rfl) (by kernel_rfl) (by kernel_rfl) (fun _ _ _ h => h) (Or.inl ⟨by rfl, ?_⟩) (by assumption) ?_
  rotate_left
  · intro w hSw
    (try dsimp only at hSw)
    go_simp
    try with_reducible rfl
  try simp only [Act.put, List.setIfInBounds_toArray, List.set_cons_zero, List.set_cons_succ]
  refine wpAnyH_take (i := 14) (v := ?_) (opAtS (opAtS (opAtS (opAtS (opAtS (opAtS (opAtS (opAtS (opAtS (opAtS (opAtS (opAtS (opAtS (opAtS opAt0)))))))))))))) (by kernel_rfl) (by kernel_rfl) (by kernel_rfl) (fun _ _ _ h => h) (Or.inl ⟨by rfl, ?_⟩) (by assumption) ?_
  rotate_left
  · intro w hSw
    (try dsimp only at hSw)
    go_simp
    try with_reducible rfl
  try simp only [Act.put, List.setIfInBounds_toArray, List.set_cons_zero, List.set_cons_succ]
  refine wpAnyH_ready (rs := [15]) (by kernel_rfl) (by simp) ?_
  refine AllReadyH.cons (opAtS (opAtS (opAtS (opAtS (opAtS (opAtS (opAtS (opAtS (opAtS (opAtS (opAtS (opAtS (opAtS (opAtS (opAtS opAt0))))))))))))))) (fun K hK => ?_) AllReadyH.nil
  go_simp
  refine hK.out _ _ ?_ (fun hHeld => ?_)
  · (refine HKS.out _ ?_; repeat (first | assumption | with_reducible exact Below.refl _ _ | exact (‹_ ∧ _ ∧ Below w1.heap.size w1 _›).2.2 | with_reducible refine Below.drew ?_ | with_reducible refine Below.al ?_ (Nat.le_refl _) _))
  clear hK K
  try simp only [Act.put, List.setIfInBounds_toArray, List.set_cons_zero, List.set_cons_succ]
  refine wpAnyH_ready (rs := [16]) (by kernel_rfl) (by simp) ?_
  refine AllReadyH.cons (opAtS (opAtS (opAtS (opAtS (opAtS (opAtS (opAtS (opAtS (opAtS (opAtS (opAtS (opAtS (opAtS (opAtS (opAtS (opAtS opAt0)))))))))))))))) (fun K hK => ?_) AllReadyH.nil
  go_simp
  with_reducible refine (HF2.out _ (Below.refl _ _)).mono ?_
  rintro e w' ⟨rfl, rfl⟩
  go_wp2_with fail
  refine hK.out _ _ ?_ (fun hHeld => ?_)
  · (refine HKS.out _ ?_; repeat (first | assumption | with_reducible exact Below.refl _ _ | exact (‹_ ∧ _ ∧ Below w1.heap.size w1 _›).2.2 | with_reducible refine Below.drew ?_ | with_reducible refine Below.al ?_ (Nat.le_refl _) _))
  clear hK K
  try simp only [Act.put, List.setIfInBounds_toArray, List.set_cons_zero, List.set_cons_succ]
  refine wpAnyH_take (i := 17) (v := ?_) (opAtS (opAtS (opAtS (opAtS (opAtS (opAtS (opAtS (opAtS (opAtS (opAtS (opAtS (opAtS (opAtS (opAtS (opAtS (opAtS (opAtS opAt0))))))))))))))))) (by kernel_rfl) (by kernel_rfl) (by kernel_rfl) (fun _ _ _ h => h) (Or.inl ⟨by rfl, ?_⟩) (by assumption) ?_
  rotate_left
  · intro w hSw
    (try dsimp only at hSw)
    go_simp
    try with_reducible rfl
  try simp only [Act.put, List.setIfInBounds_toArray, List.set_cons_zero, List.set_cons_succ]
  refine wpAnyH_take (i := 18) (v := ?_) (opAtS (opAtS (opAtS (opAtS (opAtS (opAtS (opAtS (opAtS (opAtS (opAtS (opAtS (opAtS (opAtS (opAtS (opAtS (opAtS (opAtS (opAtS opAt0)))))))))))))))))) (by kernel_rfl) (by kernel_rfl) (by kernel_rfl) (fun _ _ _ h => h) (Or.inl ⟨by rfl, ?_⟩) (by assumption) ?_
  rotate_left
  · intro w hSw
    (try dsimp only at hSw)
    go_simp
    try with_reducible rfl
  try simp only [Act.put, List.setIfInBounds_toArray, List.set_cons_zero, List.set_cons_succ]
  refine wpAnyH_take (i := 19) (v := ?_) (opAtS (opAtS (opAtS (opAtS (opAtS (opAtS (opAtS (opAtS (opAtS (opAtS (opAtS (opAtS (opAtS (opAtS (opAtS (opAtS (opAtS (opAtS (opAtS opAt0))))))))))))))))))) (by kernel_rfl) (by kernel_rfl) (by kernel_rfl) (fun _ _ _ h => h) (Or.inl ⟨by rfl, ?_⟩) (by assumption) ?_
  rotate_left
  · intro w hSw
    (try dsimp only at hSw)
    go_simp
    try with_reducible rfl
  try simp only [Act.put, List.setIfInBounds_toArray, List.set_cons_zero, List.set_cons_succ]
  refine wpAnyH_take (i := 20) (v := undef) (opAtS (opAtS (opAtS (opAtS (opAtS (opAtS (opAtS (opAtS (opAtS (opAtS (opAtS (opAtS (opAtS (opAtS (opAtS (opAtS (opAtS (opAtS (opAtS (opAtS opAt0)))))))))))))))))))) (by kernel_rfl) (by kernel_rfl) (by kernel_rfl) (fun _ _ _ h => h) (Or.inr ⟨by rfl, rfl⟩) (by assumption) ?_
  try simp only [Act.put, List.setIfInBounds_toArray, List.set_cons_zero, List.set_cons_succ]
  refine wpAnyH_take (i := 21) (v := undef) (opAtS (opAtS (opAtS (opAtS (opAtS (opAtS (opAtS (opAtS (opAtS (opAtS (opAtS (opAtS (opAtS (opAtS (opAtS (opAtS (opAtS (opAtS (opAtS (opAtS (opAtS opAt0))))))))))))))))))))) (by kernel_rfl) (by kernel_rfl) (by kernel_rfl) (fun _ _ _ h => h) (Or.inr ⟨by rfl, rfl⟩) (by assumption) ?_
  try simp only [Act.put, List.setIfInBounds_toArray, List.set_cons_zero, List.set_cons_succ]
  refine wpAnyH_take (i := 22) (v := undef) (opAtS (opAtS (opAtS (opAtS (opAtS (opAtS (opAtS (opAtS (opAtS (opAtS (opAtS (opAtS (opAtS (opAtS (opAtS (opAtS (opAtS (opAtS (opAtS (opAtS (opAtS (opAtS opAt0)))))))))))))))))))))) (by kernel_rfl) (by kernel_rfl) (by kernel_rfl) (fun _ _ _ h => h) (Or.inr ⟨by rfl, rfl⟩) (by assumption) ?_
  try simp only [Act.put, List.setIfInBounds_toArray, List.set_cons_zero, List.set_cons_succ]
  refine wpAnyH_take (i := 23) (v := undef) (opAtS (opAtS (opAtS (opAtS (opAtS (opAtS (opAtS (opAtS (opAtS (opAtS (opAtS (opAtS (opAtS (opAtS (opAtS (opAtS (opAtS (opAtS (opAtS (opAtS (opAtS (opAtS (opAtS opAt0))))))))))))))))))))))) (by kernel_rfl) (by kernel_rfl) (by kernel_rfl) (fun _ _ _ h => h) (Or.inr ⟨by rfl, rfl⟩) (by assumption) ?_
  try simp only [Act.put, List.setIfInBounds_toArray, List.set_cons_zero, List.set_cons_succ]
  refine wpAnyH_take (i := 24) (v := undef) (opAtS (opAtS (opAtS (opAtS (opAtS (opAtS (opAtS (opAtS (opAtS (opAtS (opAtS (opAtS (opAtS (opAtS (opAtS (opAtS (opAtS (opAtS (opAtS (opAtS (opAtS (opAtS (opAtS (opAtS opAt0)))))))))))))))))))))))) (by kernel_rfl) (by kernel_rfl) (by kernel_rfl) (fun _ _ _ h => h) (Or.inr ⟨by rfl, rfl⟩) (by assumption) ?_
  try simp only [Act.put, List.setIfInBounds_toArray, List.set_cons_zero, List.set_cons_succ]
  refine wpAnyH_take (i := 25) (v := undef) (opAtS (opAtS (opAtS (opAtS (opAtS (opAtS (opAtS (opAtS (opAtS (opAtS (opAtS (opAtS (opAtS (opAtS (opAtS (opAtS (opAtS (opAtS (opAtS (opAtS (opAtS (opAtS (opAtS (opAtS (opAtS opAt0))))))))))))))))))))))))) (by kernel_rfl) (by kernel_rfl) (by kernel_rfl) (fun _ _ _ h => h) (Or.inr ⟨by rfl, rfl⟩) (by assumption) ?_
  try simp only [Act.put, List.setIfInBounds_toArray, List.set_cons_zero, List.set_cons_succ]
  refine wpAnyH_take (i := 26) (v := undef) (opAtS (opAtS (opAtS (opAtS (opAtS (opAtS (opAtS (opAtS (opAtS (opAtS (opAtS (opAtS (opAtS (opAtS (opAtS (opAtS (opAtS (opAtS (opAtS (opAtS (opAtS (opAtS (opAtS (opAtS (opAtS (opAtS opAt0)))))))))))))))))))))))))) (by kernel_rfl) (by kernel_rfl) (by kernel_rfl) (fun _ _ _ h => h) (Or.inr ⟨by rfl, rfl⟩) (by assumption) ?_
  try simp only [Act.put, List.setIfInBounds_toArray, List.set_cons_zero, List.set_cons_succ]
  refine wpAnyH_take (i := 27) (v := undef) (opAtS (opAtS (opAtS (opAtS (opAtS (opAtS (opAtS (opAtS (opAtS (opAtS (opAtS (opAtS (opAtS (opAtS (opAtS (opAtS (opAtS (opAtS (opAtS (opAtS (opAtS (opAtS (opAtS (opAtS (opAtS (opAtS (opAtS opAt0))))))))))))))))))))))))))) (by kernel_rfl) (by kernel_rfl) (by kernel_rfl) (fun _ _ _ h => h) (Or.inr ⟨by rfl, rfl⟩) (by assumption) ?_
  try simp only [Act.put, List.setIfInBounds_toArray, List.set_cons_zero, List.set_cons_succ]
  refine wpAnyH_take (i := 28) (v := ?_) (opAtS (opAtS (opAtS (opAtS (opAtS (opAtS (opAtS (opAtS (opAtS (opAtS (opAtS (opAtS (opAtS (opAtS (opAtS (opAtS (opAtS (opAtS (opAtS (opAtS (opAtS (opAtS (opAtS (opAtS (opAtS (opAtS (opAtS (opAtS opAt0)))))))))))))))))))))))))))) (by kernel_rfl) (by kernel_rfl) (by kernel_rfl) (fun _ _ _ h => h) (Or.inl ⟨by rfl, ?_⟩) (by assumption) ?_
  rotate_left
  · intro w hSw
    (try dsimp only at hSw)
    go_simp
    try with_reducible rfl
  try simp only [Act.put, List.setIfInBounds_toArray, List.set_cons_zero, List.set_cons_succ]
  refine wpAnyH_done (by kernel_rfl) ?_ _
  refine NoPanic.normal ?_
  all_goals have HBX := Lib.hid (BW.out.trans ((‹_ ∧ _ ∧ Below w1.heap.size w1 _›).2.2.mono BW.out.size))
  all_goals clear BW
  all_goals (go_wp2_with (first
    | (go_at_call 18; refine (law18_awake_any _).mono ?_; rintro e w3 ⟨rfl, hb3⟩; replace HBX := Lib.hid (HBX.out.trans (hb3.mono HBX.out.size)); clear hb3)))
  all_goals go_ret
  all_goals exact ⟨rfl, HBX.out⟩
end Go.Proofs.Ytlniiaopindjnaa
