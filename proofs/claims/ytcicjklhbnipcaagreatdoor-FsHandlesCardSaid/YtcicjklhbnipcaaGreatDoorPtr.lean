/-
  Layer 9: which operations may be, walked.
-/
import Derived.Test.YtcicjklhbnipcaaGreatDoorPts
namespace Go.Proofs.YtcicjklhbnipcaaGreatDoor
set_option linter.unusedVariables false
set_option linter.unusedSimpArgs false
open Go.RowKit

set_option maxHeartbeats 16000000 in
set_option maxRecDepth 100000 in
theorem right_any (o : OpD) (w : World) (ho : o.Ok) (hm : Mx w) : Calls Tryz.prog 62 #[.agg o.cells.toArray] w fun e w' => e = .returned (.bool (Pt.right o)) ∧ Below w.heap.size w w' := by
  have hM := St.start w []
  have C1 := Lib.hid (fun (W : World) (h : Below w.heap.size w W) => isPath9_any o.path W ho.path (hm.below h))
  have C2 := Lib.hid (fun (W : World) (h : Below w.heap.size w W) => isPath9_any o.dest W ho.dest (hm.below h))
  clear ho hm
  unfold Pt.right
  obtain ⟨k, p, t, hh, ha, hn, hd, hp, hb⟩ := o
  simp only [OpD.cells] at C1 C2 ⊢
  have hcases : (k = 5 ∨ k = 6 ∨ k = 7 ∨ k = 8 ∨ k = 9) ∨ (k = 1 ∨ k = 2 ∨ k = 3 ∨ k = 4 ∨ k = 11) ∨ (k = 10 ∨ k = 12) ∨ k = 13 ∨ ((k == 5) = false ∧ (k == 6) = false ∧ (k == 7) = false ∧ (k == 8) = false ∧ (k == 9) = false ∧ (k == 1) = false ∧ (k == 2) = false ∧ (k == 3) = false ∧ (k == 4) = false ∧ (k == 11) = false ∧ (k == 10) = false ∧ (k == 12) = false ∧ (k == 13) = false) := by
    simp only [beq_eq_false_iff_ne, ne_eq]
    omega
  rcases hcases with h | h | h | h | ⟨a1, a2, a3, a4, a5, a6, a7, a8, a9, a10, a11, a12, a13⟩
  · rw [if_pos h]
    rcases h with rfl | rfl | rfl | rfl | rfl
    all_goals
      go_enter Tryz.func62, Tryz.ntmps62
      (repeat (first | ((with_reducible show wpSeq _ _ _ _ _ _ _); first | ((with_reducible refine wpSeq_nil ?_); refine hKr.out _ _ ?_; clear hKr Kr) | ((first | (refine St.copy (v := ?_) (by exact .inr rfl) rfl rfl ?_ ?_; rotate_left; (focus ((try simp only [Act.eval, getD_lit, List.getD_cons_zero, List.getD_cons_succ]); with_reducible rfl))) | (refine St.pure (v := ?_) rfl rfl rfl (fun w => ?_) ?_; rotate_left; (focus (go_simp; all_goals with_reducible rfl))) | refine St.load rfl hM rfl rfl rfl rfl (by repeat constructor) (by rfl) (by kernel_rfl) ?_ | ((((refine St.box rfl hM rfl rfl rfl ?_); clear hM; intro w bk hM)); (try simp only [Res.put, Res.known, Act.eval, Value.cells, getD_lit, List.getD_cons_zero, List.getD_cons_succ, List.toList_toArray, List.set_cons_zero, List.set_cons_succ, over, Nat.reduceAdd] at hM))); (try simp only [Act.put, List.setIfInBounds_toArray, List.set_cons_zero, List.set_cons_succ]))) | (first | (refine wp_seq_shut (fun K hK => ?_)) | (refine wp_text hM (fun Kr hKr => ?_); simp only [inText]) | refine wp_block ?_ | refine wp_skip ?_ | (first | refine wp_cond_true rfl ?_ | refine wp_cond_false rfl ?_) | ((refine hK.out _ _ ?_); clear hK K))))
      (refine wp_ret ?_; (try simp only [Exit.then, Exit.inBlock]); refine St.ret hM rfl (by repeat (first | exact Outs.nil | apply Outs.tmp rfl)) rfl ?_)
      exact ⟨rfl, hM.to_below⟩
  · rw [if_neg (by omega), if_pos h]
    generalize Pt.isPath p = b at *
    rcases h with rfl | rfl | rfl | rfl | rfl
    all_goals
      go_enter Tryz.func62, Tryz.ntmps62
      (repeat (first | (first | ((with_reducible show wpSeq _ _ _ _ _ _ _); first | ((with_reducible refine wpSeq_nil ?_); refine hKr.out _ _ ?_; clear hKr Kr) | ((first | (refine St.copy (v := ?_) (by exact .inr rfl) rfl rfl ?_ ?_; rotate_left; (focus ((try simp only [Act.eval, getD_lit, List.getD_cons_zero, List.getD_cons_succ]); with_reducible rfl))) | (refine St.pure (v := ?_) rfl rfl rfl (fun w => ?_) ?_; rotate_left; (focus (go_simp; all_goals with_reducible rfl))) | refine St.load rfl hM rfl rfl rfl rfl (by repeat constructor) (by rfl) (by kernel_rfl) ?_ | ((((refine St.box rfl hM rfl rfl rfl ?_); clear hM; intro w bk hM)); (try simp only [Res.put, Res.known, Act.eval, Value.cells, getD_lit, List.getD_cons_zero, List.getD_cons_succ, List.toList_toArray, List.set_cons_zero, List.set_cons_succ, over, Nat.reduceAdd] at hM))); (try simp only [Act.put, List.setIfInBounds_toArray, List.set_cons_zero, List.set_cons_succ]))) | (first | (refine wp_seq_shut (fun K hK => ?_)) | (refine wp_text hM (fun Kr hKr => ?_); simp only [inText]) | refine wp_block ?_ | refine wp_skip ?_ | (first | refine wp_cond_true rfl ?_ | refine wp_cond_false rfl ?_) | ((refine hK.out _ _ ?_); clear hK K))) | ((refine St.call rfl rfl rfl (by kernel_rfl) (fun R hR => ?_); simp only [List.map_toArray, List.map_cons, List.map_nil, Act.eval, getD_lit, List.getD_cons_zero, List.getD_cons_succ]); ((with_reducible refine (C1.out _ hM.to_below).mono ?_); (rintro e w' ⟨rfl, hb⟩; refine hR.out _ _ (fun h => h.below hb) ?_; clear hR R; replace hM := hM.below hb; clear hb; (try simp only [Act.put, List.setIfInBounds_toArray, List.set_cons_zero, List.set_cons_succ]))))))
      (refine wp_ret ?_; (try simp only [Exit.then, Exit.inBlock]); refine St.ret hM rfl (by repeat (first | exact Outs.nil | apply Outs.tmp rfl)) rfl ?_)
      exact ⟨rfl, hM.to_below⟩
  · rw [if_neg (by omega), if_neg (by omega), if_pos h]
    generalize Pt.isPath p = b at *
    generalize Pt.isPath t = b2 at *
    rcases h with rfl | rfl
    all_goals cases b
    all_goals
      go_enter Tryz.func62, Tryz.ntmps62
      (repeat (first | (first | ((with_reducible show wpSeq _ _ _ _ _ _ _); first | ((with_reducible refine wpSeq_nil ?_); refine hKr.out _ _ ?_; clear hKr Kr) | ((first | (refine St.copy (v := ?_) (by first | exact .inl rfl | exact .inr rfl) rfl rfl ?_ ?_; rotate_left; (focus ((try simp only [Act.eval, getD_lit, List.getD_cons_zero, List.getD_cons_succ]); with_reducible rfl))) | (refine St.pure (v := ?_) rfl rfl rfl (fun w => ?_) ?_; rotate_left; (focus (go_simp; all_goals with_reducible rfl))) | refine St.load rfl hM rfl rfl rfl rfl (by repeat constructor) (by rfl) (by kernel_rfl) ?_ | refine wpSeq_off rfl rfl ?_ | ((((refine St.box rfl hM rfl rfl rfl ?_); clear hM; intro w bk hM)); (try simp only [Res.put, Res.known, Act.eval, Value.cells, getD_lit, List.getD_cons_zero, List.getD_cons_succ, List.toList_toArray, List.set_cons_zero, List.set_cons_succ, over, Nat.reduceAdd] at hM))); (try simp only [Act.put, List.setIfInBounds_toArray, List.set_cons_zero, List.set_cons_succ]))) | (first | (refine wp_seq_shut (fun K hK => ?_)) | (refine wp_text hM (fun Kr hKr => ?_); simp only [inText]) | refine wp_block ?_ | refine wp_skip ?_ | (first | refine wp_cond_true rfl ?_ | refine wp_cond_false rfl ?_) | ((refine hK.out _ _ ?_); clear hK K))) | ((refine St.call rfl rfl rfl (by kernel_rfl) (fun R hR => ?_); simp only [List.map_toArray, List.map_cons, List.map_nil, Act.eval, getD_lit, List.getD_cons_zero, List.getD_cons_succ]); first | ((with_reducible refine (C1.out _ hM.to_below).mono ?_); (rintro e w' ⟨rfl, hb⟩; refine hR.out _ _ (fun h => h.below hb) ?_; clear hR R; replace hM := hM.below hb; clear hb; (try simp only [Act.put, List.setIfInBounds_toArray, List.set_cons_zero, List.set_cons_succ]))) | ((with_reducible refine (C2.out _ hM.to_below).mono ?_); (rintro e w' ⟨rfl, hb⟩; refine hR.out _ _ (fun h => h.below hb) ?_; clear hR R; replace hM := hM.below hb; clear hb; (try simp only [Act.put, List.setIfInBounds_toArray, List.set_cons_zero, List.set_cons_succ]))))))
      (refine wp_ret ?_; (try simp only [Exit.then, Exit.inBlock]); refine St.ret hM rfl (by repeat (first | exact Outs.nil | apply Outs.tmp rfl)) rfl ?_)
      exact ⟨rfl, hM.to_below⟩
  · rw [if_neg (by omega), if_neg (by omega), if_neg (by omega), if_pos h]
    subst h
    by_cases h0 : p.data.toList = []
    · have q1 := beqs_yes h0
      rw [h0]
      clear h0
      go_enter Tryz.func62, Tryz.ntmps62
      (repeat (first | ((with_reducible show wpSeq _ _ _ _ _ _ _); first | ((with_reducible refine wpSeq_nil ?_); refine hKr.out _ _ ?_; clear hKr Kr) | ((first | (refine St.copy (v := ?_) (by first | exact .inl rfl | exact .inr rfl) rfl rfl ?_ ?_; rotate_left; (focus ((try simp only [Act.eval, getD_lit, List.getD_cons_zero, List.getD_cons_succ]); with_reducible rfl))) | (refine St.pure (v := ?_) rfl rfl rfl (fun w => ?_) ?_; rotate_left; (focus (go_simp; all_goals with_reducible rfl))) | refine St.load rfl hM rfl rfl rfl rfl (by repeat constructor) (by rfl) (by kernel_rfl) ?_ | refine wpSeq_off rfl rfl ?_ | ((((refine St.box rfl hM rfl rfl rfl ?_); clear hM; intro w bk hM)); (try simp only [Res.put, Res.known, Act.eval, Value.cells, getD_lit, List.getD_cons_zero, List.getD_cons_succ, List.toList_toArray, List.set_cons_zero, List.set_cons_succ, over, Nat.reduceAdd] at hM))); (try simp only [Act.put, List.setIfInBounds_toArray, List.set_cons_zero, List.set_cons_succ]))) | (first | (refine wp_seq_shut (fun K hK => ?_)) | (refine wp_text hM (fun Kr hKr => ?_); simp only [inText]) | refine wp_block ?_ | (first | refine wp_cond_true rfl ?_ | refine wp_cond_false rfl ?_) | ((refine hK.out _ _ ?_); clear hK K))))
      (refine wp_ret ?_; (try simp only [Exit.then, Exit.inBlock]); refine St.ret hM rfl (by repeat (first | exact Outs.nil | apply Outs.tmp rfl)) rfl ?_)
      exact ⟨rfl, hM.to_below⟩
    · have q1 := beqs_no h0
      rw [beq_eq_false_iff_ne.2 h0]
      generalize Pt.isPath p = b at *
      clear h0
      go_enter Tryz.func62, Tryz.ntmps62
      (repeat (first | (first | ((with_reducible show wpSeq _ _ _ _ _ _ _); first | ((with_reducible refine wpSeq_nil ?_); refine hKr.out _ _ ?_; clear hKr Kr) | ((first | (refine St.copy (v := ?_) (by first | exact .inl rfl | exact .inr rfl) rfl rfl ?_ ?_; rotate_left; (focus ((try simp only [Act.eval, getD_lit, List.getD_cons_zero, List.getD_cons_succ]); with_reducible rfl))) | (refine St.pure (v := ?_) rfl rfl rfl (fun w => ?_) ?_; rotate_left; (focus (go_simp; all_goals with_reducible rfl))) | refine St.load rfl hM rfl rfl rfl rfl (by repeat constructor) (by rfl) (by kernel_rfl) ?_ | ((((refine St.box rfl hM rfl rfl rfl ?_); clear hM; intro w bk hM)); (try simp only [Res.put, Res.known, Act.eval, Value.cells, getD_lit, List.getD_cons_zero, List.getD_cons_succ, List.toList_toArray, List.set_cons_zero, List.set_cons_succ, over, Nat.reduceAdd] at hM))); (try simp only [Act.put, List.setIfInBounds_toArray, List.set_cons_zero, List.set_cons_succ]))) | (first | (refine wp_seq_shut (fun K hK => ?_)) | (refine wp_text hM (fun Kr hKr => ?_); simp only [inText]) | refine wp_block ?_ | (first | refine wp_cond_true rfl ?_ | refine wp_cond_false rfl ?_) | ((refine hK.out _ _ ?_); clear hK K))) | ((refine St.call rfl rfl rfl (by kernel_rfl) (fun R hR => ?_); simp only [List.map_toArray, List.map_cons, List.map_nil, Act.eval, getD_lit, List.getD_cons_zero, List.getD_cons_succ]); ((with_reducible refine (C1.out _ hM.to_below).mono ?_); (rintro e w' ⟨rfl, hb⟩; refine hR.out _ _ (fun h => h.below hb) ?_; clear hR R; replace hM := hM.below hb; clear hb; (try simp only [Act.put, List.setIfInBounds_toArray, List.set_cons_zero, List.set_cons_succ]))))))
      (refine wp_ret ?_; (try simp only [Exit.then, Exit.inBlock]); refine St.ret hM rfl (by repeat (first | exact Outs.nil | apply Outs.tmp rfl)) rfl ?_)
      exact ⟨by simp [tup], hM.to_below⟩
  · have n0 : ∀ i : Int, (k == i) = false → k ≠ i := fun i h => beq_eq_false_iff_ne.1 h
    have b1 := n0 _ a1; have b2 := n0 _ a2; have b3 := n0 _ a3; have b4 := n0 _ a4; have b5 := n0 _ a5; have b6 := n0 _ a6; have b7 := n0 _ a7
    have b8 := n0 _ a8; have b9 := n0 _ a9; have b10 := n0 _ a10; have b11 := n0 _ a11; have b12 := n0 _ a12; have b13 := n0 _ a13
    rw [if_neg (by omega), if_neg (by omega), if_neg (by omega), if_neg (by omega)]
    clear n0 b1 b2 b3 b4 b5 b6 b7 b8 b9 b10 b11 b12 b13
    go_enter Tryz.func62, Tryz.ntmps62
    (repeat (first | ((with_reducible show wpSeq _ _ _ _ _ _ _); first | ((with_reducible refine wpSeq_nil ?_); refine hKr.out _ _ ?_; clear hKr Kr) | ((first | (refine St.copy (v := ?_) (by exact .inr rfl) rfl rfl ?_ ?_; rotate_left; (focus ((try simp only [Act.eval, getD_lit, List.getD_cons_zero, List.getD_cons_succ]); with_reducible rfl))) | (refine St.pure (v := ?_) rfl rfl rfl (fun w => ?_) ?_; rotate_left; (focus (go_simp; all_goals with_reducible rfl))) | refine St.load rfl hM rfl rfl rfl rfl (by repeat constructor) (by rfl) (by kernel_rfl) ?_ | ((((refine St.box rfl hM rfl rfl rfl ?_); clear hM; intro w bk hM)); (try simp only [Res.put, Res.known, Act.eval, Value.cells, getD_lit, List.getD_cons_zero, List.getD_cons_succ, List.toList_toArray, List.set_cons_zero, List.set_cons_succ, over, Nat.reduceAdd] at hM))); (try simp only [Act.put, List.setIfInBounds_toArray, List.set_cons_zero, List.set_cons_succ]))) | (first | (refine wp_seq_shut (fun K hK => ?_)) | (refine wp_text hM (fun Kr hKr => ?_); simp only [inText]) | refine wp_block ?_ | refine wp_skip ?_ | (refine wp_cond_false rfl ?_) | ((refine hK.out _ _ ?_); clear hK K))))
    (refine wp_ret ?_; (try simp only [Exit.then, Exit.inBlock]); refine St.ret hM rfl (by repeat (first | exact Outs.nil | apply Outs.tmp rfl)) rfl ?_)
    exact ⟨rfl, hM.to_below⟩
end Go.Proofs.YtcicjklhbnipcaaGreatDoor
