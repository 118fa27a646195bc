/-
  Layer 7: paths, walked.
-/
import Derived.Test.YtcicjklhbnipcaaGreatDoorObj
import Derived.Test.YtcicjklhbnipcaaGreatDoorShelf
import Derived.Lib.Hide
import Derived.Lib.SplitLaws
namespace Go.Proofs.YtcicjklhbnipcaaGreatDoor
set_option linter.unusedVariables false
set_option linter.unusedSimpArgs false
open Go.RowKit

/-- The library's variable of block 0 is a number. -/
def Mx (w : World) : Prop := ∃ m, w.cell? ⟨0, 0, none⟩ = some (.int .i64 m)
theorem Mx.pos {w : World} (h : Mx w) : 0 < w.heap.size := by obtain ⟨m, h⟩ := h; exact World.block_lt_of_cell? w ⟨0, 0, none⟩ h
theorem Mx.below {w w' : World} (h : Mx w) (hb : Below w.heap.size w w') : Mx w' := by
  have hp := h.pos
  obtain ⟨m, h⟩ := h
  exact ⟨m, (hb.cell (p := ⟨0, 0, none⟩) hp).trans h⟩
theorem St.mx {w0 w : World} {F : List Nat} {L : List Ent} (hM : St w0 F w L) (h : Mx w0) (h0 : 0 ∉ F) : Mx w := by
  obtain ⟨m, h⟩ := h
  exact ⟨m, only_cell hM.only h h0⟩
/-- Texts in a slice of the call's own. -/
abbrev txL (s : Option (Nat × Nat)) (xs : List ByteArray) : List Ent := slL s (xs.map Value.string) 9 1
abbrev TxOK (s : Option (Nat × Nat)) (xs : List ByteArray) : Prop := SlOK s xs.length (xs.map Value.string) 1
theorem txL_flag (s : Option (Nat × Nat)) (xs : List ByteArray) : flagged (txL s xs) := fun x hx => by
  cases s with
  | none => cases hx
  | some gc =>
    rcases List.mem_singleton.1 hx with rfl
    rfl
/-- It answers texts in a slice of its own. -/
def SomeTx (xs : List ByteArray) (w : World) (e : Ending) (w' : World) : Prop := ∃ s, e = .returned (slV s xs.length) ∧ TxOK s xs ∧ St w [] w' (txL s xs)
namespace Pt
def slash : ByteArray := ⟨#[47]⟩
def parts (p : ByteArray) : List ByteArray := if p.size = 0 then [] else Lib.splitB slash 0 (Lib.countB p slash) p
end Pt
theorem beqs_yes {s : ByteArray} {l : List UInt8} (h : s.data.toList = l) : (s.toList == l) = true := by rw [ByteArray.toList_eq, h]; simp
theorem beqs_no {s : ByteArray} {l : List UInt8} (h : ¬ s.data.toList = l) : (s.toList == l) = false := by rw [ByteArray.toList_eq]; exact beq_eq_false_iff_ne.2 h
theorem size_nil {s : ByteArray} : s.size = 0 ↔ s.data.toList = [] := by
  constructor
  · intro h; exact List.length_eq_zero_iff.1 (by rw [← Lib.size_eq]; exact h)
  · intro h; rw [Lib.size_eq, h]; rfl
set_option maxHeartbeats 4000000 in
set_option maxRecDepth 100000 in
theorem Parts_any (p : ByteArray) (w : World) (hp : p.size ≤ 1000000) (hm : Mx w) : Calls Tryz.prog 164 #[.string p] w (SomeTx (Pt.parts p) w) := by
  have hM := St.start w []
  by_cases h0 : p.size = 0
  · have e : Pt.parts p = [] := if_pos h0
    rw [e]
    have hq := beqs_yes (size_nil.1 h0)
    clear h0 hp
    go_enter Tryz.func164, Tryz.ntmps164
    (repeat (first | ((with_reducible show wpSeq _ _ _ _ _ _ _); first | ((with_reducible refine wpSeq_nil ?_); refine hKr.out _ _ ?_; clear hKr Kr) | ((first | (refine St.copy (v := ?_) (by first | exact .inl rfl | exact .inr rfl) rfl rfl ?_ ?_; rotate_left; (focus ((try simp only [Act.eval, getD_lit, List.getD_cons_zero, List.getD_cons_succ]); with_reducible rfl))) | (refine St.pure (v := ?_) rfl rfl rfl (fun w => ?_) ?_; rotate_left; (focus (go_simp; all_goals with_reducible rfl)))); (try simp only [Act.put, List.setIfInBounds_toArray, List.set_cons_zero, List.set_cons_succ]))) | (first | (refine wp_seq_shut (fun K hK => ?_)) | (refine wp_text hM (fun Kr hKr => ?_); simp only [inText]) | (refine wp_cond_true rfl ?_) | ((refine hK.out _ _ ?_); clear hK K))))
    (refine wp_ret ?_; (try simp only [Exit.then, Exit.inBlock]); refine St.ret hM rfl (by repeat (first | exact Outs.nil | apply Outs.tmp rfl)) rfl ?_)
    exact ⟨none, rfl, ⟨rfl, rfl⟩, hM⟩
  · have e : Pt.parts p = Lib.splitB Pt.slash 0 (Lib.countB p Pt.slash) p := if_neg h0
    have hq := beqs_no (l := []) (fun h => h0 (size_nil.2 h))
    obtain ⟨m, hm⟩ := hm
    have C := Lib.hid (Tryz.strings_Split p Pt.slash m w (by omega) hm (by decide))
    rw [e]
    have hl : (Lib.splitB Pt.slash 0 (Lib.countB p Pt.slash) p).length = Lib.countB p Pt.slash + 1 := Lib.splitB_all Pt.slash (by decide) 0 _ p rfl
    have hcn := Lib.countB_le Pt.slash (by decide) _ p (Nat.le_refl _)
    generalize Lib.splitB Pt.slash 0 (Lib.countB p Pt.slash) p = xs at *
    generalize Lib.countB p Pt.slash = n at *
    have hnm : n + 1 ≤ maxLen := by unfold maxLen; omega
    clear h0 hp e hcn
    go_enter Tryz.func164, Tryz.ntmps164
    (repeat (first | ((with_reducible show wpSeq _ _ _ _ _ _ _); first | ((with_reducible refine wpSeq_nil ?_); refine hKr.out _ _ ?_; clear hKr Kr) | ((first | (refine St.copy (v := ?_) (by first | exact .inl rfl | exact .inr rfl) rfl rfl ?_ ?_; rotate_left; (focus ((try simp only [Act.eval, getD_lit, List.getD_cons_zero, List.getD_cons_succ]); with_reducible rfl))) | (refine St.pure (v := ?_) rfl rfl rfl (fun w => ?_) ?_; rotate_left; (focus (go_simp; all_goals with_reducible rfl)))); (try simp only [Act.put, List.setIfInBounds_toArray, List.set_cons_zero, List.set_cons_succ]))) | (first | (refine wp_seq_shut (fun K hK => ?_)) | (refine wp_text hM (fun Kr hKr => ?_); simp only [inText]) | refine wp_skip ?_ | (refine wp_cond_false rfl ?_) | ((refine hK.out _ _ ?_); clear hK K))))
    (refine St.call rfl rfl rfl (by kernel_rfl) (fun R hR => ?_); simp only [List.map_toArray, List.map_cons, List.map_nil, Act.eval, getD_lit, List.getD_cons_zero, List.getD_cons_succ])
    refine C.out.mono ?_
    rintro e w' ⟨rfl, rfl⟩
    have hb := (Below.refl w.heap.size w).alloc (Nat.le_refl _) (.cells (List.map Value.string xs).toArray 9)
    have hN := (hM.push (.cells (List.map Value.string xs).toArray 9) (r := .pre (xs.map Value.string) 9 ((n + 1) * 1)) ⟨[], by simp, by simp [hl]⟩)
    refine hR.out _ _ (fun h => h.below hb) ?_; clear hR R hb; replace hM := hN; clear hN
    generalize w.alloc (Obj.cells (List.map Value.string xs).toArray 9) = w1 at *
    generalize w.heap.size = g at *
    (try simp only [Act.put, List.setIfInBounds_toArray, List.set_cons_zero, List.set_cons_succ])
    (repeat (first | ((with_reducible show wpSeq _ _ _ _ _ _ _); first | ((with_reducible refine wpSeq_nil ?_); refine hKr.out _ _ ?_; clear hKr Kr) | (((refine St.copy (v := ?_) (by exact .inr rfl) rfl rfl ?_ ?_; rotate_left; (focus ((try simp only [Act.eval, getD_lit, List.getD_cons_zero, List.getD_cons_succ]); with_reducible rfl)))); (try simp only [Act.put, List.setIfInBounds_toArray, List.set_cons_zero, List.set_cons_succ]))) | (((refine hK.out _ _ ?_); clear hK K))))
    (refine wp_ret ?_; (try simp only [Exit.then, Exit.inBlock]); refine St.ret hM rfl (by repeat (first | exact Outs.nil | apply Outs.tmp rfl)) rfl ?_)
    exact ⟨some (g, n + 1), by rw [hl]; rfl, ⟨by simp, by rw [hl]; exact ⟨Nat.le_refl _, hnm⟩⟩, hM⟩
namespace Pt
def isName (s : ByteArray) : Bool := !(s.data.toList == [46]) && !(s.data.toList == [46, 46]) && decide (1 ≤ s.size) && decide (s.size ≤ 32) && decide (Lib.indexByte s.data.toList 0 < 0)
end Pt
set_option maxHeartbeats 4000000 in
set_option maxRecDepth 100000 in
theorem isName7_any (s : ByteArray) (w : World) (hs : s.size ≤ maxLen) : Calls Tryz.prog 191 #[.string s] w fun e w' => e = .returned (.bool (Pt.isName s)) ∧ Below w.heap.size w w' := by
  rw [maxLen_val] at hs
  have hM := St.start w []
  by_cases h1 : s.data.toList = [46]
  · have q1 := beqs_yes h1
    have e : Pt.isName s = false := by unfold Pt.isName; rw [h1]; rfl
    rw [e]
    clear h1 hs e
    go_enter Tryz.func191, Tryz.ntmps191
    (repeat (first | ((with_reducible show wpSeq _ _ _ _ _ _ _); first | ((with_reducible refine wpSeq_nil ?_); refine hKr.out _ _ ?_; clear hKr Kr) | ((first | (refine St.copy (v := ?_) (by first | exact .inl rfl | exact .inr rfl) rfl rfl ?_ ?_; rotate_left; (focus ((try simp only [Act.eval, getD_lit, List.getD_cons_zero, List.getD_cons_succ]); with_reducible rfl))) | (refine St.pure (v := ?_) rfl rfl rfl (fun w => ?_) ?_; rotate_left; (focus (go_simp; all_goals with_reducible rfl)))); (try simp only [Act.put, List.setIfInBounds_toArray, List.set_cons_zero, List.set_cons_succ]))) | (first | (refine wp_seq_shut (fun K hK => ?_)) | (refine wp_text hM (fun Kr hKr => ?_); simp only [inText]) | refine wp_block ?_ | ((refine hK.out _ _ ?_); clear hK K))))
    refine wp_loop_rounds 3 ?_
    (refine rounds_shut (fun K hK => ?_))
    (repeat (first | ((with_reducible show wpSeq _ _ _ _ _ _ _); first | ((with_reducible refine wpSeq_nil ?_); refine hKr.out _ _ ?_; clear hKr Kr) | ((first | (refine St.copy (v := ?_) (by first | exact .inl rfl | exact .inr rfl) rfl rfl ?_ ?_; rotate_left; (focus ((try simp only [Act.eval, getD_lit, List.getD_cons_zero, List.getD_cons_succ]); with_reducible rfl))) | (refine St.pure (v := ?_) rfl rfl rfl (fun w => ?_) ?_; rotate_left; (focus (go_simp; all_goals with_reducible rfl))) | (refine St.index rfl rfl rfl rfl rfl (by kernel_rfl) (by rfl) ?_)); (try simp only [Act.put, List.setIfInBounds_toArray, List.set_cons_zero, List.set_cons_succ]))) | (first | (refine wp_seq_shut (fun K hK => ?_)) | (refine wp_text hM (fun Kr hKr => ?_); simp only [inText]) | refine wp_block ?_ | refine wp_skip ?_ | (refine wp_cond_true rfl ?_) | ((refine hK.out _ _ ?_); clear hK K))))
    (refine wp_ret ?_; (try simp only [Exit.then, Exit.inBlock]); refine St.ret hM rfl (by repeat (first | exact Outs.nil | apply Outs.tmp rfl)) rfl ?_)
    exact ⟨rfl, hM.to_below⟩
  by_cases h2 : s.data.toList = [46, 46]
  · have q1 := beqs_no h1
    have q2 := beqs_yes h2
    have e : Pt.isName s = false := by unfold Pt.isName; rw [h2]; rfl
    rw [e]
    clear h1 h2 hs e
    go_enter Tryz.func191, Tryz.ntmps191
    (repeat (first | ((with_reducible show wpSeq _ _ _ _ _ _ _); first | ((with_reducible refine wpSeq_nil ?_); refine hKr.out _ _ ?_; clear hKr Kr) | ((first | (refine St.copy (v := ?_) (by first | exact .inl rfl | exact .inr rfl) rfl rfl ?_ ?_; rotate_left; (focus ((try simp only [Act.eval, getD_lit, List.getD_cons_zero, List.getD_cons_succ]); with_reducible rfl))) | (refine St.pure (v := ?_) rfl rfl rfl (fun w => ?_) ?_; rotate_left; (focus (go_simp; all_goals with_reducible rfl)))); (try simp only [Act.put, List.setIfInBounds_toArray, List.set_cons_zero, List.set_cons_succ]))) | (first | (refine wp_seq_shut (fun K hK => ?_)) | (refine wp_text hM (fun Kr hKr => ?_); simp only [inText]) | refine wp_block ?_ | ((refine hK.out _ _ ?_); clear hK K))))
    refine wp_loop_rounds 3 ?_
    (refine rounds_shut (fun K hK => ?_))
    (repeat (first | ((with_reducible show wpSeq _ _ _ _ _ _ _); first | ((with_reducible refine wpSeq_nil ?_); refine hKr.out _ _ ?_; clear hKr Kr) | ((first | (refine St.copy (v := ?_) (by first | exact .inl rfl | exact .inr rfl) rfl rfl ?_ ?_; rotate_left; (focus ((try simp only [Act.eval, getD_lit, List.getD_cons_zero, List.getD_cons_succ]); with_reducible rfl))) | (refine St.pure (v := ?_) rfl rfl rfl (fun w => ?_) ?_; rotate_left; (focus (go_simp; all_goals with_reducible rfl))) | (refine St.index rfl rfl rfl rfl rfl (by kernel_rfl) (by rfl) ?_)); (try simp only [Act.put, List.setIfInBounds_toArray, List.set_cons_zero, List.set_cons_succ]))) | (first | (refine wp_seq_shut (fun K hK => ?_)) | (refine wp_text hM (fun Kr hKr => ?_); simp only [inText]) | refine wp_block ?_ | refine wp_skip ?_ | (first | refine wp_cond_true rfl ?_ | refine wp_cond_false rfl ?_) | ((refine hK.out _ _ ?_); clear hK K))))
    (refine wp_ret ?_; (try simp only [Exit.then, Exit.inBlock]); refine St.ret hM rfl (by repeat (first | exact Outs.nil | apply Outs.tmp rfl)) rfl ?_)
    exact ⟨rfl, hM.to_below⟩
  have q1 := beqs_no h1
  have q2 := beqs_no h2
  have e : Pt.isName s = (decide (1 ≤ s.size) && decide (s.size ≤ 32) && decide (Lib.indexByte s.data.toList 0 < 0)) := by
    unfold Pt.isName
    rw [beq_eq_false_iff_ne.2 h1, beq_eq_false_iff_ne.2 h2]
    rfl
  rw [e]
  have C := Lib.hid (Tryz.strings_IndexByte s 0)
  rw [show (0 : Int).toNat.toUInt8 = (0 : UInt8) from rfl] at C
  generalize Lib.indexByte s.data.toList 0 = r at *
  clear h1 h2 e
  by_cases k1 : 1 ≤ s.size
  · by_cases k2 : s.size ≤ 32
    · have d1 : decide ((1 : Int) ≤ (s.size : Int)) = true := decide_eq_true (by omega)
      have d2 : decide ((s.size : Int) ≤ (32 : Int)) = true := decide_eq_true (by omega)
      rw [decide_eq_true k1, decide_eq_true k2]
      simp only [Bool.true_and]
      clear k1 k2 hs
      go_enter Tryz.func191, Tryz.ntmps191
      (repeat (first | ((with_reducible show wpSeq _ _ _ _ _ _ _); first | ((with_reducible refine wpSeq_nil ?_); refine hKr.out _ _ ?_; clear hKr Kr) | ((first | (refine St.copy (v := ?_) (by first | exact .inl rfl | exact .inr rfl) rfl rfl ?_ ?_; rotate_left; (focus ((try simp only [Act.eval, getD_lit, List.getD_cons_zero, List.getD_cons_succ]); with_reducible rfl))) | (refine St.pure (v := ?_) rfl rfl rfl (fun w => ?_) ?_; rotate_left; (focus (go_simp; all_goals with_reducible rfl)))); (try simp only [Act.put, List.setIfInBounds_toArray, List.set_cons_zero, List.set_cons_succ]))) | (first | (refine wp_seq_shut (fun K hK => ?_)) | (refine wp_text hM (fun Kr hKr => ?_); simp only [inText]) | refine wp_block ?_ | ((refine hK.out _ _ ?_); clear hK K))))
      refine wp_loop_rounds 3 ?_
      (refine rounds_shut (fun K hK => ?_))
      (repeat (first | (first | ((with_reducible show wpSeq _ _ _ _ _ _ _); first | ((with_reducible refine wpSeq_nil ?_); refine hKr.out _ _ ?_; clear hKr Kr) | ((first | (refine St.copy (v := ?_) (by first | exact .inl rfl | exact .inr rfl) rfl rfl ?_ ?_; rotate_left; (focus ((try simp only [Act.eval, getD_lit, List.getD_cons_zero, List.getD_cons_succ]); with_reducible rfl))) | (refine St.pure (v := ?_) rfl rfl rfl (fun w => ?_) ?_; rotate_left; (focus (go_simp; all_goals with_reducible rfl))) | (refine St.index rfl rfl rfl rfl rfl (by kernel_rfl) (by rfl) ?_)); (try simp only [Act.put, List.setIfInBounds_toArray, List.set_cons_zero, List.set_cons_succ]))) | (first | (refine wp_seq_shut (fun K hK => ?_)) | (refine wp_text hM (fun Kr hKr => ?_); simp only [inText]) | refine wp_block ?_ | refine wp_skip ?_ | (first | refine wp_cond_true rfl ?_ | refine wp_cond_false rfl ?_) | (refine wp_exit ?_; simp only [Exit.then, Exit.inBlock, if_true, if_false, reduceCtorEq, Nat.reduceEqDiff, Nat.succ_ne_zero]) | ((first | refine hK.out _ _ ?_ | (clear hK K; refine hK.out _ _ ?_)); clear hK K))) | ((refine St.call rfl rfl rfl (by kernel_rfl) (fun R hR => ?_); simp only [List.map_toArray, List.map_cons, List.map_nil, Act.eval, getD_lit, List.getD_cons_zero, List.getD_cons_succ]); ((with_reducible refine (C.out _).mono ?_); (rintro e w' ⟨rfl, rfl⟩; refine hR.out _ _ (fun h => h) ?_; clear hR R; (try simp only [Act.put, List.setIfInBounds_toArray, List.set_cons_zero, List.set_cons_succ]))))))
      (refine wp_ret ?_; (try simp only [Exit.then, Exit.inBlock]); refine St.ret hM rfl (by repeat (first | exact Outs.nil | apply Outs.tmp rfl)) rfl ?_)
      exact ⟨rfl, hM.to_below⟩
    · have d1 : decide ((1 : Int) ≤ (s.size : Int)) = true := decide_eq_true (by omega)
      have d2 : decide ((s.size : Int) ≤ (32 : Int)) = false := decide_eq_false (by omega)
      rw [decide_eq_true k1, decide_eq_false k2]
      simp only [Bool.true_and, Bool.false_and]
      clear k1 k2 hs
      go_enter Tryz.func191, Tryz.ntmps191
      (repeat (first | ((with_reducible show wpSeq _ _ _ _ _ _ _); first | ((with_reducible refine wpSeq_nil ?_); refine hKr.out _ _ ?_; clear hKr Kr) | ((first | (refine St.copy (v := ?_) (by first | exact .inl rfl | exact .inr rfl) rfl rfl ?_ ?_; rotate_left; (focus ((try simp only [Act.eval, getD_lit, List.getD_cons_zero, List.getD_cons_succ]); with_reducible rfl))) | (refine St.pure (v := ?_) rfl rfl rfl (fun w => ?_) ?_; rotate_left; (focus (go_simp; all_goals with_reducible rfl)))); (try simp only [Act.put, List.setIfInBounds_toArray, List.set_cons_zero, List.set_cons_succ]))) | (first | (refine wp_seq_shut (fun K hK => ?_)) | (refine wp_text hM (fun Kr hKr => ?_); simp only [inText]) | refine wp_block ?_ | ((refine hK.out _ _ ?_); clear hK K))))
      refine wp_loop_rounds 3 ?_
      (refine rounds_shut (fun K hK => ?_))
      (repeat (first | ((with_reducible show wpSeq _ _ _ _ _ _ _); first | ((with_reducible refine wpSeq_nil ?_); refine hKr.out _ _ ?_; clear hKr Kr) | ((first | (refine St.copy (v := ?_) (by first | exact .inl rfl | exact .inr rfl) rfl rfl ?_ ?_; rotate_left; (focus ((try simp only [Act.eval, getD_lit, List.getD_cons_zero, List.getD_cons_succ]); with_reducible rfl))) | (refine St.pure (v := ?_) rfl rfl rfl (fun w => ?_) ?_; rotate_left; (focus (go_simp; all_goals with_reducible rfl))) | (refine St.index rfl rfl rfl rfl rfl (by kernel_rfl) (by rfl) ?_) | refine wpSeq_off rfl rfl ?_); (try simp only [Act.put, List.setIfInBounds_toArray, List.set_cons_zero, List.set_cons_succ]))) | (first | (refine wp_seq_shut (fun K hK => ?_)) | (refine wp_text hM (fun Kr hKr => ?_); simp only [inText]) | refine wp_block ?_ | refine wp_skip ?_ | (first | refine wp_cond_true rfl ?_ | refine wp_cond_false rfl ?_) | (refine wp_exit ?_; simp only [Exit.then, Exit.inBlock, if_true, if_false, reduceCtorEq, Nat.reduceEqDiff, Nat.succ_ne_zero]) | ((first | refine hK.out _ _ ?_ | (clear hK K; refine hK.out _ _ ?_)); clear hK K))))
      (refine wp_ret ?_; (try simp only [Exit.then, Exit.inBlock]); refine St.ret hM rfl (by repeat (first | exact Outs.nil | apply Outs.tmp rfl)) rfl ?_)
      exact ⟨rfl, hM.to_below⟩
  · have d1 : decide ((1 : Int) ≤ (s.size : Int)) = false := decide_eq_false (by omega)
    rw [decide_eq_false k1]
    simp only [Bool.false_and]
    clear k1 hs
    go_enter Tryz.func191, Tryz.ntmps191
    (repeat (first | ((with_reducible show wpSeq _ _ _ _ _ _ _); first | ((with_reducible refine wpSeq_nil ?_); refine hKr.out _ _ ?_; clear hKr Kr) | ((first | (refine St.copy (v := ?_) (by first | exact .inl rfl | exact .inr rfl) rfl rfl ?_ ?_; rotate_left; (focus ((try simp only [Act.eval, getD_lit, List.getD_cons_zero, List.getD_cons_succ]); with_reducible rfl))) | (refine St.pure (v := ?_) rfl rfl rfl (fun w => ?_) ?_; rotate_left; (focus (go_simp; all_goals with_reducible rfl)))); (try simp only [Act.put, List.setIfInBounds_toArray, List.set_cons_zero, List.set_cons_succ]))) | (first | (refine wp_seq_shut (fun K hK => ?_)) | (refine wp_text hM (fun Kr hKr => ?_); simp only [inText]) | refine wp_block ?_ | ((refine hK.out _ _ ?_); clear hK K))))
    refine wp_loop_rounds 3 ?_
    (refine rounds_shut (fun K hK => ?_))
    (repeat (first | ((with_reducible show wpSeq _ _ _ _ _ _ _); first | ((with_reducible refine wpSeq_nil ?_); refine hKr.out _ _ ?_; clear hKr Kr) | ((first | (refine St.copy (v := ?_) (by first | exact .inl rfl | exact .inr rfl) rfl rfl ?_ ?_; rotate_left; (focus ((try simp only [Act.eval, getD_lit, List.getD_cons_zero, List.getD_cons_succ]); with_reducible rfl))) | (refine St.pure (v := ?_) rfl rfl rfl (fun w => ?_) ?_; rotate_left; (focus (go_simp; all_goals with_reducible rfl))) | (refine St.index rfl rfl rfl rfl rfl (by kernel_rfl) (by rfl) ?_) | refine wpSeq_off rfl rfl ?_); (try simp only [Act.put, List.setIfInBounds_toArray, List.set_cons_zero, List.set_cons_succ]))) | (first | (refine wp_seq_shut (fun K hK => ?_)) | (refine wp_text hM (fun Kr hKr => ?_); simp only [inText]) | refine wp_block ?_ | refine wp_skip ?_ | (first | refine wp_cond_true rfl ?_ | refine wp_cond_false rfl ?_) | (refine wp_exit ?_; simp only [Exit.then, Exit.inBlock, if_true, if_false, reduceCtorEq, Nat.reduceEqDiff, Nat.succ_ne_zero]) | ((first | refine hK.out _ _ ?_ | (clear hK K; refine hK.out _ _ ?_)); clear hK K))))
    (refine wp_ret ?_; (try simp only [Exit.then, Exit.inBlock]); refine St.ret hM rfl (by repeat (first | exact Outs.nil | apply Outs.tmp rfl)) rfl ?_)
    exact ⟨rfl, hM.to_below⟩
end Go.Proofs.YtcicjklhbnipcaaGreatDoor
