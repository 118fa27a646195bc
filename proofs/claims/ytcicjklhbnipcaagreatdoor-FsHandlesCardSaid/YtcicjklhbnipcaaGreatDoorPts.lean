/-
  Layer 7 and 9: a path parted into its directory and its name; which paths, and which operations, may be.
-/
import Derived.Test.YtcicjklhbnipcaaGreatDoorPtc
import Derived.Test.YtcicjklhbnipcaaGreatDoorIno1
namespace Go.Proofs.YtcicjklhbnipcaaGreatDoor
set_option linter.unusedVariables false
set_option linter.unusedSimpArgs false
open Go.RowKit

namespace Pt
def last (p : ByteArray) : Int := Lib.lastIndex p.data.toList [47]
def split (p : ByteArray) : ByteArray × ByteArray := if last p < 0 then (⟨#[]⟩, p) else (p.extract 0 (last p).toNat, p.extract ((last p).toNat + 1) p.size)
theorem lt_of_eq {i : Int} (h : i = -1) : i < 0 := by omega
theorem last_lt (p : ByteArray) : last p < 0 ∨ ∃ k : Nat, last p = k ∧ k < p.size := by
  unfold last Lib.lastIndex
  split
  · rename_i h
    simp only [List.length_cons, List.length_nil] at h
    rcases Lib.lastOcc_spec p.data.toList [47] (p.data.toList.length - [47].length + 1) with ⟨h1, -⟩ | ⟨i, h1, h2, -⟩
    · left; exact lt_of_eq h1
    · right
      refine ⟨i, h2, ?_⟩
      rw [Lib.size_eq]
      simp only [List.length_cons, List.length_nil] at h1
      omega
  · left; decide
/-- A path that may be, and is not the root. -/
def isPath (p : ByteArray) : Bool := decide ((clean p).2 = 0) && ((clean p).1.data.toList == p.data.toList) && !(p.data.toList == [])
end Pt
set_option maxHeartbeats 8000000 in
set_option maxRecDepth 100000 in
theorem Split_any (p : ByteArray) (w : World) (hp : p.size ≤ 1000000) : Calls Tryz.prog 158 #[.string p] w fun e w' => e = .returned (.tuple #[.string (Pt.split p).1, .string (Pt.split p).2]) ∧ Below w.heap.size w w' := by
  have hM := St.start w []
  have C := Tryz.strings_LastIndex p Pt.slash (by omega) w
  rw [show Pt.slash.data.toList = [47] from rfl] at C
  change Calls _ _ _ _ fun e w' => e = .returned (.int .i64 (Pt.last p)) ∧ w' = w at C
  unfold Pt.split
  rcases Pt.last_lt p with h | ⟨k, hk, hlt⟩
  · rw [if_pos h]
    have d : decide (Pt.last p < 0) = true := decide_eq_true h
    generalize Pt.last p = i at *
    clear h
    go_enter Tryz.func158, Tryz.ntmps158
    (repeat (first | (first | ((with_reducible show wpSeq _ _ _ _ _ _ _); first | ((with_reducible refine wpSeq_nil ?_); refine hKr.out _ _ ?_; clear hKr Kr) | ((first | (refine St.copy (v := ?_) (by first | exact .inl rfl | exact .inr rfl) rfl rfl ?_ ?_; rotate_left; (focus ((try simp only [Act.eval, getD_lit, List.getD_cons_zero, List.getD_cons_succ]); with_reducible rfl))) | (refine St.pure (v := ?_) rfl rfl rfl (fun w => ?_) ?_; rotate_left; (focus (go_simp; all_goals with_reducible rfl)))); (try simp only [Act.put, List.setIfInBounds_toArray, List.set_cons_zero, List.set_cons_succ]))) | (first | (refine wp_seq_shut (fun K hK => ?_)) | (refine wp_text hM (fun Kr hKr => ?_); simp only [inText]) | (refine wp_cond_true rfl ?_) | ((refine hK.out _ _ ?_); clear hK K))) | ((refine St.call rfl rfl rfl (by kernel_rfl) (fun R hR => ?_); simp only [List.map_toArray, List.map_cons, List.map_nil, Act.eval, getD_lit, List.getD_cons_zero, List.getD_cons_succ]); (refine (C).mono ?_; (rintro e w' ⟨rfl, rfl⟩; refine hR.out _ _ (fun h => h) ?_; clear hR R; (try simp only [Act.put, List.setIfInBounds_toArray, List.set_cons_zero, List.set_cons_succ]))))))
    (refine wp_ret ?_; (try simp only [Exit.then, Exit.inBlock]); refine St.ret hM rfl (by repeat (first | exact Outs.nil | apply Outs.tmp rfl)) rfl ?_)
    exact ⟨rfl, hM.to_below⟩
  · rw [if_neg (by omega), hk, Int.toNat_natCast]
    rw [hk] at C
    have d : decide ((k : Int) < 0) = false := decide_eq_false (by omega)
    have d1 : (k : Int) ≤ (p.size : Int) := by omega
    have d2 : ((k + 1 : Nat) : Int) ≤ (p.size : Int) := by omega
    have d4 : (0 : Int) ≤ (k : Int) + 1 := by omega
    have d3 : (k : Int) + 1 ≤ (p.size : Int) := by omega
    clear hk
    go_enter Tryz.func158, Tryz.ntmps158
    (repeat (first | (first | ((with_reducible show wpSeq _ _ _ _ _ _ _); first | ((with_reducible refine wpSeq_nil ?_); refine hKr.out _ _ ?_; clear hKr Kr) | ((first | (refine St.copy (v := ?_) (by first | exact .inl rfl | exact .inr rfl) rfl rfl ?_ ?_; rotate_left; (focus ((try simp only [Act.eval, getD_lit, List.getD_cons_zero, List.getD_cons_succ]); with_reducible rfl))) | refine St.inc rfl rfl rfl rfl rfl (by omega) ?_ | (refine St.pure (v := ?_) rfl rfl rfl (fun w => ?_) ?_; rotate_left; (focus (go_simp; all_goals with_reducible rfl)))); (try simp only [Act.put, List.setIfInBounds_toArray, List.set_cons_zero, List.set_cons_succ]))) | (first | (refine wp_seq_shut (fun K hK => ?_)) | (refine wp_text hM (fun Kr hKr => ?_); simp only [inText]) | refine wp_skip ?_ | (refine wp_cond_false rfl ?_) | ((refine hK.out _ _ ?_); clear hK K)) | ((refine wp_drawn (id := 4) hM Sub.nil [] [(0, 0), (1, 0), (2, 0), (3, 0), (4, 0), (5, 0), (6, 0), (7, 3), (8, 3)] (by kernel_rfl) (by kernel_rfl) ?_); (clear hM; intro w hM Kr hKr); simp only [opsOf, List.getD_cons_zero, List.getD_cons_succ])) | ((refine St.call rfl rfl rfl (by kernel_rfl) (fun R hR => ?_); simp only [List.map_toArray, List.map_cons, List.map_nil, Act.eval, getD_lit, List.getD_cons_zero, List.getD_cons_succ]); (refine (C).mono ?_; (rintro e w' ⟨rfl, rfl⟩; refine hR.out _ _ (fun h => h) ?_; clear hR R; (try simp only [Act.put, List.setIfInBounds_toArray, List.set_cons_zero, List.set_cons_succ]))))))
    (refine wp_ret ?_; (try simp only [Exit.then, Exit.inBlock]); refine St.ret hM rfl (by repeat (first | exact Outs.nil | apply Outs.tmp rfl)) rfl ?_)
    exact ⟨rfl, hM.to_below⟩
set_option maxHeartbeats 8000000 in
set_option maxRecDepth 100000 in
theorem isPath9_any (p : ByteArray) (w : World) (hp : p.size ≤ 1000000) (hm : Mx w) : Calls Tryz.prog 103 #[.string p] w fun e w' => e = .returned (.bool (Pt.isPath p)) ∧ Below w.heap.size w w' := by
  have hM := St.start w []
  have C := Lib.hid (Clean_any p w hp hm)
  unfold Pt.isPath
  generalize Pt.clean p = r at *
  obtain ⟨q, E⟩ := r
  simp only at C ⊢
  by_cases h0 : E = 0
  · subst h0
    by_cases h1 : q.data.toList = p.data.toList
    · have q1 : (q.toList == p.toList) = true := by rw [ByteArray.toList_eq, ByteArray.toList_eq, h1]; simp
      by_cases h2 : p.data.toList = []
      · have q2 := beqs_yes h2
        rw [h1, h2]
        clear h1 h2
        go_enter Tryz.func103, Tryz.ntmps103
        (repeat (first | (first | ((with_reducible show wpSeq _ _ _ _ _ _ _); first | ((with_reducible refine wpSeq_nil ?_); refine hKr.out _ _ ?_; clear hKr Kr) | ((first | (refine St.copy (v := ?_) (by first | exact .inl rfl | exact .inr rfl) rfl rfl ?_ ?_; rotate_left; (focus ((try simp only [Act.eval, getD_lit, List.getD_cons_zero, List.getD_cons_succ]); with_reducible rfl))) | (refine St.pure (v := ?_) rfl rfl rfl (fun w => ?_) ?_; rotate_left; (focus (go_simp; all_goals with_reducible rfl)))); (try simp only [Act.put, List.setIfInBounds_toArray, List.set_cons_zero, List.set_cons_succ]))) | (first | (refine wp_seq_shut (fun K hK => ?_)) | (refine wp_text hM (fun Kr hKr => ?_); simp only [inText]) | ((refine hK.out _ _ ?_); clear hK K))) | ((refine St.call rfl rfl rfl (by kernel_rfl) (fun R hR => ?_); simp only [List.map_toArray, List.map_cons, List.map_nil, Act.eval, getD_lit, List.getD_cons_zero, List.getD_cons_succ]); ((with_reducible refine (C.out).mono ?_); (rintro e w' ⟨rfl, hb⟩; refine hR.out _ _ (fun h => h.below hb) ?_; clear hR R; replace hM := hM.below hb; clear hb; (try simp only [Act.put, List.setIfInBounds_toArray, List.set_cons_zero, List.set_cons_succ]))))))
        (refine wp_ret ?_; (try simp only [Exit.then, Exit.inBlock]); refine St.ret hM rfl (by repeat (first | exact Outs.nil | apply Outs.tmp rfl)) rfl ?_)
        exact ⟨rfl, hM.to_below⟩
      · have q2 := beqs_no h2
        have e2 : (p.data.toList == []) = false := beq_eq_false_iff_ne.2 h2
        rw [h1, e2]
        clear h1 h2 e2
        go_enter Tryz.func103, Tryz.ntmps103
        (repeat (first | (first | ((with_reducible show wpSeq _ _ _ _ _ _ _); first | ((with_reducible refine wpSeq_nil ?_); refine hKr.out _ _ ?_; clear hKr Kr) | ((first | (refine St.copy (v := ?_) (by first | exact .inl rfl | exact .inr rfl) rfl rfl ?_ ?_; rotate_left; (focus ((try simp only [Act.eval, getD_lit, List.getD_cons_zero, List.getD_cons_succ]); with_reducible rfl))) | (refine St.pure (v := ?_) rfl rfl rfl (fun w => ?_) ?_; rotate_left; (focus (go_simp; all_goals with_reducible rfl)))); (try simp only [Act.put, List.setIfInBounds_toArray, List.set_cons_zero, List.set_cons_succ]))) | (first | (refine wp_seq_shut (fun K hK => ?_)) | (refine wp_text hM (fun Kr hKr => ?_); simp only [inText]) | ((refine hK.out _ _ ?_); clear hK K))) | ((refine St.call rfl rfl rfl (by kernel_rfl) (fun R hR => ?_); simp only [List.map_toArray, List.map_cons, List.map_nil, Act.eval, getD_lit, List.getD_cons_zero, List.getD_cons_succ]); ((with_reducible refine (C.out).mono ?_); (rintro e w' ⟨rfl, hb⟩; refine hR.out _ _ (fun h => h.below hb) ?_; clear hR R; replace hM := hM.below hb; clear hb; (try simp only [Act.put, List.setIfInBounds_toArray, List.set_cons_zero, List.set_cons_succ]))))))
        (refine wp_ret ?_; (try simp only [Exit.then, Exit.inBlock]); refine St.ret hM rfl (by repeat (first | exact Outs.nil | apply Outs.tmp rfl)) rfl ?_)
        exact ⟨by simp [tup], hM.to_below⟩
    · have q1 : (q.toList == p.toList) = false := by rw [ByteArray.toList_eq, ByteArray.toList_eq]; exact beq_eq_false_iff_ne.2 h1
      have e1 : (q.data.toList == p.data.toList) = false := beq_eq_false_iff_ne.2 h1
      rw [e1]
      clear h1 e1
      go_enter Tryz.func103, Tryz.ntmps103
      (repeat (first | (first | ((with_reducible show wpSeq _ _ _ _ _ _ _); first | ((with_reducible refine wpSeq_nil ?_); refine hKr.out _ _ ?_; clear hKr Kr) | ((first | (refine St.copy (v := ?_) (by first | exact .inl rfl | exact .inr rfl) rfl rfl ?_ ?_; rotate_left; (focus ((try simp only [Act.eval, getD_lit, List.getD_cons_zero, List.getD_cons_succ]); with_reducible rfl))) | (refine St.pure (v := ?_) rfl rfl rfl (fun w => ?_) ?_; rotate_left; (focus (go_simp; all_goals with_reducible rfl))) | refine wpSeq_off rfl rfl ?_); (try simp only [Act.put, List.setIfInBounds_toArray, List.set_cons_zero, List.set_cons_succ]))) | (first | (refine wp_seq_shut (fun K hK => ?_)) | (refine wp_text hM (fun Kr hKr => ?_); simp only [inText]) | ((refine hK.out _ _ ?_); clear hK K))) | ((refine St.call rfl rfl rfl (by kernel_rfl) (fun R hR => ?_); simp only [List.map_toArray, List.map_cons, List.map_nil, Act.eval, getD_lit, List.getD_cons_zero, List.getD_cons_succ]); ((with_reducible refine (C.out).mono ?_); (rintro e w' ⟨rfl, hb⟩; refine hR.out _ _ (fun h => h.below hb) ?_; clear hR R; replace hM := hM.below hb; clear hb; (try simp only [Act.put, List.setIfInBounds_toArray, List.set_cons_zero, List.set_cons_succ]))))))
      (refine wp_ret ?_; (try simp only [Exit.then, Exit.inBlock]); refine St.ret hM rfl (by repeat (first | exact Outs.nil | apply Outs.tmp rfl)) rfl ?_)
      exact ⟨by simp [tup], hM.to_below⟩
  · have q0 : (E == 0) = false := beq_eq_false_iff_ne.2 h0
    rw [decide_eq_false h0]
    clear h0
    go_enter Tryz.func103, Tryz.ntmps103
    (repeat (first | (first | ((with_reducible show wpSeq _ _ _ _ _ _ _); first | ((with_reducible refine wpSeq_nil ?_); refine hKr.out _ _ ?_; clear hKr Kr) | ((first | (refine St.copy (v := ?_) (by first | exact .inl rfl | exact .inr rfl) rfl rfl ?_ ?_; rotate_left; (focus ((try simp only [Act.eval, getD_lit, List.getD_cons_zero, List.getD_cons_succ]); with_reducible rfl))) | (refine St.pure (v := ?_) rfl rfl rfl (fun w => ?_) ?_; rotate_left; (focus (go_simp; all_goals with_reducible rfl))) | refine wpSeq_off rfl rfl ?_); (try simp only [Act.put, List.setIfInBounds_toArray, List.set_cons_zero, List.set_cons_succ]))) | (first | (refine wp_seq_shut (fun K hK => ?_)) | (refine wp_text hM (fun Kr hKr => ?_); simp only [inText]) | ((refine hK.out _ _ ?_); clear hK K))) | ((refine St.call rfl rfl rfl (by kernel_rfl) (fun R hR => ?_); simp only [List.map_toArray, List.map_cons, List.map_nil, Act.eval, getD_lit, List.getD_cons_zero, List.getD_cons_succ]); ((with_reducible refine (C.out).mono ?_); (rintro e w' ⟨rfl, hb⟩; refine hR.out _ _ (fun h => h.below hb) ?_; clear hR R; replace hM := hM.below hb; clear hb; (try simp only [Act.put, List.setIfInBounds_toArray, List.set_cons_zero, List.set_cons_succ]))))))
    (refine wp_ret ?_; (try simp only [Exit.then, Exit.inBlock]); refine St.ret hM rfl (by repeat (first | exact Outs.nil | apply Outs.tmp rfl)) rfl ?_)
    exact ⟨by simp [tup], hM.to_below⟩
/-- An operation. -/
structure OpD where
  kind : Int
  path : ByteArray
  dest : ByteArray
  h : Int
  at_ : Int
  n : Int
  data : ByteArray
  pid : Int
  birth : Int
def OpD.cells (o : OpD) : List Value := [.int .i64 o.kind, .string o.path, .string o.dest, .int .i64 o.h, .int .i64 o.at_, .int .i64 o.n, .string o.data, .int .i64 o.pid, .int .i64 o.birth]
/-- What is asked of an operation's numbers and texts. -/
structure OpD.Ok (o : OpD) : Prop where
  kind : Fits o.kind
  h : Fits o.h
  at_ : Fits o.at_
  n : Fits o.n
  path : o.path.size ≤ 1000000
  dest : o.dest.size ≤ 1000000
  data : o.data.size ≤ maxLen
namespace Pt
/-- May an operation's kind, and its paths, be? -/
def right (o : OpD) : Bool :=
  if o.kind = 5 ∨ o.kind = 6 ∨ o.kind = 7 ∨ o.kind = 8 ∨ o.kind = 9 then true
  else if o.kind = 1 ∨ o.kind = 2 ∨ o.kind = 3 ∨ o.kind = 4 ∨ o.kind = 11 then isPath o.path
  else if o.kind = 10 ∨ o.kind = 12 then isPath o.path && isPath o.dest
  else if o.kind = 13 then o.path.data.toList == [] || isPath o.path
  else false
end Pt
end Go.Proofs.YtcicjklhbnipcaaGreatDoor
