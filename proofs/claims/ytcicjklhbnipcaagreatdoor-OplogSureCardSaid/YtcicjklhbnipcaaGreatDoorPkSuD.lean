/-
  Texts laid one behind the other: what SurZ asks for.
-/
import Derived.Test.YtcicjklhbnipcaaGreatDoorPkSuC
import Derived.ChangeOld
import Derived.Deep.DeepHandedRow
import Derived.Deep.DeepWitnessRowRef
import Derived.KernelRfl
import Derived.LaidSub
import Derived.Lib.LaidIn
import Derived.Lib.LaidU8T
import Derived.Lib.Strings
import Derived.Maps.RangeWalk
import Derived.OpenShut
import Derived.ProofKit
import Derived.SevenTiedAt
import Derived.SizedLaws
import Derived.Test.YtcicjklhbnipcaaGreatDoorCards
import Derived.Test.YtcicjklhbnipcaaGreatDoorRows
import Derived.Test.YtcicjklhbnipcaaGreatDoorTie
namespace Go.Proofs.YtcicjklhbnipcaaGreatDoor
set_option linter.unusedVariables false
set_option linter.unusedSimpArgs false
open Go.RowKit

set_option maxHeartbeats 16000000 in
set_option maxRecDepth 100000 in
theorem right_any (o : OpD) (w : World) (ho : o.Ok) (hm : Mx w) : Calls Tryz.prog 62 #[.agg o.cells.toArray] w fun e w' => e = .returned (.bool (Pt.right o)) ∧ Below w.heap.size w w' := by
  have hM := St.start w []
  have C1 := Lib.hid (fun (W : World) (h : Below w.heap.size w W) => isPath9_any o.path W ho.path (hm.below h))
  have C2 := Lib.hid (fun (W : World) (h : Below w.heap.size w W) => isPath9_any o.dest W ho.dest (hm.below h))
  clear ho hm
  unfold Pt.right
  obtain ⟨k, p, t, hh, ha, hn, hd, hp, hb⟩ := o
  simp only [OpD.cells] at C1 C2 ⊢
  have hcases : (k = 5 ∨ k = 6 ∨ k = 7 ∨ k = 8 ∨ k = 9) ∨ (k = 1 ∨ k = 2 ∨ k = 3 ∨ k = 4 ∨ k = 11) ∨ (k = 10 ∨ k = 12) ∨ k = 13 ∨ ((k == 5) = false ∧ (k == 6) = false ∧ (k == 7) = false ∧ (k == 8) = false ∧ (k == 9) = false ∧ (k == 1) = false ∧ (k == 2) = false ∧ (k == 3) = false ∧ (k == 4) = false ∧ (k == 11) = false ∧ (k == 10) = false ∧ (k == 12) = false ∧ (k == 13) = false) := by
    simp only [beq_eq_false_iff_ne, ne_eq]
    omega
  rcases hcases with h | h | h | h | ⟨a1, a2, a3, a4, a5, a6, a7, a8, a9, a10, a11, a12, a13⟩
  · rw [if_pos h]
    rcases h with rfl | rfl | rfl | rfl | rfl
    all_goals
      go_enter Tryz.func62, Tryz.ntmps62
      (repeat (first | ((with_reducible show wpSeq _ _ _ _ _ _ _); first | ((with_reducible refine wpSeq_nil ?_); refine hKr.out _ _ ?_; clear hKr Kr) | ((first | (refine St.copy (v := ?_) (by exact .inr rfl) rfl rfl ?_ ?_; rotate_left; (focus ((try simp only [Act.eval, getD_lit, qGz, qGs]); with_reducible rfl))) | (refine St.pure (v := ?_) rfl rfl rfl (fun w => ?_) ?_; rotate_left; (focus (go_simp; all_goals with_reducible rfl))) | refine St.load rfl hM rfl rfl rfl rfl (by repeat constructor) (by rfl) (by kernel_rfl) ?_ | ((((refine St.box rfl hM rfl rfl rfl ?_); clear hM; intro w bk hM)); (try simp only [Res.put, Res.known, Act.eval, Value.cells, getD_lit, qGz, qGs, List.toList_toArray, qSz, qSs, over, Nat.reduceAdd] at hM))); (try simp only [Act.put, qSa, qSz, qSs]))) | (first | (refine wp_seq_shut (fun K hK => ?_)) | (refine wp_text hM (fun Kr hKr => ?_); simp only [inText]) | refine wp_block ?_ | refine wp_skip ?_ | (first | refine wp_cond_true rfl ?_ | refine wp_cond_false rfl ?_) | ((refine hK.out _ _ ?_); clear hK K))))
      (refine wp_ret ?_; (try simp only [Exit.then, Exit.inBlock]); refine St.ret hM rfl (by repeat (first | exact Outs.nil | apply Outs.tmp rfl)) rfl ?_)
      exact ⟨rfl, hM.to_below⟩
  · rw [if_neg (by omega), if_pos h]
    generalize Pt.isPath p = b at *
    rcases h with rfl | rfl | rfl | rfl | rfl
    all_goals
      go_enter Tryz.func62, Tryz.ntmps62
      (repeat (first | (first | ((with_reducible show wpSeq _ _ _ _ _ _ _); first | ((with_reducible refine wpSeq_nil ?_); refine hKr.out _ _ ?_; clear hKr Kr) | ((first | (refine St.copy (v := ?_) (by exact .inr rfl) rfl rfl ?_ ?_; rotate_left; (focus ((try simp only [Act.eval, getD_lit, qGz, qGs]); with_reducible rfl))) | (refine St.pure (v := ?_) rfl rfl rfl (fun w => ?_) ?_; rotate_left; (focus (go_simp; all_goals with_reducible rfl))) | refine St.load rfl hM rfl rfl rfl rfl (by repeat constructor) (by rfl) (by kernel_rfl) ?_ | ((((refine St.box rfl hM rfl rfl rfl ?_); clear hM; intro w bk hM)); (try simp only [Res.put, Res.known, Act.eval, Value.cells, getD_lit, qGz, qGs, List.toList_toArray, qSz, qSs, over, Nat.reduceAdd] at hM))); (try simp only [Act.put, qSa, qSz, qSs]))) | (first | (refine wp_seq_shut (fun K hK => ?_)) | (refine wp_text hM (fun Kr hKr => ?_); simp only [inText]) | refine wp_block ?_ | refine wp_skip ?_ | (first | refine wp_cond_true rfl ?_ | refine wp_cond_false rfl ?_) | ((refine hK.out _ _ ?_); clear hK K))) | ((refine St.call rfl rfl rfl (by kernel_rfl) (fun R hR => ?_); simp only [List.map_toArray, List.map_cons, List.map_nil, Act.eval, getD_lit, qGz, qGs]); ((with_reducible refine (C1.out _ hM.to_below).mono ?_); (rintro e w' ⟨rfl, hb⟩; refine hR.out _ _ (fun h => h.below hb) ?_; clear hR R; replace hM := hM.below hb; clear hb; (try simp only [Act.put, qSa, qSz, qSs]))))))
      (refine wp_ret ?_; (try simp only [Exit.then, Exit.inBlock]); refine St.ret hM rfl (by repeat (first | exact Outs.nil | apply Outs.tmp rfl)) rfl ?_)
      exact ⟨rfl, hM.to_below⟩
  · rw [if_neg (by omega), if_neg (by omega), if_pos h]
    generalize Pt.isPath p = b at *
    generalize Pt.isPath t = b2 at *
    rcases h with rfl | rfl
    all_goals cases b
    all_goals
      go_enter Tryz.func62, Tryz.ntmps62
      (repeat (first | (first | ((with_reducible show wpSeq _ _ _ _ _ _ _); first | ((with_reducible refine wpSeq_nil ?_); refine hKr.out _ _ ?_; clear hKr Kr) | ((first | (refine St.copy (v := ?_) (by first | exact .inl rfl | exact .inr rfl) rfl rfl ?_ ?_; rotate_left; (focus ((try simp only [Act.eval, getD_lit, qGz, qGs]); with_reducible rfl))) | (refine St.pure (v := ?_) rfl rfl rfl (fun w => ?_) ?_; rotate_left; (focus (go_simp; all_goals with_reducible rfl))) | refine St.load rfl hM rfl rfl rfl rfl (by repeat constructor) (by rfl) (by kernel_rfl) ?_ | refine wpSeq_off rfl rfl ?_ | ((((refine St.box rfl hM rfl rfl rfl ?_); clear hM; intro w bk hM)); (try simp only [Res.put, Res.known, Act.eval, Value.cells, getD_lit, qGz, qGs, List.toList_toArray, qSz, qSs, over, Nat.reduceAdd] at hM))); (try simp only [Act.put, qSa, qSz, qSs]))) | (first | (refine wp_seq_shut (fun K hK => ?_)) | (refine wp_text hM (fun Kr hKr => ?_); simp only [inText]) | refine wp_block ?_ | refine wp_skip ?_ | (first | refine wp_cond_true rfl ?_ | refine wp_cond_false rfl ?_) | ((refine hK.out _ _ ?_); clear hK K))) | ((refine St.call rfl rfl rfl (by kernel_rfl) (fun R hR => ?_); simp only [List.map_toArray, List.map_cons, List.map_nil, Act.eval, getD_lit, qGz, qGs]); first | ((with_reducible refine (C1.out _ hM.to_below).mono ?_); (rintro e w' ⟨rfl, hb⟩; refine hR.out _ _ (fun h => h.below hb) ?_; clear hR R; replace hM := hM.below hb; clear hb; (try simp only [Act.put, qSa, qSz, qSs]))) | ((with_reducible refine (C2.out _ hM.to_below).mono ?_); (rintro e w' ⟨rfl, hb⟩; refine hR.out _ _ (fun h => h.below hb) ?_; clear hR R; replace hM := hM.below hb; clear hb; (try simp only [Act.put, qSa, qSz, qSs]))))))
      (refine wp_ret ?_; (try simp only [Exit.then, Exit.inBlock]); refine St.ret hM rfl (by repeat (first | exact Outs.nil | apply Outs.tmp rfl)) rfl ?_)
      exact ⟨rfl, hM.to_below⟩
  · rw [if_neg (by omega), if_neg (by omega), if_neg (by omega), if_pos h]
    subst h
    by_cases h0 : p.data.toList = []
    · have q1 := beqs_yes h0
      rw [h0]
      clear h0
      go_enter Tryz.func62, Tryz.ntmps62
      (repeat (first | ((with_reducible show wpSeq _ _ _ _ _ _ _); first | ((with_reducible refine wpSeq_nil ?_); refine hKr.out _ _ ?_; clear hKr Kr) | ((first | (refine St.copy (v := ?_) (by first | exact .inl rfl | exact .inr rfl) rfl rfl ?_ ?_; rotate_left; (focus ((try simp only [Act.eval, getD_lit, qGz, qGs]); with_reducible rfl))) | (refine St.pure (v := ?_) rfl rfl rfl (fun w => ?_) ?_; rotate_left; (focus (go_simp; all_goals with_reducible rfl))) | refine St.load rfl hM rfl rfl rfl rfl (by repeat constructor) (by rfl) (by kernel_rfl) ?_ | refine wpSeq_off rfl rfl ?_ | ((((refine St.box rfl hM rfl rfl rfl ?_); clear hM; intro w bk hM)); (try simp only [Res.put, Res.known, Act.eval, Value.cells, getD_lit, qGz, qGs, List.toList_toArray, qSz, qSs, over, Nat.reduceAdd] at hM))); (try simp only [Act.put, qSa, qSz, qSs]))) | (first | (refine wp_seq_shut (fun K hK => ?_)) | (refine wp_text hM (fun Kr hKr => ?_); simp only [inText]) | refine wp_block ?_ | (first | refine wp_cond_true rfl ?_ | refine wp_cond_false rfl ?_) | ((refine hK.out _ _ ?_); clear hK K))))
      (refine wp_ret ?_; (try simp only [Exit.then, Exit.inBlock]); refine St.ret hM rfl (by repeat (first | exact Outs.nil | apply Outs.tmp rfl)) rfl ?_)
      exact ⟨rfl, hM.to_below⟩
    · have q1 := beqs_no h0
      rw [beq_eq_false_iff_ne.2 h0]
      generalize Pt.isPath p = b at *
      clear h0
      go_enter Tryz.func62, Tryz.ntmps62
      (repeat (first | (first | ((with_reducible show wpSeq _ _ _ _ _ _ _); first | ((with_reducible refine wpSeq_nil ?_); refine hKr.out _ _ ?_; clear hKr Kr) | ((first | (refine St.copy (v := ?_) (by first | exact .inl rfl | exact .inr rfl) rfl rfl ?_ ?_; rotate_left; (focus ((try simp only [Act.eval, getD_lit, qGz, qGs]); with_reducible rfl))) | (refine St.pure (v := ?_) rfl rfl rfl (fun w => ?_) ?_; rotate_left; (focus (go_simp; all_goals with_reducible rfl))) | refine St.load rfl hM rfl rfl rfl rfl (by repeat constructor) (by rfl) (by kernel_rfl) ?_ | ((((refine St.box rfl hM rfl rfl rfl ?_); clear hM; intro w bk hM)); (try simp only [Res.put, Res.known, Act.eval, Value.cells, getD_lit, qGz, qGs, List.toList_toArray, qSz, qSs, over, Nat.reduceAdd] at hM))); (try simp only [Act.put, qSa, qSz, qSs]))) | (first | (refine wp_seq_shut (fun K hK => ?_)) | (refine wp_text hM (fun Kr hKr => ?_); simp only [inText]) | refine wp_block ?_ | (first | refine wp_cond_true rfl ?_ | refine wp_cond_false rfl ?_) | ((refine hK.out _ _ ?_); clear hK K))) | ((refine St.call rfl rfl rfl (by kernel_rfl) (fun R hR => ?_); simp only [List.map_toArray, List.map_cons, List.map_nil, Act.eval, getD_lit, qGz, qGs]); ((with_reducible refine (C1.out _ hM.to_below).mono ?_); (rintro e w' ⟨rfl, hb⟩; refine hR.out _ _ (fun h => h.below hb) ?_; clear hR R; replace hM := hM.below hb; clear hb; (try simp only [Act.put, qSa, qSz, qSs]))))))
      (refine wp_ret ?_; (try simp only [Exit.then, Exit.inBlock]); refine St.ret hM rfl (by repeat (first | exact Outs.nil | apply Outs.tmp rfl)) rfl ?_)
      exact ⟨by simp [tup], hM.to_below⟩
  · have n0 : ∀ i : Int, (k == i) = false → k ≠ i := fun i h => beq_eq_false_iff_ne.1 h
    have b1 := n0 _ a1; have b2 := n0 _ a2; have b3 := n0 _ a3; have b4 := n0 _ a4; have b5 := n0 _ a5; have b6 := n0 _ a6; have b7 := n0 _ a7
    have b8 := n0 _ a8; have b9 := n0 _ a9; have b10 := n0 _ a10; have b11 := n0 _ a11; have b12 := n0 _ a12; have b13 := n0 _ a13
    rw [if_neg (by omega), if_neg (by omega), if_neg (by omega), if_neg (by omega)]
    clear n0 b1 b2 b3 b4 b5 b6 b7 b8 b9 b10 b11 b12 b13
    go_enter Tryz.func62, Tryz.ntmps62
    (repeat (first | ((with_reducible show wpSeq _ _ _ _ _ _ _); first | ((with_reducible refine wpSeq_nil ?_); refine hKr.out _ _ ?_; clear hKr Kr) | ((first | (refine St.copy (v := ?_) (by exact .inr rfl) rfl rfl ?_ ?_; rotate_left; (focus ((try simp only [Act.eval, getD_lit, qGz, qGs]); with_reducible rfl))) | (refine St.pure (v := ?_) rfl rfl rfl (fun w => ?_) ?_; rotate_left; (focus (go_simp; all_goals with_reducible rfl))) | refine St.load rfl hM rfl rfl rfl rfl (by repeat constructor) (by rfl) (by kernel_rfl) ?_ | ((((refine St.box rfl hM rfl rfl rfl ?_); clear hM; intro w bk hM)); (try simp only [Res.put, Res.known, Act.eval, Value.cells, getD_lit, qGz, qGs, List.toList_toArray, qSz, qSs, over, Nat.reduceAdd] at hM))); (try simp only [Act.put, qSa, qSz, qSs]))) | (first | (refine wp_seq_shut (fun K hK => ?_)) | (refine wp_text hM (fun Kr hKr => ?_); simp only [inText]) | refine wp_block ?_ | refine wp_skip ?_ | (refine wp_cond_false rfl ?_) | ((refine hK.out _ _ ?_); clear hK K))))
    (refine wp_ret ?_; (try simp only [Exit.then, Exit.inBlock]); refine St.ret hM rfl (by repeat (first | exact Outs.nil | apply Outs.tmp rfl)) rfl ?_)
    exact ⟨rfl, hM.to_below⟩
end Go.Proofs.YtcicjklhbnipcaaGreatDoor
namespace Go.Proofs.YtcicjklhbnipcaaGreatDoor
set_option linter.unusedVariables false
set_option linter.unusedSimpArgs false
open Go.RowKit Go.Maps
section
variable {N : Nat} {x : FsX} {β : Int → Nat × Nat} {d : FsD} {w w' w0 : World} {F : List Nat} {L L' M' : List Ent}
/-- What Do answers, and what it makes of the file system. -/
def FsDid (w : World) (x : FsX) (β : Int → Nat × Nat) (d : FsD) (r : ResD × FsD) (e : Ending) (w' : World) : Prop :=
  ∃ s β', e = .returned (.agg #[.int .i64 r.1.err, .int .i64 r.1.n, .string r.1.data, slV s r.1.names.length]) ∧ TxOK s r.1.names ∧ St w (keysOf (fsL x β d)) w' (txL s r.1.names ++ fsL x β' r.2)
theorem do_bad {d : FsD} {o : Int} {p : OpD} (h : Pt.right p = false) : Fs.do_ d o p = (Fs.errR 1, d) := if_pos h
theorem do_opens {d : FsD} {o : Int} {p : OpD} (h : ¬ Pt.right p = false) (hk : p.kind = 3 ∨ p.kind = 4) : Fs.do_ d o p = Fs.opens d o p := by
  unfold Fs.do_; rw [if_neg h, if_pos hk]
theorem do_handled {d : FsD} {o : Int} {p : OpD} (h : ¬ Pt.right p = false) (hk : p.kind = 5 ∨ p.kind = 6 ∨ p.kind = 7 ∨ p.kind = 8 ∨ p.kind = 9) : Fs.do_ d o p = Fs.handled d o p := by
  unfold Fs.do_; rw [if_neg h, if_neg (by omega), if_pos hk]
theorem do_lists {d : FsD} {o : Int} {p : OpD} (h : ¬ Pt.right p = false) (hk : p.kind = 13) : Fs.do_ d o p = (Fs.lists d p.path, d) := by
  unfold Fs.do_; rw [if_neg h, if_neg (by omega), if_neg (by omega), if_pos hk]
theorem do_named {d : FsD} {o : Int} {p : OpD} (h : ¬ Pt.right p = false) (hk : p.kind = 1 ∨ p.kind = 2 ∨ p.kind = 11 ∨ p.kind = 10 ∨ p.kind = 12) : Fs.do_ d o p = (Fs.errR (Fs.named d p).1, ⟨(Fs.named d p).2, d.h⟩) := by
  unfold Fs.do_; rw [if_neg h, if_neg (by omega), if_neg (by omega), if_neg (by omega)]
theorem right_kind {p : OpD} (h : ¬ Pt.right p = false) : (p.kind = 3 ∨ p.kind = 4) ∨ (p.kind = 5 ∨ p.kind = 6 ∨ p.kind = 7 ∨ p.kind = 8 ∨ p.kind = 9) ∨ p.kind = 13 ∨ (p.kind = 1 ∨ p.kind = 2 ∨ p.kind = 11 ∨ p.kind = 10 ∨ p.kind = 12) := by
  by_cases hk : (p.kind = 3 ∨ p.kind = 4) ∨ (p.kind = 5 ∨ p.kind = 6 ∨ p.kind = 7 ∨ p.kind = 8 ∨ p.kind = 9) ∨ p.kind = 13 ∨ (p.kind = 1 ∨ p.kind = 2 ∨ p.kind = 11 ∨ p.kind = 10 ∨ p.kind = 12)
  · exact hk
  · refine absurd ?_ h
    unfold Pt.right
    rw [if_neg (by omega), if_neg (by omega), if_neg (by omega), if_neg (by omega)]
theorem opens_names (d : FsD) (o : Int) (p : OpD) : (Fs.opens d o p).1.names = [] := by
  unfold Fs.opens Fs.gives Fs.errR
  repeat' split
  all_goals rfl
theorem handled_names (d : FsD) (o : Int) (p : OpD) : (Fs.handled d o p).1.names = [] := by
  unfold Fs.handled Fs.errR
  repeat' split
  all_goals rfl
set_option maxHeartbeats 16000000 in
set_option maxRecDepth 100000 in
theorem fDo_any (h : FsAt N x β d w) (hN : N ≤ 999999990) {o : Int} (ho : Fits o) (p : OpD) (hp : p.Ok) :
    Calls Tryz.prog 16 #[.pointer (some ⟨x.f, 0, none⟩), .int .i64 o, .agg p.cells.toArray] w (FsDid w x β d (Fs.do_ d o p)) := by
  have hM := h.at_.st
  unfold FsDid
  obtain ⟨F, hF⟩ : ∃ F, keysOf (fsL x β d) = F := ⟨_, rfl⟩
  rw [hF] at hM ⊢
  have F0 : 0 ∉ F := hF ▸ h.zero
  clear hF
  have HI := Lib.hid h.inv
  have HX := Lib.hid h.mx
  have CG := Lib.hid (fun (W : World) (β' : Int → Nat × Nat) (hA : FsAt N x β' d W) => fgiven_any hA)
  have CR := Lib.hid (fun (W : World) (hm : Mx W) => right_any p W hp hm)
  by_cases hr : Pt.right p = false
  · rw [do_bad hr]
    rw [hr] at CR
    obtain ⟨pk, pp, pd, ph, pa, pn, px, py, pb⟩ := p
    simp only [OpD.cells] at CR ⊢
    clear h hp hr
    unfold fsL at hM
    go_enter Tryz.func16, Tryz.ntmps16
    (repeat (first | ((with_reducible show wpSeq _ _ _ _ _ _ _); first | ((with_reducible refine wpSeq_nil ?_); refine hKr.out _ _ ?_; clear hKr Kr) | ((first | (refine St.copy (v := ?_) (by exact .inl rfl) rfl rfl ?_ ?_; rotate_left; (focus ((try simp only [Act.eval, getD_lit, qGz, qGs]); with_reducible rfl))) | ((((refine St.box rfl hM rfl rfl rfl ?_); clear hM; intro w bk hM)); (try simp only [Res.put, Res.known, Act.eval, Value.cells, getD_lit, qGz, qGs, List.toList_toArray, qSz, qSs, over, Nat.reduceAdd] at hM))); (try simp only [Act.put, qSa, qSz, qSs])) | (((refine St.alloc (ty := 31) (z := .agg #[.int .i64 0, .int .i64 0, .string ⟨#[]⟩, .slice none 0 0]) rfl hM rfl rfl (by kernel_rfl) ?_); clear hM; intro w bk hM); (try simp only [Res.put, Res.known, Act.eval, Value.cells, getD_lit, qGz, qGs, List.toList_toArray, qSz, qSs, over, Nat.reduceAdd] at hM); (try simp only [Act.put, qSa, qSz, qSs]))) | (first | (refine wp_seq_shut (fun K hK => ?_)) | (refine wp_text hM (fun Kr hKr => ?_); simp only [inText]) | ((refine hK.out _ _ ?_); clear hK K))))
    (refine St.call3 rfl rfl (by kernel_rfl) (fun R hR => ?_); simp only [List.map_toArray, List.map_cons, List.map_nil, Act.eval, getD_lit, qGz, qGs])
    refine (CG.out _ β (hM.fs (by repeat (first | exact Part.all | apply Part.skip)) HI.out HX.out F0)).mono ?_
    rintro e w' ⟨rfl, rfl⟩; refine hR.out _ _ ?_; clear hR R; (try simp only [Act.put, qSa, qSz, qSs])
    (repeat (((with_reducible show wpSeq _ _ _ _ _ _ _); ((first | (refine St.copy (v := ?_) (by exact .inl rfl) rfl rfl ?_ ?_; rotate_left; (focus ((try simp only [Act.eval, getD_lit, qGz, qGs]); with_reducible rfl))) | (refine St.pure (v := ?_) rfl rfl rfl (fun w => ?_) ?_; rotate_left; (focus (go_simp; all_goals with_reducible rfl))) | ((refine St.loadRow rfl hM rfl rfl rfl rfl (by repeat constructor) (Nat.le_of_ble_eq_true rfl) (by kernel_rfl) ?_); (try simp only [Res.known, List.drop_succ_cons, List.drop_zero, List.take_succ_cons, List.take_zero]))); (try simp only [Act.put, qSa, qSz, qSs])))))
    (refine St.call3 rfl rfl (by kernel_rfl) (fun R hR => ?_); simp only [List.map_toArray, List.map_cons, List.map_nil, Act.eval, getD_lit, qGz, qGs])
    refine (CR.out _ (hM.mx HX.out F0)).mono ?_
    (rintro e w' ⟨rfl, hb⟩; refine hR.out _ _ ?_; clear hR R; replace hM := hM.below hb; clear hb; (try simp only [Act.put, qSa, qSz, qSs]))
    (repeat (first | ((with_reducible show wpSeq _ _ _ _ _ _ _); first | ((with_reducible refine wpSeq_nil ?_); refine hKr.out _ _ ?_; clear hKr Kr) | ((first | (refine St.pure (v := ?_) rfl rfl rfl (fun w => ?_) ?_; rotate_left; (focus (go_simp; all_goals with_reducible rfl))) | ((((refine St.storeRow rfl hM rfl rfl rfl rfl rfl (by repeat constructor) (Nat.le_of_ble_eq_true rfl) (Nat.le_of_ble_eq_true rfl) (by kernel_rfl) rfl ?_ ?_); (focus ((intro h; cases h; done))); clear hM; intro w hM)); (try simp only [Res.put, Res.known, Act.eval, Value.cells, getD_lit, qGz, qGs, List.toList_toArray, qSz, qSs, over, Nat.reduceAdd] at hM))); (try simp only [Act.put, qSa, qSz, qSs]))) | (first | (refine wp_seq_shut (fun K hK => ?_)) | (refine wp_text hM (fun Kr hKr => ?_); simp only [inText]) | (refine wp_cond_true rfl ?_) | ((refine hK.out _ _ ?_); clear hK K))))
    ((refine wp_ret ?_; (try simp only [Exit.then, Exit.inBlock]); refine St.ret hM rfl (by repeat (first | exact Outs.nil | (apply Outs.row rfl rfl (by repeat constructor) (by kernel_rfl)))) rfl ?_))
    exact ⟨none, β, rfl, ⟨rfl, rfl⟩, hM.forget.forget⟩
  · have hr1 : Pt.right p = true := by simpa using hr
    rw [hr1] at CR
    rcases right_kind hr with hk | hk | hk | hk
    · rw [do_opens hr hk]
      have hnm := opens_names d o p
      have CO := Lib.hid (fun (W : World) (β' : Int → Nat × Nat) (hA : FsAt N x β' d W) => opens_any hA hN ho p hp hk)
      generalize Fs.opens d o p = G at *
      obtain ⟨⟨re, rn, rd, rl⟩, d'⟩ := G
      obtain rfl : rl = [] := hnm
      obtain ⟨pk, pp, pd, ph, pa, pn, px, py, pb⟩ := p
      simp only [OpD.cells] at CR CO hk ⊢
      clear h hp hr hr1
      unfold fsL at hM
      unfold resV at CO
      rcases hk with rfl | rfl
      all_goals
        go_enter Tryz.func16, Tryz.ntmps16
        (repeat (first | ((with_reducible show wpSeq _ _ _ _ _ _ _); first | ((with_reducible refine wpSeq_nil ?_); refine hKr.out _ _ ?_; clear hKr Kr) | ((first | (refine St.copy (v := ?_) (by exact .inl rfl) rfl rfl ?_ ?_; rotate_left; (focus ((try simp only [Act.eval, getD_lit, qGz, qGs]); with_reducible rfl))) | ((((refine St.box rfl hM rfl rfl rfl ?_); clear hM; intro w bk hM)); (try simp only [Res.put, Res.known, Act.eval, Value.cells, getD_lit, qGz, qGs, List.toList_toArray, qSz, qSs, over, Nat.reduceAdd] at hM))); (try simp only [Act.put, qSa, qSz, qSs])) | (((refine St.alloc (ty := 31) (z := .agg #[.int .i64 0, .int .i64 0, .string ⟨#[]⟩, .slice none 0 0]) rfl hM rfl rfl (by kernel_rfl) ?_); clear hM; intro w bk hM); (try simp only [Res.put, Res.known, Act.eval, Value.cells, getD_lit, qGz, qGs, List.toList_toArray, qSz, qSs, over, Nat.reduceAdd] at hM); (try simp only [Act.put, qSa, qSz, qSs]))) | (first | (refine wp_seq_shut (fun K hK => ?_)) | (refine wp_text hM (fun Kr hKr => ?_); simp only [inText]) | ((refine hK.out _ _ ?_); clear hK K))))
        (refine St.call3 rfl rfl (by kernel_rfl) (fun R hR => ?_); simp only [List.map_toArray, List.map_cons, List.map_nil, Act.eval, getD_lit, qGz, qGs])
        refine (CG.out _ β (hM.fs (by repeat (first | exact Part.all | apply Part.skip)) HI.out HX.out F0)).mono ?_
        rintro e w' ⟨rfl, rfl⟩; refine hR.out _ _ ?_; clear hR R; (try simp only [Act.put, qSa, qSz, qSs])
        (repeat (((with_reducible show wpSeq _ _ _ _ _ _ _); ((first | (refine St.copy (v := ?_) (by exact .inl rfl) rfl rfl ?_ ?_; rotate_left; (focus ((try simp only [Act.eval, getD_lit, qGz, qGs]); with_reducible rfl))) | (refine St.pure (v := ?_) rfl rfl rfl (fun w => ?_) ?_; rotate_left; (focus (go_simp; all_goals with_reducible rfl))) | ((refine St.loadRow rfl hM rfl rfl rfl rfl (by repeat constructor) (Nat.le_of_ble_eq_true rfl) (by kernel_rfl) ?_); (try simp only [Res.known, List.drop_succ_cons, List.drop_zero, List.take_succ_cons, List.take_zero]))); (try simp only [Act.put, qSa, qSz, qSs])))))
        (refine St.call3 rfl rfl (by kernel_rfl) (fun R hR => ?_); simp only [List.map_toArray, List.map_cons, List.map_nil, Act.eval, getD_lit, qGz, qGs])
        refine (CR.out _ (hM.mx HX.out F0)).mono ?_
        (rintro e w' ⟨rfl, hb⟩; refine hR.out _ _ ?_; clear hR R; replace hM := hM.below hb; clear hb; (try simp only [Act.put, qSa, qSz, qSs]))
        (repeat (first | ((with_reducible show wpSeq _ _ _ _ _ _ _); first | ((with_reducible refine wpSeq_nil ?_); refine hKr.out _ _ ?_; clear hKr Kr) | ((first | (refine St.copy (v := ?_) (by first | exact .inl rfl | exact .inr rfl) rfl rfl ?_ ?_; rotate_left; (focus ((try simp only [Act.eval, getD_lit, qGz, qGs]); with_reducible rfl))) | (refine St.pure (v := ?_) rfl rfl rfl (fun w => ?_) ?_; rotate_left; (focus (go_simp; all_goals with_reducible rfl))) | refine St.load rfl hM rfl rfl rfl rfl (by repeat constructor) (by rfl) (by kernel_rfl) ?_ | ((refine St.loadRow rfl hM rfl rfl rfl rfl (by repeat constructor) (Nat.le_of_ble_eq_true rfl) (by kernel_rfl) ?_); (try simp only [Res.known, List.drop_succ_cons, List.drop_zero, List.take_succ_cons, List.take_zero]))); (try simp only [Act.put, qSa, qSz, qSs]))) | (first | (refine wp_seq_shut (fun K hK => ?_)) | (refine wp_text hM (fun Kr hKr => ?_); simp only [inText]) | refine wp_block ?_ | refine wp_skip ?_ | (first | refine wp_cond_true rfl ?_ | refine wp_cond_false rfl ?_) | ((refine hK.out _ _ ?_); clear hK K))))
        (refine St.call3 rfl rfl (by kernel_rfl) (fun R hR => ?_); simp only [List.map_toArray, List.map_cons, List.map_nil, Act.eval, getD_lit, qGz, qGs])
        refine (CO.out _ β (hM.fs (by repeat (first | exact Part.all | apply Part.skip)) HI.out HX.out F0)).mono ?_
        (rintro e w' ⟨rfl, β, hN⟩; replace hM := hM.backM (by repeat (first | exact Swap.all | apply Swap.skip)) (fsL_flag _ _ _) hN (fsL_flag _ _ _); clear hN; refine hR.out _ _ ?_; clear hR R; unfold fsL at hM; (try simp only [Act.put, qSa, qSz, qSs]))
        (repeat (first | ((with_reducible show wpSeq _ _ _ _ _ _ _); first | ((with_reducible refine wpSeq_nil ?_); refine hKr.out _ _ ?_; clear hKr Kr) | ((((((refine St.storeRow rfl hM rfl rfl rfl rfl rfl (by repeat constructor) (Nat.le_of_ble_eq_true rfl) (Nat.le_of_ble_eq_true rfl) (by kernel_rfl) rfl ?_ ?_); (focus ((intro h; cases h; done))); clear hM; intro w hM)); (try simp only [Res.put, Res.known, Act.eval, Value.cells, getD_lit, qGz, qGs, List.toList_toArray, qSz, qSs, over, Nat.reduceAdd] at hM))); (try simp only [Act.put, qSa, qSz, qSs]))) | (((refine hK.out _ _ ?_); clear hK K))))
        ((refine wp_ret ?_; (try simp only [Exit.then, Exit.inBlock]); refine St.ret hM rfl (by repeat (first | exact Outs.nil | (apply Outs.row rfl rfl (by repeat constructor) (by kernel_rfl)))) rfl ?_))
        exact ⟨none, β, rfl, ⟨rfl, rfl⟩, hM.forget.forget⟩
    · rw [do_handled hr hk]
      have hnm := handled_names d o p
      have CO := Lib.hid (fun (W : World) (β' : Int → Nat × Nat) (hA : FsAt N x β' d W) => handled_any hA (by omega) ho p hp hk)
      generalize Fs.handled d o p = G at *
      obtain ⟨⟨re, rn, rd, rl⟩, d'⟩ := G
      obtain rfl : rl = [] := hnm
      obtain ⟨pk, pp, pd, ph, pa, pn, px, py, pb⟩ := p
      simp only [OpD.cells] at CR CO hk ⊢
      clear h hp hr hr1
      unfold fsL at hM
      unfold resV at CO
      rcases hk with rfl | rfl | rfl | rfl | rfl
      all_goals
        go_enter Tryz.func16, Tryz.ntmps16
        (repeat (first | ((with_reducible show wpSeq _ _ _ _ _ _ _); first | ((with_reducible refine wpSeq_nil ?_); refine hKr.out _ _ ?_; clear hKr Kr) | ((first | (refine St.copy (v := ?_) (by exact .inl rfl) rfl rfl ?_ ?_; rotate_left; (focus ((try simp only [Act.eval, getD_lit, qGz, qGs]); with_reducible rfl))) | ((((refine St.box rfl hM rfl rfl rfl ?_); clear hM; intro w bk hM)); (try simp only [Res.put, Res.known, Act.eval, Value.cells, getD_lit, qGz, qGs, List.toList_toArray, qSz, qSs, over, Nat.reduceAdd] at hM))); (try simp only [Act.put, qSa, qSz, qSs])) | (((refine St.alloc (ty := 31) (z := .agg #[.int .i64 0, .int .i64 0, .string ⟨#[]⟩, .slice none 0 0]) rfl hM rfl rfl (by kernel_rfl) ?_); clear hM; intro w bk hM); (try simp only [Res.put, Res.known, Act.eval, Value.cells, getD_lit, qGz, qGs, List.toList_toArray, qSz, qSs, over, Nat.reduceAdd] at hM); (try simp only [Act.put, qSa, qSz, qSs]))) | (first | (refine wp_seq_shut (fun K hK => ?_)) | (refine wp_text hM (fun Kr hKr => ?_); simp only [inText]) | ((refine hK.out _ _ ?_); clear hK K))))
        (refine St.call3 rfl rfl (by kernel_rfl) (fun R hR => ?_); simp only [List.map_toArray, List.map_cons, List.map_nil, Act.eval, getD_lit, qGz, qGs])
        refine (CG.out _ β (hM.fs (by repeat (first | exact Part.all | apply Part.skip)) HI.out HX.out F0)).mono ?_
        rintro e w' ⟨rfl, rfl⟩; refine hR.out _ _ ?_; clear hR R; (try simp only [Act.put, qSa, qSz, qSs])
        (repeat (((with_reducible show wpSeq _ _ _ _ _ _ _); ((first | (refine St.copy (v := ?_) (by exact .inl rfl) rfl rfl ?_ ?_; rotate_left; (focus ((try simp only [Act.eval, getD_lit, qGz, qGs]); with_reducible rfl))) | (refine St.pure (v := ?_) rfl rfl rfl (fun w => ?_) ?_; rotate_left; (focus (go_simp; all_goals with_reducible rfl))) | ((refine St.loadRow rfl hM rfl rfl rfl rfl (by repeat constructor) (Nat.le_of_ble_eq_true rfl) (by kernel_rfl) ?_); (try simp only [Res.known, List.drop_succ_cons, List.drop_zero, List.take_succ_cons, List.take_zero]))); (try simp only [Act.put, qSa, qSz, qSs])))))
        (refine St.call3 rfl rfl (by kernel_rfl) (fun R hR => ?_); simp only [List.map_toArray, List.map_cons, List.map_nil, Act.eval, getD_lit, qGz, qGs])
        refine (CR.out _ (hM.mx HX.out F0)).mono ?_
        (rintro e w' ⟨rfl, hb⟩; refine hR.out _ _ ?_; clear hR R; replace hM := hM.below hb; clear hb; (try simp only [Act.put, qSa, qSz, qSs]))
        (repeat (first | ((with_reducible show wpSeq _ _ _ _ _ _ _); first | ((with_reducible refine wpSeq_nil ?_); refine hKr.out _ _ ?_; clear hKr Kr) | ((first | (refine St.copy (v := ?_) (by first | exact .inl rfl | exact .inr rfl) rfl rfl ?_ ?_; rotate_left; (focus ((try simp only [Act.eval, getD_lit, qGz, qGs]); with_reducible rfl))) | (refine St.pure (v := ?_) rfl rfl rfl (fun w => ?_) ?_; rotate_left; (focus (go_simp; all_goals with_reducible rfl))) | refine St.load rfl hM rfl rfl rfl rfl (by repeat constructor) (by rfl) (by kernel_rfl) ?_ | ((refine St.loadRow rfl hM rfl rfl rfl rfl (by repeat constructor) (Nat.le_of_ble_eq_true rfl) (by kernel_rfl) ?_); (try simp only [Res.known, List.drop_succ_cons, List.drop_zero, List.take_succ_cons, List.take_zero]))); (try simp only [Act.put, qSa, qSz, qSs]))) | (first | (refine wp_seq_shut (fun K hK => ?_)) | (refine wp_text hM (fun Kr hKr => ?_); simp only [inText]) | refine wp_block ?_ | refine wp_skip ?_ | (first | refine wp_cond_true rfl ?_ | refine wp_cond_false rfl ?_) | ((refine hK.out _ _ ?_); clear hK K))))
        (refine St.call3 rfl rfl (by kernel_rfl) (fun R hR => ?_); simp only [List.map_toArray, List.map_cons, List.map_nil, Act.eval, getD_lit, qGz, qGs])
        refine (CO.out _ β (hM.fs (by repeat (first | exact Part.all | apply Part.skip)) HI.out HX.out F0)).mono ?_
        (rintro e w' ⟨rfl, β, hN⟩; replace hM := hM.backM (by repeat (first | exact Swap.all | apply Swap.skip)) (fsL_flag _ _ _) hN (fsL_flag _ _ _); clear hN; refine hR.out _ _ ?_; clear hR R; unfold fsL at hM; (try simp only [Act.put, qSa, qSz, qSs]))
        (repeat (first | ((with_reducible show wpSeq _ _ _ _ _ _ _); first | ((with_reducible refine wpSeq_nil ?_); refine hKr.out _ _ ?_; clear hKr Kr) | ((((((refine St.storeRow rfl hM rfl rfl rfl rfl rfl (by repeat constructor) (Nat.le_of_ble_eq_true rfl) (Nat.le_of_ble_eq_true rfl) (by kernel_rfl) rfl ?_ ?_); (focus ((intro h; cases h; done))); clear hM; intro w hM)); (try simp only [Res.put, Res.known, Act.eval, Value.cells, getD_lit, qGz, qGs, List.toList_toArray, qSz, qSs, over, Nat.reduceAdd] at hM))); (try simp only [Act.put, qSa, qSz, qSs]))) | (((refine hK.out _ _ ?_); clear hK K))))
        ((refine wp_ret ?_; (try simp only [Exit.then, Exit.inBlock]); refine St.ret hM rfl (by repeat (first | exact Outs.nil | (apply Outs.row rfl rfl (by repeat constructor) (by kernel_rfl)))) rfl ?_))
        exact ⟨none, β, rfl, ⟨rfl, rfl⟩, hM.forget.forget⟩
    · rw [do_lists hr hk]
      have CO := Lib.hid (fun (W : World) (β' : Int → Nat × Nat) (hA : FsAt N x β' d W) => lists_any hA hN p.path hp.path)
      generalize Fs.lists d p.path = G at *
      obtain ⟨re, rn, rd, rl⟩ := G
      obtain ⟨pk, pp, pd, ph, pa, pn, px, py, pb⟩ := p
      simp only [OpD.cells] at CR CO hk ⊢
      clear h hp hr hr1
      unfold fsL at hM
      subst hk
      go_enter Tryz.func16, Tryz.ntmps16
      (repeat (first | ((with_reducible show wpSeq _ _ _ _ _ _ _); first | ((with_reducible refine wpSeq_nil ?_); refine hKr.out _ _ ?_; clear hKr Kr) | ((first | (refine St.copy (v := ?_) (by exact .inl rfl) rfl rfl ?_ ?_; rotate_left; (focus ((try simp only [Act.eval, getD_lit, qGz, qGs]); with_reducible rfl))) | ((((refine St.box rfl hM rfl rfl rfl ?_); clear hM; intro w bk hM)); (try simp only [Res.put, Res.known, Act.eval, Value.cells, getD_lit, qGz, qGs, List.toList_toArray, qSz, qSs, over, Nat.reduceAdd] at hM))); (try simp only [Act.put, qSa, qSz, qSs])) | (((refine St.alloc (ty := 31) (z := .agg #[.int .i64 0, .int .i64 0, .string ⟨#[]⟩, .slice none 0 0]) rfl hM rfl rfl (by kernel_rfl) ?_); clear hM; intro w bk hM); (try simp only [Res.put, Res.known, Act.eval, Value.cells, getD_lit, qGz, qGs, List.toList_toArray, qSz, qSs, over, Nat.reduceAdd] at hM); (try simp only [Act.put, qSa, qSz, qSs]))) | (first | (refine wp_seq_shut (fun K hK => ?_)) | (refine wp_text hM (fun Kr hKr => ?_); simp only [inText]) | ((refine hK.out _ _ ?_); clear hK K))))
      (refine St.call3 rfl rfl (by kernel_rfl) (fun R hR => ?_); simp only [List.map_toArray, List.map_cons, List.map_nil, Act.eval, getD_lit, qGz, qGs])
      refine (CG.out _ β (hM.fs (by repeat (first | exact Part.all | apply Part.skip)) HI.out HX.out F0)).mono ?_
      rintro e w' ⟨rfl, rfl⟩; refine hR.out _ _ ?_; clear hR R; (try simp only [Act.put, qSa, qSz, qSs])
      (repeat (((with_reducible show wpSeq _ _ _ _ _ _ _); ((first | (refine St.copy (v := ?_) (by exact .inl rfl) rfl rfl ?_ ?_; rotate_left; (focus ((try simp only [Act.eval, getD_lit, qGz, qGs]); with_reducible rfl))) | (refine St.pure (v := ?_) rfl rfl rfl (fun w => ?_) ?_; rotate_left; (focus (go_simp; all_goals with_reducible rfl))) | ((refine St.loadRow rfl hM rfl rfl rfl rfl (by repeat constructor) (Nat.le_of_ble_eq_true rfl) (by kernel_rfl) ?_); (try simp only [Res.known, List.drop_succ_cons, List.drop_zero, List.take_succ_cons, List.take_zero]))); (try simp only [Act.put, qSa, qSz, qSs])))))
      (refine St.call3 rfl rfl (by kernel_rfl) (fun R hR => ?_); simp only [List.map_toArray, List.map_cons, List.map_nil, Act.eval, getD_lit, qGz, qGs])
      refine (CR.out _ (hM.mx HX.out F0)).mono ?_
      (rintro e w' ⟨rfl, hb⟩; refine hR.out _ _ ?_; clear hR R; replace hM := hM.below hb; clear hb; (try simp only [Act.put, qSa, qSz, qSs]))
      (repeat (first | ((with_reducible show wpSeq _ _ _ _ _ _ _); first | ((with_reducible refine wpSeq_nil ?_); refine hKr.out _ _ ?_; clear hKr Kr) | ((first | (refine St.copy (v := ?_) (by first | exact .inl rfl | exact .inr rfl) rfl rfl ?_ ?_; rotate_left; (focus ((try simp only [Act.eval, getD_lit, qGz, qGs]); with_reducible rfl))) | (refine St.pure (v := ?_) rfl rfl rfl (fun w => ?_) ?_; rotate_left; (focus (go_simp; all_goals with_reducible rfl))) | refine St.load rfl hM rfl rfl rfl rfl (by repeat constructor) (by rfl) (by kernel_rfl) ?_); (try simp only [Act.put, qSa, qSz, qSs]))) | (first | (refine wp_seq_shut (fun K hK => ?_)) | (refine wp_text hM (fun Kr hKr => ?_); simp only [inText]) | refine wp_block ?_ | refine wp_skip ?_ | (first | refine wp_cond_true rfl ?_ | refine wp_cond_false rfl ?_) | ((refine hK.out _ _ ?_); clear hK K))))
      (refine St.call3 rfl rfl (by kernel_rfl) (fun R hR => ?_); simp only [List.map_toArray, List.map_cons, List.map_nil, Act.eval, getD_lit, qGz, qGs])
      refine (CO.out _ β (hM.fs (by repeat (first | exact Part.all | apply Part.skip)) HI.out HX.out F0)).mono ?_
      rintro e w' ⟨sl, rfl, hok, hN2⟩
      refine hR.out _ _ ?_; clear hR R; replace hM := hM.madeM hN2 (txL_flag _ _); clear hN2
      obtain ⟨la, lc, hsv, -⟩ := slV_open hok
      rw [hsv]
      have HV := Lib.hid hsv
      have HK := Lib.hid hok
      clear hsv hok
      replace hM := hM.perm (List.perm_append_comm)
      simp only [List.cons_append] at hM
      (try simp only [Act.put, qSa, qSz, qSs])
      (repeat (first | ((with_reducible show wpSeq _ _ _ _ _ _ _); first | ((with_reducible refine wpSeq_nil ?_); refine hKr.out _ _ ?_; clear hKr Kr) | ((((((refine St.storeRow rfl hM rfl rfl rfl rfl rfl (by repeat constructor) (Nat.le_of_ble_eq_true rfl) (Nat.le_of_ble_eq_true rfl) (by kernel_rfl) rfl ?_ ?_); (focus ((intro h; cases h; done))); clear hM; intro w hM)); (try simp only [Res.put, Res.known, Act.eval, Value.cells, getD_lit, qGz, qGs, List.toList_toArray, qSz, qSs, over, Nat.reduceAdd] at hM))); (try simp only [Act.put, qSa, qSz, qSs]))) | (((refine hK.out _ _ ?_); clear hK K))))
      ((refine wp_ret ?_; (try simp only [Exit.then, Exit.inBlock]); refine St.ret hM rfl (by repeat (first | exact Outs.nil | (apply Outs.row rfl rfl (by repeat constructor) (by kernel_rfl)))) rfl ?_))
      refine ⟨sl, β, by rw [HV.out]; rfl, HK.out, ?_⟩
      exact (hM.forget.forget.perm (L' := txL sl rl ++ fsL x β d) (List.perm_append_comm (l₁ := fsL x β d)))
    · rw [do_named hr hk]
      have CO := Lib.hid (fun (W : World) (β' : Int → Nat × Nat) (hA : FsAt N x β' d W) => named_any hA hN p hp hk)
      generalize Fs.named d p = G at *
      obtain ⟨E, t1⟩ := G
      obtain ⟨pk, pp, pd, ph, pa, pn, px, py, pb⟩ := p
      simp only [OpD.cells] at CR CO hk ⊢
      clear h hp hr hr1
      unfold fsL at hM
      rcases hk with rfl | rfl | rfl | rfl | rfl
      all_goals
        go_enter Tryz.func16, Tryz.ntmps16
        (repeat (first | ((with_reducible show wpSeq _ _ _ _ _ _ _); first | ((with_reducible refine wpSeq_nil ?_); refine hKr.out _ _ ?_; clear hKr Kr) | ((first | (refine St.copy (v := ?_) (by exact .inl rfl) rfl rfl ?_ ?_; rotate_left; (focus ((try simp only [Act.eval, getD_lit, qGz, qGs]); with_reducible rfl))) | ((((refine St.box rfl hM rfl rfl rfl ?_); clear hM; intro w bk hM)); (try simp only [Res.put, Res.known, Act.eval, Value.cells, getD_lit, qGz, qGs, List.toList_toArray, qSz, qSs, over, Nat.reduceAdd] at hM))); (try simp only [Act.put, qSa, qSz, qSs])) | (((refine St.alloc (ty := 31) (z := .agg #[.int .i64 0, .int .i64 0, .string ⟨#[]⟩, .slice none 0 0]) rfl hM rfl rfl (by kernel_rfl) ?_); clear hM; intro w bk hM); (try simp only [Res.put, Res.known, Act.eval, Value.cells, getD_lit, qGz, qGs, List.toList_toArray, qSz, qSs, over, Nat.reduceAdd] at hM); (try simp only [Act.put, qSa, qSz, qSs]))) | (first | (refine wp_seq_shut (fun K hK => ?_)) | (refine wp_text hM (fun Kr hKr => ?_); simp only [inText]) | ((refine hK.out _ _ ?_); clear hK K))))
        (refine St.call3 rfl rfl (by kernel_rfl) (fun R hR => ?_); simp only [List.map_toArray, List.map_cons, List.map_nil, Act.eval, getD_lit, qGz, qGs])
        refine (CG.out _ β (hM.fs (by repeat (first | exact Part.all | apply Part.skip)) HI.out HX.out F0)).mono ?_
        rintro e w' ⟨rfl, rfl⟩; refine hR.out _ _ ?_; clear hR R; (try simp only [Act.put, qSa, qSz, qSs])
        (repeat (((with_reducible show wpSeq _ _ _ _ _ _ _); ((first | (refine St.copy (v := ?_) (by exact .inl rfl) rfl rfl ?_ ?_; rotate_left; (focus ((try simp only [Act.eval, getD_lit, qGz, qGs]); with_reducible rfl))) | (refine St.pure (v := ?_) rfl rfl rfl (fun w => ?_) ?_; rotate_left; (focus (go_simp; all_goals with_reducible rfl))) | ((refine St.loadRow rfl hM rfl rfl rfl rfl (by repeat constructor) (Nat.le_of_ble_eq_true rfl) (by kernel_rfl) ?_); (try simp only [Res.known, List.drop_succ_cons, List.drop_zero, List.take_succ_cons, List.take_zero]))); (try simp only [Act.put, qSa, qSz, qSs])))))
        (refine St.call3 rfl rfl (by kernel_rfl) (fun R hR => ?_); simp only [List.map_toArray, List.map_cons, List.map_nil, Act.eval, getD_lit, qGz, qGs])
        refine (CR.out _ (hM.mx HX.out F0)).mono ?_
        (rintro e w' ⟨rfl, hb⟩; refine hR.out _ _ ?_; clear hR R; replace hM := hM.below hb; clear hb; (try simp only [Act.put, qSa, qSz, qSs]))
        (repeat (first | ((with_reducible show wpSeq _ _ _ _ _ _ _); first | ((with_reducible refine wpSeq_nil ?_); refine hKr.out _ _ ?_; clear hKr Kr) | ((first | (refine St.copy (v := ?_) (by first | exact .inl rfl | exact .inr rfl) rfl rfl ?_ ?_; rotate_left; (focus ((try simp only [Act.eval, getD_lit, qGz, qGs]); with_reducible rfl))) | (refine St.pure (v := ?_) rfl rfl rfl (fun w => ?_) ?_; rotate_left; (focus (go_simp; all_goals with_reducible rfl))) | refine St.load rfl hM rfl rfl rfl rfl (by repeat constructor) (by rfl) (by kernel_rfl) ?_ | ((refine St.loadRow rfl hM rfl rfl rfl rfl (by repeat constructor) (Nat.le_of_ble_eq_true rfl) (by kernel_rfl) ?_); (try simp only [Res.known, List.drop_succ_cons, List.drop_zero, List.take_succ_cons, List.take_zero]))); (try simp only [Act.put, qSa, qSz, qSs]))) | (first | (refine wp_seq_shut (fun K hK => ?_)) | (refine wp_text hM (fun Kr hKr => ?_); simp only [inText]) | refine wp_block ?_ | refine wp_skip ?_ | (refine wp_cond_false rfl ?_) | ((refine hK.out _ _ ?_); clear hK K))))
        (refine St.call3 rfl rfl (by kernel_rfl) (fun R hR => ?_); simp only [List.map_toArray, List.map_cons, List.map_nil, Act.eval, getD_lit, qGz, qGs])
        refine (CO.out _ β (hM.fs (by repeat (first | exact Part.all | apply Part.skip)) HI.out HX.out F0)).mono ?_
        (rintro e w' ⟨rfl, β, hN⟩; replace hM := hM.backM (by repeat (first | exact Swap.all | apply Swap.skip)) (fsL_flag _ _ _) hN (fsL_flag _ _ _); clear hN; refine hR.out _ _ ?_; clear hR R; unfold fsL at hM; (try simp only [Act.put, qSa, qSz, qSs]))
        (repeat (first | ((with_reducible show wpSeq _ _ _ _ _ _ _); first | ((with_reducible refine wpSeq_nil ?_); refine hKr.out _ _ ?_; clear hKr Kr) | ((first | (refine St.pure (v := ?_) rfl rfl rfl (fun w => ?_) ?_; rotate_left; (focus (go_simp; all_goals with_reducible rfl))) | ((((refine St.storeRow rfl hM rfl rfl rfl rfl rfl (by repeat constructor) (Nat.le_of_ble_eq_true rfl) (Nat.le_of_ble_eq_true rfl) (by kernel_rfl) rfl ?_ ?_); (focus ((intro h; cases h; done))); clear hM; intro w hM)); (try simp only [Res.put, Res.known, Act.eval, Value.cells, getD_lit, qGz, qGs, List.toList_toArray, qSz, qSs, over, Nat.reduceAdd] at hM))); (try simp only [Act.put, qSa, qSz, qSs]))) | (((refine hK.out _ _ ?_); clear hK K))))
        ((refine wp_ret ?_; (try simp only [Exit.then, Exit.inBlock]); refine St.ret hM rfl (by repeat (first | exact Outs.nil | (apply Outs.row rfl rfl (by repeat constructor) (by kernel_rfl)))) rfl ?_))
        exact ⟨none, β, rfl, ⟨rfl, rfl⟩, hM.forget.forget⟩
end
end Go.Proofs.YtcicjklhbnipcaaGreatDoor
namespace Go.Proofs.YtcicjklhbnipcaaGreatDoor
set_option linter.unusedVariables false
set_option linter.unusedSimpArgs false
open Go.RowKit Go.Maps
namespace Fs
theorem Inv.more {N M : Nat} {d : FsD} (h : Inv N d) (hM : N ≤ M) : Inv M d := ⟨h.tbl.more hM, h.rows, Nat.le_trans h.len hM⟩
theorem set_row {l : List Int} (hl : l.length = 9 ∧ ∀ i ∈ l, 0 ≤ i ∧ i ≤ 4611686018427387904) (n : Nat) {v : Int} (hv : 0 ≤ v ∧ v ≤ 4611686018427387904) : (l.set n v).length = 9 ∧ ∀ i ∈ l.set n v, 0 ≤ i ∧ i ≤ 4611686018427387904 := by
  refine ⟨by rw [List.length_set]; exact hl.1, fun i hi => ?_⟩
  rcases List.mem_or_eq_of_mem_set hi with h | rfl
  · exact hl.2 i h
  · exact hv
theorem inv_closes {N : Nat} {d : FsD} (h : Inv N d) (o : Int) (n : Nat) : Inv (N + 1) (closes d o n) := by
  have hr := rows_put h.rows (o := o) (set_row (hOf_row h o) n (v := 0) (by omega))
  have hl := len_put d.h o ((hOf d.h o).set n 0)
  have hN := h.len
  refine ⟨(In.inv_drop h.tbl _).more (by omega), ?_, ?_⟩
  · unfold closes shut
    simp only
    split
    · exact rows_del hr o
    · exact hr
  · unfold closes shut
    simp only
    split
    · have : (del (put d.h o ((hOf d.h o).set n 0)) o).length ≤ (put d.h o ((hOf d.h o).set n 0)).length := List.length_filter_le _ _
      omega
    · omega
theorem inv_gives {N : Nat} {d : FsD} (h : Inv N d) (o : Int) {id : Int} (hid : 0 ≤ id ∧ id ≤ 4611686018427387904) : Inv (N + 1) (gives d o id).2 := by
  have hN := h.len
  unfold gives
  split
  · refine ⟨(In.inv_hold h.tbl id).more (by omega), rows_put h.rows (set_row (hOf_row h o) _ hid), ?_⟩
    have := len_put d.h o ((hOf d.h o).set (free d o) id)
    show (put d.h o ((hOf d.h o).set (free d o) id)).length ≤ N + 1
    omega
  · exact ⟨(In.inv_hold h.tbl id).more (by omega), h.rows, by show d.h.length ≤ N + 1; omega⟩
theorem inv_new {q : Int} (h0 : 64 ≤ q) (h1 : q ≤ 1099511627776) : Inv 1 (new q) := ⟨In.inv_new h0 h1, nofun, by simp [new]⟩
theorem inv_opens {N : Nat} {d : FsD} (h : Inv N d) (hN : N ≤ 999999990) (o : Int) (p : OpD) : Inv (N + 3) (opens d o p).2 := by
  unfold opens
  have hN' := h.len
  split
  · exact h.more (by omega)
  split
  · exact h.more (by omega)
  split
  · have hm := make_id h.tbl (at_ d p.path).1.1 (at_ d p.path).1.2 false
    have I2 : Inv (N + 2) ⟨(In.make d.t (at_ d p.path).1.1 (at_ d p.path).1.2 false).2.2, d.h⟩ := ⟨In.inv_make h.tbl _ _ false, h.rows, by show d.h.length ≤ N + 2; omega⟩
    split
    · exact I2.more (by omega)
    · exact inv_gives I2 o (by omega)
  split
  · exact h.more (by omega)
  · rename_i hE
    have hm := find_pos h.tbl (Decidable.not_not.1 hE)
    exact (inv_gives h o (by omega)).more (by omega)
theorem inv_tbl {N M : Nat} {d : FsD} {t : TabD} (h : Inv N d) (ht : In.Inv M t) (hM : N ≤ M) : Inv M ⟨t, d.h⟩ := ⟨ht, h.rows, Nat.le_trans h.len hM⟩
theorem inv_handled {N : Nat} {d : FsD} (h : Inv N d) (o : Int) (p : OpD) : Inv (N + 3) (handled d o p).2 := by
  unfold handled
  split
  · exact h.more (by omega)
  split
  · exact (inv_closes h o _).more (by omega)
  split
  · exact h.more (by omega)
  split
  · exact (inv_tbl h (In.inv_write h.tbl _ _ _) (Nat.le_refl _)).more (by omega)
  split
  · exact (inv_tbl h (In.inv_trunc h.tbl _ _) (Nat.le_refl _)).more (by omega)
  · exact h.more (by omega)
theorem inv_named {N : Nat} {d : FsD} (h : Inv N d) (p : OpD) : Inv (N + 3) ⟨(named d p).2, d.h⟩ := by
  unfold named namedAt
  split
  · exact (inv_tbl h h.tbl (Nat.le_refl _)).more (by omega)
  split
  · exact (inv_tbl h (In.inv_make h.tbl _ _ true) (by omega)).more (by omega)
  split
  · exact (inv_tbl h (In.inv_remove h.tbl _ _) (Nat.le_refl _)).more (by omega)
  split
  · exact (inv_tbl h (In.inv_unlink h.tbl _ _) (Nat.le_refl _)).more (by omega)
  split
  · split
    · exact (inv_tbl h h.tbl (Nat.le_refl _)).more (by omega)
    split
    · exact (inv_tbl h h.tbl (Nat.le_refl _)).more (by omega)
    · exact (inv_tbl h (In.inv_link h.tbl _ _ _) (by omega)).more (by omega)
  split
  · exact (inv_tbl h h.tbl (Nat.le_refl _)).more (by omega)
  · exact (inv_tbl h (In.inv_rename h.tbl _ _ _ _) (by omega)).more (by omega)
theorem inv_do {N : Nat} {d : FsD} (h : Inv N d) (hN : N ≤ 999999990) (o : Int) (p : OpD) : Inv (N + 3) (do_ d o p).2 := by
  unfold do_
  split
  · exact h.more (by omega)
  split
  · exact inv_opens h hN o p
  split
  · exact inv_handled h o p
  split
  · exact h.more (by omega)
  · exact inv_named h p
end Fs
section
variable {N : Nat} {x : FsX} {β : Int → Nat × Nat} {d : FsD} {w w' w0 : World} {F : List Nat} {L L' M M' : List Ent}
theorem exitL_cons {o : Int} {l : List Int} {k : Nat} {c : Int} {d : FsD} (h : l[k]? = some c) : Fs.exitL o (l.drop k) k d = Fs.exitL o (l.drop (k + 1)) (k + 1) (if c ≠ 0 then Fs.closes d o k else d) := by
  obtain ⟨hk, rfl⟩ := List.getElem?_eq_some_iff.1 h
  rw [List.drop_eq_getElem_cons hk]
  rfl
set_option maxHeartbeats 8000000 in
set_option maxRecDepth 100000 in
theorem fExit_any (h : FsAt N x β d w) (hN : N ≤ 999999980) {o : Int} (ho : Fits o) :
    Calls Tryz.prog 17 #[.pointer (some ⟨x.f, 0, none⟩), .int .i64 o] w fun e w' => e = .returned (.tuple #[]) ∧ FsGoes w x β d w' (Fs.exit d o) ∧ Fs.Inv (N + 9) (Fs.exit d o) := by
  have hM := h.at_.st
  unfold FsGoes
  obtain ⟨F, hF⟩ : ∃ F, keysOf (fsL x β d) = F := ⟨_, rfl⟩
  rw [hF] at hM ⊢
  have F0 : 0 ∉ F := hF ▸ h.zero
  clear hF
  have HI := Lib.hid h.inv
  have HX := Lib.hid h.mx
  have CG := Lib.hid (fun (W : World) (β' : Int → Nat × Nat) (hA : FsAt N x β' d W) => fgiven_any hA)
  obtain ⟨R0, hR0⟩ : ∃ R0, Fs.exit d o = R0 := ⟨_, rfl⟩
  rw [hR0]
  unfold Fs.exit at hR0
  have hrw := Fs.hOf_row h.inv o
  obtain ⟨a0, a1, a2, a3, a4, a5, a6, a7, a8, hl⟩ := row9 hrw.1
  have hrow : rowV (Fs.hOf d.h o) = .agg #[.int .i64 a0, .int .i64 a1, .int .i64 a2, .int .i64 a3, .int .i64 a4, .int .i64 a5, .int .i64 a6, .int .i64 a7, .int .i64 a8] := by rw [hl]; rfl
  rw [hl] at hR0
  have HR := Lib.hid hR0
  clear h hl hR0 hrw
  unfold fsL at hM
  go_enter Tryz.func17, Tryz.ntmps17
  (repeat (first | ((with_reducible show wpSeq _ _ _ _ _ _ _); (((refine St.copy (v := ?_) (by exact .inl rfl) rfl rfl ?_ ?_; rotate_left; (focus ((try simp only [Act.eval, getD_lit, qGz, qGs]); with_reducible rfl)))); (try simp only [Act.put, qSa, qSz, qSs]))) | (first | (refine wp_seq_shut (fun K hK => ?_)) | (refine wp_text hM (fun Kr hKr => ?_); simp only [inText]))))
  (refine St.call3 rfl rfl (by kernel_rfl) (fun R hR => ?_); simp only [List.map_toArray, List.map_cons, List.map_nil, Act.eval, getD_lit, qGz, qGs])
  refine (CG.out _ β (hM.fs (by repeat (exact Part.all)) HI.out HX.out F0)).mono ?_
  rintro e w' ⟨rfl, rfl⟩; refine hR.out _ _ ?_; clear hR R; (try simp only [Act.put, qSa, qSz, qSs])
  (repeat (first | ((with_reducible show wpSeq _ _ _ _ _ _ _); first | ((with_reducible refine wpSeq_nil ?_); refine hKr.out _ _ ?_; clear hKr Kr) | ((first | (refine St.copy (v := ?_) (by exact .inl rfl) rfl rfl ?_ ?_; rotate_left; (focus ((try simp only [Act.eval, getD_lit, qGz, qGs]); with_reducible rfl))) | (refine St.pure (v := ?_) rfl rfl rfl (fun w => ?_) ?_; rotate_left; (focus (go_simp; all_goals with_reducible rfl))) | refine St.load rfl hM rfl rfl rfl rfl (by repeat constructor) (by rfl) (by kernel_rfl) ?_); (try simp only [Act.put, qSa, qSz, qSs]))) | (first | (refine wp_seq_shut (fun K hK => ?_)) | (refine wp_text hM (fun Kr hKr => ?_); simp only [inText]) | refine wp_skip ?_ | (refine wp_cond_false rfl ?_) | ((refine hK.out _ _ ?_); clear hK K))))
  ((refine St.lookup rfl hM rfl rfl rfl rfl (by repeat constructor) key_int Tryz.underlying42 zero_cell (keyOf_int_mk Tryz.underlying3 (by assumption)) ((look_hand _ _).trans (by assumption)) ?_); (try simp only [Act.put, qSa, qSz, qSs]))
  (repeat (first | ((with_reducible show wpSeq _ _ _ _ _ _ _); first | ((with_reducible refine wpSeq_nil ?_); refine hKr.out _ _ ?_; clear hKr Kr) | (((refine St.copy (v := ?_) (by exact .inl rfl) rfl rfl ?_ ?_; rotate_left; (focus ((try simp only [Act.eval, getD_lit, qGz, qGs]); with_reducible rfl)))); (try simp only [Act.put, qSa, qSz, qSs]))) | (first | refine wp_block ?_ | ((refine hK.out _ _ ?_); clear hK K))))
  go_loopw [15] (fun i wr => ∃ (k : Nat) (β' : Int → Nat × Nat) (dk : FsD), k ≤ 9 ∧ i = .int .i64 k ∧ Fs.exitL o ([a0, a1, a2, a3, a4, a5, a6, a7, a8].drop k) k dk = R0 ∧ Fs.Inv (N + k) dk ∧ St w F wr (fsL x β' dk)) (fun i _ => 9 - (intOf i).toNat)
  case atStart => exact ⟨0, β, d, by omega, rfl, HR.out, HI.out, hM⟩
  case round =>
    clear hM
    obtain ⟨k, β, dk, hk, rfl, hex, hin, hM⟩ := hrel
    have HEX := Lib.hid hex
    have HIN := Lib.hid hin
    clear hex hin
    by_cases hlt : k < 9
    · obtain ⟨c, hc⟩ := get_at (xs := [a0, a1, a2, a3, a4, a5, a6, a7, a8]) (k := k) hlt
      have hix : (#[.int .i64 a0, .int .i64 a1, .int .i64 a2, .int .i64 a3, .int .i64 a4, .int .i64 a5, .int .i64 a6, .int .i64 a7, .int .i64 a8] : Array Value)[k]? = some (.int .i64 c) := idx_row (l := [a0, a1, a2, a3, a4, a5, a6, a7, a8]) hlt (by rw [List.getD_eq_getElem?_getD, hc]; rfl)
      have e := HEX.out
      rw [exitL_cons hc] at e
      have k1 : (k : Int) < 9 := by omega
      have d1 : decide ((k : Int) < 9) = true := decide_eq_true k1
      clear hc hlt
      by_cases h0 : c = 0
      · subst h0
        rw [if_neg (by simp)] at e
        have HE := Lib.hid e
        clear e
        unfold fsL at hM
        (repeat (first | ((with_reducible show wpSeq _ _ _ _ _ _ _); first | ((with_reducible refine wpSeq_nil ?_); refine hKr.out _ _ ?_; clear hKr Kr) | ((first | (refine St.copy (v := ?_) (by first | exact .inl rfl | exact .inr rfl) rfl rfl ?_ ?_; rotate_left; (focus ((try simp only [Act.eval, getD_lit, qGz, qGs]); with_reducible rfl))) | refine St.inc rfl rfl rfl rfl rfl (by omega) ?_ | (refine St.pure (v := ?_) rfl rfl rfl (fun w => ?_) ?_; rotate_left; (focus (go_simp; all_goals with_reducible rfl))) | (refine St.index rfl rfl rfl rfl rfl (by kernel_rfl) (by assumption) ?_)); (try simp only [Act.put, qSa, qSz, qSs]))) | (first | (refine wp_seq_shut (fun K hK => ?_)) | (refine wp_text hM (fun Kr hKr => ?_); simp only [inText]) | refine wp_block ?_ | refine wp_skip ?_ | (first | refine wp_cond_true rfl ?_ | refine wp_cond_false rfl ?_) | ((refine hK.out _ _ ?_); clear hK K))))
        (refine ⟨?_, ?_⟩; (focus (repeat (first | exact ⟨⟨k + 1, β, dk, by omega, rfl, HE.out, HIN.out.more (by omega), hM⟩, rfl⟩ | apply Exists.intro))); (simp only [getD_lit, qGz, qGs, intOf]; omega))
      · rw [if_pos h0] at e
        have HE := Lib.hid e
        have q1 := bne0_true h0
        have CC := Lib.hid (fun (W : World) (β' : Int → Nat × Nat) (hA : FsAt (N + k) x β' dk W) => closes_any hA (by omega) ho (n := k) (by omega))
        have HIC := Lib.hid (Fs.inv_closes HIN.out o k)
        clear e h0
        generalize Fs.closes dk o k = dn at *
        unfold fsL at hM
        (repeat (first | ((with_reducible show wpSeq _ _ _ _ _ _ _); first | ((with_reducible refine wpSeq_nil ?_); refine hKr.out _ _ ?_; clear hKr Kr) | ((first | (refine St.copy (v := ?_) (by first | exact .inl rfl | exact .inr rfl) rfl rfl ?_ ?_; rotate_left; (focus ((try simp only [Act.eval, getD_lit, qGz, qGs]); with_reducible rfl))) | (refine St.pure (v := ?_) rfl rfl rfl (fun w => ?_) ?_; rotate_left; (focus (go_simp; all_goals with_reducible rfl))) | (refine St.index rfl rfl rfl rfl rfl (by kernel_rfl) (by assumption) ?_)); (try simp only [Act.put, qSa, qSz, qSs]))) | (first | (refine wp_seq_shut (fun K hK => ?_)) | (refine wp_text hM (fun Kr hKr => ?_); simp only [inText]) | refine wp_block ?_ | refine wp_skip ?_ | (refine wp_cond_true rfl ?_) | ((refine hK.out _ _ ?_); clear hK K))))
        (refine St.call3 rfl rfl (by kernel_rfl) (fun R hR => ?_); simp only [List.map_toArray, List.map_cons, List.map_nil, Act.eval, getD_lit, qGz, qGs])
        refine (CC.out _ β (hM.fs (by repeat (exact Part.all)) HIN.out HX.out F0)).mono ?_
        (rintro e w' ⟨rfl, β, hN⟩; replace hM := hM.backM (by repeat (exact Swap.all)) (fsL_flag _ _ _) hN (fsL_flag _ _ _); clear hN; refine hR.out _ _ ?_; clear hR R; unfold fsL at hM; (try simp only [Act.put, qSa, qSz, qSs]))
        (repeat (first | ((with_reducible show wpSeq _ _ _ _ _ _ _); first | ((with_reducible refine wpSeq_nil ?_); refine hKr.out _ _ ?_; clear hKr Kr) | ((first | (refine St.copy (v := ?_) (by exact .inl rfl) rfl rfl ?_ ?_; rotate_left; (focus ((try simp only [Act.eval, getD_lit, qGz, qGs]); with_reducible rfl))) | refine St.inc rfl rfl rfl rfl rfl (by omega) ?_); (try simp only [Act.put, qSa, qSz, qSs]))) | (first | (refine wp_text hM (fun Kr hKr => ?_); simp only [inText]) | ((refine hK.out _ _ ?_); clear hK K))))
        (refine ⟨?_, ?_⟩; (focus (repeat (first | exact ⟨⟨k + 1, β, dn, by omega, rfl, HE.out, HIC.out.more (by omega), hM⟩, rfl⟩ | apply Exists.intro))); (simp only [getD_lit, qGz, qGs, intOf]; omega))
    · have k0 : ¬ ((k : Int) < 9) := by omega
      obtain rfl : k = 9 := by omega
      have e := HEX.out
      rw [show ([a0, a1, a2, a3, a4, a5, a6, a7, a8] : List Int).drop 9 = [] from rfl] at e
      have e' : dk = R0 := e
      subst e'
      clear hlt hk HEX HR e
      (repeat (first | ((with_reducible show wpSeq _ _ _ _ _ _ _); first | ((with_reducible refine wpSeq_nil ?_); refine hKr.out _ _ ?_; clear hKr Kr) | (((refine St.pure (v := ?_) rfl rfl rfl (fun w => ?_) ?_; rotate_left; (focus (go_simp; all_goals with_reducible rfl)))); (try simp only [Act.put, qSa, qSz, qSs]))) | (first | (refine wp_seq_shut (fun K hK => ?_)) | (refine wp_text hM (fun Kr hKr => ?_); simp only [inText]) | (refine wp_cond_false rfl ?_) | (refine wp_exit ?_; simp only [Exit.then, Exit.inBlock, if_true, if_false, reduceCtorEq, Nat.reduceEqDiff, Nat.succ_ne_zero]) | ((refine hK.out _ _ ?_); clear hK K))))
      ((refine St.fin hM rfl (by repeat (exact Outs.nil)) rfl ?_))
      exact ⟨rfl, ⟨β, hM⟩, HIN.out⟩
end
end Go.Proofs.YtcicjklhbnipcaaGreatDoor
namespace Go.Proofs.YtcicjklhbnipcaaGreatDoor
set_option linter.unusedVariables false
set_option linter.unusedSimpArgs false
open Go.RowKit Go.Maps
section
variable {N : Nat} {x : FsX} {β : Int → Nat × Nat} {d : FsD} {w w' w0 : World} {F : List Nat} {L L' M M' : List Ent}
theorem st_fresh (h : At M w') (hb : Below w.heap.size w w') (hk : ∀ k ∈ keysOf M, w.heap.size ≤ k) : St w [] w' M :=
  ⟨Only.of_below hb, h.has, h.nd, fun y hy _ => .inr (hk _ (List.mem_map_of_mem hy))⟩
set_option maxHeartbeats 4000000 in
set_option maxRecDepth 100000 in
theorem fNew_any (q : Int) (w : World) (hq : In.newE q = 0) : Calls Tryz.prog 13 #[.int .i64 q] w fun e w' => ∃ x β, e = .returned (.tuple #[.pointer (some ⟨FsX.f x, 0, none⟩), .int .i64 0]) ∧ St w [] w' (fsL x β (Fs.new q)) := by
  have hM := St.start w []
  have CN := Lib.hid (fun W : World => New_yes q W hq)
  clear hq
  go_enter Tryz.func13, Tryz.ntmps13
  (repeat (first | ((with_reducible show wpSeq _ _ _ _ _ _ _); first | ((with_reducible refine wpSeq_nil ?_); refine hKr.out _ _ ?_; clear hKr Kr) | (((refine St.copy (v := ?_) (by first | exact .inl rfl | exact .inr rfl) rfl rfl ?_ ?_; rotate_left; (focus ((try simp only [Act.eval, getD_lit, qGz, qGs]); with_reducible rfl)))); (try simp only [Act.put, qSa, qSz, qSs]))) | (first | (refine wp_seq_shut (fun K hK => ?_)) | (refine wp_text hM (fun Kr hKr => ?_); simp only [inText]) | ((refine hK.out _ _ ?_); clear hK K))))
  (refine St.call3 rfl rfl (by kernel_rfl) (fun R hR => ?_); simp only [List.map_toArray, List.map_cons, List.map_nil, Act.eval, getD_lit, qGz, qGs])
  refine (CN.out _).mono ?_
  rintro e w' ⟨rfl, hT, hb⟩
  have hst := st_fresh hT.at_ hb (fun k hk => by
    rw [tblL_keys] at hk
    rcases mem_foot.1 hk with rfl | rfl | ⟨n, hn, h⟩
    · omega
    · omega
    · rcases h with rfl | rfl
      · show _ ≤ _ + 3; omega
      · show _ ≤ _ + 2; omega)
  refine hR.out _ _ ?_; clear hR R
  replace hM := hM.madeM hst tblL_flag
  clear hst hT hb
  rw [List.append_nil] at hM
  generalize hgg : w.heap.size + 1 = g at *
  generalize hmm : w.heap.size = mb at *
  (try simp only [Act.put, qSa, qSz, qSs])
  (repeat (first | ((with_reducible show wpSeq _ _ _ _ _ _ _); first | ((with_reducible refine wpSeq_nil ?_); refine hKr.out _ _ ?_; clear hKr Kr) | ((first | (refine St.copy (v := ?_) (by first | exact .inl rfl | exact .inr rfl) rfl rfl ?_ ?_; rotate_left; (focus ((try simp only [Act.eval, getD_lit, qGz, qGs]); with_reducible rfl))) | (refine St.pure (v := ?_) rfl rfl rfl (fun w => ?_) ?_; rotate_left; (focus (go_simp; all_goals with_reducible rfl)))); (try simp only [Act.put, qSa, qSz, qSs]))) | (first | (refine wp_seq_shut (fun K hK => ?_)) | (refine wp_text hM (fun Kr hKr => ?_); simp only [inText]) | refine wp_skip ?_ | (refine wp_cond_false rfl ?_) | ((refine hK.out _ _ ?_); clear hK K))))
  refine St.makeMap (kt := 3) rfl hM rfl rfl (fun w => ?_) ?_
  · go_simp
    simp [Instr.makeMap, newObj, Sem.run]
  clear hM; intro w hb0 hM
  (try simp only [Act.put, qSa, qSz, qSs])
  (repeat (first | ((with_reducible show wpSeq _ _ _ _ _ _ _); first | ((with_reducible refine wpSeq_nil ?_); refine hKr.out _ _ ?_; clear hKr Kr) | ((first | (refine St.copy (v := ?_) (by exact .inr rfl) rfl rfl ?_ ?_; rotate_left; (focus ((try simp only [Act.eval, getD_lit, qGz, qGs]); with_reducible rfl))) | (refine St.pure (v := ?_) rfl rfl rfl (fun w => ?_) ?_; rotate_left; (focus (go_simp; all_goals with_reducible rfl))) | ((((refine St.box rfl hM rfl rfl rfl ?_); clear hM; intro w bk hM)); (try simp only [Res.put, Res.known, Act.eval, Value.cells, getD_lit, qGz, qGs, List.toList_toArray, qSz, qSs, over, Nat.reduceAdd] at hM))); (try simp only [Act.put, qSa, qSz, qSs]))) | (((refine hK.out _ _ ?_); clear hK K))))
  ((refine wp_ret ?_; (try simp only [Exit.then, Exit.inBlock]); refine St.ret hM rfl (by repeat (first | exact Outs.nil | apply Outs.tmp rfl)) rfl ?_))
  exact ⟨⟨bk, hb0, g, mb⟩, _, rfl, hM⟩
/-- What is no file system, or one that New did not give. -/
def FBare (w : World) (p : Option Addr) : Prop := p = none ∨ ∃ f, p = some ⟨f, 0, none⟩ ∧ w.cell? ⟨f, 0, none⟩ = some (.pointer none)
theorem FBare.below {p : Option Addr} (h : FBare w p) (hb : Below w.heap.size w w') : FBare w' p := by
  rcases h with h | ⟨f, h, hc⟩
  · exact .inl h
  · exact .inr ⟨f, h, (hb.cell (p := ⟨f, 0, none⟩) (World.block_lt_of_cell? w ⟨f, 0, none⟩ hc)).trans hc⟩
end
end Go.Proofs.YtcicjklhbnipcaaGreatDoor
namespace Go.Proofs.YtcicjklhbnipcaaGreatDoor
set_option linter.unusedVariables false
set_option linter.unusedSimpArgs false
namespace Aw
def o1 : OpD := ⟨3, ⟨#[97]⟩, ⟨#[]⟩, 0, 0, 0, ⟨#[]⟩, 0, 0⟩
def o2 : OpD := ⟨7, ⟨#[]⟩, ⟨#[]⟩, 1, 0, 0, ⟨#[120, 121]⟩, 0, 0⟩
def o3 : OpD := ⟨11, ⟨#[97]⟩, ⟨#[]⟩, 0, 0, 0, ⟨#[]⟩, 0, 0⟩
def o4 : OpD := ⟨6, ⟨#[]⟩, ⟨#[]⟩, 1, 1, 9, ⟨#[]⟩, 0, 0⟩
def o5 : OpD := ⟨6, ⟨#[]⟩, ⟨#[]⟩, 1, 0, 1, ⟨#[]⟩, 0, 0⟩
def o6 : OpD := ⟨1, ⟨#[100]⟩, ⟨#[]⟩, 0, 0, 0, ⟨#[]⟩, 0, 0⟩
def s1 : FsD := ⟨⟨4096, 128, 2, [⟨1, true, 1, 0, ⟨#[]⟩, [(⟨#[97]⟩, 2)]⟩, ⟨2, false, 1, 1, ⟨#[]⟩, []⟩]⟩, [(1, [0, 2, 0, 0, 0, 0, 0, 0, 0])]⟩
def s2 : FsD := ⟨⟨4096, 130, 2, [⟨1, true, 1, 0, ⟨#[]⟩, [(⟨#[97]⟩, 2)]⟩, ⟨2, false, 1, 1, ⟨#[120, 121]⟩, []⟩]⟩, [(1, [0, 2, 0, 0, 0, 0, 0, 0, 0])]⟩
def s3 : FsD := ⟨⟨4096, 130, 2, [⟨1, true, 1, 0, ⟨#[]⟩, []⟩, ⟨2, false, 0, 1, ⟨#[120, 121]⟩, []⟩]⟩, [(1, [0, 2, 0, 0, 0, 0, 0, 0, 0])]⟩
def s6 : FsD := ⟨⟨4096, 194, 3, [⟨1, true, 1, 0, ⟨#[]⟩, [(⟨#[100]⟩, 3)]⟩, ⟨2, false, 0, 1, ⟨#[120, 121]⟩, []⟩, ⟨3, true, 1, 0, ⟨#[]⟩, []⟩]⟩, [(1, [0, 2, 0, 0, 0, 0, 0, 0, 0])]⟩
theorem d1 : Fs.do_ (Fs.new 4096) 1 o1 = (⟨0, 1, ⟨#[]⟩, []⟩, s1) := by kernel_rfl
theorem d2 : Fs.do_ s1 1 o2 = (⟨0, 0, ⟨#[]⟩, []⟩, s2) := by kernel_rfl
theorem d3 : Fs.do_ s2 1 o3 = (⟨0, 0, ⟨#[]⟩, []⟩, s3) := by kernel_rfl
theorem d4 : Fs.do_ s3 1 o4 = (⟨0, 0, ⟨#[121]⟩, []⟩, s3) := by kernel_rfl
theorem d5 : Fs.do_ s3 2 o5 = (⟨13, 0, ⟨#[]⟩, []⟩, s3) := by kernel_rfl
theorem d6 : Fs.do_ s3 2 o6 = (⟨0, 0, ⟨#[]⟩, []⟩, s6) := by kernel_rfl
end Aw
end Go.Proofs.YtcicjklhbnipcaaGreatDoor
namespace Go.Proofs.YtcicjklhbnipcaaGreatDoor
set_option linter.unusedVariables false
set_option linter.unusedSimpArgs false
open Go.RowKit Go.Maps Go.Sort Go.Shelf

theorem sort_ints {ss ks : List Int} (h : ss.Perm ks) (hs : ks.Pairwise fun a b => a < b) : ss.mergeSort leI = ks := by
  rw [mergeSort_of_perm_i h]
  refine List.mergeSort_of_pairwise (hs.imp fun {a b} hab => ?_)
  simp only [leI, decide_eq_true_eq]
  omega
theorem keys_nodes (β : Int → Nat × Nat) (l : List NodeD) : intKeys (heldD (nodesL β l)) = l.map fun n => n.id := by
  simp [heldD, nodesL, intKeys, Go.intOf]
theorem sortsI (m : Nat) : AnyZI.SortsIn Tryz.prog Tryz.sortedI_ren Fence.wide m :=
  ⟨fun blk off cap ss W hH hblk hsz => callsIn_wide.2 (AnyM.slices_Sort_int Tryz.sortI blk off cap ss W hH hblk hsz), fun p cap W => callsIn_wide.2 (AnyM.slices_Sort_int_none Tryz.sortI p cap W)⟩
theorem keysI_any (mb : Option Nat) (W : World) : Calls Tryz.prog 120 #[.map mb] W fun e w' => e = .returned (.func (.func 168) #[] #[.pointer (some ⟨W.heap.size, 0, none⟩)]) ∧ w' = W.alloc (.cells #[.map mb] 160) :=
  (callsIn_wide (n := 5)).1 (AnyZI.keys_in Tryz.keysI Fence.wide 5 trivial rfl mb W)
/-- The inodes' numbers, in order, in a new slice. -/
theorem sortedI_any {m : Nat} {β : Int → Nat × Nat} {l : List NodeD} (w : World) (h : NodesAt w m β l) (hl : l.length ≤ 4611686018427) :
    Calls Tryz.prog 72 #[.func (.func 168) #[] #[.pointer (some ⟨w.heap.size, 0, none⟩)]] (w.alloc (.cells #[.map (some m)] 160)) fun e w' => ∃ v : Value, e = .returned v ∧
      w'.ownsRow (w.heap.size + 1) 3 1 v l.length (l.map fun n => .int .i64 n.id) ∧ Below w.heap.size w w' := by
  have hbl := MapAt.lt h
  have hsz : Maps.size (heldD (nodesL β l)) = l.length := by rw [size_held]; simp [nodesL]
  have hown : w.ownsMap Tryz.prog 3 anyElem m (nodesL β l).length (heldD (nodesL β l)) := h
  have hseq : SeqGives Fence.wide 2 Tryz.prog 168 #[.pointer (some ⟨w.heap.size, 0, none⟩)] encZ (fun ss => ss.Perm (intKeys (heldD (nodesL β l)))) (Maps.size (heldD (nodesL β l))) (w.alloc (.cells #[.map (some m)] 160)) :=
    AnyZI.keys_gives (ρ := Tryz.keysI_ren) { Tryz.keysI with } Fence.wide _ trivial rfl (by omega) w.heap.size m _ _ _ (by simp) (by simp) (by
      obtain ⟨es, clock, hb, Ft, hs, hD⟩ := hown
      exact ⟨es, clock, (Below.heap_alloc _ _ m hbl).trans hb, Ft, hs, hD⟩)
  have key := AnyZI.sorted_in Tryz.sortedI Fence.wide 5 trivial trivial trivial trivial rfl (by omega) (sortsI _) (enters_of Tryz.func124 (by kernel_rfl) rfl) 168 #[.pointer (some ⟨w.heap.size, 0, none⟩)] trivial (enters_of Tryz.func168 (by kernel_rfl) rfl) _ _ (by rw [hsz, maxLen_val]; omega) (by rw [hsz]; omega) _ hseq
  refine ((callsIn_wide (n := 5)).1 key).mono fun e w' hx => ?_
  obtain ⟨v, ss, he, hp, hrow, _, hb⟩ := hx
  refine ⟨v, he, ?_, ((Below.refl _ w).alloc (Nat.le_refl _) _).trans (hb.mono (by simp))⟩
  rw [keys_nodes] at hp
  have hs : (l.map fun n => n.id).Pairwise fun a b => a < b := by
    have := MapAt.sorted h key_int
    unfold nodesL at this
    rw [List.pairwise_map] at this ⊢
    exact this.imp fun h => by simpa [Lit.before] using h
  have e := sort_ints hp hs
  have hlen : ss.length = l.length := by rw [hp.length_eq]; simp
  rw [show (fun x y : Int => decide (x ≤ y)) = leI from rfl, e, hlen, List.map_map] at hrow
  rw [size_alloc] at hrow
  exact hrow
end Go.Proofs.YtcicjklhbnipcaaGreatDoor
namespace Go.Proofs.YtcicjklhbnipcaaGreatDoor
set_option linter.unusedVariables false
set_option linter.unusedSimpArgs false
open Go.RowKit
section
variable {P : Program} {K : Act → World → Prop} {a : Act} {w w0 : World} {ops : Array Oper} {l : List (Oper × Nat)} {c : Nat} {o : Oper} {F : List Nat} {L Lr : List Ent} {t e : TypeId} {x y : Operand}
/-- What an append makes of what is known. -/
theorem St.appendCore2 (hM : St w0 F w L) (hc : (c == 2 || c == 3) = true) (hw : Region.wanted o (yielded ops a.tmps) = true) {s : Option (Nat × Nat)} {n m size : Nat} {xs news : List Value} {L' : Option (Nat × Nat) → List Ent} (hL : ∀ s', Swap L (slL s xs e size) (slL s' (xs ++ news) e size) (L' s')) {v' : Value} {w' : World}
    (hrun0 : (execOp a.eval o).run P w = .ok (.value v') w') (ho' : w'.ownsRow 0 e size v' (n + m) (xs ++ news)) (hg : w.grownBy w' (slV s n).ownBlock) (hat : v'.ownBlock = (slV s n).ownBlock ∨ v'.ownBlock = some w.heap.size)
    (hS : c = 2 → ∀ z ∈ Lr, ∀ k, s.map (·.1) = some k → z.1 ≠ k) (h : ∀ w' s', St w0 F w' (L' s') → SlOK s' (n + m) (xs ++ news) size → (0 < n + m → s' ≠ none) → (s ≠ none → s' ≠ none) → wpSeq P ops K (Held w0 F Lr) l (a.put o.dst (slV s' (n + m))) w') : wpSeq P ops K (Held w0 F Lr) ((o, c) :: l) a w := by
  obtain ⟨s', rfl, hk', hh', hb'⟩ := of_ownsRow ho'
  have hrun : (execOp a.eval o).run P w = .ok (.value (slV s' (n + m))) w' := hrun0
  have hob : (slV s n).ownBlock = s.map (·.1) := by cases s <;> rfl
  have hO : Only ((s.map (·.1)).toList) w w' := ⟨hg.os, hg.tape, hg.output, hg.size, fun k hk hn => hg.block k hk (fun e => by rw [hob] at e; exact hn (by rw [← e]; simp))⟩
  obtain ⟨A', B', hA', hL'⟩ := (hL s').split
  have hM' : St w0 F w' (L' s') := by
    have hnd := hM.nd
    rw [hA'] at hnd
    have hsown : ∀ k, s.map (·.1) = some k → (k ∈ F ∨ w0.heap.size ≤ k) ∧ k < w.heap.size := fun k hk => by
      match s with
      | none => cases hk
      | some (g, cp) =>
        obtain rfl : g = k := by simpa using hk
        have hm : (g, true, Res.pre xs e (cp * size)) ∈ L := by rw [hA']; simp [slL]
        exact ⟨hM.own _ hm rfl, hM.lt hm⟩
    have hsnew : ∀ k, s'.map (·.1) = some k → (k ∈ F ∨ w0.heap.size ≤ k) ∧ (s.map (·.1) = some k ∨ k = w.heap.size) := fun k hk => by
      rw [hb', hob] at hat
      rcases hat with h1 | h1
      · rw [h1] at hk; exact ⟨(hsown k hk).1, .inl hk⟩
      · rw [h1] at hk; obtain rfl : w.heap.size = k := by simpa using hk
        exact ⟨.inr hM.only.size, .inr rfl⟩
    have hrestne : ∀ z, z ∈ A' ∨ z ∈ B' → (∀ k, s.map (·.1) = some k → z.1 ≠ k) ∧ z ∈ L := fun z hz => by
      refine ⟨fun k hk => ?_, by rw [hA']; rcases hz with h | h <;> simp [h]⟩
      match s with
      | none => cases hk
      | some (g, cp) =>
        obtain rfl : g = k := by simpa using hk
        simp only [slL, List.map_append, List.map_cons, List.map_nil, List.nodup_append, List.mem_append, List.mem_cons, List.mem_map] at hnd
        obtain ⟨-, ⟨-, -, h2⟩, h3⟩ := hnd
        rcases hz with h | h
        · exact fun e => h3 z.1 ⟨z, h, rfl⟩ g (.inl (.inl rfl)) e
        · exact fun e => h2 g (.inl rfl) z.1 ⟨z, h, rfl⟩ e.symm
    refine ⟨hM.only.then hO (fun k hk => (hsown k (by simpa using hk)).1), fun z hz => ?_, ?_, fun z hz h1 => ?_⟩
    · rw [hL'] at hz
      rcases List.mem_append.1 hz with hz | hz
      · obtain ⟨hne, hzL⟩ := hrestne z (.inl hz)
        rw [hO.block z.1 (hM.lt hzL) (fun hm => hne z.1 (by simpa using hm) rfl)]
        exact hM.holds z hzL
      · rcases List.mem_append.1 hz with hz | hz
        · exact hh' z hz
        · obtain ⟨hne, hzL⟩ := hrestne z (.inr hz)
          rw [hO.block z.1 (hM.lt hzL) (fun hm => hne z.1 (by simpa using hm) rfl)]
          exact hM.holds z hzL
    · rw [hL']
      cases hse : s' with
      | none =>
        simp only [slL, List.nil_append]
        have : (A' ++ B').Sublist (A' ++ (slL s xs e size ++ B')) := List.Sublist.append_left (List.sublist_append_right _ _) _
        exact List.Sublist.nodup (this.map _) hnd
      | some gc =>
        obtain ⟨g', cp'⟩ := gc
        have hn := hsnew g' (by rw [hse]; rfl)
        have hfree : ∀ z, z ∈ A' ∨ z ∈ B' → z.1 ≠ g' := fun z hz e => by
          obtain ⟨hne, hzL⟩ := hrestne z hz
          rcases hn.2 with h2 | h2
          · exact hne g' h2 e
          · have := hM.lt hzL
            omega
        have hAB : ((A' ++ B').map (·.1)).Nodup := by
          have : (A' ++ B').Sublist (A' ++ (slL s xs e size ++ B')) := List.Sublist.append_left (List.sublist_append_right _ _) _
          exact List.Sublist.nodup (this.map _) hnd
        simp only [List.map_append, List.nodup_append, List.mem_map] at hAB
        simp only [slL, List.map_append, List.map_cons, List.map_nil, List.nodup_append, List.mem_append, List.mem_cons, List.mem_map, List.cons_append, List.nil_append, List.nodup_cons]
        refine ⟨hAB.1, ⟨fun ⟨z, hz, e⟩ => hfree z (.inr hz) e, hAB.2.1⟩, fun k hk u hu => ?_⟩
        obtain ⟨z, hz, rfl⟩ := hk
        rcases hu with rfl | hu
        · exact hfree z (.inl hz)
        · exact hAB.2.2 z.1 ⟨z, hz, rfl⟩ u hu
    · rw [hL'] at hz
      rcases List.mem_append.1 hz with hz | hz
      · exact hM.own z (hrestne z (.inl hz)).2 h1
      · rcases List.mem_append.1 hz with hz | hz
        · cases hse : s' with
          | none => rw [hse] at hz; cases hz
          | some gc =>
            obtain ⟨g', cp'⟩ := gc
            rw [hse] at hz
            obtain rfl := List.mem_singleton.1 hz
            exact (hsnew g' (by rw [hse]; rfl)).1
        · exact hM.own z (hrestne z (.inr hz)).2 h1
  refine wpSeq_turns hc hw hrun (.inl rfl) (fun h2 hh => ?_) (h w' s' hM' hk' (fun hp e => ?_) fun hs0 e => ?_)
  · refine ⟨hM'.only, ?_⟩
    exact fun z hz => by
      rw [hO.block z.1 (hh.has.lt hz) (fun hm => hS h2 z hz z.1 (by simpa using hm) rfl)]
      exact hh.has z hz
  · subst e
    have := hk'.2
    simp only at this
    omega
  · subst e
    rw [hb', hob] at hat
    rcases hat with h1 | h1
    · cases s with
      | none => exact hs0 rfl
      | some _ => cases h1
    · cases h1
theorem St.append2 (hx : o.op = .call { callee := .builtin .append, args := #[x, y], argTypes := #[t, t] }) (hM : St w0 F w L) (hc : (c == 2 || c == 3) = true) (hw : Region.wanted o (yielded ops a.tmps) = true) {s : Option (Nat × Nat)} {n : Nat} (hs : a.eval x = slV s n) {ad : Addr} {m cap : Nat} (hy : a.eval y = .slice (some ad) m cap) {size bytes : Nat} (hE : elemIn elemTab t = some (e, size, bytes)) (hB : appB P t e size bytes = true)
    {xs news : List Value} {L' : Option (Nat × Nat) → List Ent} (hL : ∀ s', Swap L (slL s xs e size) (slL s' (xs ++ news) e size) (L' s')) (hk : SlOK s n xs size) (hl : news.length = m * size) (hnews : ∀ j u, news[j]? = some u → w.cell? (ad.add j) = some u) (h1 : news.all (·.oneCell') = true) (h63 : n + m ≤ maxLen) (hby : (n + m) * bytes ≤ 140737488355328)
    (hS : c = 2 → ∀ z ∈ Lr, ∀ k, s.map (·.1) = some k → z.1 ≠ k) (h : ∀ w' s', St w0 F w' (L' s') → SlOK s' (n + m) (xs ++ news) size → (0 < n + m → s' ≠ none) → wpSeq P ops K (Held w0 F Lr) l (a.put o.dst (slV s' (n + m))) w') : wpSeq P ops K (Held w0 F Lr) ((o, c) :: l) a w := by
  obtain ⟨i, z, e1, e2, e3, e4, e5, e6, e7⟩ := appB_spec hB
  obtain ⟨A, B, hA, -⟩ := (hL none).split
  have hown : w.ownsRow 0 e size (slV s n) n xs := ownsRow_of (fun z hz => hM.holds z (by rw [hA]; simp [hz])) hk
  obtain ⟨v', w', hr, ho', hg, -, hat⟩ := run_append_own_at (P := P) w 0 t o.type e i z size bytes e1 e2 e3 e4 e5 e6 e7 (slV s n) n xs hown ad m cap news hl hnews (by simpa using h1) h63 hby (Nat.zero_le _)
  refine St.appendCore2 (v' := v') (w' := w') hM hc hw hL ?_ ho' hg hat hS fun w' s' a1 a2 a3 _ => h w' s' a1 a2 a3
  unfold execOp
  simp only [hx, resolve, invoke, builtin, Sem.run_bind, Sem.run_pure, Result.andThen_ok, List.map_toArray, List.map_cons, List.map_nil, hs, hy, hr]
end
end Go.Proofs.YtcicjklhbnipcaaGreatDoor
namespace Go.Proofs.YtcicjklhbnipcaaGreatDoor
set_option linter.unusedVariables false
set_option linter.unusedSimpArgs false
open Go.RowKit Go.Maps
theorem St.subM {w0 w : World} {F : List Nat} {L L' : List Ent} (h : St w0 F w L) (hs : L'.Sublist L) : St w0 F w L' := h.drop (fun _ hx => hs.subset hx) ((hs.map _).nodup h.nd)
section
variable {P : Program} {K : Act → World → Prop} {a : Act} {w w0 : World} {ops : Array Oper} {l : List (Oper × Nat)} {c : Nat} {o : Oper} {L Lr : List Ent} {b : Nat} {ty kt et : TypeId} {x y : Operand} {S : World → Prop} {m : List (Lit × Value)} {kl : Lit} {key : Value}
theorem map_old (h : Only [] w0 w) (hm : MapAt P kt w0 b m) : (mapR P kt m).holds w.heap[b]? := by
  have := mapR_of (MapAt.on hm (h.block b (MapAt.lt hm) (by simp)))
  exact this
/-- A map of which a fact tells is looked into. -/
theorem St.lookupF (hx : o.op = .lookup ty x y false) (hM : St w0 [] w L) (hc : (c == 2 || c == 3) = true) (hw : Region.wanted o (yielded ops a.tmps) = true) (hev : a.eval x = .map (some b)) (hy : a.eval y = key) (hm : MapAt P kt w0 b m) (hK : Keyed P kt) (ht : P.underlying ty = some (.map kt et)) {zv : Value} (hz : ∀ w, (zeroValue et).run P w = .ok zv w) (hkey : keyOf P kt key = some kl) {v : Value} (hv : lookL m kl zv = v)
    (h : wpSeq P ops K S l (a.put o.dst v) w) : wpSeq P ops K S ((o, c) :: l) a w :=
  wpSeq_yields hc hw (by rw [← hv]; exact run_lookupM hx hev hy (map_old hM.only hm) hK ht hz hkey) h
end
/-- An inode, and where its names lie. -/
abbrev NodV := NodeD × Option (Nat × Nat)
def entC (d : List (ByteArray × Int)) : List Value := d.flatMap fun p => [.string p.1, .int .i64 p.2]
def NodV.cells (z : NodV) : List Value := [.int .i64 z.1.id, .bool z.1.dir, .int .i64 z.1.links, .int .i64 z.1.holds, .string z.1.data, slV z.2 z.1.names.length]
def NodV.ents (z : NodV) : List Ent := slL z.2 (entC z.1.names) 127 2
/-- It answers these inodes, in slices of its own. -/
def SomeNodes (ns : List NodeD) (w : World) (e : Ending) (w' : World) : Prop :=
  ∃ (s : Option (Nat × Nat)) (zs : List NodV), e = .returned (slV s zs.length) ∧ zs.map (·.1) = ns ∧ SlOK s zs.length (zs.flatMap NodV.cells) 6 ∧ (∀ z ∈ zs, SlOK z.2 z.1.names.length (entC z.1.names) 2) ∧
    St w [] w' (slL s (zs.flatMap NodV.cells) 124 6 ++ zs.flatMap NodV.ents)
section
variable {w0 : World} {g mb : Nat} {β : Int → Nat × Nat} {t : TabD}
theorem rowI_of {w w' : World} {base : Nat} {v : Value} {xs : List Int} (h : w'.ownsRow base 3 1 v xs.length (xs.map (Value.int .i64))) (hb : Below w.heap.size w w') (hB : w.heap.size ≤ base) :
    ∃ s, v = slV s xs.length ∧ SlOK s xs.length (xs.map (Value.int .i64)) 1 ∧ St w [] w' (slL s (xs.map (Value.int .i64)) 3 1) := st_of_own h hb hB
set_option maxHeartbeats 8000000 in
set_option maxRecDepth 100000 in
theorem Nodes9_any (h : TblAt w0 g mb β t) (hq : 0 < t.quota) (hid : ∀ n ∈ t.nodes, Fits n.id) (hl : t.nodes.length ≤ 1000000) (hlen : ∀ n ∈ t.nodes, n.names.length ≤ 1000000) (hso : ∀ n ∈ t.nodes, In.nameSorted n.names) :
    Calls Tryz.prog 69 #[.pointer (some ⟨g, 0, none⟩)] w0 (SomeNodes t.nodes w0) := by
  have hM := St.start w0 []
  have hg := Lib.hid (fun (W : World) (hb : Below w0.heap.size w0 W) => given_yes (h.below hb) hq)
  have c3 := (tbl_cells h).2.2.2
  have CK := Lib.hid (fun W : World => keysI_any (some mb) W)
  have CS := Lib.hid (fun (W : World) (hb : Below w0.heap.size w0 W) => sortedI_any W (h.below hb).map (by omega))
  have HT := Lib.hid h
  have HID := Lib.hid hid
  have HLN := Lib.hid hlen
  have HSO := Lib.hid hso
  clear h hq hid hlen hso
  go_enter Tryz.func69, Tryz.ntmps69
  (repeat (first | ((with_reducible show wpSeq _ _ _ _ _ _ _); first | ((with_reducible refine wpSeq_nil ?_); refine hKr.out _ _ ?_; clear hKr Kr) | (((refine St.copy (v := ?_) (by first | exact .inl rfl | exact .inr rfl) rfl rfl ?_ ?_; rotate_left; (focus ((try simp only [Act.eval, getD_lit, qGz, qGs]); with_reducible rfl)))); (try simp only [Act.put, qSa, qSz, qSs]))) | (first | (refine wp_seq_shut (fun K hK => ?_)) | (refine wp_text hM (fun Kr hKr => ?_); simp only [inText]) | ((refine hK.out _ _ ?_); clear hK K))))
  (refine St.call3 rfl rfl (by kernel_rfl) (fun R hR => ?_); simp only [List.map_toArray, List.map_cons, List.map_nil, Act.eval, getD_lit, qGz, qGs])
  refine (hg.out _ hM.to_below).mono ?_
  rintro e w' ⟨rfl, rfl⟩; refine hR.out _ _ ?_; clear hR R; (try simp only [Act.put, qSa, qSz, qSs])
  (repeat (first | ((with_reducible show wpSeq _ _ _ _ _ _ _); first | ((with_reducible refine wpSeq_nil ?_); refine hKr.out _ _ ?_; clear hKr Kr) | ((first | (refine St.copy (v := ?_) (by first | exact .inl rfl | exact .inr rfl) rfl rfl ?_ ?_; rotate_left; (focus ((try simp only [Act.eval, getD_lit, qGz, qGs]); with_reducible rfl))) | (refine St.pure (v := ?_) rfl rfl rfl (fun w => ?_) ?_; rotate_left; (focus (go_simp; all_goals with_reducible rfl))) | refine St.loadF rfl rfl rfl rfl rfl (hM.old (by assumption)) (by kernel_rfl) ?_); (try simp only [Act.put, qSa, qSz, qSs]))) | (first | (refine wp_seq_shut (fun K hK => ?_)) | (refine wp_text hM (fun Kr hKr => ?_); simp only [inText]) | refine wp_skip ?_ | (refine wp_cond_false rfl ?_) | ((refine hK.out _ _ ?_); clear hK K))))
  (refine St.call3 rfl rfl (by kernel_rfl) (fun R hR => ?_); simp only [List.map_toArray, List.map_cons, List.map_nil, Act.eval, getD_lit, qGz, qGs])
  have hbl := hM.to_below
  refine (CK.out _).mono ?_
  rintro e w' ⟨rfl, rfl⟩; refine hR.out _ _ ?_; clear hR R; (try simp only [Act.put, qSa, qSz, qSs])
  (refine St.call3 rfl rfl (by kernel_rfl) (fun R hR => ?_); simp only [List.map_toArray, List.map_cons, List.map_nil, Act.eval, getD_lit, qGz, qGs])
  refine (CS.out _ hbl).mono ?_
  rintro e w' ⟨v, rfl, hrow, hb⟩
  have e1 : (t.nodes.map fun n => Value.int .i64 n.id) = (t.nodes.map (·.id)).map (Value.int .i64) := by rw [List.map_map]; rfl
  have e2 : t.nodes.length = (t.nodes.map (·.id)).length := by simp
  rw [e1, e2] at hrow
  obtain ⟨s1, rfl, hok1, hst⟩ := rowI_of hrow hb (Nat.le_succ _)
  refine hR.out _ _ ?_; clear hR R hM hbl hrow hb e1
  have hM := hst
  clear hst
  obtain ⟨va, vc, hsv, hsa⟩ := slV_open hok1
  rw [hsv]
  rw [← e2] at hsv hok1 ⊢
  have HK1 := Lib.hid hok1
  clear hok1 hsv e2 CS
  (try simp only [Act.put, qSa, qSz, qSs])
  (repeat (first | ((with_reducible show wpSeq _ _ _ _ _ _ _); first | ((with_reducible refine wpSeq_nil ?_); refine hKr.out _ _ ?_; clear hKr Kr) | ((first | (refine St.copy (v := ?_) (by exact .inl rfl) rfl rfl ?_ ?_; rotate_left; (focus ((try simp only [Act.eval, getD_lit, qGz, qGs]); with_reducible rfl))) | (refine St.pure (v := ?_) rfl rfl rfl (fun w => ?_) ?_; rotate_left; (focus (go_simp; all_goals with_reducible rfl)))); (try simp only [Act.put, qSa, qSz, qSs]))) | (first | refine wp_block ?_ | ((refine hK.out _ _ ?_); clear hK K))))
  go_loopw [3, 20] (fun v i wr => ∃ (k : Nat) (s : Option (Nat × Nat)) (zs : List NodV), k ≤ t.nodes.length ∧ i = .int .i64 k ∧ v = slV s zs.length ∧ zs.map (·.1) = t.nodes.take k ∧ SlOK s zs.length (zs.flatMap NodV.cells) 6 ∧ (∀ z ∈ zs, SlOK z.2 z.1.names.length (entC z.1.names) 2) ∧
    St w0 [] wr (slL s1 ((t.nodes.map (·.id)).map (Value.int .i64)) 3 1 ++ (slL s (zs.flatMap NodV.cells) 124 6 ++ zs.flatMap NodV.ents))) (fun _ i _ => t.nodes.length - (intOf i).toNat)
  case atStart => exact ⟨0, none, [], by omega, rfl, rfl, rfl, ⟨rfl, rfl⟩, nofun, by simpa [slL] using hM⟩
  case round =>
    clear hM
    obtain ⟨k, s, zs, hk, rfl, rfl, hzs, hsl, hen, hM⟩ := hrel
    have HZ := Lib.hid hzs
    have HS := Lib.hid hsl
    have HE := Lib.hid hen
    have zl : zs.length ≤ 1000000 := by
      have h1 := congrArg List.length hzs
      rw [List.length_map, List.length_take] at h1
      omega
    clear hzs hsl hen
    by_cases hlt : k < t.nodes.length
    · obtain ⟨n, hn⟩ := get_at hlt
      cases s1 with
      | none => exact absurd HK1.out.2 (by omega)
      | some gc =>
      obtain ⟨g1, cap1⟩ := gc
      obtain ⟨rfl, rfl⟩ := hsa g1 cap1 rfl
      have hnm := List.mem_of_getElem? hn
      have hx' : ((t.nodes.map (·.id)).map (Value.int .i64))[k]? = some (.int .i64 n.id) := by rw [List.getElem?_map, List.getElem?_map, hn]; rfl
      have k1 : (k : Int) < (t.nodes.length : Int) := by omega
      have hA := HT.out.node n hnm
      obtain ⟨d0, d1, d2, d3, d4⟩ := node_cells hA
      have hfit := HID.out n hnm
      have hptr : lookL (nodesL β t.nodes) (.int .i64 n.id) (.pointer none) = .pointer (some ⟨(β n.id).1, 0, none⟩) := by rw [look_nodes, find_of HT.out.ids hnm]
      have HMP := Lib.hid HT.out.map
      have HNM := Lib.hid hA.names
      have HSN := Lib.hid (HSO.out n hnm)
      have hnl := HLN.out n hnm
      have CS2 := Lib.hid (fun (W : World) (hb : Below w0.heap.size w0 W) => sortedS_any W (MapAt.on HNM.out (hb.block _ (MapAt.lt HNM.out))) (by omega))
      have CK2 := Lib.hid (fun W : World => keysS_any (some (β n.id).2) W)
      have HN := Lib.hid hn
      clear hn hlt hnm hA
      change St w0 [] wr ((g1, true, Res.pre ((t.nodes.map (·.id)).map (Value.int .i64)) 3 (vc * 1)) :: (slL s (zs.flatMap NodV.cells) 124 6 ++ zs.flatMap NodV.ents)) at hM
      (repeat (first | ((with_reducible show wpSeq _ _ _ _ _ _ _); first | ((with_reducible refine wpSeq_nil ?_); refine hKr.out _ _ ?_; clear hKr Kr) | ((first | (refine St.copy (v := ?_) (by first | exact .inl rfl | exact .inr rfl) rfl rfl ?_ ?_; rotate_left; (focus ((try simp only [Act.eval, getD_lit, qGz, qGs]); with_reducible rfl))) | (refine St.pure (v := ?_) rfl rfl rfl (fun w => ?_) ?_; rotate_left; (focus (go_simp; all_goals with_reducible rfl))) | refine St.load rfl hM rfl rfl rfl rfl (by repeat constructor) (by assumption) (by kernel_rfl) ?_ | refine St.loadF rfl rfl rfl rfl rfl (hM.old (by assumption)) (by kernel_rfl) ?_); (try simp only [Act.put, qSa, qSz, qSs]))) | (first | (refine wp_seq_shut (fun K hK => ?_)) | (refine wp_text hM (fun Kr hKr => ?_); simp only [inText]) | refine wp_block ?_ | refine wp_skip ?_ | (refine wp_cond_true rfl ?_) | ((refine hK.out _ _ ?_); clear hK K))))
      refine St.lookupF rfl hM rfl rfl rfl rfl HMP.out key_int Tryz.underlying160 zero_ptr (keyOf_int_mk Tryz.underlying3 hfit) hptr ?_
      clear hptr HMP
      (try simp only [Act.put, qSa, qSz, qSs])
      (repeat (first | ((with_reducible show wpSeq _ _ _ _ _ _ _); first | ((with_reducible refine wpSeq_nil ?_); refine hKr.out _ _ ?_; clear hKr Kr) | ((first | (refine St.copy (v := ?_) (by first | exact .inl rfl | exact .inr rfl) rfl rfl ?_ ?_; rotate_left; (focus ((try simp only [Act.eval, getD_lit, qGz, qGs]); with_reducible rfl))) | (refine St.pure (v := ?_) rfl rfl rfl (fun w => ?_) ?_; rotate_left; (focus (go_simp; all_goals with_reducible rfl))) | refine St.loadF rfl rfl rfl rfl rfl (hM.old (by assumption)) (by kernel_rfl) ?_ | refine St.loadF1 rfl rfl rfl rfl (fun w' hS => hS.old (by assumption)) (by kernel_rfl) ?_ | ((((refine St.storeRow rfl hM rfl rfl rfl rfl rfl (by repeat constructor) (Nat.le_of_ble_eq_true rfl) (Nat.le_of_ble_eq_true rfl) (by kernel_rfl) rfl ?_ ?_); (focus ((intro h; cases h; done))); clear hM; intro w hM)); (try simp only [Res.put, Res.known, Act.eval, Value.cells, getD_lit, qGz, qGs, List.toList_toArray, qSz, qSs, over, Nat.reduceAdd] at hM))); (try simp only [Act.put, qSa, qSz, qSs])) | (((refine St.alloc (ty := 124) (z := .agg #[.int .i64 0, .bool false, .int .i64 0, .int .i64 0, .string ⟨#[]⟩, .slice none 0 0]) rfl hM rfl rfl (by kernel_rfl) ?_); clear hM; intro w bk hM); (try simp only [Res.put, Res.known, Act.eval, Value.cells, getD_lit, qGz, qGs, List.toList_toArray, qSz, qSs, over, Nat.reduceAdd] at hM); (try simp only [Act.put, qSa, qSz, qSs]))) | (first | (refine wp_seq_shut (fun K hK => ?_)) | (refine wp_text hM (fun Kr hKr => ?_); simp only [inText]) | ((refine hK.out _ _ ?_); clear hK K)) | ((refine wp_drawn (id := 8) hM (Sub.all _) [4, 8, 12, 16] [(0, 0), (1, 0), (2, 0), (3, 0), (4, 1), (5, 0), (6, 0), (7, 0), (8, 1), (9, 0), (10, 0), (11, 0), (12, 1), (13, 0), (14, 0), (15, 0), (16, 1), (17, 0), (18, 2), (19, 3)] (by kernel_rfl) (by kernel_rfl) ?_); (clear hM; intro w hM Kr hKr); simp only [opsOf, qGz, qGs])))
      (refine St.call3 rfl rfl (by kernel_rfl) (fun R hR => ?_); simp only [List.map_toArray, List.map_cons, List.map_nil, Act.eval, getD_lit, qGz, qGs])
      have hbl := hM.to_below
      have hMw := hM
      refine (CK2.out _).mono ?_
      rintro e w' ⟨rfl, rfl⟩; refine hR.out _ _ ?_; clear hR R; (try simp only [Act.put, qSa, qSz, qSs])
      (repeat (fail))
      (refine St.call3 rfl rfl (by kernel_rfl) (fun R hR => ?_); simp only [List.map_toArray, List.map_cons, List.map_nil, Act.eval, getD_lit, qGz, qGs])
      refine (CS2.out _ hbl).mono ?_
      rintro e w' ⟨v, rfl, hrow, hb⟩
      have e1 : (n.names.map fun p => Value.string p.1) = (n.names.map Prod.fst).map Value.string := by rw [List.map_map]; rfl
      have e2 : n.names.length = (n.names.map Prod.fst).length := by simp
      rw [e1, e2] at hrow
      obtain ⟨s2, rfl, hok2, hst⟩ := st_of_own hrow hb (Nat.le_succ _)
      refine hR.out _ _ ?_; clear hR R hM hbl hrow hb e1
      have hM := hMw.madeM hst (txL_flag s2 (n.names.map Prod.fst))
      clear hst hMw
      obtain ⟨vb, vd, hsv2, hsb⟩ := slV_open hok2
      rw [hsv2]
      rw [← e2] at hsv2 hok2 ⊢
      have HK2 := Lib.hid hok2
      clear hok2 hsv2 e2 CS2 CK2
      (try simp only [Act.put, qSa, qSz, qSs])
      (repeat (first | ((with_reducible show wpSeq _ _ _ _ _ _ _); first | ((with_reducible refine wpSeq_nil ?_); refine hKr.out _ _ ?_; clear hKr Kr) | ((first | (refine St.copy (v := ?_) (by exact .inl rfl) rfl rfl ?_ ?_; rotate_left; (focus ((try simp only [Act.eval, getD_lit, qGz, qGs]); with_reducible rfl))) | (refine St.pure (v := ?_) rfl rfl rfl (fun w => ?_) ?_; rotate_left; (focus (go_simp; all_goals with_reducible rfl)))); (try simp only [Act.put, qSa, qSz, qSs]))) | (first | refine wp_block ?_ | ((refine hK.out _ _ ?_); clear hK K))))
      generalize bk = nb at *
      go_loopw [55] (fun i wr2 => ∃ (j : Nat) (s3 : Option (Nat × Nat)), j ≤ n.names.length ∧ i = .int .i64 j ∧ SlOK s3 j (entC (n.names.take j)) 2 ∧
        St w0 [] wr2 (txL s2 (n.names.map Prod.fst) ++ ((nb, true, .cells [.int .i64 n.id, .bool n.dir, .int .i64 n.links, .int .i64 n.holds, .string n.data, slV s3 j] 124) :: (slL s3 (entC (n.names.take j)) 127 2 ++
          ((g1, true, Res.pre ((t.nodes.map (·.id)).map (Value.int .i64)) 3 (vc * 1)) :: (slL s (zs.flatMap NodV.cells) 124 6 ++ zs.flatMap NodV.ents)))))) (fun i _ => n.names.length - (intOf i).toNat)
      case atStart => exact ⟨0, none, by omega, rfl, ⟨rfl, rfl⟩, hM⟩
      case round =>
        clear hM
        obtain ⟨j, s3, hj, rfl, hok3, hM⟩ := hrel
        have HK3 := Lib.hid hok3
        clear hok3
        by_cases hlt : j < n.names.length
        · obtain ⟨p, hp⟩ := get_at hlt
          obtain ⟨nm, idv⟩ := p
          cases s2 with
          | none => exact absurd HK2.out.2 (by omega)
          | some gc =>
          obtain ⟨g2, cap2⟩ := gc
          obtain ⟨rfl, rfl⟩ := hsb g2 cap2 rfl
          have hpm := List.mem_of_getElem? hp
          have hx2 : ((n.names.map Prod.fst).map Value.string)[j]? = some (.string nm) := by rw [List.getElem?_map, List.getElem?_map, hp]; rfl
          have j1 : (j : Int) < (n.names.length : Int) := by omega
          have hks := keys_small HNM.out (nm, idv) hpm
          have hlk : lookL (namesL n.names) (.string nm.data.toList) (.int .i64 0) = .int .i64 idv := by rw [look_names, In.leads_at HSN.out hpm]
          have hen : entC (n.names.take j) ++ [.string nm, .int .i64 idv] = entC (n.names.take (j + 1)) := by
            unfold entC
            rw [List.take_add_one, hp, Option.toList_some, List.flatMap_append]
            rfl
          clear hp hpm hlt
          change St w0 [] _ ((g2, true, Res.pre ((n.names.map Prod.fst).map Value.string) 9 (vd * 1)) :: (nb, true, _) :: (slL s3 (entC (n.names.take j)) 127 2 ++ _)) at hM
          (repeat (first | ((with_reducible show wpSeq _ _ _ _ _ _ _); first | ((with_reducible refine wpSeq_nil ?_); refine hKr.out _ _ ?_; clear hKr Kr) | ((first | (refine St.copy (v := ?_) (by first | exact .inl rfl | exact .inr rfl) rfl rfl ?_ ?_; rotate_left; (focus ((try simp only [Act.eval, getD_lit, qGz, qGs]); with_reducible rfl))) | (refine St.pure (v := ?_) rfl rfl rfl (fun w => ?_) ?_; rotate_left; (focus (go_simp; all_goals with_reducible rfl))) | refine St.load rfl hM rfl rfl rfl rfl (by repeat constructor) (by first | rfl | assumption) (by kernel_rfl) ?_ | refine St.load1 rfl rfl rfl rfl (by repeat constructor) (by rfl) (by kernel_rfl) ?_ | refine St.loadF1 rfl rfl rfl rfl (fun w' hS => hS.old (by assumption)) (by kernel_rfl) ?_); (try simp only [Act.put, qSa, qSz, qSs]))) | (first | (refine wp_seq_shut (fun K hK => ?_)) | (refine wp_text hM (fun Kr hKr => ?_); simp only [inText]) | refine wp_block ?_ | refine wp_skip ?_ | (refine wp_cond_true rfl ?_) | ((refine hK.out _ _ ?_); clear hK K)) | ((refine wp_drawn (id := 12) hM (Sub.skip (Sub.take Sub.nil)) [1, 6] [(0, 0), (1, 1), (2, 0), (3, 0), (4, 0), (5, 0), (6, 1), (7, 2), (8, 2), (9, 2), (10, 2), (11, 2), (12, 3), (13, 3)] (by kernel_rfl) (by kernel_rfl) ?_); (clear hM; intro w hM Kr hKr); simp only [opsOf, qGz, qGs])))
          (refine St.lookupF rfl hM rfl rfl rfl rfl HNM.out key_str Tryz.underlying164 zero_int (WideMaps.keyOf_string_mk Tryz.underlying9 hks) hlk ?_)
          (try simp only [Act.put, qSa, qSz, qSs])
          (repeat (((with_reducible show wpSeq _ _ _ _ _ _ _); ((first | (refine St.pure (v := ?_) rfl rfl rfl (fun w => ?_) ?_; rotate_left; (focus (go_simp; all_goals with_reducible rfl))) | (((((refine St.buildSlice (cells := ?_) (e := ?_) rfl hM rfl rfl (fun w => ?_) ?_; rotate_left 2; (focus (go_simp; all_goals with_reducible rfl)))); clear hM; intro w bk hM)); (try simp only [Res.put, Res.known, Act.eval, Value.cells, getD_lit, qGz, qGs, List.toList_toArray, qSz, qSs, over, Nat.reduceAdd] at hM))); (try simp only [Act.put, qSa, qSz, qSs])))))
          have hap : ∀ k', s3.map (·.1) = some k' → nb ≠ k' := fun k' hk' e => by
            cases s3 with
            | none => cases hk'
            | some gg =>
              have hnd := hM.nd
              simp only [slL, List.map_cons, List.map_append, List.nodup_cons, List.mem_cons, List.mem_append, List.map_nil, List.not_mem_nil, or_false, not_or] at hnd
              have : gg.1 = k' := by simpa using hk'
              omega
          refine St.append2 (s := s3) (n := j) (xs := entC (n.names.take j)) rfl hM rfl rfl rfl rfl rfl (by kernel_rfl) (by intro s'; repeat (first | exact Swap.here | apply Swap.skip)) HK3.out rfl (hM.news (by repeat constructor)) rfl (by rw [maxLen_val]; omega) (by omega) (fun _ z hz => by rcases List.mem_singleton.1 hz with rfl; exact hap) ?_
          clear hM hap; intro w s4 hM hk4 hs4
          simp only [Res.known] at hM hk4
          rw [hen] at hM hk4
          cases s4 with
          | none => exact absurd rfl (hs4 (Nat.succ_pos _))
          | some gc4 =>
          obtain ⟨g4, cap4⟩ := gc4
          have HK4 := Lib.hid hk4
          replace hM := hM.forget
          clear hs4 hk4 hlk hen
          (try simp only [Act.put, qSa, qSz, qSs])
          (repeat (first | ((with_reducible show wpSeq _ _ _ _ _ _ _); first | ((with_reducible refine wpSeq_nil ?_); refine hKr.out _ _ ?_; clear hKr Kr) | ((first | (refine St.copy (v := ?_) (by exact .inl rfl) rfl rfl ?_ ?_; rotate_left; (focus ((try simp only [Act.eval, getD_lit, qGz, qGs]); with_reducible rfl))) | refine St.inc rfl rfl rfl rfl rfl (by omega) ?_ | (refine St.pure (v := ?_) rfl rfl rfl (fun w => ?_) ?_; rotate_left; (focus (go_simp; all_goals with_reducible rfl))) | ((((refine St.store rfl hM rfl rfl rfl rfl rfl (by repeat constructor) (Nat.le_of_ble_eq_true rfl) (by kernel_rfl) rfl ?_ ?_); (focus ((intro h; cases h; done))); clear hM; intro w hM)); (try simp only [Res.put, Res.known, Act.eval, Value.cells, getD_lit, qGz, qGs, List.toList_toArray, qSz, qSs, over, Nat.reduceAdd] at hM))); (try simp only [Act.put, qSa, qSz, qSs]))) | (first | (refine wp_text hM (fun Kr hKr => ?_); simp only [inText]) | ((refine hK.out _ _ ?_); clear hK K))))
          (refine ⟨?_, ?_⟩; (focus (repeat (first | exact ⟨⟨j + 1, some (g4, cap4), by omega, rfl, HK4.out, hM⟩, rfl⟩ | apply Exists.intro))); (simp only [getD_lit, qGz, qGs, intOf]; omega))
        · have k0 : ¬ ((j : Int) < (n.names.length : Int)) := by omega
          obtain rfl : j = n.names.length := by omega
          clear hlt hj
          rw [List.take_length] at hM HK3
          replace hM := hM.subM (List.sublist_append_right _ _)
          obtain ⟨v3, c3', hsv3, -⟩ := slV_open HK3.out
          rw [hsv3] at hM
          have HV3 := Lib.hid hsv3
          clear hsv3
          (repeat (first | ((with_reducible show wpSeq _ _ _ _ _ _ _); first | ((with_reducible refine wpSeq_nil ?_); refine hKr.out _ _ ?_; clear hKr Kr) | ((first | (refine St.copy (v := ?_) (by exact .inl rfl) rfl rfl ?_ ?_; rotate_left; (focus ((try simp only [Act.eval, getD_lit, qGz, qGs]); with_reducible rfl))) | (refine St.pure (v := ?_) rfl rfl rfl (fun w => ?_) ?_; rotate_left; (focus (go_simp; all_goals with_reducible rfl))) | ((refine St.loadRow rfl hM rfl rfl rfl rfl (by repeat constructor) (Nat.le_of_ble_eq_true rfl) (by kernel_rfl) ?_); (try simp only [Res.known, List.drop_succ_cons, List.drop_zero, List.take_succ_cons, List.take_zero])) | (((((refine St.buildSlice (cells := ?_) (e := ?_) rfl hM rfl rfl (fun w => ?_) ?_; rotate_left 2; (focus (go_simp; all_goals with_reducible rfl)))); clear hM; intro w bk hM)); (try simp only [Res.put, Res.known, Act.eval, Value.cells, getD_lit, qGz, qGs, List.toList_toArray, qSz, qSs, over, Nat.reduceAdd] at hM))); (try simp only [Act.put, qSa, qSz, qSs]))) | (first | (refine wp_seq_shut (fun K hK => ?_)) | (refine wp_text hM (fun Kr hKr => ?_); simp only [inText]) | (refine wp_cond_false rfl ?_) | (refine wp_exit ?_; simp only [Exit.then, Exit.inBlock, if_true, if_false, reduceCtorEq, Nat.reduceEqDiff, Nat.succ_ne_zero]) | ((first | refine hK.out _ _ ?_ | (clear hK K; refine hK.out _ _ ?_)); clear hK K))))
          refine St.append (s := s) (n := zs.length) (xs := zs.flatMap NodV.cells) rfl hM rfl rfl rfl rfl rfl (by kernel_rfl) (by intro s'; repeat (first | exact Swap.here | apply Swap.skip | apply Swap.past)) HS.out rfl (hM.news (by repeat constructor)) rfl (by rw [maxLen_val]; omega) (by omega) (fun _ => .inl rfl) ?_
          clear hM; intro w s' hM hk' hs'
          simp only [Res.known] at hM hk'
          let z : NodV := (n, s3)
          have hfl : zs.flatMap NodV.cells ++ [.int .i64 n.id, .bool n.dir, .int .i64 n.links, .int .i64 n.holds, .string n.data, .slice v3 n.names.length c3'] = (zs ++ [z]).flatMap NodV.cells := by
            rw [← HV3.out]
            simp [z, List.flatMap_append, NodV.cells]
          have hle : zs.length + 1 = (zs ++ [z]).length := by simp
          have hee : (zs ++ [z]).flatMap NodV.ents = zs.flatMap NodV.ents ++ slL s3 (entC n.names) 127 2 := by simp [z, List.flatMap_append, NodV.ents]
          rw [hfl] at hM hk'
          replace hM := (hM.forget.forget).perm (L' := (g1, true, Res.pre ((t.nodes.map (·.id)).map (Value.int .i64)) 3 (vc * 1)) :: (slL s' ((zs ++ [z]).flatMap NodV.cells) 124 6 ++ (zs ++ [z]).flatMap NodV.ents)) (by
            rw [hee]
            refine List.perm_append_comm.trans ?_
            simp only [List.cons_append, List.append_assoc]
            exact List.Perm.refl _)
          rw [hle] at hk' ⊢
          have HS' := Lib.hid hk'
          have hz' : (zs ++ [z]).map (·.1) = t.nodes.take (k + 1) := by
            rw [List.take_add_one, HN.out, List.map_append, HZ.out]
            rfl
          have hn' : ∀ y ∈ zs ++ [z], SlOK y.2 y.1.names.length (entC y.1.names) 2 := fun y hy => by
            rcases List.mem_append.1 hy with hy | hy
            · exact HE.out y hy
            · rcases List.mem_singleton.1 hy with rfl
              exact HK3.out
          generalize zs ++ [z] = zs' at *
          clear hk' hs' hfl hle hee
          (try simp only [Act.put, qSa, qSz, qSs])
          (repeat (first | ((with_reducible show wpSeq _ _ _ _ _ _ _); first | ((with_reducible refine wpSeq_nil ?_); refine hKr.out _ _ ?_; clear hKr Kr) | ((first | (refine St.copy (v := ?_) (by first | exact .inl rfl | exact .inr rfl) rfl rfl ?_ ?_; rotate_left; (focus ((try simp only [Act.eval, getD_lit, qGz, qGs]); with_reducible rfl))) | refine St.inc rfl rfl rfl rfl rfl (by omega) ?_); (try simp only [Act.put, qSa, qSz, qSs]))) | (first | (refine wp_text hM (fun Kr hKr => ?_); simp only [inText]) | ((refine hK.out _ _ ?_); clear hK K))))
          (refine ⟨?_, ?_⟩; (focus (repeat (first | exact ⟨⟨k + 1, s', zs', by omega, rfl, rfl, hz', HS'.out, hn', hM⟩, rfl⟩ | apply Exists.intro))); (simp only [getD_lit, qGz, qGs, intOf]; omega))
    · have k0 : ¬ ((k : Int) < (t.nodes.length : Int)) := by omega
      obtain rfl : k = t.nodes.length := by omega
      clear hlt hk
      (repeat (first | ((with_reducible show wpSeq _ _ _ _ _ _ _); first | ((with_reducible refine wpSeq_nil ?_); refine hKr.out _ _ ?_; clear hKr Kr) | ((first | (refine St.copy (v := ?_) (by first | exact .inl rfl | exact .inr rfl) rfl rfl ?_ ?_; rotate_left; (focus ((try simp only [Act.eval, getD_lit, qGz, qGs]); with_reducible rfl))) | (refine St.pure (v := ?_) rfl rfl rfl (fun w => ?_) ?_; rotate_left; (focus (go_simp; all_goals with_reducible rfl)))); (try simp only [Act.put, qSa, qSz, qSs]))) | (first | (refine wp_seq_shut (fun K hK => ?_)) | (refine wp_text hM (fun Kr hKr => ?_); simp only [inText]) | (refine wp_cond_false rfl ?_) | (refine wp_exit ?_; simp only [Exit.then, Exit.inBlock, if_true, if_false, reduceCtorEq, Nat.reduceEqDiff, Nat.succ_ne_zero]) | ((first | refine hK.out _ _ ?_ | (clear hK K; refine hK.out _ _ ?_)); clear hK K))))
      ((refine wp_ret ?_; (try simp only [Exit.then, Exit.inBlock]); refine St.ret hM rfl (by repeat (first | exact Outs.nil | apply Outs.tmp rfl)) rfl ?_))
      have e := HZ.out
      rw [List.take_length] at e
      refine ⟨s, zs, rfl, e, HS.out, HE.out, ?_⟩
      exact hM.subM (List.sublist_append_right _ _)
end
end Go.Proofs.YtcicjklhbnipcaaGreatDoor
namespace Go.Proofs.YtcicjklhbnipcaaGreatDoor
set_option linter.unusedVariables false
set_option linter.unusedSimpArgs false
open Go.RowKit Go.Maps
namespace Pt
def join (d n : ByteArray) : ByteArray := if d.data.toList = [] ∨ n.data.toList = [] then d ++ n else d ++ slash ++ n
end Pt
set_option maxHeartbeats 4000000 in
set_option maxRecDepth 100000 in
theorem Join_any (d n : ByteArray) (w : World) (hd : d.size ≤ 4611686018427387904) (hn : n.size ≤ 1000000) : Calls Tryz.prog 71 #[.string d, .string n] w fun e w' => e = .returned (.string (Pt.join d n)) ∧ w = w' := by
  have hM := St.start w []
  by_cases h1 : d.data.toList = []
  · have q1 := beqs_yes h1
    have e : Pt.join d n = d ++ n := if_pos (.inl h1)
    rw [e]
    clear h1 e
    go_enter Tryz.func71, Tryz.ntmps71
    (repeat (first | ((with_reducible show wpSeq _ _ _ _ _ _ _); first | ((with_reducible refine wpSeq_nil ?_); refine hKr.out _ _ ?_; clear hKr Kr) | ((first | (refine St.copy (v := ?_) (by first | exact .inl rfl | exact .inr rfl) rfl rfl ?_ ?_; rotate_left; (focus ((try simp only [Act.eval, getD_lit, qGz, qGs]); with_reducible rfl))) | refine St.cat rfl rfl rfl rfl rfl (by omega) ?_ | (refine St.pure (v := ?_) rfl rfl rfl (fun w => ?_) ?_; rotate_left; (focus (go_simp; all_goals with_reducible rfl))) | refine wpSeq_off rfl rfl ?_); (try simp only [Act.put, qSa, qSz, qSs]))) | (first | (refine wp_seq_shut (fun K hK => ?_)) | (refine wp_text hM (fun Kr hKr => ?_); simp only [inText]) | (refine wp_cond_true rfl ?_) | ((refine hK.out _ _ ?_); clear hK K))))
    (refine wp_ret ?_; (try simp only [Exit.then, Exit.inBlock]); refine St.ret hM rfl (by repeat (first | exact Outs.nil | apply Outs.tmp rfl)) rfl ?_)
    exact ⟨rfl, rfl⟩
  · have q1 := beqs_no h1
    by_cases h2 : n.data.toList = []
    · have q2 := beqs_yes h2
      have e : Pt.join d n = d ++ n := if_pos (.inr h2)
      rw [e]
      clear h1 h2 e
      go_enter Tryz.func71, Tryz.ntmps71
      (repeat (first | ((with_reducible show wpSeq _ _ _ _ _ _ _); first | ((with_reducible refine wpSeq_nil ?_); refine hKr.out _ _ ?_; clear hKr Kr) | ((first | (refine St.copy (v := ?_) (by first | exact .inl rfl | exact .inr rfl) rfl rfl ?_ ?_; rotate_left; (focus ((try simp only [Act.eval, getD_lit, qGz, qGs]); with_reducible rfl))) | refine St.cat rfl rfl rfl rfl rfl (by omega) ?_ | (refine St.pure (v := ?_) rfl rfl rfl (fun w => ?_) ?_; rotate_left; (focus (go_simp; all_goals with_reducible rfl)))); (try simp only [Act.put, qSa, qSz, qSs]))) | (first | (refine wp_seq_shut (fun K hK => ?_)) | (refine wp_text hM (fun Kr hKr => ?_); simp only [inText]) | (refine wp_cond_true rfl ?_) | ((refine hK.out _ _ ?_); clear hK K))))
      (refine wp_ret ?_; (try simp only [Exit.then, Exit.inBlock]); refine St.ret hM rfl (by repeat (first | exact Outs.nil | apply Outs.tmp rfl)) rfl ?_)
      exact ⟨rfl, rfl⟩
    · have q2 := beqs_no h2
      have e : Pt.join d n = d ++ Pt.slash ++ n := if_neg (fun h => h.elim h1 h2)
      rw [e]
      clear h1 h2 e
      go_enter Tryz.func71, Tryz.ntmps71
      (repeat (first | ((with_reducible show wpSeq _ _ _ _ _ _ _); first | ((with_reducible refine wpSeq_nil ?_); refine hKr.out _ _ ?_; clear hKr Kr) | ((first | (refine St.copy (v := ?_) (by first | exact .inl rfl | exact .inr rfl) rfl rfl ?_ ?_; rotate_left; (focus ((try simp only [Act.eval, getD_lit, qGz, qGs]); with_reducible rfl))) | refine St.cat rfl rfl rfl rfl rfl (by (simp only [ByteArray.size_append, ba_size, List.size_toArray, List.length_cons, List.length_nil, Nat.reduceAdd]; omega)) ?_ | (refine St.pure (v := ?_) rfl rfl rfl (fun w => ?_) ?_; rotate_left; (focus (go_simp; all_goals with_reducible rfl)))); (try simp only [Act.put, qSa, qSz, qSs]))) | (first | (refine wp_seq_shut (fun K hK => ?_)) | (refine wp_text hM (fun Kr hKr => ?_); simp only [inText]) | refine wp_skip ?_ | (refine wp_cond_false rfl ?_) | ((refine hK.out _ _ ?_); clear hK K))))
      (refine wp_ret ?_; (try simp only [Exit.then, Exit.inBlock]); refine St.ret hM rfl (by repeat (first | exact Outs.nil | apply Outs.tmp rfl)) rfl ?_)
      exact ⟨rfl, rfl⟩
/-- A struct's field of one cell: where it lies. -/
def fldB (P : Program) (t : TypeId) (i off : Nat) : Bool := match P.underlying t with | some (.struct fs) => (match fs[i]? with | some f => f.offset == off && oneB P f.type | none => false) | _ => false
section
variable {P : Program} {K : Act → World → Prop} {a : Act} {w : World} {ops : Array Oper} {l : List (Oper × Nat)} {c : Nat} {o : Oper} {ty : TypeId} {x : Operand} {S : World → Prop} {i off : Nat}
theorem run_field1 (w : World) (hx : o.op = .field ty x i) {cs : Array Value} (e1 : a.eval x = .agg cs) (hB : fldB P ty i off = true) {v : Value} (hv : cs[off]? = some v) : (execOp a.eval o).run P w = .ok (.value v) w := by
  unfold fldB at hB
  split at hB
  · rename_i fs hu
    split at hB
    · rename_i f hf
      simp only [Bool.and_eq_true, beq_iff_eq] at hB
      obtain ⟨rfl, hB⟩ := hB
      obtain ⟨d, u1, u2, u3⟩ := oneB_spec hB
      have hagg : (isAgg f.type).run P w = .ok false w := by
        unfold isAgg
        rw [Sem.run_bind, run_underlying u1 w]
        cases d <;> simp_all
      have hr : (Instr.field ty (.agg cs) i).run P w = .ok v w := by
        unfold Instr.field
        simp only [Sem.run_bind, Sem.run_pure, Result.andThen_ok, run_underlying hu w, hf, asAgg, part, hagg, Bool.false_eq_true, if_false, hv]
      unfold execOp
      simp only [hx, e1, Sem.run_bind, hr, Result.andThen_ok, Sem.run_pure]
    · cases hB
  · cases hB
theorem St.field (hx : o.op = .field ty x i) (hc : (c == 0 || c == 2 || c == 3) = true) (hw : Region.wanted o (yielded ops a.tmps) = true) {cs : Array Value} (e1 : a.eval x = .agg cs) (hB : fldB P ty i off = true) {v : Value} (hv : cs[off]? = some v) (h : wpSeq P ops K S l (a.put o.dst v) w) : wpSeq P ops K S ((o, c) :: l) a w :=
  St.soft hc hw (fun w => run_field1 w hx e1 hB hv) h
end
def zN : Value := .agg #[.int .i64 0, .bool false, .int .i64 0, .int .i64 0, .string ⟨#[]⟩, .slice none 0 0]
theorem zero_node (w : World) : (zeroValue 124).run Tryz.prog w = .ok zN w := by kernel_rfl
end Go.Proofs.YtcicjklhbnipcaaGreatDoor
namespace Go.Proofs.YtcicjklhbnipcaaGreatDoor
set_option linter.unusedVariables false
set_option linter.unusedSimpArgs false
open Go.RowKit Go.Maps
variable {N : Nat} {w : World} {x : FsX} {β : Int → Nat × Nat}
/-- Some entries alone. -/
inductive Pick : List Ent → List Ent → Prop where
  | nil {L : List Ent} : Pick [] L
  | cons {x : Ent} {L L' M : List Ent} (h : Del L x L') (t : Pick M L') : Pick (x :: M) L
theorem Pick.spec {M L : List Ent} (h : Pick M L) (hnd : (L.map (·.1)).Nodup) : (∀ x ∈ M, x ∈ L) ∧ (M.map (·.1)).Nodup := by
  induction h with
  | nil => exact ⟨nofun, List.nodup_nil⟩
  | @cons x L L' M hd _ ih =>
    obtain ⟨h1, h2, h3⟩ := hd.mem
    obtain ⟨g1, g2⟩ := h3 hnd
    obtain ⟨i1, i2⟩ := ih g1
    refine ⟨fun z hz => ?_, ?_⟩
    · rcases List.mem_cons.1 hz with rfl | hz
      · exact h1
      · exact h2 _ (i1 z hz)
    · simp only [List.map_cons, List.nodup_cons]
      refine ⟨fun hm => ?_, i2⟩
      obtain ⟨u, hu, e⟩ := List.mem_map.1 hm
      exact g2 _ (i1 u hu) e
theorem St.pick {w0 : World} {F : List Nat} {L M : List Ent} (h : St w0 F w L) (hp : Pick M L) : St w0 F w M := h.drop (hp.spec h.nd).1 (hp.spec h.nd).2
end Go.Proofs.YtcicjklhbnipcaaGreatDoor
namespace Go.Proofs.YtcicjklhbnipcaaGreatDoor
set_option linter.unusedVariables false
set_option linter.unusedSimpArgs false
open Go.ChangeShapes Go.WideShapes Go.RowKit

theorem len9 {cs : List Value} (h : cs.length = 9) : ∃ c0 c1 c2 c3 c4 c5 c6 c7 c8, cs = [c0, c1, c2, c3, c4, c5, c6, c7, c8] := by
  match cs, h with
  | [c0, c1, c2, c3, c4, c5, c6, c7, c8], _ => exact ⟨c0, c1, c2, c3, c4, c5, c6, c7, c8, rfl⟩
theorem len11 {cs : List Value} (h : cs.length = 11) : ∃ c0 c1 c2 c3 c4 c5 c6 c7 c8 c9 c10, cs = [c0, c1, c2, c3, c4, c5, c6, c7, c8, c9, c10] := by
  match cs, h with
  | [c0, c1, c2, c3, c4, c5, c6, c7, c8, c9, c10], _ => exact ⟨c0, c1, c2, c3, c4, c5, c6, c7, c8, c9, c10, rfl⟩
/-- What every operation's numbers and texts are. -/
structure OpD.Fit (o : OpD) : Prop where
  kind : Fits o.kind
  h : Fits o.h
  at_ : Fits o.at_
  n : Fits o.n
  path : o.path.size ≤ maxLen
  dest : o.dest.size ≤ maxLen
  data : o.data.size ≤ maxLen
  pid : Fits o.pid
  birth : Fits o.birth
structure ActF where
  owner : Int
  exit : Bool
  op : OpD
def ActF.cells (a : ActF) : List Value := .int .i64 a.owner :: .bool a.exit :: a.op.cells
structure ActF.Fit (a : ActF) : Prop where
  owner : Fits a.owner
  op : a.op.Fit
def ROp9 : Rep OpD := fun _ _ cs x => cs = x.cells ∧ x.Fit
def RActF : Rep ActF := fun _ _ cs x => cs = x.cells ∧ x.Fit
theorem opens_named_str : Opens Tryz.prog 9 RStr := opens_str Tryz.underlying9
theorem opens_named_int : Opens Tryz.prog 3 (RInt .i64) := opens_int Tryz.underlying3
theorem opens_named_bool : Opens Tryz.prog 4 RBool := opens_bool Tryz.underlying4
theorem cells_op9 : Tryz.prog.cellsOf 34 = 9 := by kernel_rfl
theorem opens_op9 : Opens Tryz.prog 34 ROp9 := ⟨by
  intro H enc w sp held k B cs y h hp
  obtain ⟨hl, hf⟩ := opens_fields Tryz.underlying34 h hp
  rw [cells_op9] at hl
  obtain ⟨c0, c1, c2, c3, c4, c5, c6, c7, c8, rfl⟩ := len9 hl
  obtain ⟨x0, h0⟩ := hf 0 _ rfl opens_named_int
  replace h0 : (RInt .i64) w B (([c0, c1, c2, c3, c4, c5, c6, c7, c8].drop 0).take (Tryz.prog.cellsOf 3)) x0 := h0
  rw [show Tryz.prog.cellsOf 3 = 1 from by kernel_rfl] at h0
  replace h0 : (RInt .i64) w B [c0] x0 := h0
  obtain ⟨x1, h1⟩ := hf 1 _ rfl opens_named_str
  replace h1 : RStr w B (([c0, c1, c2, c3, c4, c5, c6, c7, c8].drop 1).take (Tryz.prog.cellsOf 9)) x1 := h1
  rw [show Tryz.prog.cellsOf 9 = 1 from by kernel_rfl] at h1
  replace h1 : RStr w B [c1] x1 := h1
  obtain ⟨x2, h2⟩ := hf 2 _ rfl opens_named_str
  replace h2 : RStr w B (([c0, c1, c2, c3, c4, c5, c6, c7, c8].drop 2).take (Tryz.prog.cellsOf 9)) x2 := h2
  rw [show Tryz.prog.cellsOf 9 = 1 from by kernel_rfl] at h2
  replace h2 : RStr w B [c2] x2 := h2
  obtain ⟨x3, h3⟩ := hf 3 _ rfl opens_named_int
  replace h3 : (RInt .i64) w B (([c0, c1, c2, c3, c4, c5, c6, c7, c8].drop 3).take (Tryz.prog.cellsOf 3)) x3 := h3
  rw [show Tryz.prog.cellsOf 3 = 1 from by kernel_rfl] at h3
  replace h3 : (RInt .i64) w B [c3] x3 := h3
  obtain ⟨x4, h4⟩ := hf 4 _ rfl opens_named_int
  replace h4 : (RInt .i64) w B (([c0, c1, c2, c3, c4, c5, c6, c7, c8].drop 4).take (Tryz.prog.cellsOf 3)) x4 := h4
  rw [show Tryz.prog.cellsOf 3 = 1 from by kernel_rfl] at h4
  replace h4 : (RInt .i64) w B [c4] x4 := h4
  obtain ⟨x5, h5⟩ := hf 5 _ rfl opens_named_int
  replace h5 : (RInt .i64) w B (([c0, c1, c2, c3, c4, c5, c6, c7, c8].drop 5).take (Tryz.prog.cellsOf 3)) x5 := h5
  rw [show Tryz.prog.cellsOf 3 = 1 from by kernel_rfl] at h5
  replace h5 : (RInt .i64) w B [c5] x5 := h5
  obtain ⟨x6, h6⟩ := hf 6 _ rfl opens_named_str
  replace h6 : RStr w B (([c0, c1, c2, c3, c4, c5, c6, c7, c8].drop 6).take (Tryz.prog.cellsOf 9)) x6 := h6
  rw [show Tryz.prog.cellsOf 9 = 1 from by kernel_rfl] at h6
  replace h6 : RStr w B [c6] x6 := h6
  obtain ⟨x7, h7⟩ := hf 7 _ rfl opens_named_int
  replace h7 : (RInt .i64) w B (([c0, c1, c2, c3, c4, c5, c6, c7, c8].drop 7).take (Tryz.prog.cellsOf 3)) x7 := h7
  rw [show Tryz.prog.cellsOf 3 = 1 from by kernel_rfl] at h7
  replace h7 : (RInt .i64) w B [c7] x7 := h7
  obtain ⟨x8, h8⟩ := hf 8 _ rfl opens_named_int
  replace h8 : (RInt .i64) w B (([c0, c1, c2, c3, c4, c5, c6, c7, c8].drop 8).take (Tryz.prog.cellsOf 3)) x8 := h8
  rw [show Tryz.prog.cellsOf 3 = 1 from by kernel_rfl] at h8
  replace h8 : (RInt .i64) w B [c8] x8 := h8
  obtain ⟨e0, b0⟩ := h0
  obtain ⟨e1, b1⟩ := h1
  obtain ⟨e2, b2⟩ := h2
  obtain ⟨e3, b3⟩ := h3
  obtain ⟨e4, b4⟩ := h4
  obtain ⟨e5, b5⟩ := h5
  obtain ⟨e6, b6⟩ := h6
  obtain ⟨e7, b7⟩ := h7
  obtain ⟨e8, b8⟩ := h8
  simp only [List.cons.injEq, and_true] at e0 e1 e2 e3 e4 e5 e6 e7 e8
  subst e0 e1 e2 e3 e4 e5 e6 e7 e8
  exact ⟨⟨x0, x1, x2, x3, x4, x5, x6, x7, x8⟩, rfl, ⟨b0, b3, b4, b5, b1, b2, b6, b7, b8⟩⟩⟩
theorem cells_actF : Tryz.prog.cellsOf 36 = 11 := by kernel_rfl
theorem opens_actF : Opens Tryz.prog 36 RActF := ⟨by
  intro H enc w sp held k B cs y h hp
  obtain ⟨hl, hf⟩ := opens_fields Tryz.underlying36 h hp
  rw [cells_actF] at hl
  obtain ⟨c0, c1, c2, c3, c4, c5, c6, c7, c8, c9, c10, rfl⟩ := len11 hl
  obtain ⟨x0, h0⟩ := hf 0 _ rfl opens_named_int
  replace h0 : (RInt .i64) w B (([c0, c1, c2, c3, c4, c5, c6, c7, c8, c9, c10].drop 0).take (Tryz.prog.cellsOf 3)) x0 := h0
  rw [show Tryz.prog.cellsOf 3 = 1 from by kernel_rfl] at h0
  replace h0 : (RInt .i64) w B [c0] x0 := h0
  obtain ⟨x1, h1⟩ := hf 1 _ rfl opens_named_bool
  replace h1 : RBool w B (([c0, c1, c2, c3, c4, c5, c6, c7, c8, c9, c10].drop 1).take (Tryz.prog.cellsOf 4)) x1 := h1
  rw [show Tryz.prog.cellsOf 4 = 1 from by kernel_rfl] at h1
  replace h1 : RBool w B [c1] x1 := h1
  obtain ⟨x2, h2⟩ := hf 2 _ rfl opens_op9
  replace h2 : ROp9 w B (([c0, c1, c2, c3, c4, c5, c6, c7, c8, c9, c10].drop 2).take (Tryz.prog.cellsOf 34)) x2 := h2
  rw [show Tryz.prog.cellsOf 34 = 9 from by kernel_rfl] at h2
  replace h2 : ROp9 w B [c2, c3, c4, c5, c6, c7, c8, c9, c10] x2 := h2
  obtain ⟨e0, b0⟩ := h0
  have e1 : [c1] = [Value.bool x1] := h1
  obtain ⟨e2, b2⟩ := h2
  simp only [List.cons.injEq, and_true] at e0 e1
  subst e0 e1
  exact ⟨⟨x0, x1, x2⟩, congrArg (fun r => Value.int .i64 x0 :: Value.bool x1 :: r) e2, ⟨b0, b2⟩⟩⟩
/-- Acts that lie in memory: cell by cell. -/
def ActsIn (w : World) (a : Option Addr) (n : Nat) (xs : List ActF) : Prop :=
  n = xs.length ∧ n ≤ maxLen ∧ ∀ k x, xs[k]? = some x → x.Fit ∧ ∃ b off, a = some ⟨b, off, none⟩ ∧ ∀ j, j < 11 → w.cell? ⟨b, off + k * 11 + j, none⟩ = x.cells[j]?
theorem ActsIn.below {w w' : World} {a : Option Addr} {n : Nat} {xs : List ActF} (h : ActsIn w a n xs) (hb : Below w.heap.size w w') : ActsIn w' a n xs := by
  obtain ⟨h1, h2, h3⟩ := h
  refine ⟨h1, h2, fun k x hk => ?_⟩
  obtain ⟨hf, b, off, ha, hc⟩ := h3 k x hk
  refine ⟨hf, b, off, ha, fun j hj => ?_⟩
  have := hc j hj
  have hlen : x.cells.length = 11 := rfl
  have hs : x.cells[j]? = some x.cells[j] := List.getElem?_eq_getElem (by omega)
  rw [hs] at this ⊢
  exact (hb.cell (p := ⟨b, off + k * 11 + j, none⟩) (World.block_lt_of_cell? w _ this)).trans this
end Go.Proofs.YtcicjklhbnipcaaGreatDoor
namespace Go.Proofs.YtcicjklhbnipcaaGreatDoor
set_option linter.unusedVariables false
set_option linter.unusedSimpArgs false
open Go.Shelf
open Go.ChangeShapes Go.WideShapes Go.ChangeAt Go.RowKit
open Go.Lib hiding intOf

theorem band {a b : Bool} (ha : a = true) (hb : b = true) : (a && b) = true := by rw [ha, hb]; rfl
theorem topOwn : ownKnob Tryz.prog.godebug = none := by kernel_rfl
theorem topLaid : laidOutB Tryz.prog = true := by kernel_rfl
abbrev tabsLaidF : List (String × DataW Unit) := [("unicode/utf8.acceptRanges", Rows.laid_unicode_utf8_acceptRanges), ("unicode/utf8.first", Rows.laid_unicode_utf8_first)]
/-- A world in which the two tables lie as their initialisers lay them. -/
noncomputable def laidWorldF (os : Os) : World :=
  let w0 := World.holding Tryz.prog os ⟨#[], #[], []⟩
  let put (h : Array Obj) (g : Nat) (cs : Array Value) : Array Obj := h.modify g fun
    | .cells _ t frozen => .cells cs t frozen
    | o => o
  let h1 := put w0.heap 1 (Lib.firstTab.map fun z => Value.int .u8 z).toArray
  let h2 := put h1 2 ((List.range 16).flatMap fun i => [Value.int .u8 (Lib.accLo i), Value.int .u8 (Lib.accHi i)]).toArray
  { w0 with heap := h2 }
theorem laid_metF (os : Os) (args : Array Value) : laidMet Tryz.prog tabsLaidF ((laidWorldF os).forCall (fun _ _ => 0) ⟨#[], args, []⟩).memory :=
  (LaidIn.of_run (l := tabsLaidF) [2, 1] 8 (by kernel_rfl) (by kernel_rfl) (by kernel_rfl) (by kernel_rfl)).met
theorem mx_of {W : World} (hsh : W.ShapedOpen Tryz.prog) : Mx W :=
  Go.Proofs.cell_of_shapedOpen_int (zero := #[.int .i64 0]) (t := 3) hsh (of_decide_eq_true (by kernel_rfl)) (by kernel_rfl) rfl (by kernel_rfl) (by kernel_rfl) Tryz.underlying3
theorem trod_lt_of {H : Type} {enc : TypeId × Value → H} {W : World} {t : TypeId} {v : Value} {d : DataW H} {ps : List MemPlace} (h : DataW.Trod enc Tryz.prog W 0 (fun _ => true) true t v d ps) : ∀ x ∈ ps, x.block < W.heap.size := by
  obtain ⟨m, hm⟩ := h; exact DataW.trod_lt m _ _ _ hm
/-- A one-cell argument, read. -/
theorem opened {H : Type} {enc : TypeId × Value → H} {W : World} {t : TypeId} {v : Value} {d : DataW H} {ps : List MemPlace} {α : Type} {R : Rep α} (hR : Opens Tryz.prog t R)
    (h : DataW.Trod enc Tryz.prog W 0 (fun _ => true) true t v d ps) (hc : v.cells.toList = [v]) : ∃ x, R W W.heap.size [v] x := by
  have lt := trod_lt_of h
  obtain ⟨fuel, hf⟩ := h
  rw [hc] at hf
  exact hR.out hf lt
end Go.Proofs.YtcicjklhbnipcaaGreatDoor
namespace Go.Proofs.YtcicjklhbnipcaaGreatDoor
set_option linter.unusedVariables false
set_option linter.unusedSimpArgs false
namespace Pt
/-! ### bytes parted at slashes -/
def sp (s : List UInt8) : List (List UInt8) := Lib.splitK [47] 0 (s.count 47) s
theorem index_cons (c : UInt8) (s : List UInt8) : Lib.index (c :: s) [47] = if c = 47 then 0 else if Lib.index s [47] = -1 then -1 else Lib.index s [47] + 1 := by
  rw [Lib.index]
  by_cases h : c = 47
  · subst h; simp [List.isPrefixOf]
  · have : ([47] : List UInt8).isPrefixOf (c :: s) = false := by simp [List.isPrefixOf, Ne.symm h]
    rw [this, if_neg h]
    simp [beq_iff_eq]
theorem splitK_ne {c : UInt8} (h : c ≠ 47) : ∀ (k : Nat) (s : List UInt8), Lib.splitK [47] 0 k (c :: s) = match Lib.splitK [47] 0 k s with | [] => [[c]] | x :: r => (c :: x) :: r
  | 0, s => rfl
  | k + 1, s => by
    unfold Lib.splitK
    rw [index_cons, if_neg h]
    by_cases hm : Lib.index s [47] = -1
    · simp [hm]
    · have hg := Lib.index_ge s [47]
      obtain ⟨j, hj⟩ : ∃ j : Nat, Lib.index s [47] = j := ⟨(Lib.index s [47]).toNat, by omega⟩
      rw [if_neg hm, hj]
      rw [if_neg (by rw [beq_iff_eq]; omega), if_neg (by rw [beq_iff_eq]; omega)]
      have e1 : ((j : Int) + 1).toNat = j + 1 := by omega
      have e2 : (j : Int).toNat = j := by omega
      rw [e1, e2]
      simp
theorem sp_nil : sp [] = [[]] := rfl
theorem sp_slash (s : List UInt8) : sp (47 :: s) = [] :: sp s := by
  unfold sp
  rw [show (47 :: s : List UInt8).count 47 = s.count 47 + 1 by simp]
  rw [Lib.splitK, index_cons, if_pos rfl]
  simp
theorem sp_ne {c : UInt8} (h : c ≠ 47) (s : List UInt8) : sp (c :: s) = match sp s with | [] => [[c]] | x :: r => (c :: x) :: r := by
  unfold sp
  rw [List.count_cons_of_ne (by simpa using h)]
  exact splitK_ne h _ s
theorem sp_some : ∀ s, ∃ x r, sp s = x :: r
  | [] => ⟨[], [], rfl⟩
  | c :: s => by
    by_cases h : c = 47
    · subst h; exact ⟨[], sp s, sp_slash s⟩
    · obtain ⟨x, r, hx⟩ := sp_some s
      rw [sp_ne h, hx]
      exact ⟨c :: x, r, rfl⟩
theorem sp_mem : ∀ (s x : List UInt8), x ∈ sp s → (47 : UInt8) ∉ x
  | [], x, hx => by
    rw [sp_nil] at hx
    rcases List.mem_singleton.1 hx with rfl
    simp
  | c :: s, x, hx => by
    by_cases h : c = 47
    · subst h
      rw [sp_slash] at hx
      rcases List.mem_cons.1 hx with rfl | hx
      · simp
      · exact sp_mem s x hx
    · obtain ⟨y, r, hy⟩ := sp_some s
      rw [sp_ne h, hy] at hx
      rcases List.mem_cons.1 hx with rfl | hx
      · have := sp_mem s y (by rw [hy]; exact .head _)
        simp only [List.mem_cons, not_or]
        exact ⟨fun e => h e.symm, this⟩
      · exact sp_mem s x (by rw [hy]; exact .tail _ hx)
theorem join_two (x y : List UInt8) (r : List (List UInt8)) : Lib.join (x :: y :: r) [47] = x ++ 47 :: Lib.join (y :: r) [47] := by
  rw [Lib.join_cons, Lib.join_cons]
  simp [Lib.joinTail]
theorem sp_app : ∀ (x t : List UInt8), (47 : UInt8) ∉ x → sp (x ++ 47 :: t) = x :: sp t
  | [], t, _ => sp_slash t
  | c :: x, t, h => by
    simp only [List.mem_cons, not_or] at h
    rw [List.cons_append, sp_ne (fun e => h.1 e.symm), sp_app x t h.2]
theorem sp_one : ∀ (x : List UInt8), (47 : UInt8) ∉ x → sp x = [x]
  | [], _ => rfl
  | c :: x, h => by
    simp only [List.mem_cons, not_or] at h
    rw [sp_ne (fun e => h.1 e.symm), sp_one x h.2]
theorem sp_join : ∀ (x : List UInt8) (r : List (List UInt8)), (∀ y ∈ x :: r, (47 : UInt8) ∉ y) → sp (Lib.join (x :: r) [47]) = x :: r
  | x, [], h => by rw [Lib.join_one]; exact sp_one x (h x (.head _))
  | x, y :: r, h => by
    rw [join_two, sp_app _ _ (h x (.head _)), sp_join y r fun z hz => h z (.tail _ hz)]
/-! ### names, paths -/
def mk (l : List UInt8) : ByteArray := ⟨l.toArray⟩
theorem data_mk (b : ByteArray) : mk b.data.toList = b := rfl
theorem ba_ext {a b : ByteArray} (h : a.data.toList = b.data.toList) : a = b := by rw [← data_mk a, h]; rfl
theorem parts_sp {p : ByteArray} (h : p.size ≠ 0) : parts p = (sp p.data.toList).map mk := by
  unfold parts
  rw [if_neg h]
  have key : ∀ (k : Nat) (s : ByteArray), (Lib.splitB slash 0 k s).map (·.data.toList) = Lib.splitK [47] 0 k s.data.toList := fun k s => Lib.splitB_data slash 0 k s
  have hc : Lib.countB p slash = p.data.toList.count 47 := by
    have : Lib.countB p slash = Lib.count p.data.toList [47] := rfl
    rw [this, Lib.count_one]
  rw [hc]
  unfold sp
  rw [← key, List.map_map]
  exact (List.map_id _).symm
/-- A name that may stand in a path. -/
def NameOk (s : ByteArray) : Prop := isName s = true ∧ (47 : UInt8) ∉ s.data.toList
theorem NameOk.size {s : ByteArray} (h : NameOk s) : s.size ≠ 0 := by
  have := h.1
  unfold isName at this
  simp only [Bool.and_eq_true, decide_eq_true_eq] at this
  omega
theorem NameOk.nil {s : ByteArray} (h : NameOk s) : s.data.toList ≠ [] := fun e => h.size (size_nil.2 e)
theorem joined_nil : joined [] = ⟨#[]⟩ := rfl
theorem joined_data (l : List ByteArray) : (joined l).data.toList = Lib.join (l.map (·.data.toList)) [47] := rfl
theorem joined_size {x : ByteArray} {r : List ByteArray} (h : NameOk x) : (joined (x :: r)).size ≠ 0 := fun e => by
  have := size_nil.1 e
  rw [joined_data, List.map_cons, Lib.join_cons] at this
  exact h.nil (List.append_eq_nil_iff.1 this).1
theorem parts_joined : ∀ {l : List ByteArray}, (∀ s ∈ l, NameOk s) → parts (joined l) = l
  | [], _ => rfl
  | x :: r, h => by
    rw [parts_sp (joined_size (h x (.head _))), joined_data, List.map_cons, sp_join _ _ (fun y hy => by
      rcases List.mem_cons.1 hy with rfl | hy
      · exact (h x (.head _)).2
      · obtain ⟨z, hz, rfl⟩ := List.mem_map.1 hy
        exact (h z (.tail _ hz)).2)]
    show List.map mk ((x :: r).map (·.data.toList)) = _
    rw [List.map_map]
    exact List.map_id _
/-- Names of a path that may be. -/
structure Okn (l : List ByteArray) : Prop where
  ne : l ≠ []
  names : ∀ s ∈ l, NameOk s
  few : l.length ≤ 8
  short : (joined l).size ≤ 96
theorem scan_mem : ∀ {ps l : List ByteArray}, scan ps = some l → (∀ s ∈ l, isName s = true ∧ s ∈ ps)
  | [], l, h => by cases h; exact nofun
  | n :: r, l, h => by
    unfold scan at h
    split at h
    · exact fun s hs => ⟨(scan_mem h s hs).1, .tail _ (scan_mem h s hs).2⟩
    split at h
    · rename_i hn
      obtain ⟨l', h1, rfl⟩ := Option.map_eq_some_iff.1 h
      intro s hs
      rcases List.mem_cons.1 hs with rfl | hs
      · exact ⟨hn, .head _⟩
      · exact ⟨(scan_mem h1 s hs).1, .tail _ (scan_mem h1 s hs).2⟩
    · cases h
theorem isPath_spec {p : ByteArray} (h : isPath p = true) : Okn (parts p) ∧ joined (parts p) = p := by
  unfold isPath at h
  simp only [Bool.and_eq_true, decide_eq_true_eq, Bool.not_eq_true'] at h
  obtain ⟨⟨h1, h2⟩, h3⟩ := h
  have hp : p.size ≠ 0 := fun e => by rw [size_nil.1 e] at h3; cases h3
  have h2 := eq_of_beq h2
  unfold clean at h1 h2
  cases hs : scan (parts p) with
  | none => rw [hs] at h1; simp at h1
  | some l =>
    rw [hs] at h1 h2
    simp only at h1 h2
    unfold cleanOf at h1 h2
    split at h1
    · simp at h1
    · rename_i hc
      rw [if_neg hc] at h2
      simp only [Bool.or_eq_true, decide_eq_true_eq, not_or] at hc
      have e : joined l = p := ba_ext h2
      have hn : ∀ s ∈ l, NameOk s := fun s hs' => by
        obtain ⟨g1, g2⟩ := scan_mem hs s hs'
        refine ⟨g1, ?_⟩
        rw [parts_sp hp] at g2
        obtain ⟨x, hx, rfl⟩ := List.mem_map.1 g2
        exact sp_mem _ x hx
      have hl : parts p = l := by rw [← e]; exact parts_joined hn
      rw [hl]
      refine ⟨⟨fun h0 => hp ?_, hn, by omega, by omega⟩, e⟩
      rw [← e, h0]
      rfl
theorem scan_ok : ∀ {l : List ByteArray}, (∀ s ∈ l, NameOk s) → scan l = some l
  | [], _ => rfl
  | x :: r, h => by
    have hx := h x (.head _)
    have h46 : x.data.toList ≠ [46] := fun e => by
      have := hx.1
      unfold isName at this
      rw [e] at this
      cases this
    unfold scan
    rw [if_neg (not_or.2 ⟨hx.nil, h46⟩), if_pos hx.1, scan_ok fun s hs => h s (.tail _ hs)]
    rfl
theorem isPath_joined {l : List ByteArray} (h : Okn l) : isPath (joined l) = true := by
  obtain ⟨x, r, rfl⟩ : ∃ x r, l = x :: r := by
    cases l with
    | nil => exact absurd rfl h.ne
    | cons x r => exact ⟨x, r, rfl⟩
  have hx := h.names x (.head _)
  have hc : clean (joined (x :: r)) = (joined (x :: r), 0) := by
    unfold clean
    rw [parts_joined h.names, scan_ok h.names]
    simp only
    unfold cleanOf
    rw [if_neg]
    have h1 := h.few
    have h2 := h.short
    simp only [Bool.or_eq_true, decide_eq_true_eq, not_or]
    refine ⟨⟨?_, by omega⟩, by omega⟩
    rw [joined_data, List.map_cons, Lib.join_cons]
    have hn := hx.nil
    have hs := hx.2
    cases hd : x.data.toList with
    | nil => exact absurd hd hn
    | cons c t =>
      rw [hd] at hs
      simp only [List.mem_cons, not_or] at hs
      unfold Lib.hasPrefix
      simp [List.isPrefixOf, hs.1]
  unfold isPath
  rw [hc]
  have : (joined (x :: r)).data.toList ≠ [] := fun e => joined_size (r := r) hx (size_nil.2 e)
  simp only [decide_true, beq_self_eq_true, Bool.true_and, Bool.not_eq_true', beq_eq_false_iff_ne]
  exact this
theorem join_snoc : ∀ (q : List (List UInt8)) (s : List UInt8), q ≠ [] → Lib.join (q ++ [s]) [47] = Lib.join q [47] ++ 47 :: s
  | [], _, h => absurd rfl h
  | [x], s, _ => by rw [List.singleton_append, join_two, Lib.join_one, Lib.join_one]
  | x :: y :: r, s, _ => by
    have ih := join_snoc (y :: r) s (by simp)
    rw [List.cons_append, List.cons_append, join_two, ← List.cons_append, ih, join_two]
    simp
theorem joined_snoc {q : List ByteArray} {s : ByteArray} (hq : q ≠ []) : (joined (q ++ [s])).data.toList = (joined q).data.toList ++ 47 :: s.data.toList := by
  rw [joined_data, List.map_append, List.map_singleton, join_snoc _ _ (by simpa using hq)]
  rfl
theorem joined_one (s : ByteArray) : joined [s] = s := ba_ext (by rw [joined_data, List.map_singleton, Lib.join_one])
theorem join_joined {q : List ByteArray} {s : ByteArray} (hq : ∀ x ∈ q, NameOk x) (hs : NameOk s) : join (joined q) s = joined (q ++ [s]) := by
  cases q with
  | nil =>
    unfold join
    rw [if_pos (.inl rfl), List.nil_append, joined_one]
    exact ba_ext (by simp [joined_nil])
  | cons x r =>
    unfold join
    rw [if_neg (not_or.2 ⟨fun e => joined_size (r := r) (hq x (.head _)) (size_nil.2 e), hs.nil⟩)]
    refine ba_ext ?_
    rw [joined_snoc (by simp)]
    simp [slash]
theorem occ_one (s : List UInt8) (k : Nat) : Lib.occAt s [47] k = true ↔ s[k]? = some 47 := by
  unfold Lib.occAt
  constructor
  · intro h
    cases hd : s.drop k with
    | nil => rw [hd] at h; simp [List.isPrefixOf] at h
    | cons c t =>
      rw [hd] at h
      have hc : c = 47 := by
        simp [List.isPrefixOf] at h
        exact h.symm
      have : (s.drop k)[0]? = some c := by rw [hd]; rfl
      rw [List.getElem?_drop] at this
      rw [← hc]
      simpa using this
  · intro h
    have hk := (List.getElem?_eq_some_iff.1 h).1
    rw [List.drop_eq_getElem_cons hk]
    have : s[k] = 47 := (List.getElem?_eq_some_iff.1 h).2
    simp [List.isPrefixOf, this]
theorem last_none {s : ByteArray} (h : (47 : UInt8) ∉ s.data.toList) : last s = -1 := by
  unfold last Lib.lastIndex
  split
  · rcases Lib.lastOcc_spec s.data.toList [47] (s.data.toList.length - [47].length + 1) with ⟨h1, -⟩ | ⟨i, -, -, h3, -⟩
    · exact h1
    · exact absurd (List.mem_of_getElem? ((occ_one _ _).1 h3)) h
  · rfl
theorem last_at {p : ByteArray} {a b : List UInt8} (hp : p.data.toList = a ++ 47 :: b) (hb : (47 : UInt8) ∉ b) : last p = a.length := by
  unfold last Lib.lastIndex
  have hl : p.data.toList.length = a.length + b.length + 1 := by rw [hp]; simp; omega
  rw [if_pos (by rw [hl]; simp)]
  have h47 : p.data.toList[a.length]? = some 47 := by rw [hp]; simp
  rcases Lib.lastOcc_spec p.data.toList [47] (p.data.toList.length - [47].length + 1) with ⟨-, h1⟩ | ⟨i, h1, h2, h3, h4⟩
  · have := h1 a.length (by rw [hl]; simp; omega)
    rw [(occ_one _ _).2 h47] at this
    cases this
  · refine h2.trans ?_
    have hi : i = a.length := by
      rcases Nat.lt_trichotomy i a.length with h | h | h
      · have := h4 a.length h (by rw [hl]; simp; omega)
        rw [(occ_one _ _).2 h47] at this
        cases this
      · exact h
      · exfalso
        have h5 := (occ_one _ _).1 h3
        rw [hp, List.getElem?_append_right (by omega)] at h5
        obtain ⟨m, hm⟩ : ∃ m, i - a.length = m + 1 := ⟨i - a.length - 1, by omega⟩
        rw [hm, List.getElem?_cons_succ] at h5
        exact hb (List.mem_of_getElem? h5)
    rw [hi]
theorem split_joined {q : List ByteArray} {s : ByteArray} (hs : NameOk s) : split (joined (q ++ [s])) = (joined q, s) := by
  cases q with
  | nil =>
    rw [List.nil_append, joined_one]
    unfold split
    rw [if_pos (by rw [last_none hs.2]; decide)]
    rfl
  | cons x r =>
    have hd := joined_snoc (q := x :: r) (s := s) (by simp)
    have hl := last_at hd hs.2
    unfold split
    rw [if_neg (by omega), hl, Int.toNat_natCast]
    have hz : (joined (x :: r ++ [s])).size = (joined (x :: r)).data.toList.length + s.data.toList.length + 1 := by rw [Lib.size_eq, hd]; simp; omega
    refine Prod.ext (ba_ext ?_) (ba_ext ?_)
    · simp only [ByteArray.data_extract, Array.toList_extract]
      rw [hd]
      simp
    · simp only [ByteArray.data_extract, Array.toList_extract]
      rw [hd, hz]
      have e : (joined (x :: r)).data.toList ++ 47 :: s.data.toList = ((joined (x :: r)).data.toList ++ [47]) ++ s.data.toList := by simp
      rw [List.extract_eq_take_drop, e, List.drop_left' (by simp)]
      exact List.take_of_length_le (by omega)
/-- Names of a path: those of its directory, and its own. -/
theorem isPath_snoc {p : ByteArray} (h : isPath p = true) : ∃ q s, parts p = q ++ [s] ∧ parts (split p).1 = q ∧ (split p).2 = s ∧ Okn (q ++ [s]) ∧ joined (q ++ [s]) = p := by
  obtain ⟨h1, h2⟩ := isPath_spec h
  obtain ⟨q, s, hq⟩ : ∃ q s, parts p = q ++ [s] := ⟨(parts p).dropLast, (parts p).getLast h1.ne, (List.dropLast_concat_getLast h1.ne).symm⟩
  rw [hq] at h1 h2
  have hs := h1.names s (by simp)
  have hsp := split_joined (q := q) hs
  rw [h2] at hsp
  refine ⟨q, s, hq, ?_, by rw [hsp], h1, h2⟩
  rw [hsp]
  exact parts_joined fun x hx => h1.names x (by simp [hx])
end Pt
end Go.Proofs.YtcicjklhbnipcaaGreatDoor
namespace Go.Proofs.YtcicjklhbnipcaaGreatDoor
set_option linter.unusedVariables false
set_option linter.unusedSimpArgs false
namespace In
/-- A directory leads just to directories of greater numbers. -/
def Up (t : TabD) : Prop := ∀ a m p n, find t.nodes a = some m → p ∈ m.names → find t.nodes p.2 = some n → n.dir = true → a < p.2
/-- All that is there was there, of its kind, with its names, but for this one. -/
def Come (k i : Int) (t t' : TabD) : Prop := ∀ x m', find t'.nodes x = some m' → ∃ m, find t.nodes x = some m ∧ m'.dir = m.dir ∧ ∀ p ∈ m'.names, p ∈ m.names ∨ (x = k ∧ p.2 = i)
/-- All that is there was there, of its kind, with its names. -/
def Less (t t' : TabD) : Prop := ∀ x m', find t'.nodes x = some m' → ∃ m, find t.nodes x = some m ∧ m'.dir = m.dir ∧ ∀ p ∈ m'.names, p ∈ m.names
section
variable {N : Nat} {t t' t'' : TabD} {k i : Int}
theorem Up.come (h : Up t) (hc : Come k i t t') (hi : ∀ n, find t.nodes i = some n → n.dir = true → k < i) : Up t' := by
  intro a m p n ha hp hn hd
  obtain ⟨m0, h1, -, h2⟩ := hc a m ha
  obtain ⟨n0, h3, h4, -⟩ := hc p.2 n hn
  rcases h2 p hp with h5 | ⟨rfl, h5⟩
  · exact h a m0 p n0 h1 h5 h3 (h4 ▸ hd)
  · rw [h5] at h3 ⊢
    exact hi n0 h3 (h4 ▸ hd)
theorem Less.refl (t : TabD) : Less t t := fun _ m h => ⟨m, h, rfl, fun _ h => h⟩
theorem Less.trans (h : Less t t') (h' : Less t' t'') : Less t t'' := fun x m hm => by
  obtain ⟨m1, a1, a2, a3⟩ := h' x m hm
  obtain ⟨m2, b1, b2, b3⟩ := h x m1 a1
  exact ⟨m2, b1, a2.trans b2, fun p hp => b3 p (a3 p hp)⟩
theorem Less.come (h : Less t t') : Come k i t t' := fun x m hm => by
  obtain ⟨m1, a1, a2, a3⟩ := h x m hm
  exact ⟨m1, a1, a2, fun p hp => .inl (a3 p hp)⟩
theorem Come.less (h : Come k i t t') (h' : Less t' t'') : Come k i t t'' := fun x m hm => by
  obtain ⟨m1, a1, a2, a3⟩ := h' x m hm
  obtain ⟨m2, b1, b2, b3⟩ := h x m1 a1
  exact ⟨m2, b1, a2.trans b2, fun p hp => b3 p (a3 p hp)⟩
theorem Less.then (h : Less t t') (h' : Come k i t' t'') : Come k i t t'' := fun x m hm => by
  obtain ⟨m1, a1, a2, a3⟩ := h' x m hm
  obtain ⟨m2, b1, b2, b3⟩ := h x m1 a1
  exact ⟨m2, b1, a2.trans b2, fun p hp => (a3 p hp).imp (b3 p) fun h => h⟩
theorem Up.less (h : Up t) (hl : Less t t') : Up t' := by
  intro a m p n ha hp hn hd
  obtain ⟨m0, h1, -, h2⟩ := hl a m ha
  obtain ⟨n0, h3, h4, -⟩ := hl p.2 n hn
  exact h a m0 p n0 h1 (h2 p hp) h3 (h4 ▸ hd)
theorem at_id (t : TabD) (k : Int) : (at_ t k).id = k := by
  unfold at_
  split
  · rename_i n h
    exact (find_some h).2
  · rfl
theorem find_map_id (l : List NodeD) (n : NodeD) (x : Int) : find (set l n) x = (find l x).map fun m => if m.id == n.id then n else m := by
  unfold find set
  rw [List.find?_map]
  congr 2
  funext m
  show ((if m.id == n.id then n else m).id == x) = (m.id == x)
  split
  · rename_i h
    have h' : m.id = n.id := by simpa using h
    rw [h']
  · rfl
theorem come_setN {n : NodeD} (hn : ∀ m, find t.nodes n.id = some m → n.dir = m.dir ∧ ∀ p ∈ n.names, p ∈ m.names ∨ (n.id = k ∧ p.2 = i)) : Come k i t (setN t n) := fun x m' h => by
  have h' : find (set t.nodes n) x = some m' := h
  rw [find_map_id] at h'
  cases hf : find t.nodes x with
  | none => rw [hf] at h'; cases h'
  | some m =>
    rw [hf] at h'
    have h2 : (if m.id == n.id then n else m) = m' := by simpa using h'
    have hx := (find_some hf).2
    cases he : m.id == n.id with
    | false =>
      rw [he] at h2
      subst h2
      exact ⟨m, rfl, rfl, fun p hp => .inl hp⟩
    | true =>
      rw [he] at h2
      subst h2
      have he' : m.id = n.id := by simpa using he
      have e2 : x = n.id := hx.symm.trans he'
      subst e2
      obtain ⟨h3, h4⟩ := hn m hf
      exact ⟨m, rfl, h3, h4⟩
theorem less_setN {n : NodeD} (hn : ∀ m, find t.nodes n.id = some m → n.dir = m.dir ∧ ∀ p ∈ n.names, p ∈ m.names) : Less t (setN t n) := fun x m' h => by
  obtain ⟨m, h1, h2, h3⟩ := come_setN (t := t) (k := x - 1) (i := 0) (n := n) (fun m hm => ⟨(hn m hm).1, fun p hp => .inl ((hn m hm).2 p hp)⟩) x m' h
  exact ⟨m, h1, h2, fun p hp => (h3 p hp).elim (fun h => h) fun h => by omega⟩
theorem at_less (f : NodeD → NodeD) (hi : ∀ m, (f m).id = m.id) (hd : ∀ m, (f m).dir = m.dir) (hp : ∀ m, ∀ p ∈ (f m).names, p ∈ m.names) (k : Int) : Less t (setN t (f (at_ t k))) := less_setN fun m hm => by
  rw [hi, at_id] at hm
  rw [at_some hm]
  exact ⟨hd m, hp m⟩
theorem less_nameOut (dir : Int) (s : ByteArray) : Less t (nameOut t dir s) := at_less (fun m => m.setNames (without m.names s)) (fun _ => rfl) (fun _ => rfl) (fun _ _ hp => (mem_without.1 hp).1) dir
theorem less_linksUp (id : Int) : Less t (linksUp t id) := at_less (fun m => m.setLinks (m.links + 1)) (fun _ => rfl) (fun _ => rfl) (fun _ _ hp => hp) id
theorem less_linksDown (id : Int) : Less t (linksDown t id) := at_less (fun m => m.setLinks (m.links - 1)) (fun _ => rfl) (fun _ => rfl) (fun _ _ hp => hp) id
theorem less_holdsUp (id : Int) : Less t (holdsUp t id) := at_less (fun m => m.setHolds (m.holds + 1)) (fun _ => rfl) (fun _ => rfl) (fun _ _ hp => hp) id
theorem less_holdsDown (id : Int) : Less t (holdsDown t id) := at_less (fun m => m.setHolds (m.holds - 1)) (fun _ => rfl) (fun _ => rfl) (fun _ _ hp => hp) id
theorem less_dataOf (id : Int) (v : ByteArray) : Less t (dataOf t id v) := at_less (fun m => m.setData v) (fun _ => rfl) (fun _ => rfl) (fun _ _ hp => hp) id
theorem come_nameIn (dir : Int) (s : ByteArray) (id : Int) : Come dir id t (nameIn t dir s id) := come_setN (n := (at_ t dir).setNames (with_ (at_ t dir).names s id)) fun m hm => by
  have hm' : find t.nodes (at_ t dir).id = some m := hm
  rw [at_id] at hm'
  rw [at_some hm']
  refine ⟨rfl, fun p hp => ?_⟩
  rcases mem_put.1 hp with rfl | hp
  · exact .inr ⟨(find_some hm').2, rfl⟩
  · exact .inl (mem_without.1 hp).1
theorem less_gone (id : Int) : Less t (gone t id) := fun x m h => by
  unfold gone at h
  split at h
  · have h' : find (del t.nodes id) x = some m := h
    unfold find del at h'
    rw [List.find?_filter] at h'
    refine ⟨m, ?_, rfl, fun _ hp => hp⟩
    have h1 := List.find?_some h'
    have h2 : m.id = x := by
      have := h1
      simp only [Bool.not_eq_true', beq_eq_false_iff_ne, beq_iff_eq, decide_eq_true_eq] at this
      exact this.2
    have h3 : x ≠ id := by
      have := h1
      simp only [Bool.not_eq_true', beq_eq_false_iff_ne, beq_iff_eq, decide_eq_true_eq] at this
      rw [← h2]; exact this.1
    have e : (fun a : NodeD => decide ((!a.id == id) = true ∧ (a.id == x) = true)) = fun a => a.id == x := by
      funext a
      cases hx : a.id == x with
      | false => simp
      | true =>
        have : a.id = x := by simpa using hx
        rw [this]
        simp [h3]
    rw [e] at h'
    exact h'
  · exact ⟨m, h, rfl, fun _ hp => hp⟩
theorem less_loses (dir : Int) (s : ByteArray) : Less t (loses t dir s) := ((less_nameOut dir s).trans (less_linksDown _)).trans (less_gone _)
theorem less_unlink (dir : Int) (s : ByteArray) : Less t (unlink t dir s).2 := by
  unfold unlink
  split
  · exact less_loses dir s
  · exact Less.refl t
theorem less_remove (dir : Int) (s : ByteArray) : Less t (remove t dir s).2 := by
  unfold remove
  split
  · exact less_loses dir s
  · exact Less.refl t
theorem less_sizedT (id n : Int) : Less t (sizedT t id n) := less_dataOf id (resized (at_ t id).data n.toNat)
theorem less_write (id a : Int) (s : ByteArray) : Less t (write t id a s).2 := by
  unfold write
  split
  · show Less t (writeT t id a s)
    unfold writeT
    split
    · exact Less.refl t
    · exact (less_sizedT id _).trans (less_dataOf id _)
  · exact Less.refl t
theorem less_trunc (id n : Int) : Less t (trunc t id n).2 := by
  unfold trunc
  split
  · exact less_sizedT id n
  · exact Less.refl t
theorem less_hold (id : Int) : Less t (hold t id).2 := by
  unfold hold
  split
  · exact less_holdsUp id
  · exact Less.refl t
theorem less_drop (id : Int) : Less t (drop t id).2 := by
  unfold drop
  split
  · exact (less_holdsDown id).trans (less_gone id)
  · exact Less.refl t
theorem up_link (h : Up t) (id dir : Int) (s : ByteArray) : Up (link t id dir s).2 := by
  unfold link
  cases he : linkE t id dir s == 0 with
  | false => exact h
  | true =>
    have he' : linkE t id dir s = 0 := by simpa using he
    unfold linkE at he'
    cases h1 : getE t id false == 0 with
    | true =>
      obtain ⟨n, hn, hnd⟩ := getE_ok (t := t) (id := id) (dir := false) (by simpa using h1)
      exact h.come (Come.less (come_nameIn dir s id) (less_linksUp id)) fun m hm hd => by rw [hn] at hm; cases hm; rw [hnd] at hd; cases hd
    | false => rw [h1] at he'; simp at he' h1; exact absurd he' h1
theorem up_rename (h : Up t) (dir : Int) (s : ByteArray) (tod : Int) (as_ : ByteArray) : Up (rename t dir s tod as_).2 := by
  unfold rename
  cases he : renameE t dir s tod as_ == 0 with
  | false => exact h
  | true =>
    obtain ⟨h1, h2, h3⟩ := renameE_ok (t := t) (dir := dir) (s := s) (tod := tod) (as_ := as_) (by simpa using he)
    obtain ⟨_, d, n, hd, hdd, hl, hN, hn, hnd⟩ := unlinkE_ok h1
    have key : ∀ t1, Less t t1 → Up (renameIn t1 dir s tod as_ (findN t dir s)) := fun t1 hl1 => by
      refine h.come ((hl1.trans (less_nameOut dir s)).then (come_nameIn tod as_ (findN t dir s))) fun m hm hmd => ?_
      rw [hN, hn] at hm
      cases hm
      rw [hnd] at hmd
      cases hmd
    show Up (renameT t dir s tod as_)
    unfold renameT
    split
    · exact h
    split
    · exact key t (Less.refl t)
    · exact key _ (less_loses tod as_)
theorem up_make (I : Inv N t) (h : Up t) (dir : Int) (s : ByteArray) (isDir : Bool) : Up (make t dir s isDir).2.2 := by
  unfold make
  cases he : makeE t dir s == 0 with
  | false => exact h
  | true =>
    show Up (makeT t dir s isDir)
    have hc := come_nameIn (t := t) dir s (t.last + 1)
    have hne : ∀ m ∈ (nameIn t dir s (t.last + 1)).nodes, m.id ≠ (⟨t.last + 1, isDir, 1, 0, ByteArray.empty, []⟩ : NodeD).id := fun m hm => by
      have hm' : m ∈ set t.nodes ((at_ t dir).setNames (with_ (at_ t dir).names s (t.last + 1))) := hm
      unfold set at hm'
      obtain ⟨y, hy, e⟩ := List.mem_map.1 hm'
      have hp := (I.pos y hy).2
      have : m.id = y.id := by
        rw [← e]
        split
        · rename_i hh
          exact (by simpa using hh : y.id = _).symm
        · rfl
      show m.id ≠ t.last + 1
      omega
    have hfs := find_snoc hne
    have hle : ∀ x m, find (nameIn t dir s (t.last + 1)).nodes x = some m → x ≤ t.last := fun x m hx => by
      obtain ⟨m0, g1, -, -⟩ := hc x m hx
      obtain ⟨g2, g3⟩ := find_some g1
      have := (I.pos m0 g2).2
      omega
    intro a m p n ha hp hn hd
    have ha' : find ((nameIn t dir s (t.last + 1)).nodes ++ [⟨t.last + 1, isDir, 1, 0, ByteArray.empty, []⟩]) a = some m := ha
    have hn' : find ((nameIn t dir s (t.last + 1)).nodes ++ [⟨t.last + 1, isDir, 1, 0, ByteArray.empty, []⟩]) p.2 = some n := hn
    rw [hfs] at ha' hn'
    split at ha'
    · cases ha'
      cases hp
    · have hal := hle a m ha'
      split at hn'
      · rename_i e
        rw [e]
        show a < t.last + 1
        omega
      · rename_i hpn
        obtain ⟨m0, g1, -, g2⟩ := hc a m ha'
        obtain ⟨n0, g3, g4, -⟩ := hc p.2 n hn'
        rcases g2 p hp with g5 | ⟨-, g5⟩
        · exact h a m0 p n0 g1 g5 g3 (g4 ▸ hd)
        · exact absurd g5 hpn
theorem up_new (q : Int) : Up (new q) := fun a m p n ha hp _ _ => by
  have := (find_some ha).1
  have e : m = ⟨1, true, 1, 0, ByteArray.empty, []⟩ := by simpa [new] using this
  subst e
  cases hp
end
/-! ### what lies below a directory -/
/-- The directories in a directory. -/
def dirsIn (t : TabD) (id : Int) : List Int := ((at_ t id).names.map Prod.snd).filter fun i => (at_ t i).dir
/-- What is reached from a directory. -/
inductive Reach (t : TabD) : Int → Int → Prop where
  | refl (a : Int) : Reach t a a
  | step {a b c : Int} (h : Reach t a b) (hc : c ∈ dirsIn t b) : Reach t a c
section
variable {N : Nat} {t : TabD}
theorem mem_dirsIn {id c : Int} : c ∈ dirsIn t id ↔ ∃ p ∈ (at_ t id).names, p.2 = c ∧ (at_ t c).dir = true := by
  unfold dirsIn
  rw [List.mem_filter, List.mem_map]
  constructor
  · rintro ⟨⟨p, hp, rfl⟩, hd⟩
    exact ⟨p, hp, rfl, hd⟩
  · rintro ⟨p, hp, rfl, hd⟩
    exact ⟨⟨p, hp, rfl⟩, hd⟩
theorem names_found {id : Int} {p : ByteArray × Int} (hp : p ∈ (at_ t id).names) : find t.nodes id = some (at_ t id) := by
  unfold at_ at hp ⊢
  cases hf : find t.nodes id with
  | none => rw [hf] at hp; cases hp
  | some n => rfl
theorem dir_up (h : Up t) {a c : Int} (hc : c ∈ dirsIn t a) : a < c := by
  obtain ⟨p, hp, rfl, hd⟩ := mem_dirsIn.1 hc
  refine h a _ p _ (names_found hp) hp ?_ hd
  unfold at_ at hd ⊢
  cases hf : find t.nodes p.2 with
  | none => rw [hf] at hd; cases hd
  | some n => rfl
theorem Reach.le (h : Up t) {a b : Int} (r : Reach t a b) : a ≤ b := by
  induction r with
  | refl => exact Int.le_refl _
  | step _ hc ih => have := dir_up h hc; omega
theorem Reach.trans {a b c : Int} (h : Reach t a b) (r : Reach t b c) : Reach t a c := by
  induction r with
  | refl => exact h
  | step _ hc ih => exact ih.step hc
theorem cntN_one {d : List (ByteArray × Int)} {i : Int} : cntN d i = ((d.map Prod.snd).count i) := by
  unfold cntN List.count
  rw [List.countP_map]
  rfl
/-- One name at most leads to a directory. -/
theorem cnt_dir (I : Inv N t) {c : Int} {n : NodeD} (hn : find t.nodes c = some n) (hd : n.dir = true) : cnt t.nodes c ≤ 1 := by
  obtain ⟨nm, ni⟩ := find_some hn
  have h1 := I.links n nm
  have h2 := (I.alive n nm (by have := (I.pos n nm).1; omega)).2 hd
  rw [ni] at h1
  have h3 : 0 ≤ rootI c := by unfold rootI; split <;> decide
  omega
theorem dir_found {c : Int} (hd : (at_ t c).dir = true) : find t.nodes c = some (at_ t c) := by
  unfold at_ at hd ⊢
  cases hf : find t.nodes c with
  | none => rw [hf] at hd; cases hd
  | some n => rfl
theorem sum_two {f : NodeD → Nat} : ∀ {l : List NodeD}, asc l → ∀ {a b : NodeD}, a ∈ l → b ∈ l → a.id ≠ b.id → f a + f b ≤ (l.map f).sum
  | [], _, _, _, h, _, _ => by cases h
  | y :: r, hs, a, b, ha, hb, hne => by
    obtain ⟨h1, h2⟩ := List.pairwise_cons.1 hs
    rw [List.map_cons, List.sum_cons]
    rcases List.mem_cons.1 ha with rfl | ha'
    · rcases List.mem_cons.1 hb with rfl | hb'
      · exact absurd rfl hne
      · have := le_sum (f := f) hb'; omega
    · rcases List.mem_cons.1 hb with rfl | hb'
      · have := le_sum (f := f) ha'; omega
      · have := sum_two (f := f) h2 ha' hb' hne; omega
theorem dirs_nodup (I : Inv N t) (a : Int) : (dirsIn t a).Nodup := by
  rw [List.nodup_iff_count]
  intro c
  cases hd : (at_ t c).dir with
  | false =>
    rw [List.count_eq_zero.2]
    · exact Nat.zero_le _
    · intro hc
      obtain ⟨-, -, -, h⟩ := mem_dirsIn.1 hc
      rw [hd] at h
      cases h
  | true =>
    have h1 : (dirsIn t a).count c ≤ ((at_ t a).names.map Prod.snd).count c := (List.filter_sublist).count_le c
    refine Nat.le_trans h1 ?_
    rw [← cntN_one]
    by_cases hn : (at_ t a).names = []
    · rw [hn]; exact Nat.zero_le _
    · obtain ⟨p, hp⟩ := List.exists_mem_of_ne_nil _ hn
      have hf := names_found hp
      refine Nat.le_trans ?_ (cnt_dir I (dir_found hd) hd)
      exact le_sum (f := fun n => cntN n.names c) (find_some hf).1
/-- A directory lies in one directory. -/
theorem one_parent (I : Inv N t) {a b c : Int} (ha : c ∈ dirsIn t a) (hb : c ∈ dirsIn t b) : a = b := by
  obtain ⟨p, hp, e1, hd⟩ := mem_dirsIn.1 ha
  obtain ⟨q, hq, e2, -⟩ := mem_dirsIn.1 hb
  have fa := names_found hp
  have fb := names_found hq
  by_cases hne : a = b
  · exact hne
  · have h1 := sum_two (f := fun n => cntN n.names c) I.asc (find_some fa).1 (find_some fb).1 (by rw [at_id, at_id]; exact hne)
    have h2 := cnt_dir I (dir_found hd) hd
    have k1 : 0 < cntN (at_ t a).names c := List.countP_pos_iff.2 ⟨p, hp, by simpa using e1⟩
    have k2 : 0 < cntN (at_ t b).names c := List.countP_pos_iff.2 ⟨q, hq, by simpa using e2⟩
    have h3 : cntN (at_ t a).names c + cntN (at_ t b).names c ≤ cnt t.nodes c := h1
    omega
theorem reach_two (I : Inv N t) {a b x : Int} (ha : Reach t a x) (hb : Reach t b x) : Reach t a b ∨ Reach t b a := by
  induction ha with
  | refl => exact .inr hb
  | @step y x h hc ih =>
    cases hb with
    | refl => exact .inl (h.step hc)
    | @step y' _ h' hc' =>
      have := one_parent I hc hc'
      subst this
      exact ih h'
theorem reach_last {a b : Int} (h : Reach t a b) (hne : a ≠ b) : ∃ y, Reach t a y ∧ b ∈ dirsIn t y := by
  cases h with
  | refl => exact absurd rfl hne
  | step h hc => exact ⟨_, h, hc⟩
theorem reach_apart (I : Inv N t) (h : Up t) {a c d x : Int} (hc : c ∈ dirsIn t a) (hd : d ∈ dirsIn t a) (hne : c ≠ d) (h1 : Reach t c x) (h2 : Reach t d x) : False := by
  have key : ∀ c d, c ∈ dirsIn t a → d ∈ dirsIn t a → c ≠ d → ¬ Reach t c d := fun c d hc hd hne hr => by
    obtain ⟨y, hy, hyd⟩ := reach_last hr hne
    have := one_parent I hyd hd
    subst this
    have k1 := hy.le h
    have k2 := dir_up h hc
    omega
  rcases reach_two I h1 h2 with hr | hr
  · exact key c d hc hd hne hr
  · exact key d c hd hc (Ne.symm hne) hr
/-- A directory, and the directories below it, down to a depth. -/
def below (t : TabD) : Nat → Int → List Int
  | 0, id => [id]
  | k + 1, id => id :: (dirsIn t id).flatMap (below t k)
theorem below_reach : ∀ (k : Nat) (id x : Int), x ∈ below t k id → Reach t id x
  | 0, id, x, h => by
    have : x = id := by simpa [below] using h
    subst this
    exact .refl _
  | k + 1, id, x, h => by
    unfold below at h
    rcases List.mem_cons.1 h with rfl | h
    · exact .refl _
    · obtain ⟨c, hc, hx⟩ := List.mem_flatMap.1 h
      exact ((Reach.refl id).step hc).trans (below_reach k c x hx)
theorem below_nodup (I : Inv N t) (h : Up t) : ∀ (k : Nat) (id : Int), (below t k id).Nodup
  | 0, _ => by simp [below]
  | k + 1, id => by
    unfold below
    rw [List.nodup_cons]
    constructor
    · intro hm
      obtain ⟨c, hc, hx⟩ := List.mem_flatMap.1 hm
      have h1 := (below_reach k c id hx).le h
      have h2 := dir_up h hc
      omega
    · unfold List.Nodup
      rw [List.pairwise_flatMap]
      refine ⟨fun c _ => below_nodup I h k c, ?_⟩
      have hn := dirs_nodup I id
      have hm : ∀ c ∈ dirsIn t id, c ∈ dirsIn t id := fun _ h => h
      refine List.Pairwise.imp_of_mem (R := fun a b => a ≠ b) (fun {c d} hc hd hne x hx y hy e => ?_) hn
      subst e
      exact reach_apart I h hc hd hne (below_reach k c x hx) (below_reach k d x hy)
theorem sum_sub {g : Int → Nat} : ∀ {V ids : List Int}, V.Nodup → (∀ x ∈ V, g x ≠ 0 → x ∈ ids) → (V.map g).sum ≤ (ids.map g).sum
  | [], _, _, _ => Nat.zero_le _
  | x :: V, ids, hn, hs => by
    obtain ⟨h1, h2⟩ := List.nodup_cons.1 hn
    rw [List.map_cons, List.sum_cons]
    by_cases hg : g x = 0
    · rw [hg]
      have := sum_sub (g := g) h2 fun y hy => hs y (.tail _ hy)
      omega
    · have hx := hs x (.head _) hg
      have hp := (List.perm_cons_erase hx).map g
      have := sum_sub (g := g) (ids := ids.erase x) h2 fun y hy hy0 => (List.mem_erase_of_ne (fun e : y = x => h1 (by rw [← e]; exact hy))).2 (hs y (.tail _ hy) hy0)
      rw [hp.sum_nat]
      rw [List.map_cons, List.sum_cons]
      omega
/-- All names below a directory are no more than all names. -/
theorem below_names (I : Inv N t) (h : Up t) (k : Nat) (id : Int) : ((below t k id).map fun i => (at_ t i).names.length).sum ≤ tot t.nodes := by
  refine Nat.le_trans (sum_sub (ids := t.nodes.map (·.id)) (below_nodup I h k id) fun x _ hx => ?_) ?_
  · cases hq : (at_ t x).names with
    | nil => rw [hq] at hx; exact absurd rfl hx
    | cons p r =>
      have hf := names_found (t := t) (id := x) (p := p) (by rw [hq]; exact .head _)
      exact List.mem_map.2 ⟨_, (find_some hf).1, at_id t x⟩
  · unfold tot
    rw [List.map_map]
    refine Nat.le_of_eq (congrArg List.sum (List.map_congr_left fun n hn => ?_))
    show (at_ t n.id).names.length = n.names.length
    rw [at_some (find_asc I.asc hn)]
end
end In
end Go.Proofs.YtcicjklhbnipcaaGreatDoor
namespace Go.Proofs.YtcicjklhbnipcaaGreatDoor
set_option linter.unusedVariables false
set_option linter.unusedSimpArgs false
/-- Two lists in which each thing stands as often are one in another order. -/
theorem perm_by {α : Type} {l l' : List α} (h : ∀ [DecidableEq α] (x : α), l.count x = l'.count x) : l.Perm l' := by
  classical exact List.perm_iff_count.2 fun x => h x
/-- A file, or a directory, as it is told. -/
structure FileD where
  path : ByteArray
  dir : Bool
  data : ByteArray
def FileD.cells (f : FileD) : List Value := [.string f.path, .bool f.dir, .string f.data]
namespace Fs
theorem inv_tblN {N : Nat} {d : FsD} {t : TabD} (h : Inv N d) (ht : In.Inv N t) : Inv N ⟨t, d.h⟩ := inv_tbl h ht (Nat.le_refl N)
section
variable {N : Nat} {d : FsD}
theorem up_gives (h : In.Up d.t) (o id : Int) : In.Up (gives d o id).2.t := by
  unfold gives
  split <;> exact h.less (In.less_hold id)
theorem up_closes (h : In.Up d.t) (o : Int) (n : Nat) : In.Up (closes d o n).t := h.less (In.less_drop _)
theorem up_opens (I : Inv N d) (h : In.Up d.t) (o : Int) (p : OpD) : In.Up (opens d o p).2.t := by
  unfold opens
  split
  · exact h
  split
  · exact h
  split
  · have hm := In.up_make I.tbl h (at_ d p.path).1.1 (at_ d p.path).1.2 false
    split
    · exact hm
    · exact up_gives (d := ⟨(In.make d.t (at_ d p.path).1.1 (at_ d p.path).1.2 false).2.2, d.h⟩) hm o _
  split
  · exact h
  · exact up_gives h o _
theorem up_handled (h : In.Up d.t) (o : Int) (p : OpD) : In.Up (handled d o p).2.t := by
  unfold handled
  split
  · exact h
  split
  · exact up_closes h o _
  split
  · exact h
  split
  · exact h.less (In.less_write _ _ _)
  split
  · exact h.less (In.less_trunc _ _)
  · exact h
theorem up_named (I : Inv N d) (h : In.Up d.t) (p : OpD) : In.Up (named d p).2 := by
  unfold named namedAt
  split
  · exact h
  split
  · exact In.up_make I.tbl h _ _ true
  split
  · exact h.less (In.less_remove _ _)
  split
  · exact h.less (In.less_unlink _ _)
  split
  · split
    · exact h
    split
    · exact h
    · exact In.up_link h _ _ _
  split
  · exact h
  · exact In.up_rename h _ _ _ _
theorem up_do (I : Inv N d) (h : In.Up d.t) (o : Int) (p : OpD) : In.Up (do_ d o p).2.t := by
  unfold do_
  split
  · exact h
  split
  · exact up_opens I h o p
  split
  · exact up_handled h o p
  split
  · exact h
  · exact up_named I h p
theorem up_exitL (o : Int) : ∀ (l : List Int) (n : Nat) (d : FsD), In.Up d.t → In.Up (exitL o l n d).t
  | [], _, _, h => h
  | i :: r, n, d, h => by
    unfold exitL
    refine up_exitL o r (n + 1) _ ?_
    split
    · exact up_closes h o n
    · exact h
theorem up_exit (h : In.Up d.t) (o : Int) : In.Up (exit d o).t := up_exitL o _ 0 d h
/-- An owner's handles are closed: no more owners than there were. -/
theorem len_del {h : List (Int × List Int)} {o : Int} : (del h o).length + (if (h.find? fun p => p.1 == o).isSome then 1 else 0) ≤ h.length := by
  induction h with
  | nil => simp [del]
  | cons y r ih =>
    unfold del at ih ⊢
    rw [List.filter_cons, List.find?_cons]
    cases hy : y.1 == o with
    | true =>
      have := List.length_filter_le (fun p : Int × List Int => !(p.1 == o)) r
      simp only [Bool.not_true, Bool.false_eq_true, if_false, Option.isSome_some, if_true, List.length_cons]
      omega
    | false =>
      simp only [Bool.not_false, if_true, List.length_cons]
      omega
theorem inv_closes0 (I : Inv N d) {o : Int} {n : Nat} (hn : (hOf d.h o).getD n 0 ≠ 0) : Inv N (closes d o n) := by
  have hr := rows_put I.rows (o := o) (set_row (hOf_row I o) n (v := 0) (by omega))
  have hN := I.len
  have hs : (d.h.find? fun p => p.1 == o).isSome = true := by
    unfold hOf at hn
    cases hf : d.h.find? fun p => p.1 == o with
    | some p => rfl
    | none =>
      rw [hf] at hn
      refine absurd ?_ hn
      show z9.getD n 0 = 0
      unfold z9
      match n with
      | 0 | 1 | 2 | 3 | 4 | 5 | 6 | 7 | 8 => rfl
      | n + 9 => rfl
  have hl : (put d.h o ((hOf d.h o).set n 0)).length ≤ N := by
    unfold put
    rw [len_ins]
    have := len_del (h := d.h) (o := o)
    rw [hs] at this
    simp only [if_true] at this
    omega
  refine ⟨In.inv_drop I.tbl _, ?_, ?_⟩
  · unfold closes shut
    simp only
    split
    · exact rows_del hr o
    · exact hr
  · unfold closes shut
    simp only
    split
    · exact Nat.le_trans (List.length_filter_le _ _) hl
    · exact hl
theorem hOf_ins {h : List (Int × List Int)} {o : Int} {l : List Int} (hn : (h.find? fun p => p.1 == o) = none) (o' : Int) : hOf (ins (o, l) h) o' = if o' = o then l else hOf h o' := by
  induction h with
  | nil =>
    unfold ins hOf
    rw [List.find?_cons]
    by_cases e : o' = o
    · subst e; simp
    · have : (o == o') = false := beq_eq_false_iff_ne.2 fun h => e h.symm
      simp [this, e]
  | cons y r ih =>
    rw [List.find?_cons] at hn
    cases hy : y.1 == o with
    | true => rw [hy] at hn; cases hn
    | false =>
      rw [hy] at hn
      have hyo : y.1 ≠ o := by simpa using hy
      have ih' := ih hn
      unfold ins
      split
      · unfold hOf
        rw [List.find?_cons]
        by_cases e : o' = o
        · subst e; simp
        · have : (o == o') = false := beq_eq_false_iff_ne.2 fun h => e h.symm
          simp [this, e]
      · unfold hOf at ih' ⊢
        rw [List.find?_cons, List.find?_cons]
        cases hy' : y.1 == o' with
        | true =>
          have e : y.1 = o' := by simpa using hy'
          rw [if_neg (fun h => hyo (e.trans h))]
        | false => exact ih'
theorem find_del (h : List (Int × List Int)) (o o' : Int) : ((del h o).find? fun p => p.1 == o') = if o' = o then none else h.find? fun p => p.1 == o' := by
  unfold del
  rw [List.find?_filter]
  split
  · rename_i e
    subst e
    rw [List.find?_eq_none]
    intro p _
    simp
  · rename_i e
    congr 1
    funext p
    cases hp : p.1 == o' with
    | false => simp
    | true =>
      have : p.1 = o' := by simpa using hp
      simp [this, e]
theorem hOf_put (h : List (Int × List Int)) (o : Int) (l : List Int) (o' : Int) : hOf (put h o l) o' = if o' = o then l else hOf h o' := by
  unfold put
  rw [hOf_ins (by rw [find_del, if_pos rfl])]
  split
  · rfl
  · rename_i e
    unfold hOf
    rw [find_del, if_neg e]
theorem hOf_del (h : List (Int × List Int)) (o o' : Int) : hOf (del h o) o' = if o' = o then z9 else hOf h o' := by
  unfold hOf
  rw [find_del]
  by_cases e : o' = o
  · rw [if_pos e, if_pos e]
  · rw [if_neg e, if_neg e]
theorem hOf_shut (h : List (Int × List Int)) (o : Int) (l : List Int) (o' : Int) : hOf (shut h o l) o' = if o' = o then l else hOf h o' := by
  unfold shut
  split
  · rename_i e
    rw [hOf_del, hOf_put]
    split
    · exact e.symm
    · rfl
  · exact hOf_put h o l o'
/-- Exit keeps the bound. -/
theorem inv_exitL (o : Int) : ∀ (l : List Int) (n : Nat) (d : FsD), Inv N d → (∀ j, l[j]? = (hOf d.h o)[n + j]?) → Inv N (exitL o l n d)
  | [], _, _, I, _ => I
  | i :: r, n, d, I, hl => by
    unfold exitL
    have h0 := hl 0
    rw [List.getElem?_cons_zero, Nat.add_zero] at h0
    split
    · rename_i hi
      refine inv_exitL o r (n + 1) _ (inv_closes0 I (n := n) (by rw [List.getD_eq_getElem?_getD, ← h0]; exact hi)) fun j => ?_
      have hj := hl (j + 1)
      rw [List.getElem?_cons_succ] at hj
      unfold closes
      simp only
      rw [hOf_shut, if_pos rfl, List.getElem?_set_ne (by omega), hj]
      congr 1
      omega
    · refine inv_exitL o r (n + 1) _ I fun j => ?_
      have hj := hl (j + 1)
      rw [List.getElem?_cons_succ] at hj
      rw [hj]
      congr 1
      omega
theorem inv_exit (I : Inv N d) (o : Int) : Inv N (exit d o) := inv_exitL o _ 0 d I fun j => by rw [Nat.zero_add]
/-! ### all files -/
/-- What lies below a directory. -/
def under (t : TabD) : Nat → Int → ByteArray → List FileD
  | 0, _, _ => []
  | k + 1, id, dir => (In.at_ t id).names.flatMap fun p => ⟨Pt.join dir p.1, (In.at_ t p.2).dir, (In.at_ t p.2).data⟩ :: under t k p.2 (Pt.join dir p.1)
def files (d : FsD) : List FileD := under d.t d.t.last.toNat 1 ⟨#[]⟩
theorem under_none {t : TabD} {id : Int} (h : (In.at_ t id).names = []) (k : Nat) (dir : ByteArray) : under t k id dir = [] := by
  cases k with
  | zero => rfl
  | succ k => unfold under; rw [h]; rfl
theorem leaf_names {t : TabD} (I : In.Inv N t) {id : Int} (h : (In.at_ t id).dir = false) : (In.at_ t id).names = [] := by
  cases hq : (In.at_ t id).names with
  | nil => rfl
  | cons p r =>
    have hf := In.names_found (t := t) (id := id) (p := p) (by rw [hq]; exact .head _)
    rw [I.files _ (In.find_some hf).1 h] at hq
    cases hq
theorem sum_dirs {t : TabD} {f : ByteArray × Int → Nat} {g : Int → Nat} (hf : ∀ p, f p ≤ if (In.at_ t p.2).dir then g p.2 else 0) : ∀ l : List (ByteArray × Int), (l.map fun p => 1 + f p).sum ≤ l.length + (((l.map Prod.snd).filter fun i => (In.at_ t i).dir).map g).sum
  | [] => by simp
  | p :: r => by
    have ih := sum_dirs hf r
    have hp := hf p
    rw [List.map_cons, List.sum_cons, List.map_cons, List.filter_cons, List.length_cons]
    cases hd : (In.at_ t p.2).dir with
    | true =>
      rw [hd] at hp
      simp only [if_true] at hp ⊢
      rw [List.map_cons, List.sum_cons]
      omega
    | false =>
      rw [hd] at hp
      simp only [Bool.false_eq_true, if_false] at hp ⊢
      omega
theorem sum_one {α : Type} : ∀ l : List α, (l.map fun _ => 1).sum = l.length
  | [] => rfl
  | _ :: r => by rw [List.map_cons, List.sum_cons, sum_one r, List.length_cons]; omega
theorem sum_flat {α : Type} (f : α → List Nat) : ∀ l : List α, (l.flatMap f).sum = (l.map fun a => (f a).sum).sum
  | [] => rfl
  | a :: r => by rw [List.flatMap_cons, List.sum_append, sum_flat f r, List.map_cons, List.sum_cons]
theorem under_len {t : TabD} (I : In.Inv N t) : ∀ (k : Nat) (id : Int) (dir : ByteArray), (under t (k + 1) id dir).length ≤ ((In.below t k id).map fun i => (In.at_ t i).names.length).sum
  | 0, id, dir => by
    unfold under
    rw [List.length_flatMap]
    refine Nat.le_trans (Nat.le_of_eq ?_) (Nat.le_of_eq (show (In.at_ t id).names.length = _ by simp [In.below]))
    exact sum_one _
  | k + 1, id, dir => by
    unfold under
    rw [List.length_flatMap]
    simp only [List.length_cons]
    unfold In.below
    rw [List.map_cons, List.sum_cons, List.map_flatMap]
    have key := sum_dirs (t := t) (f := fun p => (under t (k + 1) p.2 (Pt.join dir p.1)).length) (g := fun c => ((In.below t k c).map fun i => (In.at_ t i).names.length).sum) (fun p => by
      split
      · exact under_len I k p.2 _
      · rename_i hd
        rw [under_none (leaf_names I (by simpa using hd))]
        exact Nat.zero_le _) (In.at_ t id).names
    have e1 : ((In.at_ t id).names.map fun p => (under t (k + 1) p.2 (Pt.join dir p.1)).length + 1) = (In.at_ t id).names.map fun p => 1 + (under t (k + 1) p.2 (Pt.join dir p.1)).length := List.map_congr_left fun p _ => Nat.add_comm _ _
    rw [e1]
    refine Nat.le_trans key (Nat.le_of_eq ?_)
    congr 1
    unfold In.dirsIn
    rw [sum_flat]
theorem files_len (I : Inv N d) (h : In.Up d.t) : (files d).length ≤ N := by
  unfold files
  have h1 := I.tbl.last
  obtain ⟨k, hk⟩ : ∃ k, d.t.last.toNat = k + 1 := ⟨d.t.last.toNat - 1, by omega⟩
  rw [hk]
  exact Nat.le_trans (under_len I.tbl k 1 _) (Nat.le_trans (In.below_names I.tbl h k 1) I.tbl.tot)
end
end Fs
end Go.Proofs.YtcicjklhbnipcaaGreatDoor
namespace Go.Proofs.YtcicjklhbnipcaaGreatDoor
set_option linter.unusedVariables false
set_option linter.unusedSimpArgs false
open Go.RowKit Go.Maps Go.WideElems Go.ChangeShapes Go.WideShapes Go.ChangeMaps Go.MapKept
/-- Block b is a map of just these entries; block r is an iterator over it. -/
abbrev mapX (es : Array MapEntry) (clock : Nat) : Res := .obj fun o => o = .map es clock
abbrev itX (b since : Nat) (seen : Array Nat) (c0 : Nat) : Res := .obj fun o => o = .mapIter (some b) since seen c0
/-- The loop is under way: the map reads as l; which keys are still to come, and how many. -/
structure Rng (P : Program) (k : TypeId) (l : List (Lit × Value)) (es : Array MapEntry) (clock since : Nat) (seen : Array Nat) (c0 : Nat) (left : Lit → Bool) (cnt : Nat) : Prop where
  fit : Go.WideElems.Fit P k anyElem es clock
  size : es.size ≤ l.length
  eq : heldD l = .map ((es.toList.map (rg P k anyElem)).foldr DataW.insert [])
  old : ∀ x ∈ es.toList, x.born < since
  cnt : (leftOf es seen).size = cnt
  left1 : ∀ x ∈ es.toList, left (rg P k anyElem x).1 = !seen.contains x.born
  left2 : ∀ kl, left kl = true → ∃ x ∈ es.toList, (rg P k anyElem x).1 = kl
  s0 : since ≤ c0
  s1 : since ≤ clock
section
variable {P : Program} {K : Act → World → Prop} {a : Act} {w w0 : World} {ops : Array Oper} {l : List (Oper × Nat)} {c : Nat} {o : Oper} {F : List Nat} {L L' Lr : List Ent} {b r : Nat} {ty kt et : TypeId} {x y : Operand} {ow : Bool} {S : World → Prop} {m : List (Lit × Value)} {es : Array MapEntry} {clock since c0 cnt : Nat} {seen : Array Nat} {left : Lit → Bool}
theorem Rng.to (h : Rng P kt m es clock since seen c0 left cnt) (hb : (mapX es clock).holds w.heap[b]?) (hr : (itX b since seen c0).holds w.heap[r]?) : w.ranges P kt anyElem b r m.length (heldD m) left cnt := by
  obtain ⟨o, ho, rfl⟩ := hb
  obtain ⟨q, hq, rfl⟩ := hr
  exact ⟨es, clock, since, seen, c0, ho, h.fit, h.size, h.eq, hq, h.old, h.cnt, h.left1, h.left2, h.s0, h.s1⟩
/-- 'range m'. -/
theorem St.range (hx : o.op = .range ty x) (hM : St w0 F w L) (hc : (c == 2 || c == 3) = true) (hw : Region.wanted o (yielded ops a.tmps) = true) (hev : a.eval x = .map (some b)) (hK : Keyed P kt) (ht : P.underlying ty = some (.map kt et)) {L' : Array MapEntry → Nat → List Ent} (hu : ∀ es clock, Upd L (b, ow, mapR P kt m) (b, ow, mapX es clock) (L' es clock))
    (h : ∀ w' r es clock since, Rng P kt m es clock since #[] since (Maps.has (heldD m)) m.length → St w0 F w' ((r, true, itX b since #[] since) :: L' es clock) → wpSeq P ops K (Held w0 F []) l (a.put o.dst (.pointer (some ⟨r, 0, none⟩))) w') : wpSeq P ops K (Held w0 F []) ((o, c) :: l) a w := by
  have hb0 := mapR_at (hM.holds _ (hu #[] 0).mem)
  obtain ⟨es, clock, hb, Ft, hs, hD⟩ := hb0
  have hM' : St w0 F w (L' es clock) := hM.weaken (hu es clock) (fun _ => ⟨_, hb, rfl⟩)
  have hrun : (execOp a.eval o).run P w = .ok (.value (.pointer (some ⟨w.heap.size, 0, none⟩))) (w.alloc (.mapIter (some b) clock #[] clock)) := by
    unfold execOp
    simp only [hx, hev, Sem.run_bind, Sem.run_pure, run_range_map w ty kt et b es clock ht hb, Result.andThen_ok]
  have hown : w.ownsMap P kt anyElem b m.length (heldD m) := ⟨es, clock, hb, Ft, hs, hD⟩
  have hR : Rng P kt m es clock clock #[] clock (Maps.has (heldD m)) m.length := by
    obtain ⟨w', hrun', hrg, hg, -⟩ := hown.range hK ht
    rw [run_range_map w ty kt et b es clock ht hb] at hrun'
    injection hrun' with e1 e2
    subst e2
    obtain ⟨es', clock', since', seen', c0', hb', F', hs', hD', hr', hold, hc', hl1, hl2, h0, h1⟩ := hrg
    rw [(MapKept.heap_alloc w _).1] at hr'
    rw [(MapKept.heap_alloc w _).2 b (MapAt.lt (mapR_at (hM.holds _ (hu #[] 0).mem))), hb] at hb'
    injection hb' with hb'
    injection hb' with e3 e4
    injection hr' with hr'
    injection hr' with e5 e6 e7 e8
    subst e3 e4 e6 e7 e8
    exact ⟨F', hs', hD', hold, by rw [hc', size_held], hl1, hl2, h0, h1⟩
  exact wpSeq_turns hc hw hrun (.inl rfl) (fun _ hh => ⟨hh.only.alloc _, nofun⟩) (h _ _ es clock clock hR (hM'.push _ ⟨_, rfl, rfl⟩))
/-- The step: nothing is left, or an entry that is left comes. -/
theorem St.next (hx : o.op = .next x false) (hM : St w0 F w L) (hc : (c == 2 || c == 3) = true) (hw : Region.wanted o (yielded ops a.tmps) = true) (hev : a.eval x = .pointer (some ⟨r, 0, none⟩)) (hK : Keyed P kt) (hm : (b, ow, mapX es clock) ∈ L) {L' : Array Nat → Nat → List Ent} (hu : ∀ s q, Upd L (r, true, itX b since seen c0) (r, true, itX b since s q) (L' s q)) (hR : Rng P kt m es clock since seen c0 left cnt)
    (h0 : cnt = 0 → (∀ kl, left kl = false) → wpSeq P ops K (Held w0 F []) l (a.put o.dst (.tuple #[.bool false])) w)
    (h : ∀ w' e kl cnt', e ∈ es.toList → keyOf P kt e.key = some kl → left kl = true → (∀ z, lookL m kl z = e.val) → Rng P kt m es clock since (seen.push e.born) clock (fun x => left x && !x.sameKey kl) cnt' → cnt' < cnt → St w0 F w' (L' (seen.push e.born) clock) →
      wpSeq P ops K (Held w0 F []) l (a.put o.dst (.tuple #[.bool true, e.key, e.val])) w') : wpSeq P ops K (Held w0 F []) ((o, c) :: l) a w := by
  obtain ⟨_, hb, rfl⟩ := hM.holds _ hm
  obtain ⟨_, hr, rfl⟩ := hM.holds _ (hu #[] 0).mem
  have hne : r ≠ b := fun e => by
    simp only at hb hr
    rw [e, hb] at hr
    cases hr
  rcases run_next_at (P := P) w o.type r b since c0 seen es clock hr hb hR.old hR.s0 with ⟨hz, hrun⟩ | ⟨e, he, w1, hal, hrun⟩
  · have hrun' : (execOp a.eval o).run P w = .ok (.value (.tuple #[.bool false])) w := by
      unfold execOp
      simp only [hx, hev, Sem.run_bind, Sem.run_pure, hrun, Result.andThen_ok]
    refine wpSeq_yields hc hw hrun' (h0 (hR.cnt ▸ hz) fun kl => ?_)
    cases hk : left kl
    · rfl
    · obtain ⟨x, hxm, rfl⟩ := hR.left2 kl hk
      rw [hR.left1 x hxm, all_seen es seen hz x hxm] at hk
      cases hk
  · obtain ⟨hem, hes⟩ := mem_left he
    obtain ⟨y0, hy0⟩ := hR.fit.reads e hem
    obtain ⟨z, hz, hzd⟩ := rd_val hy0
    have hkey := rd_key hy0
    have hrg : (rg P kt anyElem e).1 = y0.1 := by rw [rg_of hy0]
    have hr1 : w1.heap[r]? = some (.mapIter (some b) since seen c0) := by rcases hal with rfl | rfl <;> exact hr
    have hset := heap_set (o' := .mapIter (some b) since (seen.push e.born) clock) hr1
    have hO : Only [r] w (setBlock w1 r (.mapIter (some b) since (seen.push e.born) clock)) := by
      rcases hal with rfl | rfl
      · exact ⟨rfl, rfl, rfl, by simp [setBlock], fun i _ hi => hset.2 i (by simpa using hi)⟩
      · exact ⟨rfl, rfl, rfl, by simp [setBlock], fun i _ hi => hset.2 i (by simpa using hi)⟩
    have hrun' : (execOp a.eval o).run P w = .ok (.value (.tuple #[.bool true, e.key, e.val])) (setBlock w1 r (.mapIter (some b) since (seen.push e.born) clock)) := by
      unfold execOp
      simp only [hx, hev, Sem.run_bind, Sem.run_pure, hrun, Result.andThen_ok]
    have hz' : z = (.held e.val, []) := (Option.some.inj hz).symm
    have hlook : ∀ q, lookL m y0.1 q = e.val := fun q => by
      have h1 : (heldD m).atKey y0.1 (.held q) = y0.2 := by
        rw [hR.eq, (atKey_sorted (es.toList.map (rg P kt anyElem)) (Maps.fit_rising hK hR.fit) y0.1 (hK.key hkey)).2 (rg P kt anyElem e) (List.mem_map.2 ⟨e, hem, rfl⟩) hrg, rg_of hy0]
      rw [atKey_held] at h1
      have h2 : DataW.held (lookL m y0.1 q) = (z.1 : DataW Value) := h1.trans hzd
      rw [hz'] at h2
      injection h2
    refine wpSeq_turns hc hw hrun' (.inl rfl) (fun _ hh => ⟨hh.only.then hO (fun q hq => by
      have e1 : q = r := by simpa using hq
      rw [e1]; exact hM.own _ (hu #[] 0).mem rfl), nofun⟩) (h _ e y0.1 _ hem hkey ?_ hlook ⟨hR.fit, hR.size, hR.eq, hR.old, rfl, fun q hq => ?_, fun kl hkl => hR.left2 kl (by simp at hkl; exact hkl.1), hR.s1, hR.s1⟩ ?_ (hM.turn (hu _ _) hO ⟨_, hset.1, rfl⟩))
    · rw [← hrg, hR.left1 e hem, hes]; rfl
    · show (left (rg P kt anyElem q).1 && !(rg P kt anyElem q).1.sameKey y0.1) = _
      rw [hR.left1 q hq, ← hrg, same_iff_born hK hR.fit hq hem, contains_push]
      cases seen.contains q.born <;> cases (q.born == e.born) <;> rfl
    · rw [← hR.cnt]; exact left_shrinks es seen e he
/-- The entry that has come. -/
theorem St.entry (hx : o.op = .entry x) (hM : St w0 F w L) (hc : (c == 2 || c == 3) = true) (hw : Region.wanted o (yielded ops a.tmps) = true) (hev : a.eval x = .pointer (some ⟨r, 0, none⟩)) (hm : (b, ow, mapX es clock) ∈ L) {e : MapEntry} {ow' : Bool} (hi : (r, ow', itX b since (seen.push e.born) clock) ∈ L) (he : e ∈ es.toList) {seen' : Array Nat} (hR : Rng P kt m es clock since seen' clock left cnt)
    (h : wpSeq P ops K S l (a.put o.dst (.tuple #[e.key, e.val])) w) : wpSeq P ops K S ((o, c) :: l) a w := by
  obtain ⟨_, hb, rfl⟩ := hM.holds _ hm
  obtain ⟨_, hr, rfl⟩ := hM.holds _ hi
  have hrun : (execOp a.eval o).run P w = .ok (.value (.tuple #[e.key, e.val])) w := by
    unfold execOp
    simp only [hx, hev, Sem.run_bind, Sem.run_pure, run_entry_at w r b since seen es clock e hr hb he ((stamped_iff es clock).1 hR.fit.stamped).2.1, Result.andThen_ok]
  exact wpSeq_yields hc hw hrun h
end
end Go.Proofs.YtcicjklhbnipcaaGreatDoor
namespace Go.Proofs.YtcicjklhbnipcaaGreatDoor
set_option linter.unusedVariables false
set_option linter.unusedSimpArgs false
open Go.RowKit Go.Maps Go.Shelf
section
variable {w w0 : World} {b : Nat} {F : List Nat} {L : List Ent} {l : List (Lit × Value)}
/-- A map cloned: a new one with the same entries. -/
theorem st_clone {P : Program} {k : TypeId} {es : Array MapEntry} {clock : Nat} (hb : w.heap[b]? = some (.map es clock)) (h : MapAt P k w b l) : St w [] (w.alloc (.map es clock)) [(w.heap.size, true, mapR P k l)] :=
  (St.start w []).push (.map es clock) ⟨_, rfl, w, b, hb, h⟩
theorem cloneM_any (h : (mapR Tryz.prog 9 l).holds w.heap[b]?) : Calls Tryz.prog 126 #[.map (some b)] w fun e w' => ∃ c, e = .returned (.map (some c)) ∧ St w [] w' [(c, true, mapR Tryz.prog 9 l)] := by
  have hm := mapR_at h
  have hm0 := hm
  obtain ⟨es, clock, hb, -⟩ := hm0
  refine (AnyW.maps_Clone Tryz.cloneM b es clock w hb).mono ?_
  rintro e w' ⟨rfl, rfl⟩
  exact ⟨_, rfl, st_clone hb hm⟩
end
/-! ### nodes, some of them -/
def someN (p : Int → Bool) (l : List NodeD) : List NodeD := l.filter fun n => p n.id
theorem someN_cons (p : Int → Bool) (y : NodeD) (r : List NodeD) : someN p (y :: r) = if p y.id then y :: someN p r else someN p r := by
  unfold someN
  rw [List.filter_cons]
theorem someN_congr {p q : Int → Bool} {l : List NodeD} (h : ∀ n ∈ l, p n.id = q n.id) : someN p l = someN q l := List.filter_congr h
theorem nodesL_congr {β γ : Int → Nat × Nat} {l : List NodeD} (h : ∀ n ∈ l, β n.id = γ n.id) : nodesL β l = nodesL γ l := by
  unfold nodesL
  exact List.map_congr_left fun n hn => by rw [h n hn]
/-- One more node is there. -/
theorem put_some (β γ : Int → Nat × Nat) (p q : Int → Bool) (n : NodeD) (hp : p n.id = false) (hq : ∀ i, q i = (p i || i == n.id)) (hg : ∀ i, i ≠ n.id → γ i = β i) :
    ∀ l : List NodeD, (l.Pairwise fun a b => a.id < b.id) → n ∈ l → putL (.int .i64 n.id) (.pointer (some ⟨(γ n.id).1, 0, none⟩)) (nodesL β (someN p l)) = nodesL γ (someN q l) ∧ ((someN q l).Perm (n :: someN p l)) := by
  have hdel : ∀ l : List NodeD, delL (.int .i64 n.id) (nodesL β (someN p l)) = nodesL β (someN p l) := fun l => by
    unfold delL nodesL someN
    rw [List.filter_eq_self]
    intro x hx
    obtain ⟨m, hm, rfl⟩ := List.mem_map.1 hx
    have h1 : p m.id = true := by simpa using (List.mem_filter.1 hm).2
    show (!decide (IntKind.i64 = IntKind.i64 ∧ m.id = n.id)) = true
    have : m.id ≠ n.id := fun e => by rw [e, hp] at h1; cases h1
    simp [this]
  have hsame : ∀ l : List NodeD, (∀ m ∈ l, m.id ≠ n.id) → nodesL γ (someN q l) = nodesL β (someN p l) ∧ someN q l = someN p l := fun l hl => by
    have e : someN q l = someN p l := someN_congr fun m hm => by rw [hq]; simp [hl m hm]
    refine ⟨?_, e⟩
    rw [e]
    exact nodesL_congr fun m hm => hg m.id (hl m (List.mem_filter.1 hm).1)
  have hins : ∀ l : List NodeD, (∀ m ∈ l, n.id < m.id) → ∀ v, insL (.int .i64 n.id, v) (nodesL β (someN p l)) = (.int .i64 n.id, v) :: nodesL β (someN p l) := fun l hl v => by
    cases hs : someN p l with
    | nil => rfl
    | cons y r =>
      have hy : y ∈ someN p l := by rw [hs]; exact .head _
      have := hl y (List.mem_filter.1 hy).1
      unfold nodesL
      rw [List.map_cons]
      unfold insL
      rw [if_pos (show (Lit.int .i64 n.id).before (.int .i64 y.id) = true by simpa [Lit.before] using this)]
  intro l hl hn
  unfold putL
  rw [hdel]
  induction l with
  | nil => cases hn
  | cons y r ih =>
    obtain ⟨hy, hr⟩ := List.pairwise_cons.1 hl
    rw [someN_cons, someN_cons]
    rcases List.mem_cons.1 hn with rfl | hn'
    · have hne : ∀ m ∈ r, m.id ≠ n.id := fun m hm => by have := hy m hm; omega
      obtain ⟨s1, s2⟩ := hsame r hne
      rw [if_neg (by rw [hp]; decide), if_pos (by rw [hq]; simp), hins r hy, s2]
      refine ⟨?_, List.Perm.refl _⟩
      show _ = (Lit.int .i64 n.id, _) :: nodesL γ (someN p r)
      rw [s2] at s1
      rw [s1]
    · have hlt := hy n hn'
      have hne : y.id ≠ n.id := by omega
      obtain ⟨i1, i2⟩ := ih hr hn'
      have hqy : q y.id = p y.id := by rw [hq]; simp [hne]
      rw [hqy]
      by_cases hpy : p y.id = true
      · rw [if_pos hpy, if_pos hpy]
        refine ⟨?_, (i2.cons y).trans (List.Perm.swap n y _)⟩
        show insL _ ((Lit.int .i64 y.id, Value.pointer (some ⟨(β y.id).1, 0, none⟩)) :: nodesL β (someN p r)) = (Lit.int .i64 y.id, Value.pointer (some ⟨(γ y.id).1, 0, none⟩)) :: nodesL γ (someN q r)
        unfold insL
        rw [if_neg (show ¬ (Lit.int .i64 n.id).before (.int .i64 y.id) = true by simp [Lit.before]; omega), i1, hg y.id hne]
      · rw [if_neg hpy, if_neg hpy]
        exact ⟨i1, i2⟩
theorem flat_some (γ δ : Int → Nat × Nat) (n : NodeD) (p : Int → Bool) (hp : p n.id = false) (hd : ∀ i, i ≠ n.id → δ i = γ i) {l l' : List NodeD} (h : l'.Perm (n :: someN p l)) : (l'.flatMap (nodeL δ)).Perm (nodeL δ n ++ (someN p l).flatMap (nodeL γ)) := by
  refine (h.flatMap_right (nodeL δ)).trans (List.Perm.of_eq ?_)
  rw [List.flatMap_cons]
  congr 1
  have : ∀ m ∈ someN p l, nodeL δ m = nodeL γ m := fun m hm => by
    have h1 : p m.id = true := by simpa using (List.mem_filter.1 hm).2
    have : m.id ≠ n.id := fun e => by rw [e, hp] at h1; cases h1
    unfold nodeL
    rw [hd m.id this]
  rw [List.flatMap_def, List.flatMap_def, List.map_congr_left this]
/-- What comes is one of the nodes. -/
theorem node_came {β : Int → Nat × Nat} {l : List NodeD} {x : Int} {v : Value} (h : ∀ z, lookL (nodesL β l) (.int .i64 x) z = v) : ∃ n ∈ l, n.id = x ∧ v = .pointer (some ⟨(β n.id).1, 0, none⟩) := by
  have h1 := h (.pointer none)
  have h2 := h (.bool true)
  unfold lookL at h1 h2
  cases hf : (nodesL β l).find? fun p => p.1.sameKey (.int .i64 x) with
  | none =>
    rw [hf] at h1 h2
    rw [← h2] at h1
    cases h1
  | some p =>
    rw [hf] at h1
    obtain ⟨n, hn, rfl⟩ := List.mem_map.1 (List.mem_of_find?_eq_some hf)
    have := List.find?_some hf
    have hx : n.id = x := by
      have h3 : decide (IntKind.i64 = IntKind.i64 ∧ n.id = x) = true := this
      simpa using h3
    exact ⟨n, hn, hx, h1.symm⟩
theorem row_in {w : World} {b : Nat} {cs : List Value} {t : TypeId} {fr : Nat × Nat} (h : w.heap[b]? = some (.cells cs.toArray t fr)) : w.rangeAt b 0 cs := fun j v hj => by
  unfold World.cell?
  simp [h, hj]
theorem Only.holds {w0 w : World} {b : Nat} {r : Res} (h : Only [] w0 w) (hr : r.holds w0.heap[b]?) : r.holds w.heap[b]? := by
  rw [h.block b (Res.lt hr) (by simp)]; exact hr
theorem flag_1 (b : Nat) (r : Res) : flagged [(b, true, r)] := fun y hy => by rcases List.mem_singleton.1 hy with rfl; rfl
theorem perm_last {α : Type} (c k a b e m : α) (R : List α) : (c :: k :: a :: b :: e :: m :: R).Perm (a :: b :: e :: m :: k :: c :: R) :=
  ((List.perm_middle (l₁ := [a, b, e, m]) (a := k) (l₂ := R)).symm.cons c).trans (List.perm_middle (l₁ := [a, b, e, m, k]) (a := c) (l₂ := R)).symm
theorem has_node {β : Int → Nat × Nat} {l : List NodeD} {n : NodeD} (hn : n ∈ l) : Maps.has (heldD (nodesL β l)) (.int .i64 n.id) = true := by
  refine List.any_eq_true.2 ⟨(.int .i64 n.id, .held (.pointer (some ⟨(β n.id).1, 0, none⟩))), ?_, by show decide (IntKind.i64 = IntKind.i64 ∧ n.id = n.id) = true; simp⟩
  exact List.mem_map.2 ⟨(.int .i64 n.id, .pointer (some ⟨(β n.id).1, 0, none⟩)), List.mem_map.2 ⟨n, hn, rfl⟩, rfl⟩
section
variable {g mb : Nat} {β : Int → Nat × Nat} {t : TabD}
set_option maxHeartbeats 8000000 in
set_option maxRecDepth 100000 in
theorem Clone_any {ws : World} (h : TblAt ws g mb β t) (hq : 0 < t.quota) (hlen : t.nodes.length ≤ 4611686018427) : Calls Tryz.prog 74 #[.pointer (some ⟨g, 0, none⟩)] ws fun e w' => ∃ g' mb' γ, e = .returned (.pointer (some ⟨g', 0, none⟩)) ∧ St ws [] w' (tblL g' mb' γ t) := by
  have hM : St ws [] ws [(mb, false, mapR Tryz.prog 3 (nodesL β t.nodes))] := (St.start ws []).learn (mapR_of h.map) nofun nofun
  have HT := Lib.hid h
  have CG := Lib.hid (given_yes h hq)
  have HA : Hid (t.nodes.Pairwise fun a b => a.id < b.id) := Lib.hid (by
    have := MapAt.sorted h.map key_int
    unfold nodesL at this
    rw [List.pairwise_map] at this
    exact this.imp fun h => by simpa [Lit.before] using h)
  obtain ⟨c0, c1, c2, c3⟩ := tbl_cells h
  clear h hq
  go_enter Tryz.func74, Tryz.ntmps74
  (repeat (first | ((with_reducible show wpSeq _ _ _ _ _ _ _); first | ((with_reducible refine wpSeq_nil ?_); refine hKr.out _ _ ?_; clear hKr Kr) | (((refine St.copy (v := ?_) (by first | exact .inl rfl | exact .inr rfl) rfl rfl ?_ ?_; rotate_left; (focus ((try simp only [Act.eval, getD_lit, qGz, qGs]); with_reducible rfl)))); (try simp only [Act.put, qSa, qSz, qSs]))) | (first | (refine wp_seq_shut (fun K hK => ?_)) | (refine wp_text hM (fun Kr hKr => ?_); simp only [inText]) | ((refine hK.out _ _ ?_); clear hK K))))
  (refine St.call rfl rfl rfl (by kernel_rfl) (fun R hR => ?_); simp only [List.map_toArray, List.map_cons, List.map_nil, Act.eval, getD_lit, qGz, qGs])
  refine CG.out.mono ?_
  (rintro e w' ⟨rfl, rfl⟩; refine hR.out _ _ (fun h => h) ?_; clear hR R; (try simp only [Act.put, qSa, qSz, qSs]))
  (repeat (first | ((with_reducible show wpSeq _ _ _ _ _ _ _); first | ((with_reducible refine wpSeq_nil ?_); refine hKr.out _ _ ?_; clear hKr Kr) | ((first | (refine St.copy (v := ?_) (by exact .inl rfl) rfl rfl ?_ ?_; rotate_left; (focus ((try simp only [Act.eval, getD_lit, qGz, qGs]); with_reducible rfl))) | (refine St.pure (v := ?_) rfl rfl rfl (fun w => ?_) ?_; rotate_left; (focus (go_simp; all_goals with_reducible rfl))) | refine St.loadF1 rfl rfl rfl rfl (fun w' hS => hS.old (by assumption)) (by kernel_rfl) ?_); (try simp only [Act.put, qSa, qSz, qSs]))) | (first | (refine wp_seq_shut (fun K hK => ?_)) | refine wp_skip ?_ | (refine wp_cond_false rfl ?_) | ((refine hK.out _ _ ?_); clear hK K)) | ((refine wp_drawn (id := 3) hM (Sub.all _) [3, 7, 11] [(0, 0), (1, 0), (2, 0), (3, 1), (4, 0), (5, 0), (6, 0), (7, 1), (8, 0), (9, 0), (10, 0), (11, 1), (12, 2), (13, 3), (14, 2), (15, 3)] (by kernel_rfl) (by kernel_rfl) ?_); (clear hM; intro w hM Kr hKr); simp only [opsOf, qGz, qGs])))
  refine St.makeMap (kt := 3) rfl hM rfl rfl (fun w => ?_) ?_
  · go_simp
    simp [Instr.makeMap, newObj, Sem.run]
  clear hM; intro w mb2 hM
  (try simp only [Act.put, qSa, qSz, qSs])
  (repeat (first | ((with_reducible show wpSeq _ _ _ _ _ _ _); first | ((with_reducible refine wpSeq_nil ?_); refine hKr.out _ _ ?_; clear hKr Kr) | ((first | (refine St.copy (v := ?_) (by first | exact .inl rfl | exact .inr rfl) rfl rfl ?_ ?_; rotate_left; (focus ((try simp only [Act.eval, getD_lit, qGz, qGs]); with_reducible rfl))) | (refine St.pure (v := ?_) rfl rfl rfl (fun w => ?_) ?_; rotate_left; (focus (go_simp; all_goals with_reducible rfl))) | refine St.loadF rfl rfl rfl rfl rfl (hM.old (by assumption)) (by kernel_rfl) ?_ | ((((refine St.box rfl hM rfl rfl rfl ?_); clear hM; intro w bk hM)); (try simp only [Res.put, Res.known, Act.eval, Value.cells, getD_lit, qGz, qGs, List.toList_toArray, qSz, qSs, over, Nat.reduceAdd] at hM))); (try simp only [Act.put, qSa, qSz, qSs]))) | (first | (refine wp_seq_shut (fun K hK => ?_)) | (refine wp_text hM (fun Kr hKr => ?_); simp only [inText]) | ((refine hK.out _ _ ?_); clear hK K))))
  obtain ⟨g2, eg⟩ : ∃ b, b = bk := ⟨_, rfl⟩
  subst eg
  refine St.range (kt := 3) rfl hM rfl rfl rfl key_int Tryz.underlying160 (fun _ _ => by repeat constructor) ?_
  clear hM; intro w r es clock since hR0 hM
  (try simp only [Act.put, qSa, qSz, qSs])
  (repeat (first | ((with_reducible show wpSeq _ _ _ _ _ _ _); ((with_reducible refine wpSeq_nil ?_); refine hKr.out _ _ ?_; clear hKr Kr)) | (first | refine wp_block ?_ | ((refine hK.out _ _ ?_); clear hK K))))
  have HR0 := Lib.hid hR0
  clear hR0
  replace hM : St ws [] w ((r, true, itX mb since #[] since) :: (mb, false, mapX es clock) :: tblL g2 mb2 β ⟨t.quota, t.used, t.last, someN (fun _ => false) t.nodes⟩) := by
    have e : someN (fun _ => false) t.nodes = [] := by unfold someN; simp
    rw [e]
    exact hM.perm ((List.perm_middle (l₁ := [_, _]) (l₂ := [])).cons _)
  go_loopw [4] (fun _ wr => ∃ (seen : Array Nat) (s0 : Nat) (left : Lit → Bool) (cnt : Nat) (γ : Int → Nat × Nat), Hid (Rng Tryz.prog 3 (nodesL β t.nodes) es clock since seen s0 left cnt) ∧ St ws [] wr ((r, true, itX mb since seen s0) :: (mb, false, mapX es clock) :: tblL g2 mb2 γ ⟨t.quota, t.used, t.last, someN (fun i => !left (.int .i64 i)) t.nodes⟩)) (fun _ wr => wr.rangeLeft mb r)
  case atStart =>
    refine ⟨_, _, _, _, β, HR0, ?_⟩
    rw [someN_congr (q := fun _ => false) fun n hn => by rw [has_node hn]; rfl]
    exact hM
  case round =>
    clear hM
    obtain ⟨seen, s0, left, cnt, γ, HR, hM⟩ := hrel
    have HCNT := Lib.hid ((HR.out.to (hM.holds _ (.tail _ (.head _))) (hM.holds _ (.head _))).left_eq)
    (repeat ((first | (refine wp_seq_shut (fun K hK => ?_)) | (refine wp_text hM (fun Kr hKr => ?_); simp only [inText]))))
    refine St.next (kt := 3) rfl hM rfl rfl rfl key_int (.tail _ (.head _)) (fun _ _ => Upd.head) HR.out ?_ ?_
    · intro hz hl
      have e : someN (fun i => !left (.int .i64 i)) t.nodes = t.nodes := by
        unfold someN
        rw [List.filter_eq_self]
        intro n _
        show (!left (.int .i64 n.id)) = true
        rw [hl]; rfl
      rw [e] at hM
      clear hl e hz HR
      (try simp only [Act.put, qSa, qSz, qSs])
      (repeat (first | ((with_reducible show wpSeq _ _ _ _ _ _ _); first | ((with_reducible refine wpSeq_nil ?_); refine hKr.out _ _ ?_; clear hKr Kr) | ((first | (refine St.copy (v := ?_) (by first | exact .inl rfl | exact .inr rfl) rfl rfl ?_ ?_; rotate_left; (focus ((try simp only [Act.eval, getD_lit, qGz, qGs]); with_reducible rfl))) | (refine St.pure (v := ?_) rfl rfl rfl (fun w => ?_) ?_; rotate_left; (focus (go_simp; all_goals with_reducible rfl)))); (try simp only [Act.put, qSa, qSz, qSs]))) | (first | (refine wp_seq_shut (fun K hK => ?_)) | (refine wp_text hM (fun Kr hKr => ?_); simp only [inText]) | (refine wp_cond_false rfl ?_) | (refine wp_exit ?_; simp only [Exit.then, Exit.inBlock, if_true, if_false, reduceCtorEq, Nat.reduceEqDiff, Nat.succ_ne_zero]) | ((first | refine hK.out _ _ ?_ | (clear hK K; refine hK.out _ _ ?_)); clear hK K))))
      ((refine wp_ret ?_; (try simp only [Exit.then, Exit.inBlock]); refine St.ret hM rfl (by repeat (first | exact Outs.nil | apply Outs.tmp rfl)) rfl ?_))
      exact ⟨g2, mb2, γ, rfl, hM.drop (fun z hz => .tail _ (.tail _ hz)) (by have := hM.nd; simp only [List.map_cons, List.nodup_cons] at this; exact this.2.2)⟩
    · clear hM
      intro w e kl cnt' he hkey hlk hlook hR' hlt hM
      obtain ⟨x, hek, rfl, -⟩ := Maps.keyOf_int_inv Tryz.underlying3 hkey
      obtain ⟨n, hn, rfl, hev⟩ := node_came hlook
      have hrow := row_in (HT.out.node n hn).row
      have c4 := hrow 4 _ rfl
      have HNM := Lib.hid (mapR_of (HT.out.node n hn).names)
      have HR' := Lib.hid hR'
      have HE := Lib.hid he
      have HN := Lib.hid hn
      have HLK := Lib.hid hlk
      have HKEY' := hkey
      rw [hek] at HKEY'
      have HLT := Lib.hid hlt
      clear hR' he hn hlk hkey hlt hlook HR
      simp only [hek, hev]
      (try simp only [Act.put, qSa, qSz, qSs])
      (repeat (first | ((with_reducible show wpSeq _ _ _ _ _ _ _); first | ((with_reducible refine wpSeq_nil ?_); refine hKr.out _ _ ?_; clear hKr Kr) | (((refine St.pure (v := ?_) rfl rfl rfl (fun w => ?_) ?_; rotate_left; (focus (go_simp; all_goals with_reducible rfl)))); (try simp only [Act.put, qSa, qSz, qSs]))) | (first | (refine wp_seq_shut (fun K hK => ?_)) | (refine wp_text hM (fun Kr hKr => ?_); simp only [inText]) | refine wp_block ?_ | refine wp_skip ?_ | (refine wp_cond_true rfl ?_) | ((refine hK.out _ _ ?_); clear hK K))))
      refine St.entry (kt := 3) rfl hM rfl rfl rfl (.tail _ (.head _)) (.head _) HE.out HR'.out ?_
      simp only [hek, hev]
      (try simp only [Act.put, qSa, qSz, qSs])
      (repeat (first | ((with_reducible show wpSeq _ _ _ _ _ _ _); first | ((with_reducible refine wpSeq_nil ?_); refine hKr.out _ _ ?_; clear hKr Kr) | ((first | (refine St.copy (v := ?_) (by first | exact .inl rfl | exact .inr rfl) rfl rfl ?_ ?_; rotate_left; (focus ((try simp only [Act.eval, getD_lit, qGz, qGs]); with_reducible rfl))) | (refine St.pure (v := ?_) rfl rfl rfl (fun w => ?_) ?_; rotate_left; (focus (go_simp; all_goals with_reducible rfl))) | refine St.loadF rfl rfl rfl rfl rfl (hM.old (by assumption)) (by kernel_rfl) ?_ | refine St.loadRowF rfl rfl rfl rfl rfl (hM.oldRow (by assumption)) (by kernel_rfl) ?_ | ((((refine St.storeRow rfl hM rfl rfl rfl rfl rfl (by repeat constructor) (Nat.le_of_ble_eq_true rfl) (Nat.le_of_ble_eq_true rfl) (by kernel_rfl) rfl ?_ ?_); (focus ((intro h; cases h; done))); clear hM; intro w hM)); (try simp only [Res.put, Res.known, Act.eval, Value.cells, getD_lit, qGz, qGs, List.toList_toArray, qSz, qSs, over, Nat.reduceAdd] at hM))); (try simp only [Act.put, qSa, qSz, qSs])) | (((refine St.alloc (ty := 166) (z := .agg #[.bool false, .int .i64 0, .int .i64 0, .string ⟨#[]⟩, .map none]) rfl hM rfl rfl (by kernel_rfl) ?_); clear hM; intro w bk hM); (try simp only [Res.put, Res.known, Act.eval, Value.cells, getD_lit, qGz, qGs, List.toList_toArray, qSz, qSs, over, Nat.reduceAdd] at hM); (try simp only [Act.put, qSa, qSz, qSs]))) | (first | (refine wp_seq_shut (fun K hK => ?_)) | (refine wp_text hM (fun Kr hKr => ?_); simp only [inText]) | ((refine hK.out _ _ ?_); clear hK K))))
      ((refine St.call rfl rfl rfl (by kernel_rfl) (fun R hR => ?_); simp only [List.map_toArray, List.map_cons, List.map_nil, Act.eval, getD_lit, qGz, qGs]))
      refine (cloneM_any (hM.only.holds HNM.out)).mono ?_
      rintro e' w' ⟨c, rfl, hN⟩
      replace hM := hM.madeM hN (flag_1 _ _)
      (refine hR.out _ _ (fun _ => ⟨hM.only, nofun⟩) ?_); clear hR R hN; (try simp only [Act.put, qSa, qSz, qSs])
      simp only [List.cons_append, List.nil_append] at hM
      unfold tblL tblE at hM
      (repeat (first | ((with_reducible show wpSeq _ _ _ _ _ _ _); first | ((with_reducible refine wpSeq_nil ?_); refine hKr.out _ _ ?_; clear hKr Kr) | ((first | (refine St.copy (v := ?_) (by exact .inl rfl) rfl rfl ?_ ?_; rotate_left; (focus ((try simp only [Act.eval, getD_lit, qGz, qGs]); with_reducible rfl))) | (refine St.pure (v := ?_) rfl rfl rfl (fun w => ?_) ?_; rotate_left; (focus (go_simp; all_goals with_reducible rfl))) | refine St.load rfl hM rfl rfl rfl rfl (by repeat constructor) (by rfl) (by kernel_rfl) ?_ | ((((refine St.store rfl hM rfl rfl rfl rfl rfl (by repeat constructor) (Nat.le_of_ble_eq_true rfl) (by kernel_rfl) rfl ?_ ?_); (focus ((intro h; cases h; done))); clear hM; intro w hM)); (try simp only [Res.put, Res.known, Act.eval, Value.cells, getD_lit, qGz, qGs, List.toList_toArray, qSz, qSs, over, Nat.reduceAdd] at hM))); (try simp only [Act.put, qSa, qSz, qSs]))) | (first | (refine wp_text hM (fun Kr hKr => ?_); simp only [inText]) | ((refine hK.out _ _ ?_); clear hK K))))
      obtain ⟨δ, d1, d2⟩ : ∃ δ : Int → Nat × Nat, δ n.id = (bk, c) ∧ ∀ i, i ≠ n.id → δ i = γ i := ⟨fun i => if i = n.id then (bk, c) else γ i, if_pos rfl, fun i hi => if_neg hi⟩
      obtain ⟨hput, hperm⟩ := put_some γ δ (fun i => !left (.int .i64 i)) (fun i => !(left (.int .i64 i) && !(Lit.int .i64 i).sameKey (.int .i64 n.id))) n (by show (!left (.int .i64 n.id)) = false; rw [HLK.out]; rfl) (fun i => by
        show (!(left (.int .i64 i) && !(decide (IntKind.i64 = IntKind.i64 ∧ i = n.id)))) = (!left (.int .i64 i) || i == n.id)
        by_cases hi : i = n.id
        · simp [hi]
        · simp [hi]) d2 t.nodes HT.out.ids HN.out
      rw [d1] at hput
      refine St.mapUpdate (kl := .int .i64 n.id) rfl hM rfl rfl rfl rfl rfl (by repeat constructor) hput key_int Tryz.underlying160 ?_ HKEY' (fun h => by cases h) ?_
      · have h1 : (nodesL γ (someN (fun i => !left (.int .i64 i)) t.nodes)).length ≤ t.nodes.length := by
          unfold nodesL someN
          rw [List.length_map]
          exact List.length_filter_le _ _
        unfold maxLen
        omega
      have hfl := flat_some γ δ n (fun i => !left (.int .i64 i)) (by show (!left (.int .i64 n.id)) = false; rw [HLK.out]; rfl) d2 hperm
      clear hM; intro w hM
      (try simp only [Act.put, qSa, qSz, qSs])
      replace hM := hM.perm (perm_last _ _ _ _ _ _ _)
      have e2 : nodeL δ n = [(bk, true, .cells [.bool n.dir, .int .i64 n.links, .int .i64 n.holds, .string n.data, .map (some c)] 166), (c, true, mapR Tryz.prog 9 (namesL n.names))] := by unfold nodeL; rw [d1]
      rw [e2] at hfl
      replace hM := hM.perm ((((hfl.symm.cons _).cons _).cons _).cons _)
      clear hfl hperm hput
      (repeat (((with_reducible show wpSeq _ _ _ _ _ _ _); ((with_reducible refine wpSeq_nil ?_); refine hKr.out _ _ ?_; clear hKr Kr))))
      refine ⟨?_, ?_⟩
      · repeat (first | exact ⟨⟨_, _, _, cnt', _, HR', hM⟩, rfl⟩ | apply Exists.intro)
      · rw [HCNT.out, (HR'.out.to (hM.holds _ (.tail _ (.head _))) (hM.holds _ (.head _))).left_eq]
        exact HLT.out
end
end Go.Proofs.YtcicjklhbnipcaaGreatDoor
namespace Go.Proofs.YtcicjklhbnipcaaGreatDoor
set_option linter.unusedVariables false
set_option linter.unusedSimpArgs false
open Go.RowKit Go.Maps Go.Shelf
theorem cloneH_any {w : World} {b : Nat} {l : List (Lit × Value)} (h : (mapR Tryz.prog 3 l).holds w.heap[b]?) : Calls Tryz.prog 75 #[.map (some b)] w fun e w' => ∃ c, e = .returned (.map (some c)) ∧ St w [] w' [(c, true, mapR Tryz.prog 3 l)] := by
  have hm := mapR_at h
  have hm0 := hm
  obtain ⟨es, clock, hb, -⟩ := hm0
  refine (AnyW.maps_Clone Tryz.cloneH b es clock w hb).mono ?_
  rintro e w' ⟨rfl, rfl⟩
  exact ⟨_, rfl, st_clone hb hm⟩
theorem St.front {w0 w : World} {F : List Nat} {M R : List Ent} (h : St w0 F w (M ++ R)) : St w0 F w M := h.drop (fun z hz => List.mem_append_left _ hz) (by
  have := h.nd
  rw [List.map_append, List.nodup_append] at this
  exact this.1)
theorem In.len_sum : ∀ l : List NodeD, 64 * (l.length : Int) ≤ In.sum l
  | [] => by simp [In.sum]
  | n :: r => by
    have := In.len_sum r
    have h1 : 64 ≤ In.cost n := by unfold In.cost; omega
    simp only [In.sum, List.map_cons, List.sum_cons, List.length_cons] at this ⊢
    omega
theorem In.len_inv {N : Nat} {t : TabD} (h : In.Inv N t) : t.nodes.length ≤ 4611686018427 := by
  have h1 := In.len_sum t.nodes
  have h2 := h.used
  have h3 := h.cap
  have h4 := h.q1
  omega
open Go.Sort in
theorem keys_hand (h : List (Int × List Int)) : intKeys (heldD (handL h)) = h.map Prod.fst := by
  simp [heldD, handL, intKeys, Go.intOf]
theorem keysH_any (mb : Option Nat) (W : World) : Calls Tryz.prog 73 #[.map mb] W fun e w' => e = .returned (.func (.func 125) #[] #[.pointer (some ⟨W.heap.size, 0, none⟩)]) ∧ w' = W.alloc (.cells #[.map mb] 42) :=
  (callsIn_wide (n := 5)).1 (AnyZI.keys_in Tryz.keysH Fence.wide 5 trivial rfl mb W)
open Go.Sort in
/-- The owners' numbers, in order, in a new slice. -/
theorem sortedH_any {m : Nat} {l : List (Int × List Int)} (w : World) (h : MapAt Tryz.prog 3 w m (handL l)) (hl : l.length ≤ 4611686018427) :
    Calls Tryz.prog 72 #[.func (.func 125) #[] #[.pointer (some ⟨w.heap.size, 0, none⟩)]] (w.alloc (.cells #[.map (some m)] 42)) fun e w' => ∃ v : Value, e = .returned v ∧
      w'.ownsRow (w.heap.size + 1) 3 1 v l.length ((l.map Prod.fst).map (Value.int .i64)) ∧ Below w.heap.size w w' := by
  have hbl := MapAt.lt h
  have hsz : Maps.size (heldD (handL l)) = l.length := by rw [size_held]; simp [handL]
  have hown : w.ownsMap Tryz.prog 3 anyElem m (handL l).length (heldD (handL l)) := h
  have hseq : SeqGives Fence.wide 2 Tryz.prog 125 #[.pointer (some ⟨w.heap.size, 0, none⟩)] encZ (fun ss => ss.Perm (intKeys (heldD (handL l)))) (Maps.size (heldD (handL l))) (w.alloc (.cells #[.map (some m)] 42)) :=
    AnyZI.keys_gives (ρ := Tryz.keysH_ren) { Tryz.keysH with } Fence.wide _ trivial rfl (by omega) w.heap.size m _ _ _ (by simp) (by simp) (by
      obtain ⟨es, clock, hb, Ft, hs, hD⟩ := hown
      exact ⟨es, clock, (Below.heap_alloc _ _ m hbl).trans hb, Ft, hs, hD⟩)
  have key := AnyZI.sorted_in Tryz.sortedI Fence.wide 5 trivial trivial trivial trivial rfl (by omega) (sortsI _) (enters_of Tryz.func124 (by kernel_rfl) rfl) 125 #[.pointer (some ⟨w.heap.size, 0, none⟩)] trivial (enters_of Tryz.func125 (by kernel_rfl) rfl) _ _ (by rw [hsz, maxLen_val]; omega) (by rw [hsz]; omega) _ hseq
  refine ((callsIn_wide (n := 5)).1 key).mono fun e w' hx => ?_
  obtain ⟨v, ss, he, hp, hrow, _, hb⟩ := hx
  refine ⟨v, he, ?_, ((Below.refl _ w).alloc (Nat.le_refl _) _).trans (hb.mono (by simp))⟩
  rw [keys_hand] at hp
  have hs : (l.map Prod.fst).Pairwise fun a b => a < b := by
    have := MapAt.sorted h key_int
    unfold handL at this
    rw [List.pairwise_map] at this ⊢
    exact this.imp fun h => by simpa [Lit.before] using h
  have e := sort_ints hp hs
  have hlen : ss.length = l.length := by rw [hp.length_eq]; simp
  rw [show (fun x y : Int => decide (x ≤ y)) = leI from rfl, e, hlen] at hrow
  rw [size_alloc] at hrow
  exact hrow
section
variable {N : Nat} {x : FsX} {β : Int → Nat × Nat} {d : FsD} {w : World}
set_option maxHeartbeats 4000000 in
set_option maxRecDepth 100000 in
theorem fClone_any (h : FsAt N x β d w) (hN : N ≤ 1000000000) : Calls Tryz.prog 22 #[.pointer (some ⟨x.f, 0, none⟩)] w fun e w' => ∃ x' γ, e = .returned (.pointer (some ⟨FsX.f x', 0, none⟩)) ∧ St w [] w' (fsL x' γ d) := by
  have hM := h.at_.ro
  unfold fsL at hM
  simp only [List.map_cons, unflag] at hM
  have HF := Lib.hid h
  have hq : 0 < d.t.quota := by have := h.inv.tbl.q0; omega
  have hln : d.t.nodes.length ≤ 4611686018427 := In.len_inv h.inv.tbl
  clear h
  go_enter Tryz.func22, Tryz.ntmps22
  (repeat (first | ((with_reducible show wpSeq _ _ _ _ _ _ _); first | ((with_reducible refine wpSeq_nil ?_); refine hKr.out _ _ ?_; clear hKr Kr) | (((refine St.copy (v := ?_) (by first | exact .inl rfl | exact .inr rfl) rfl rfl ?_ ?_; rotate_left; (focus ((try simp only [Act.eval, getD_lit, qGz, qGs]); with_reducible rfl)))); (try simp only [Act.put, qSa, qSz, qSs]))) | (first | (refine wp_seq_shut (fun K hK => ?_)) | (refine wp_text hM (fun Kr hKr => ?_); simp only [inText]) | ((refine hK.out _ _ ?_); clear hK K))))
  ((refine St.call rfl rfl rfl (by kernel_rfl) (fun R hR => ?_); simp only [List.map_toArray, List.map_cons, List.map_nil, Act.eval, getD_lit, qGz, qGs]))
  refine (fgiven_any (HF.out.below hM.to_below)).mono ?_
  rintro e w' ⟨rfl, rfl⟩; refine hR.out _ _ (fun h => h) ?_; clear hR R; (try simp only [Act.put, qSa, qSz, qSs])
  (repeat (first | ((with_reducible show wpSeq _ _ _ _ _ _ _); first | ((with_reducible refine wpSeq_nil ?_); refine hKr.out _ _ ?_; clear hKr Kr) | ((first | (refine St.copy (v := ?_) (by exact .inl rfl) rfl rfl ?_ ?_; rotate_left; (focus ((try simp only [Act.eval, getD_lit, qGz, qGs]); with_reducible rfl))) | (refine St.pure (v := ?_) rfl rfl rfl (fun w => ?_) ?_; rotate_left; (focus (go_simp; all_goals with_reducible rfl))) | refine St.load1 rfl rfl rfl rfl (by repeat constructor) (by rfl) (by kernel_rfl) ?_); (try simp only [Act.put, qSa, qSz, qSs]))) | (first | (refine wp_seq_shut (fun K hK => ?_)) | refine wp_skip ?_ | (refine wp_cond_false rfl ?_) | ((refine hK.out _ _ ?_); clear hK K)) | ((refine wp_drawn (id := 3) hM (Sub.all _) [3, 8] [(0, 0), (1, 0), (2, 0), (3, 1), (5, 0), (6, 0), (7, 0), (8, 1), (4, 2), (9, 2), (10, 2), (11, 2), (12, 3)] (by kernel_rfl) (by kernel_rfl) ?_); (clear hM; intro w hM Kr hKr); simp only [opsOf, qGz, qGs])))
  ((refine St.call rfl rfl rfl (by kernel_rfl) (fun R hR => ?_); simp only [List.map_toArray, List.map_cons, List.map_nil, Act.eval, getD_lit, qGz, qGs]))
  refine (Clone_any (HF.out.below hM.to_below).tbl hq hln).mono ?_
  rintro e w' ⟨g2, mb2, γ, rfl, hN⟩
  replace hM := hM.madeM hN tblL_flag
  refine hR.out _ _ (fun h => h.below hN.to_below) ?_; clear hR R hN; (try simp only [Act.put, qSa, qSz, qSs])
  (repeat (fail))
  ((refine St.call rfl rfl rfl (by kernel_rfl) (fun R hR => ?_); simp only [List.map_toArray, List.map_cons, List.map_nil, Act.eval, getD_lit, qGz, qGs]))
  refine (cloneH_any (hM.only.holds (HF.out.at_.has (x.hb, true, mapR Tryz.prog 3 (handL d.h)) (by unfold fsL; exact .tail _ (.head _))))).mono ?_
  rintro e w' ⟨c, rfl, hN⟩
  replace hM := hM.madeM hN (flag_1 _ _)
  refine hR.out _ _ (fun h => h.below hN.to_below) ?_; clear hR R hN; (try simp only [Act.put, qSa, qSz, qSs])
  simp only [List.cons_append, List.nil_append] at hM
  (repeat (first | ((with_reducible show wpSeq _ _ _ _ _ _ _); first | ((with_reducible refine wpSeq_nil ?_); refine hKr.out _ _ ?_; clear hKr Kr) | ((first | (refine St.copy (v := ?_) (by exact .inr rfl) rfl rfl ?_ ?_; rotate_left; (focus ((try simp only [Act.eval, getD_lit, qGz, qGs]); with_reducible rfl))) | (refine St.pure (v := ?_) rfl rfl rfl (fun w => ?_) ?_; rotate_left; (focus (go_simp; all_goals with_reducible rfl))) | ((((refine St.box rfl hM rfl rfl rfl ?_); clear hM; intro w bk hM)); (try simp only [Res.put, Res.known, Act.eval, Value.cells, getD_lit, qGz, qGs, List.toList_toArray, qSz, qSs, over, Nat.reduceAdd] at hM))); (try simp only [Act.put, qSa, qSz, qSs]))) | (((refine hK.out _ _ ?_); clear hK K))))
  ((refine wp_ret ?_; (try simp only [Exit.then, Exit.inBlock]); refine St.ret hM rfl (by repeat (first | exact Outs.nil | apply Outs.tmp rfl)) rfl ?_))
  exact ⟨⟨bk, c, g2, mb2⟩, γ, rfl, St.front (M := fsL ⟨bk, c, g2, mb2⟩ γ d) hM⟩
theorem slL_flag (s : Option (Nat × Nat)) (xs : List Value) (e : TypeId) (size : Nat) : flagged (slL s xs e size) := fun x hx => by
  cases s with
  | none => cases hx
  | some gc =>
    rcases List.mem_singleton.1 hx with rfl
    rfl
/-- Who has handles. -/
def Fs.owners (d : FsD) : List Int := d.h.map Prod.fst
/-- Owners answers numbers in a slice of its own. -/
def SomeInts (xs : List Int) (w : World) (e : Ending) (w' : World) : Prop :=
  ∃ s, e = .returned (slV s xs.length) ∧ SlOK s xs.length (xs.map (Value.int .i64)) 1 ∧ St w [] w' (slL s (xs.map (Value.int .i64)) 3 1)
set_option maxHeartbeats 4000000 in
set_option maxRecDepth 100000 in
theorem fOwners_any (h : FsAt N x β d w) (hN : N ≤ 1000000000) : Calls Tryz.prog 21 #[.pointer (some ⟨x.f, 0, none⟩)] w (SomeInts (Fs.owners d) w) := by
  have hM := h.at_.ro
  unfold fsL at hM
  simp only [List.map_cons, unflag] at hM
  have HF := Lib.hid h
  have hln : d.h.length ≤ 4611686018427 := by have := h.inv.len; omega
  have HMP := Lib.hid (mapR_at (h.at_.has (x.hb, true, mapR Tryz.prog 3 (handL d.h)) (by unfold fsL; exact .tail _ (.head _))))
  clear h
  go_enter Tryz.func21, Tryz.ntmps21
  (repeat (first | ((with_reducible show wpSeq _ _ _ _ _ _ _); first | ((with_reducible refine wpSeq_nil ?_); refine hKr.out _ _ ?_; clear hKr Kr) | (((refine St.copy (v := ?_) (by first | exact .inl rfl | exact .inr rfl) rfl rfl ?_ ?_; rotate_left; (focus ((try simp only [Act.eval, getD_lit, qGz, qGs]); with_reducible rfl)))); (try simp only [Act.put, qSa, qSz, qSs]))) | (first | (refine wp_seq_shut (fun K hK => ?_)) | (refine wp_text hM (fun Kr hKr => ?_); simp only [inText]) | ((refine hK.out _ _ ?_); clear hK K))))
  ((refine St.call rfl rfl rfl (by kernel_rfl) (fun R hR => ?_); simp only [List.map_toArray, List.map_cons, List.map_nil, Act.eval, getD_lit, qGz, qGs]))
  refine (fgiven_any (HF.out.below hM.to_below)).mono ?_
  rintro e w' ⟨rfl, rfl⟩; refine hR.out _ _ (fun h => h) ?_; clear hR R; (try simp only [Act.put, qSa, qSz, qSs])
  (repeat (first | ((with_reducible show wpSeq _ _ _ _ _ _ _); first | ((with_reducible refine wpSeq_nil ?_); refine hKr.out _ _ ?_; clear hKr Kr) | ((first | (refine St.copy (v := ?_) (by exact .inl rfl) rfl rfl ?_ ?_; rotate_left; (focus ((try simp only [Act.eval, getD_lit, qGz, qGs]); with_reducible rfl))) | (refine St.pure (v := ?_) rfl rfl rfl (fun w => ?_) ?_; rotate_left; (focus (go_simp; all_goals with_reducible rfl))) | refine St.load rfl hM rfl rfl rfl rfl (by repeat constructor) (by rfl) (by kernel_rfl) ?_); (try simp only [Act.put, qSa, qSz, qSs]))) | (first | (refine wp_seq_shut (fun K hK => ?_)) | (refine wp_text hM (fun Kr hKr => ?_); simp only [inText]) | refine wp_skip ?_ | (refine wp_cond_false rfl ?_) | ((refine hK.out _ _ ?_); clear hK K))))
  ((refine St.call rfl rfl rfl (by kernel_rfl) (fun R hR => ?_); simp only [List.map_toArray, List.map_cons, List.map_nil, Act.eval, getD_lit, qGz, qGs]))
  refine (keysH_any _ _).mono ?_
  rintro e w' ⟨rfl, rfl⟩
  refine hR.out _ _ (fun h => h.below ((Below.refl _ w).alloc (Nat.le_refl _) _)) ?_; clear hR R; (try simp only [Act.put, qSa, qSz, qSs])
  ((refine St.call rfl rfl rfl (by kernel_rfl) (fun R hR => ?_); simp only [List.map_toArray, List.map_cons, List.map_nil, Act.eval, getD_lit, qGz, qGs]))
  refine (sortedH_any w HMP.out hln).mono ?_
  rintro e w' ⟨v, rfl, hrow, hb⟩
  obtain ⟨s, rfl, hok, hst⟩ := st_of_own hrow hb (Nat.le_succ _)
  replace hM := hM.madeM hst (slL_flag _ _ _ _)
  have HOK := Lib.hid hok
  have e1 : d.h.length = (d.h.map Prod.fst).length := by simp
  refine hR.out _ _ (fun h => ⟨hM.only, nofun⟩) ?_; clear hR R hrow hok; (try simp only [Act.put, qSa, qSz, qSs])
  (repeat (first | ((with_reducible show wpSeq _ _ _ _ _ _ _); first | ((with_reducible refine wpSeq_nil ?_); refine hKr.out _ _ ?_; clear hKr Kr) | (((refine St.copy (v := ?_) (by exact .inr rfl) rfl rfl ?_ ?_; rotate_left; (focus ((try simp only [Act.eval, getD_lit, qGz, qGs]); with_reducible rfl)))); (try simp only [Act.put, qSa, qSz, qSs]))) | (((refine hK.out _ _ ?_); clear hK K))))
  ((refine wp_ret ?_; (try simp only [Exit.then, Exit.inBlock]); refine St.ret hM rfl (by repeat (first | exact Outs.nil | apply Outs.tmp rfl)) rfl ?_))
  have h2 := HOK.out
  rw [e1] at h2
  refine ⟨s, ?_, h2, hst⟩
  show Ending.returned (slV s d.h.length) = .returned (slV s (d.h.map Prod.fst).length)
  rw [← e1]
end
end Go.Proofs.YtcicjklhbnipcaaGreatDoor
namespace Go.Proofs.YtcicjklhbnipcaaGreatDoor
set_option linter.unusedVariables false
set_option linter.unusedSimpArgs false
namespace Pt
/-- Does a path lie in a directory? -/
def under (p dir : ByteArray) : Bool := decide ((parts dir).length < (parts p).length) && decide ((parts p).take (parts dir).length = parts dir)
def run : ByteArray := ⟨#[114, 117, 110]⟩
end Pt
/-- What is logged: an operation of an owner, or its exit. -/
abbrev LogD := Int × Option OpD
/-- A disk. -/
structure DskD where
  now : FsD
  base : FsD
  log : List LogD
def opK (k : Int) (p : ByteArray) : OpD := ⟨k, p, ⟨#[]⟩, 0, 0, 0, ⟨#[]⟩, 0, 0⟩
namespace Ol
def again (d : FsD) : LogD → FsD
  | (o, some p) => (Fs.do_ d o p).2
  | (o, none) => Fs.exit d o
def replay (d : FsD) (l : List LogD) : FsD := l.foldl again d
/-- A file that lies under a directory is taken away. -/
def empty1 (d : FsD) (x : FileD) : FsD := if Pt.under x.path Pt.run then (Fs.do_ d 0 (opK (if x.dir then 2 else 11) x.path)).2 else d
def empties (d : FsD) : FsD := (Fs.files d).reverse.foldl empty1 d
def exits (d : FsD) : FsD := (Fs.owners d).foldl Fs.exit d
/-- What a power failure leaves of a disk. -/
def cutFs (D : DskD) (keep : Int) : FsD := empties (exits (replay D.base (D.log.take (max 0 (min keep D.log.length)).toNat)))
def cut (D : DskD) (keep : Int) : DskD := ⟨cutFs D keep, cutFs D keep, []⟩
def new (q : Int) : DskD := ⟨Fs.new q, Fs.new q, []⟩
def sync (D : DskD) : DskD := ⟨D.now, D.now, []⟩
def logs (r : ResD) (p : OpD) : Prop := r.err = 0 ∧ p.kind ≠ 6 ∧ p.kind ≠ 9 ∧ p.kind ≠ 13
instance (r : ResD) (p : OpD) : Decidable (logs r p) := by unfold logs; infer_instance
def doN (D : DskD) (o : Int) (p : OpD) : DskD := ⟨(Fs.do_ D.now o p).2, D.base, if logs (Fs.do_ D.now o p).1 p then D.log ++ [(o, some p)] else D.log⟩
def do_ (D : DskD) (o : Int) (p : OpD) : ResD × DskD := if p.kind = 14 then (Fs.errR 0, sync D) else ((Fs.do_ D.now o p).1, doN D o p)
def exit (D : DskD) (o : Int) : DskD := if o ∈ Fs.owners D.now then ⟨Fs.exit D.now o, D.base, D.log ++ [(o, none)]⟩ else D
/-- A logged operation whose numbers and texts fit. -/
def LogOk (l : LogD) : Prop := Fits l.1 ∧ ∀ p, l.2 = some p → p.Ok
/-- What is always so of a file system. -/
structure FInv (N : Nat) (d : FsD) : Prop where
  inv : Fs.Inv N d
  up : In.Up d.t
  own : ∀ p ∈ d.h, Fits p.1
/-- What is always so of a disk. -/
structure Inv (N : Nat) (D : DskD) : Prop where
  now : FInv N D.now
  base : ∃ M, FInv M D.base ∧ M + 3 * D.log.length ≤ N
  ok : ∀ l ∈ D.log, LogOk l
section
variable {N M : Nat} {d : FsD} {D : DskD}
theorem FInv.more (h : FInv N d) (hM : N ≤ M) : FInv M d := ⟨h.inv.more hM, h.up, h.own⟩
theorem put_own {h : List (Int × List Int)} {o : Int} {l : List Int} (hh : ∀ p ∈ h, Fits p.1) (ho : Fits o) : ∀ p ∈ Fs.put h o l, Fits p.1 := fun p hp => by
  rcases Fs.mem_ins.1 hp with rfl | hp
  · exact ho
  · exact hh p (List.mem_filter.1 hp).1
theorem shut_own {h : List (Int × List Int)} {o : Int} {l : List Int} (hh : ∀ p ∈ h, Fits p.1) (ho : Fits o) : ∀ p ∈ Fs.shut h o l, Fits p.1 := fun p hp => by
  unfold Fs.shut at hp
  split at hp
  · exact put_own hh ho p (List.mem_filter.1 hp).1
  · exact put_own hh ho p hp
theorem gives_own {o id : Int} (hh : ∀ p ∈ d.h, Fits p.1) (ho : Fits o) : ∀ p ∈ (Fs.gives d o id).2.h, Fits p.1 := by
  unfold Fs.gives
  split
  · exact put_own hh ho
  · exact hh
theorem do_own {o : Int} {q : OpD} (hh : ∀ p ∈ d.h, Fits p.1) (ho : Fits o) : ∀ p ∈ (Fs.do_ d o q).2.h, Fits p.1 := by
  unfold Fs.do_
  split
  · exact hh
  split
  · unfold Fs.opens
    split
    · exact hh
    split
    · exact hh
    split
    · split
      · exact hh
      · exact gives_own hh ho
    split
    · exact hh
    · exact gives_own hh ho
  split
  · unfold Fs.handled
    split
    · exact hh
    split
    · exact shut_own hh ho
    split
    · exact hh
    split
    · exact hh
    split
    · exact hh
    · exact hh
  split
  · exact hh
  · exact hh
theorem exitL_own (o : Int) (ho : Fits o) : ∀ (l : List Int) (n : Nat) (d : FsD), (∀ p ∈ d.h, Fits p.1) → ∀ p ∈ (Fs.exitL o l n d).h, Fits p.1
  | [], _, _, h => h
  | i :: r, n, d, h => by
    unfold Fs.exitL
    refine exitL_own o ho r (n + 1) _ ?_
    split
    · exact shut_own h ho
    · exact h
theorem finv_do (h : FInv N d) (hN : N ≤ 999999990) {o : Int} (ho : Fits o) (p : OpD) : FInv (N + 3) (Fs.do_ d o p).2 := ⟨Fs.inv_do h.inv hN o p, Fs.up_do h.inv h.up o p, do_own h.own ho⟩
theorem finv_exit (h : FInv N d) {o : Int} (ho : Fits o) : FInv N (Fs.exit d o) := ⟨Fs.inv_exit h.inv o, Fs.up_exit h.up o, exitL_own o ho _ 0 d h.own⟩
theorem finv_again (h : FInv N d) (hN : N ≤ 999999990) {l : LogD} (hl : LogOk l) : FInv (N + 3) (again d l) := by
  obtain ⟨o, _ | p⟩ := l
  · exact (finv_exit h hl.1).more (by omega)
  · exact finv_do h hN hl.1 p
theorem finv_replay : ∀ (l : List LogD) {N : Nat} {d : FsD}, (∀ x ∈ l, LogOk x) → FInv N d → N + 3 * l.length ≤ 999999990 → FInv (N + 3 * l.length) (replay d l)
  | [], _, _, _, h, _ => h
  | x :: r, N, d, hl, h, hN => by
    rw [List.length_cons] at hN
    have := finv_replay r (fun y hy => hl y (.tail _ hy)) (finv_again h (by omega) (hl x (.head _))) (by omega)
    rw [List.length_cons, show N + 3 * (r.length + 1) = N + 3 + 3 * r.length by omega]
    exact this
theorem owners_fit (h : FInv N d) : ∀ o ∈ Fs.owners d, Fits o := fun o ho => by
  obtain ⟨p, hp, rfl⟩ := List.mem_map.1 ho
  exact h.own p hp
theorem finv_foldl : ∀ (l : List Int) {d : FsD}, (∀ o ∈ l, Fits o) → FInv N d → FInv N (l.foldl Fs.exit d)
  | [], _, _, h => h
  | o :: r, _, hl, h => finv_foldl r (fun y hy => hl y (.tail _ hy)) (finv_exit h (hl o (.head _)))
theorem finv_exits (h : FInv N d) : FInv N (exits d) := finv_foldl _ (owners_fit h) h
/-- A name that is taken away: nothing grows. -/
theorem finv_out (h : FInv N d) {o : Int} (ho : Fits o) {p : OpD} (hk : p.kind = 2 ∨ p.kind = 11) : FInv N (Fs.do_ d o p).2 := by
  have key : Fs.Inv N (Fs.do_ d o p).2 := by
    have I := h.inv
    unfold Fs.do_
    split
    · exact I
    split
    · exfalso; omega
    split
    · exfalso; omega
    split
    · exact I
    · show Fs.Inv N ⟨(Fs.named d p).2, d.h⟩
      unfold Fs.named Fs.namedAt
      split
      · exact I
      split
      · exfalso; omega
      split
      · exact Fs.inv_tblN I (In.inv_remove I.tbl _ _)
      split
      · exact Fs.inv_tblN I (In.inv_unlink I.tbl _ _)
      · exfalso; omega
  exact ⟨key, Fs.up_do h.inv h.up o p, do_own h.own ho⟩
theorem finv_empty1 (h : FInv N d) (x : FileD) : FInv N (empty1 d x) := by
  unfold empty1
  split
  · refine finv_out h (show Fits 0 by decide) ?_
    show (if x.dir then (2 : Int) else 11) = 2 ∨ (if x.dir then (2 : Int) else 11) = 11
    split <;> simp
  · exact h
theorem finv_empties (h : FInv N d) : FInv N (empties d) := by
  unfold empties
  generalize (Fs.files d).reverse = l
  induction l generalizing d with
  | nil => exact h
  | cons o r ih => exact ih (finv_empty1 h o)
theorem finv_new {q : Int} (h0 : 64 ≤ q) (h1 : q ≤ 1099511627776) : FInv 1 (Fs.new q) := ⟨Fs.inv_new h0 h1, In.up_new q, nofun⟩
theorem inv_new {q : Int} (h0 : 64 ≤ q) (h1 : q ≤ 1099511627776) : Inv 1 (new q) := ⟨finv_new h0 h1, ⟨1, finv_new h0 h1, Nat.le_refl _⟩, nofun⟩
theorem Inv.more (h : Inv N D) (hM : N ≤ M) : Inv M D := by
  obtain ⟨K, h1, h2⟩ := h.base
  exact ⟨h.now.more hM, ⟨K, h1, by omega⟩, h.ok⟩
theorem inv_sync (h : Inv N D) : Inv N (sync D) := ⟨h.now, ⟨N, h.now, by show N + 3 * 0 ≤ N; omega⟩, nofun⟩
theorem take_len (D : DskD) (keep : Int) : (D.log.take (max 0 (min keep D.log.length)).toNat).length ≤ D.log.length := by
  rw [List.length_take]; omega
theorem inv_cutFs (h : Inv N D) (hN : N ≤ 999999990) (keep : Int) : FInv N (cutFs D keep) := by
  obtain ⟨K, h1, h2⟩ := h.base
  have := take_len D keep
  exact finv_empties (finv_exits ((finv_replay _ (fun x hx => h.ok x (List.mem_of_mem_take hx)) h1 (by omega)).more (by omega)))
theorem inv_cut (h : Inv N D) (hN : N ≤ 999999990) (keep : Int) : Inv N (cut D keep) := ⟨inv_cutFs h hN keep, ⟨N, inv_cutFs h hN keep, by show N + 3 * 0 ≤ N; omega⟩, nofun⟩
theorem inv_doN (h : Inv N D) (hN : N ≤ 999999980) {o : Int} (ho : Fits o) {p : OpD} (hp : p.Ok) : Inv (N + 3) (doN D o p) := by
  obtain ⟨K, h1, h2⟩ := h.base
  refine ⟨finv_do h.now (by omega) ho p, ⟨K, h1, ?_⟩, fun l hl => ?_⟩
  · unfold doN
    simp only
    split
    · rw [List.length_append, List.length_singleton]; omega
    · omega
  · unfold doN at hl
    simp only at hl
    split at hl
    · rcases List.mem_append.1 hl with hl | hl
      · exact h.ok l hl
      · rcases List.mem_singleton.1 hl with rfl
        exact ⟨ho, fun q hq => by cases hq; exact hp⟩
    · exact h.ok l hl
theorem inv_do (h : Inv N D) (hN : N ≤ 999999980) {o : Int} (ho : Fits o) {p : OpD} (hp : p.Ok) : Inv (N + 3) (do_ D o p).2 := by
  unfold do_
  split
  · exact (inv_sync h).more (by omega)
  · exact inv_doN h hN ho hp
theorem inv_exit (h : Inv N D) {o : Int} (ho : Fits o) : Inv (N + 3) (exit D o) := by
  unfold exit
  split
  · obtain ⟨K, h1, h2⟩ := h.base
    refine ⟨(finv_exit h.now ho).more (by omega), ⟨K, h1, by rw [List.length_append, List.length_singleton]; omega⟩, fun l hl => ?_⟩
    rcases List.mem_append.1 hl with hl | hl
    · exact h.ok l hl
    · rcases List.mem_singleton.1 hl with rfl
      exact ⟨ho, nofun⟩
  · exact h.more (by omega)
end
end Ol
end Go.Proofs.YtcicjklhbnipcaaGreatDoor
namespace Go.Proofs.YtcicjklhbnipcaaGreatDoor
set_option linter.unusedVariables false
set_option linter.unusedSimpArgs false
open Go.RowKit Go.Maps
theorem tx_cells {w0 w : World} {F : List Nat} {L : List Ent} {g cap : Nat} {xs : List ByteArray} {ow : Bool} (hM : St w0 F w L) (hm : (g, ow, Res.pre (xs.map Value.string) 9 (cap * 1)) ∈ L) : ∀ j, j < xs.length → w.cell? ⟨g, 0 + j, none⟩ = some (.string (xs.getD j ByteArray.empty)) := fun j hj => by
  refine Res.cell (hM.holds _ hm) ?_
  show (xs.map Value.string)[0 + j]? = _
  rw [Nat.zero_add, List.getElem?_map, List.getElem?_eq_getElem hj, List.getD_eq_getElem?_getD, List.getElem?_eq_getElem hj]
  rfl
theorem draws_below (w : World) (q : Nat) : Below w.heap.size w (w.drewN q) := ⟨rfl, rfl, rfl, Nat.le_refl _, fun _ _ => rfl⟩
set_option maxHeartbeats 4000000 in
set_option maxRecDepth 100000 in
theorem Under_any (p dir : ByteArray) (w : World) (hp : p.size ≤ 1000000) (hd : dir.size ≤ 1000000) (hm : Mx w) : Calls Tryz.prog 130 #[.string p, .string dir] w fun e w' => e = .returned (.bool (Pt.under p dir)) ∧ Below w.heap.size w w' := by
  have hM := St.start w []
  have F0 : 0 ∉ ([] : List Nat) := nofun
  have HX := Lib.hid hm
  have C1 := Lib.hid (fun (W : World) (h : Mx W) => Parts_any p W hp h)
  have C2 := Lib.hid (fun (W : World) (h : Mx W) => Parts_any dir W hd h)
  have l1 := Pt.parts_len p hp
  have l2 := Pt.parts_len dir hd
  unfold Pt.under
  generalize Pt.parts p = xs at *
  generalize Pt.parts dir = ys at *
  clear hp hd hm
  generalize hU : (decide (ys.length < xs.length) && decide (xs.take ys.length = ys)) = U
  have HU := Lib.hid hU
  clear hU
  go_enter Tryz.func130, Tryz.ntmps130
  (repeat (first | ((with_reducible show wpSeq _ _ _ _ _ _ _); first | ((with_reducible refine wpSeq_nil ?_); refine hKr.out _ _ ?_; clear hKr Kr) | (((refine St.copy (v := ?_) (by first | exact .inl rfl | exact .inr rfl) rfl rfl ?_ ?_; rotate_left; (focus ((try simp only [Act.eval, getD_lit, qGz, qGs]); with_reducible rfl)))); (try simp only [Act.put, qSa, qSz, qSs]))) | (first | (refine wp_seq_shut (fun K hK => ?_)) | (refine wp_text hM (fun Kr hKr => ?_); simp only [inText]) | ((refine hK.out _ _ ?_); clear hK K))))
  ((refine St.call rfl rfl rfl (by kernel_rfl) (fun R hR => ?_); simp only [List.map_toArray, List.map_cons, List.map_nil, Act.eval, getD_lit, qGz, qGs]))
  refine (C1.out _ (hM.mx HX.out F0)).mono ?_
  rintro e w' ⟨s1, rfl, hk1, hN⟩
  replace hM := hM.madeM hN (txL_flag _ _)
  refine hR.out _ _ (fun h => h.below hN.to_below) ?_; clear hR R hN
  obtain ⟨a1, c1, hv1, ha1⟩ := slV_open hk1
  rw [hv1]
  (try simp only [Act.put, qSa, qSz, qSs])
  (repeat (((with_reducible show wpSeq _ _ _ _ _ _ _); (((refine St.copy (v := ?_) (by exact .inl rfl) rfl rfl ?_ ?_; rotate_left; (focus ((try simp only [Act.eval, getD_lit, qGz, qGs]); with_reducible rfl)))); (try simp only [Act.put, qSa, qSz, qSs])))))
  ((refine St.call rfl rfl rfl (by kernel_rfl) (fun R hR => ?_); simp only [List.map_toArray, List.map_cons, List.map_nil, Act.eval, getD_lit, qGz, qGs]))
  refine (C2.out _ (hM.mx HX.out F0)).mono ?_
  rintro e w' ⟨s2, rfl, hk2, hN⟩
  replace hM := hM.madeM hN (txL_flag _ _)
  refine hR.out _ _ (fun h => h.below hN.to_below) ?_; clear hR R hN
  obtain ⟨a2, c2, hv2, ha2⟩ := slV_open hk2
  rw [hv2]
  (try simp only [Act.put, qSa, qSz, qSs])
  by_cases h1 : ys.length < xs.length
  · have k1 : (ys.length : Int) < (xs.length : Int) := by omega
    have d1 : decide (ys.length < xs.length) = true := decide_eq_true h1
    cases s1 with
    | none => exact absurd hk1.2 (by omega)
    | some gc =>
    obtain ⟨g, cap⟩ := gc
    obtain ⟨rfl, rfl⟩ := ha1 g cap rfl
    have k2 : (ys.length : Int) ≤ (c1 : Int) := by have := hk1.2.1; omega
    have HL := Lib.hid hk2
    have e : decide (xs.take ys.length = ys) = U := by rw [← HU.out, d1, Bool.true_and]
    simp only [slL, List.cons_append, List.nil_append] at hM
    (repeat (first | ((with_reducible show wpSeq _ _ _ _ _ _ _); first | ((with_reducible refine wpSeq_nil ?_); refine hKr.out _ _ ?_; clear hKr Kr) | ((first | (refine St.copy (v := ?_) (by first | exact .inl rfl | exact .inr rfl) rfl rfl ?_ ?_; rotate_left; (focus ((try simp only [Act.eval, getD_lit, qGz, qGs]); with_reducible rfl))) | (refine St.pure (v := ?_) rfl rfl rfl (fun w => ?_) ?_; rotate_left; (focus (go_simp; all_goals with_reducible rfl)))); (try simp only [Act.put, qSa, qSz, qSs]))) | (first | (refine wp_seq_shut (fun K hK => ?_)) | (refine wp_text hM (fun Kr hKr => ?_); simp only [inText]) | ((refine hK.out _ _ ?_); clear hK K))))
    ((refine St.call rfl rfl rfl (by kernel_rfl) (fun R hR => ?_); simp only [List.map_toArray, List.map_cons, List.map_nil, Act.eval, getD_lit, qGz, qGs]))
    by_cases h0 : ys.length = 0
    · have e0 : true = U := by rw [← e, h0]; simpa using (List.eq_nil_of_length_eq_zero h0).symm
      subst e0
      rw [h0]
      refine (Tryz.slices_Equal_string_empty _ _ _ _ _ _ (by decide)).mono ?_
      rintro e w' ⟨rfl, rfl⟩; refine hR.out _ _ (fun h => h) ?_; clear hR R; (try simp only [Act.put, qSa, qSz, qSs])
      (repeat (first | ((with_reducible show wpSeq _ _ _ _ _ _ _); first | ((with_reducible refine wpSeq_nil ?_); refine hKr.out _ _ ?_; clear hKr Kr) | ((first | (refine St.copy (v := ?_) (by exact .inr rfl) rfl rfl ?_ ?_; rotate_left; (focus ((try simp only [Act.eval, getD_lit, qGz, qGs]); with_reducible rfl))) | (refine St.pure (v := ?_) rfl rfl rfl (fun w => ?_) ?_; rotate_left; (focus (go_simp; all_goals with_reducible rfl)))); (try simp only [Act.put, qSa, qSz, qSs]))) | (((refine hK.out _ _ ?_); clear hK K))))
      ((refine wp_ret ?_; (try simp only [Exit.then, Exit.inBlock]); refine St.ret hM rfl (by repeat (first | exact Outs.nil | apply Outs.tmp rfl)) rfl ?_))
      exact ⟨rfl, hM.to_below⟩
    · cases s2 with
      | none => exact absurd HL.out.2 h0
      | some gc2 =>
      obtain ⟨g2, cap2⟩ := gc2
      obtain ⟨rfl, rfl⟩ := ha2 g2 cap2 rfl
      simp only [slL, List.cons_append, List.nil_append] at hM
      refine (Tryz.slices_Equal_string _ _ _ _ _ _ _ _ xs ys _ (by omega) (by omega) (by omega) (by omega) (tx_cells hM (by repeat constructor)) (tx_cells hM (by repeat constructor))).mono ?_
      rintro e' w' ⟨rfl, q, rfl⟩
      refine hR.out _ _ (fun h => h.below (draws_below _ q)) ?_; clear hR R; replace hM := hM.below (draws_below _ q)
      rw [List.take_of_length_le (Nat.le_refl ys.length), e]
      (try simp only [Act.put, qSa, qSz, qSs])
      (repeat (first | ((with_reducible show wpSeq _ _ _ _ _ _ _); first | ((with_reducible refine wpSeq_nil ?_); refine hKr.out _ _ ?_; clear hKr Kr) | ((first | (refine St.copy (v := ?_) (by exact .inr rfl) rfl rfl ?_ ?_; rotate_left; (focus ((try simp only [Act.eval, getD_lit, qGz, qGs]); with_reducible rfl))) | (refine St.pure (v := ?_) rfl rfl rfl (fun w => ?_) ?_; rotate_left; (focus (go_simp; all_goals with_reducible rfl)))); (try simp only [Act.put, qSa, qSz, qSs]))) | (((refine hK.out _ _ ?_); clear hK K))))
      ((refine wp_ret ?_; (try simp only [Exit.then, Exit.inBlock]); refine St.ret hM rfl (by repeat (first | exact Outs.nil | apply Outs.tmp rfl)) rfl ?_))
      exact ⟨rfl, hM.to_below⟩
  · have k1 : ¬ ((ys.length : Int) < (xs.length : Int)) := by omega
    have d1 : decide (ys.length < xs.length) = false := decide_eq_false h1
    have e : false = U := by rw [← HU.out, d1, Bool.false_and]
    subst e
    (repeat (first | ((with_reducible show wpSeq _ _ _ _ _ _ _); first | ((with_reducible refine wpSeq_nil ?_); refine hKr.out _ _ ?_; clear hKr Kr) | ((first | (refine St.copy (v := ?_) (by first | exact .inl rfl | exact .inr rfl) rfl rfl ?_ ?_; rotate_left; (focus ((try simp only [Act.eval, getD_lit, qGz, qGs]); with_reducible rfl))) | (refine St.pure (v := ?_) rfl rfl rfl (fun w => ?_) ?_; rotate_left; (focus (go_simp; all_goals with_reducible rfl))) | refine wpSeq_off rfl rfl ?_); (try simp only [Act.put, qSa, qSz, qSs]))) | (first | (refine wp_seq_shut (fun K hK => ?_)) | (refine wp_text hM (fun Kr hKr => ?_); simp only [inText]) | ((refine hK.out _ _ ?_); clear hK K))))
    ((refine wp_ret ?_; (try simp only [Exit.then, Exit.inBlock]); refine St.ret hM rfl (by repeat (first | exact Outs.nil | apply Outs.tmp rfl)) rfl ?_))
    exact ⟨rfl, hM.to_below⟩
end Go.Proofs.YtcicjklhbnipcaaGreatDoor
namespace Go.Proofs.YtcicjklhbnipcaaGreatDoor
set_option linter.unusedVariables false
set_option linter.unusedSimpArgs false
open Go.RowKit
section
variable {P : Program} {K : Act → World → Prop} {a : Act} {w : World} {ops : Array Oper} {l : List (Oper × Nat)} {c : Nat} {o : Oper} {ty : TypeId} {x y z : Operand} {S : World → Prop} {s : ByteArray}
theorem run_strSub (w : World) (hx : o.op = .slice ty x (some y) (some z) none) (e1 : a.eval x = .string s) {i j : Nat} (e2 : a.eval y = .int .i64 (i : Int)) (e3 : a.eval z = .int .i64 (j : Int)) (ht : P.underlying ty = some .string) (hij : i ≤ j) (hj : j ≤ s.size) : (execOp a.eval o).run P w = .ok (.value (.string (s.extract i j))) w := by
  have h0 : (0 : Int) ≤ (i : Int) := Int.natCast_nonneg i
  have h1 : (0 : Int) ≤ (j : Int) := Int.natCast_nonneg j
  have h2 : (i : Int) ≤ (j : Int) := by omega
  have h3 : (j : Int) ≤ (s.size : Int) := by omega
  unfold execOp
  simp [hx, e1, e2, e3, Instr.sliceAt, Instr.slice, Instr.sliceBounds, Instr.sliceBound, asIntOf, Sem.run_bind, Sem.run_pure, run_underlying ht, h0, h1, hij, hj, Option.map]
/-- A part of a string. -/
theorem St.strSub (hx : o.op = .slice ty x (some y) (some z) none) (hc : (c == 0 || c == 2 || c == 3) = true) (hw : Region.wanted o (yielded ops a.tmps) = true) (e1 : a.eval x = .string s) {i j : Nat} (e2 : a.eval y = .int .i64 (i : Int)) (e3 : a.eval z = .int .i64 (j : Int)) (ht : P.underlying ty = some .string) (hij : i ≤ j) (hj : j ≤ s.size) (h : wpSeq P ops K S l (a.put o.dst (.string (s.extract i j))) w) : wpSeq P ops K S ((o, c) :: l) a w :=
  St.soft hc hw (fun w => run_strSub w hx e1 e2 e3 ht hij hj) h
end
end Go.Proofs.YtcicjklhbnipcaaGreatDoor
