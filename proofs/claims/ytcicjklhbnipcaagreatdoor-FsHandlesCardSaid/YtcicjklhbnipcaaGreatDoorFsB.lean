/-
  Layer 9: New, walked; what nobody made: walked.
-/
import Derived.Test.YtcicjklhbnipcaaGreatDoorFsE
namespace Go.Proofs.YtcicjklhbnipcaaGreatDoor
set_option linter.unusedVariables false
set_option linter.unusedSimpArgs false
open Go.RowKit Go.Maps
section
variable {N : Nat} {x : FsX} {β : Int → Nat × Nat} {d : FsD} {w w' w0 : World} {F : List Nat} {L L' M M' : List Ent}
theorem st_fresh (h : At M w') (hb : Below w.heap.size w w') (hk : ∀ k ∈ keysOf M, w.heap.size ≤ k) : St w [] w' M :=
  ⟨Only.of_below hb, h.has, h.nd, fun y hy _ => .inr (hk _ (List.mem_map_of_mem hy))⟩
set_option maxHeartbeats 4000000 in
set_option maxRecDepth 100000 in
theorem fNew_any (q : Int) (w : World) (hq : In.newE q = 0) : Calls Tryz.prog 13 #[.int .i64 q] w fun e w' => ∃ x β, e = .returned (.tuple #[.pointer (some ⟨FsX.f x, 0, none⟩), .int .i64 0]) ∧ St w [] w' (fsL x β (Fs.new q)) := by
  have hM := St.start w []
  have CN := Lib.hid (fun W : World => New_yes q W hq)
  clear hq
  go_enter Tryz.func13, Tryz.ntmps13
  (repeat (first | ((with_reducible show wpSeq _ _ _ _ _ _ _); first | ((with_reducible refine wpSeq_nil ?_); refine hKr.out _ _ ?_; clear hKr Kr) | (((refine St.copy (v := ?_) (by first | exact .inl rfl | exact .inr rfl) rfl rfl ?_ ?_; rotate_left; (focus ((try simp only [Act.eval, getD_lit, List.getD_cons_zero, List.getD_cons_succ]); with_reducible rfl)))); (try simp only [Act.put, List.setIfInBounds_toArray, List.set_cons_zero, List.set_cons_succ]))) | (first | (refine wp_seq_shut (fun K hK => ?_)) | (refine wp_text hM (fun Kr hKr => ?_); simp only [inText]) | ((refine hK.out _ _ ?_); clear hK K))))
  (refine St.call3 rfl rfl (by kernel_rfl) (fun R hR => ?_); simp only [List.map_toArray, List.map_cons, List.map_nil, Act.eval, getD_lit, List.getD_cons_zero, List.getD_cons_succ])
  refine (CN.out _).mono ?_
  rintro e w' ⟨rfl, hT, hb⟩
  have hst := st_fresh hT.at_ hb (fun k hk => by
    rw [tblL_keys] at hk
    rcases mem_foot.1 hk with rfl | rfl | ⟨n, hn, h⟩
    · omega
    · omega
    · rcases h with rfl | rfl
      · show _ ≤ _ + 3; omega
      · show _ ≤ _ + 2; omega)
  refine hR.out _ _ ?_; clear hR R
  replace hM := hM.madeM hst tblL_flag
  clear hst hT hb
  rw [List.append_nil] at hM
  generalize hgg : w.heap.size + 1 = g at *
  generalize hmm : w.heap.size = mb at *
  (try simp only [Act.put, List.setIfInBounds_toArray, List.set_cons_zero, List.set_cons_succ])
  (repeat (first | ((with_reducible show wpSeq _ _ _ _ _ _ _); first | ((with_reducible refine wpSeq_nil ?_); refine hKr.out _ _ ?_; clear hKr Kr) | ((first | (refine St.copy (v := ?_) (by first | exact .inl rfl | exact .inr rfl) rfl rfl ?_ ?_; rotate_left; (focus ((try simp only [Act.eval, getD_lit, List.getD_cons_zero, List.getD_cons_succ]); with_reducible rfl))) | (refine St.pure (v := ?_) rfl rfl rfl (fun w => ?_) ?_; rotate_left; (focus (go_simp; all_goals with_reducible rfl)))); (try simp only [Act.put, List.setIfInBounds_toArray, List.set_cons_zero, List.set_cons_succ]))) | (first | (refine wp_seq_shut (fun K hK => ?_)) | (refine wp_text hM (fun Kr hKr => ?_); simp only [inText]) | refine wp_skip ?_ | (refine wp_cond_false rfl ?_) | ((refine hK.out _ _ ?_); clear hK K))))
  refine St.makeMap (kt := 3) rfl hM rfl rfl (fun w => ?_) ?_
  · go_simp
    simp [Instr.makeMap, newObj, Sem.run]
  clear hM; intro w hb0 hM
  (try simp only [Act.put, List.setIfInBounds_toArray, List.set_cons_zero, List.set_cons_succ])
  (repeat (first | ((with_reducible show wpSeq _ _ _ _ _ _ _); first | ((with_reducible refine wpSeq_nil ?_); refine hKr.out _ _ ?_; clear hKr Kr) | ((first | (refine St.copy (v := ?_) (by exact .inr rfl) rfl rfl ?_ ?_; rotate_left; (focus ((try simp only [Act.eval, getD_lit, List.getD_cons_zero, List.getD_cons_succ]); with_reducible rfl))) | (refine St.pure (v := ?_) rfl rfl rfl (fun w => ?_) ?_; rotate_left; (focus (go_simp; all_goals with_reducible rfl))) | ((((refine St.box rfl hM rfl rfl rfl ?_); clear hM; intro w bk hM)); (try simp only [Res.put, Res.known, Act.eval, Value.cells, getD_lit, List.getD_cons_zero, List.getD_cons_succ, List.toList_toArray, List.set_cons_zero, List.set_cons_succ, over, Nat.reduceAdd] at hM))); (try simp only [Act.put, List.setIfInBounds_toArray, List.set_cons_zero, List.set_cons_succ]))) | (((refine hK.out _ _ ?_); clear hK K))))
  ((refine wp_ret ?_; (try simp only [Exit.then, Exit.inBlock]); refine St.ret hM rfl (by repeat (first | exact Outs.nil | apply Outs.tmp rfl)) rfl ?_))
  exact ⟨⟨bk, hb0, g, mb⟩, _, rfl, hM⟩
/-- What is no file system, or one that New did not give. -/
def FBare (w : World) (p : Option Addr) : Prop := p = none ∨ ∃ f, p = some ⟨f, 0, none⟩ ∧ w.cell? ⟨f, 0, none⟩ = some (.pointer none)
theorem FBare.below {p : Option Addr} (h : FBare w p) (hb : Below w.heap.size w w') : FBare w' p := by
  rcases h with h | ⟨f, h, hc⟩
  · exact .inl h
  · exact .inr ⟨f, h, (hb.cell (p := ⟨f, 0, none⟩) (World.block_lt_of_cell? w ⟨f, 0, none⟩ hc)).trans hc⟩
set_option maxHeartbeats 4000000 in
set_option maxRecDepth 100000 in
theorem fgiven_no {p : Option Addr} (h : FBare w p) : Calls Tryz.prog 61 #[.pointer p] w fun e w' => e = .returned (.bool false) ∧ w = w' := by
  have hM := St.start w []
  rcases h with rfl | ⟨f, rfl, c0⟩
  all_goals
    go_enter Tryz.func61, Tryz.ntmps61
    (repeat (first | ((with_reducible show wpSeq _ _ _ _ _ _ _); first | ((with_reducible refine wpSeq_nil ?_); refine hKr.out _ _ ?_; clear hKr Kr) | ((first | (refine St.copy (v := ?_) (by first | exact .inl rfl | exact .inr rfl) rfl rfl ?_ ?_; rotate_left; (focus ((try simp only [Act.eval, getD_lit, List.getD_cons_zero, List.getD_cons_succ]); with_reducible rfl))) | (refine St.pure (v := ?_) rfl rfl rfl (fun w => ?_) ?_; rotate_left; (focus (go_simp; all_goals with_reducible rfl))) | refine St.loadF rfl rfl rfl rfl rfl (hM.old (by assumption)) (by kernel_rfl) ?_ | refine wpSeq_off rfl rfl ?_); (try simp only [Act.put, List.setIfInBounds_toArray, List.set_cons_zero, List.set_cons_succ]))) | (first | (refine wp_seq_shut (fun K hK => ?_)) | (refine wp_text hM (fun Kr hKr => ?_); simp only [inText]) | ((refine hK.out _ _ ?_); clear hK K))))
    (refine wp_ret ?_; (try simp only [Exit.then, Exit.inBlock]); refine St.ret hM rfl (by repeat (first | exact Outs.nil | apply Outs.tmp rfl)) rfl ?_)
    exact ⟨rfl, rfl⟩
set_option maxHeartbeats 4000000 in
set_option maxRecDepth 100000 in
theorem fDo_no {p : Option Addr} (h : FBare w p) (o : Int) (q : OpD) : Calls Tryz.prog 16 #[.pointer p, .int .i64 o, .agg q.cells.toArray] w fun e w' => e = .returned (.agg #[.int .i64 1, .int .i64 0, .string ⟨#[]⟩, .slice none 0 0]) ∧ Below w.heap.size w w' := by
  have hM := St.start w []
  have C := Lib.hid (fun (W : World) (hb : Below w.heap.size w W) => fgiven_no (h.below hb))
  clear h
  obtain ⟨pk, pp, pd, ph, pa, pn, px, py, pb⟩ := q
  simp only [OpD.cells]
  go_enter Tryz.func16, Tryz.ntmps16
  (repeat (first | (first | ((with_reducible show wpSeq _ _ _ _ _ _ _); first | ((with_reducible refine wpSeq_nil ?_); refine hKr.out _ _ ?_; clear hKr Kr) | ((first | (refine St.copy (v := ?_) (by exact .inl rfl) rfl rfl ?_ ?_; rotate_left; (focus ((try simp only [Act.eval, getD_lit, List.getD_cons_zero, List.getD_cons_succ]); with_reducible rfl))) | (refine St.pure (v := ?_) rfl rfl rfl (fun w => ?_) ?_; rotate_left; (focus (go_simp; all_goals with_reducible rfl))) | refine wpSeq_off rfl rfl ?_ | ((first | ((refine St.storeRow rfl hM rfl rfl rfl rfl rfl (by repeat constructor) (Nat.le_of_ble_eq_true rfl) (Nat.le_of_ble_eq_true rfl) (by kernel_rfl) rfl ?_ ?_); (focus ((intro h; cases h; done))); clear hM; intro w hM) | ((refine St.box rfl hM rfl rfl rfl ?_); clear hM; intro w bk hM)); (try simp only [Res.put, Res.known, Act.eval, Value.cells, getD_lit, List.getD_cons_zero, List.getD_cons_succ, List.toList_toArray, List.set_cons_zero, List.set_cons_succ, over, Nat.reduceAdd] at hM))); (try simp only [Act.put, List.setIfInBounds_toArray, List.set_cons_zero, List.set_cons_succ])) | (((refine St.alloc (ty := 31) (z := .agg #[.int .i64 0, .int .i64 0, .string ⟨#[]⟩, .slice none 0 0]) rfl hM rfl rfl (by kernel_rfl) ?_); clear hM; intro w bk hM); (try simp only [Res.put, Res.known, Act.eval, Value.cells, getD_lit, List.getD_cons_zero, List.getD_cons_succ, List.toList_toArray, List.set_cons_zero, List.set_cons_succ, over, Nat.reduceAdd] at hM); (try simp only [Act.put, List.setIfInBounds_toArray, List.set_cons_zero, List.set_cons_succ]))) | (first | (refine wp_seq_shut (fun K hK => ?_)) | (refine wp_text hM (fun Kr hKr => ?_); simp only [inText]) | (refine wp_cond_true rfl ?_) | ((refine hK.out _ _ ?_); clear hK K))) | ((refine St.call rfl rfl rfl (by kernel_rfl) (fun R hR => ?_); simp only [List.map_toArray, List.map_cons, List.map_nil, Act.eval, getD_lit, List.getD_cons_zero, List.getD_cons_succ]); ((with_reducible refine (C.out _ hM.to_below).mono ?_); (rintro e w' ⟨rfl, rfl⟩; refine hR.out _ _ (fun h => h) ?_; clear hR R; (try simp only [Act.put, List.setIfInBounds_toArray, List.set_cons_zero, List.set_cons_succ]))))))
  ((refine wp_ret ?_; (try simp only [Exit.then, Exit.inBlock]); refine St.ret hM rfl (by repeat (first | exact Outs.nil | (apply Outs.row rfl rfl (by repeat constructor) (by kernel_rfl)))) rfl ?_))
  exact ⟨rfl, hM.to_below⟩
set_option maxHeartbeats 4000000 in
set_option maxRecDepth 100000 in
theorem fExit_no {p : Option Addr} (h : FBare w p) (o : Int) : Calls Tryz.prog 17 #[.pointer p, .int .i64 o] w fun e w' => e = .returned (.tuple #[]) ∧ Below w.heap.size w w' := by
  have hM := St.start w []
  have C := Lib.hid (fun (W : World) (hb : Below w.heap.size w W) => fgiven_no (h.below hb))
  clear h
  go_enter Tryz.func17, Tryz.ntmps17
  (repeat (first | (first | ((with_reducible show wpSeq _ _ _ _ _ _ _); first | ((with_reducible refine wpSeq_nil ?_); refine hKr.out _ _ ?_; clear hKr Kr) | ((first | (refine St.copy (v := ?_) (by exact .inl rfl) rfl rfl ?_ ?_; rotate_left; (focus ((try simp only [Act.eval, getD_lit, List.getD_cons_zero, List.getD_cons_succ]); with_reducible rfl))) | (refine St.pure (v := ?_) rfl rfl rfl (fun w => ?_) ?_; rotate_left; (focus (go_simp; all_goals with_reducible rfl)))); (try simp only [Act.put, List.setIfInBounds_toArray, List.set_cons_zero, List.set_cons_succ]))) | (first | (refine wp_seq_shut (fun K hK => ?_)) | (refine wp_text hM (fun Kr hKr => ?_); simp only [inText]) | (refine wp_cond_true rfl ?_) | ((refine hK.out _ _ ?_); clear hK K))) | ((refine St.call rfl rfl rfl (by kernel_rfl) (fun R hR => ?_); simp only [List.map_toArray, List.map_cons, List.map_nil, Act.eval, getD_lit, List.getD_cons_zero, List.getD_cons_succ]); ((with_reducible refine (C.out _ hM.to_below).mono ?_); (rintro e w' ⟨rfl, rfl⟩; refine hR.out _ _ (fun h => h) ?_; clear hR R; (try simp only [Act.put, List.setIfInBounds_toArray, List.set_cons_zero, List.set_cons_succ]))))))
  ((refine wp_ret ?_; (try simp only [Exit.then, Exit.inBlock]); refine St.ret hM rfl (by repeat (exact Outs.nil)) rfl ?_))
  exact ⟨rfl, hM.to_below⟩
set_option maxHeartbeats 4000000 in
set_option maxRecDepth 100000 in
theorem fUsed_no {p : Option Addr} (h : FBare w p) : Calls Tryz.prog 18 #[.pointer p] w fun e w' => e = .returned (.int .i64 0) ∧ Below w.heap.size w w' := by
  have hM := St.start w []
  have C := Lib.hid (fun (W : World) (hb : Below w.heap.size w W) => fgiven_no (h.below hb))
  clear h
  go_enter Tryz.func18, Tryz.ntmps18
  (repeat (first | (first | ((with_reducible show wpSeq _ _ _ _ _ _ _); first | ((with_reducible refine wpSeq_nil ?_); refine hKr.out _ _ ?_; clear hKr Kr) | ((first | (refine St.copy (v := ?_) (by first | exact .inl rfl | exact .inr rfl) rfl rfl ?_ ?_; rotate_left; (focus ((try simp only [Act.eval, getD_lit, List.getD_cons_zero, List.getD_cons_succ]); with_reducible rfl))) | (refine St.pure (v := ?_) rfl rfl rfl (fun w => ?_) ?_; rotate_left; (focus (go_simp; all_goals with_reducible rfl)))); (try simp only [Act.put, List.setIfInBounds_toArray, List.set_cons_zero, List.set_cons_succ]))) | (first | (refine wp_seq_shut (fun K hK => ?_)) | (refine wp_text hM (fun Kr hKr => ?_); simp only [inText]) | (refine wp_cond_true rfl ?_) | ((refine hK.out _ _ ?_); clear hK K))) | ((refine St.call rfl rfl rfl (by kernel_rfl) (fun R hR => ?_); simp only [List.map_toArray, List.map_cons, List.map_nil, Act.eval, getD_lit, List.getD_cons_zero, List.getD_cons_succ]); ((with_reducible refine (C.out _ hM.to_below).mono ?_); (rintro e w' ⟨rfl, rfl⟩; refine hR.out _ _ (fun h => h) ?_; clear hR R; (try simp only [Act.put, List.setIfInBounds_toArray, List.set_cons_zero, List.set_cons_succ]))))))
  ((refine wp_ret ?_; (try simp only [Exit.then, Exit.inBlock]); refine St.ret hM rfl (by repeat (first | exact Outs.nil | apply Outs.tmp rfl)) rfl ?_))
  exact ⟨rfl, hM.to_below⟩
set_option maxHeartbeats 4000000 in
set_option maxRecDepth 100000 in
theorem fFiles_no {p : Option Addr} (h : FBare w p) : Calls Tryz.prog 20 #[.pointer p] w fun e w' => e = .returned (.slice none 0 0) ∧ Below w.heap.size w w' := by
  have hM := St.start w []
  have C := Lib.hid (fun (W : World) (hb : Below w.heap.size w W) => fgiven_no (h.below hb))
  clear h
  go_enter Tryz.func20, Tryz.ntmps20
  (repeat (first | (first | ((with_reducible show wpSeq _ _ _ _ _ _ _); first | ((with_reducible refine wpSeq_nil ?_); refine hKr.out _ _ ?_; clear hKr Kr) | ((first | (refine St.copy (v := ?_) (by first | exact .inl rfl | exact .inr rfl) rfl rfl ?_ ?_; rotate_left; (focus ((try simp only [Act.eval, getD_lit, List.getD_cons_zero, List.getD_cons_succ]); with_reducible rfl))) | (refine St.pure (v := ?_) rfl rfl rfl (fun w => ?_) ?_; rotate_left; (focus (go_simp; all_goals with_reducible rfl)))); (try simp only [Act.put, List.setIfInBounds_toArray, List.set_cons_zero, List.set_cons_succ]))) | (first | (refine wp_seq_shut (fun K hK => ?_)) | (refine wp_text hM (fun Kr hKr => ?_); simp only [inText]) | (refine wp_cond_true rfl ?_) | ((refine hK.out _ _ ?_); clear hK K))) | ((refine St.call rfl rfl rfl (by kernel_rfl) (fun R hR => ?_); simp only [List.map_toArray, List.map_cons, List.map_nil, Act.eval, getD_lit, List.getD_cons_zero, List.getD_cons_succ]); ((with_reducible refine (C.out _ hM.to_below).mono ?_); (rintro e w' ⟨rfl, rfl⟩; refine hR.out _ _ (fun h => h) ?_; clear hR R; (try simp only [Act.put, List.setIfInBounds_toArray, List.set_cons_zero, List.set_cons_succ]))))))
  ((refine wp_ret ?_; (try simp only [Exit.then, Exit.inBlock]); refine St.ret hM rfl (by repeat (first | exact Outs.nil | apply Outs.tmp rfl)) rfl ?_))
  exact ⟨rfl, hM.to_below⟩
set_option maxHeartbeats 4000000 in
set_option maxRecDepth 100000 in
theorem fOwners_no {p : Option Addr} (h : FBare w p) : Calls Tryz.prog 21 #[.pointer p] w fun e w' => e = .returned (.slice none 0 0) ∧ Below w.heap.size w w' := by
  have hM := St.start w []
  have C := Lib.hid (fun (W : World) (hb : Below w.heap.size w W) => fgiven_no (h.below hb))
  clear h
  go_enter Tryz.func21, Tryz.ntmps21
  (repeat (first | (first | ((with_reducible show wpSeq _ _ _ _ _ _ _); first | ((with_reducible refine wpSeq_nil ?_); refine hKr.out _ _ ?_; clear hKr Kr) | ((first | (refine St.copy (v := ?_) (by first | exact .inl rfl | exact .inr rfl) rfl rfl ?_ ?_; rotate_left; (focus ((try simp only [Act.eval, getD_lit, List.getD_cons_zero, List.getD_cons_succ]); with_reducible rfl))) | (refine St.pure (v := ?_) rfl rfl rfl (fun w => ?_) ?_; rotate_left; (focus (go_simp; all_goals with_reducible rfl)))); (try simp only [Act.put, List.setIfInBounds_toArray, List.set_cons_zero, List.set_cons_succ]))) | (first | (refine wp_seq_shut (fun K hK => ?_)) | (refine wp_text hM (fun Kr hKr => ?_); simp only [inText]) | (refine wp_cond_true rfl ?_) | ((refine hK.out _ _ ?_); clear hK K))) | ((refine St.call rfl rfl rfl (by kernel_rfl) (fun R hR => ?_); simp only [List.map_toArray, List.map_cons, List.map_nil, Act.eval, getD_lit, List.getD_cons_zero, List.getD_cons_succ]); ((with_reducible refine (C.out _ hM.to_below).mono ?_); (rintro e w' ⟨rfl, rfl⟩; refine hR.out _ _ (fun h => h) ?_; clear hR R; (try simp only [Act.put, List.setIfInBounds_toArray, List.set_cons_zero, List.set_cons_succ]))))))
  ((refine wp_ret ?_; (try simp only [Exit.then, Exit.inBlock]); refine St.ret hM rfl (by repeat (first | exact Outs.nil | apply Outs.tmp rfl)) rfl ?_))
  exact ⟨rfl, hM.to_below⟩
set_option maxHeartbeats 4000000 in
set_option maxRecDepth 100000 in
theorem fClone_no {p : Option Addr} (h : FBare w p) : Calls Tryz.prog 22 #[.pointer p] w fun e w' => e = .returned (.pointer none) ∧ Below w.heap.size w w' := by
  have hM := St.start w []
  have C := Lib.hid (fun (W : World) (hb : Below w.heap.size w W) => fgiven_no (h.below hb))
  clear h
  go_enter Tryz.func22, Tryz.ntmps22
  (repeat (first | (first | ((with_reducible show wpSeq _ _ _ _ _ _ _); first | ((with_reducible refine wpSeq_nil ?_); refine hKr.out _ _ ?_; clear hKr Kr) | ((first | (refine St.copy (v := ?_) (by first | exact .inl rfl | exact .inr rfl) rfl rfl ?_ ?_; rotate_left; (focus ((try simp only [Act.eval, getD_lit, List.getD_cons_zero, List.getD_cons_succ]); with_reducible rfl))) | (refine St.pure (v := ?_) rfl rfl rfl (fun w => ?_) ?_; rotate_left; (focus (go_simp; all_goals with_reducible rfl)))); (try simp only [Act.put, List.setIfInBounds_toArray, List.set_cons_zero, List.set_cons_succ]))) | (first | (refine wp_seq_shut (fun K hK => ?_)) | (refine wp_text hM (fun Kr hKr => ?_); simp only [inText]) | (refine wp_cond_true rfl ?_) | ((refine hK.out _ _ ?_); clear hK K))) | ((refine St.call rfl rfl rfl (by kernel_rfl) (fun R hR => ?_); simp only [List.map_toArray, List.map_cons, List.map_nil, Act.eval, getD_lit, List.getD_cons_zero, List.getD_cons_succ]); ((with_reducible refine (C.out _ hM.to_below).mono ?_); (rintro e w' ⟨rfl, rfl⟩; refine hR.out _ _ (fun h => h) ?_; clear hR R; (try simp only [Act.put, List.setIfInBounds_toArray, List.set_cons_zero, List.set_cons_succ]))))))
  ((refine wp_ret ?_; (try simp only [Exit.then, Exit.inBlock]); refine St.ret hM rfl (by repeat (first | exact Outs.nil | apply Outs.tmp rfl)) rfl ?_))
  exact ⟨rfl, hM.to_below⟩
end
end Go.Proofs.YtcicjklhbnipcaaGreatDoor
