/-
  Layer 9: Files at what awake makes walked.
-/
import Derived.Test.YtcicjklhbnipcaaGreatDoorFsA
import Derived.Test.YtcicjklhbnipcaaGreatDoorFsF
namespace Go.Proofs.YtcicjklhbnipcaaGreatDoor
set_option linter.unusedVariables false
set_option linter.unusedSimpArgs false
open Go.RowKit Go.Maps
variable {N : Nat} {w : World} {x : FsX} {β : Int → Nat × Nat}
/-- Some entries alone. -/
inductive Pick : List Ent → List Ent → Prop where
  | nil {L : List Ent} : Pick [] L
  | cons {x : Ent} {L L' M : List Ent} (h : Del L x L') (t : Pick M L') : Pick (x :: M) L
theorem Pick.spec {M L : List Ent} (h : Pick M L) (hnd : (L.map (·.1)).Nodup) : (∀ x ∈ M, x ∈ L) ∧ (M.map (·.1)).Nodup := by
  induction h with
  | nil => exact ⟨nofun, List.nodup_nil⟩
  | @cons x L L' M hd _ ih =>
    obtain ⟨h1, h2, h3⟩ := hd.mem
    obtain ⟨g1, g2⟩ := h3 hnd
    obtain ⟨i1, i2⟩ := ih g1
    refine ⟨fun z hz => ?_, ?_⟩
    · rcases List.mem_cons.1 hz with rfl | hz
      · exact h1
      · exact h2 _ (i1 z hz)
    · simp only [List.map_cons, List.nodup_cons]
      refine ⟨fun hm => ?_, i2⟩
      obtain ⟨u, hu, e⟩ := List.mem_map.1 hm
      exact g2 _ (i1 u hu) e
theorem St.pick {w0 : World} {F : List Nat} {L M : List Ent} (h : St w0 F w L) (hp : Pick M L) : St w0 F w M := h.drop (hp.spec h.nd).1 (hp.spec h.nd).2
abbrev row1 (g2 c2 : Nat) : Value := .agg #[.int .i64 1, .bool true, .int .i64 1, .int .i64 0, .string ⟨#[]⟩, .slice (some ⟨g2, 0, none⟩) 1 c2]
abbrev row2 (s : Option Addr) (n : Nat) : Value := .agg #[.int .i64 2, .bool false, .int .i64 0, .int .i64 1, .string ⟨#[120, 121]⟩, .slice s 0 n]
abbrev row3 (s : Option Addr) (n : Nat) : Value := .agg #[.int .i64 3, .bool true, .int .i64 1, .int .i64 0, .string ⟨#[]⟩, .slice s 0 n]
theorem names_s6 : ∀ n ∈ Aw.s6.t.nodes, In.nameSorted n.names := by
  intro n hn
  simp [Aw.s6] at hn
  rcases hn with rfl | rfl | rfl <;> simp [In.nameSorted]
theorem flag2 {a b : Ent} (ha : a.2.1 = true) (hb : b.2.1 = true) : flagged [a, b] := by
  intro z hz
  rcases List.mem_cons.1 hz with rfl | hz
  · exact ha
  · rcases List.mem_singleton.1 hz with rfl
    exact hb
/-- Nodes at awake's state: three rows, and the root's one name. -/
theorem nodes_s6 {e : Ending} {w' : World} (h : SomeNodes Aw.s6.t.nodes w e w') : ∃ g c g2 c2 s2 n2 s3 n3, e = .returned (.slice (some ⟨g, 0, none⟩) 3 c) ∧ 3 ≤ c ∧ c ≤ maxLen ∧ St w [] w' [(g, true, .pre [.int .i64 1, .bool true, .int .i64 1, .int .i64 0, .string ⟨#[]⟩, .slice (some ⟨g2, 0, none⟩) 1 c2, .int .i64 2, .bool false, .int .i64 0, .int .i64 1, .string ⟨#[120, 121]⟩, .slice s2 0 n2, .int .i64 3, .bool true, .int .i64 1, .int .i64 0, .string ⟨#[]⟩, .slice s3 0 n3] 124 (c * 6)), (g2, true, .pre [.string ⟨#[100]⟩, .int .i64 3] 127 (c2 * 2))] := by
  obtain ⟨s, zs, rfl, hz, hs, hk, hM⟩ := h
  rcases zs with _ | ⟨⟨z1, q1⟩, _ | ⟨⟨z2, q2⟩, _ | ⟨⟨z3, q3⟩, _ | ⟨z4, r⟩⟩⟩⟩ <;> simp [Aw.s6] at hz
  obtain ⟨rfl, rfl, rfl⟩ := hz
  rcases s with _ | ⟨g, c⟩
  · exact absurd hs.2 (by simp)
  have k1 := hk _ (.head _)
  rcases q1 with _ | ⟨g2, c2⟩
  · exact absurd k1.2 (by simp)
  have hv : ∀ q : Option (Nat × Nat), ∃ s n, slV q 0 = .slice s 0 n := fun q => by rcases q with _ | ⟨a, b⟩ <;> exact ⟨_, _, rfl⟩
  obtain ⟨s2, n2, h2⟩ := hv q2
  obtain ⟨s3, n3, h3⟩ := hv q3
  refine ⟨g, c, g2, c2, s2, n2, s3, n3, rfl, hs.2.1, hs.2.2, ?_⟩
  have e2 : slV q2 ([] : List (ByteArray × Int)).length = .slice s2 0 n2 := h2
  have e3 : slV q3 ([] : List (ByteArray × Int)).length = .slice s3 0 n3 := h3
  simp only [List.flatMap_cons, List.flatMap_nil, NodV.cells, NodV.ents, entC, e2, e3] at hM
  refine hM.subM (List.Sublist.cons_cons _ (List.Sublist.cons_cons _ (List.nil_sublist _)))
set_option maxHeartbeats 8000000 in
set_option maxRecDepth 100000 in
theorem files_s6 (h : FsAt N x β Aw.s6 w) : Calls Tryz.prog 20 #[.pointer (some ⟨x.f, 0, none⟩)] w fun e w' => ∃ go co L1, e = .returned (.slice (some ⟨go, 0, none⟩) 1 co) ∧ St w [] w' ((go, true, .pre [.string ⟨#[100]⟩, .bool true, .string ⟨#[]⟩] 112 (co * 3)) :: L1) := by
  have hM := h.at_.ro
  unfold fsL at hM
  simp only [List.map_cons, unflag] at hM
  have HF := Lib.hid h
  clear h
  go_enter Tryz.func20, Tryz.ntmps20
  (repeat (first | ((with_reducible show wpSeq _ _ _ _ _ _ _); first | ((with_reducible refine wpSeq_nil ?_); refine hKr.out _ _ ?_; clear hKr Kr) | (((refine St.copy (v := ?_) (by first | exact .inl rfl | exact .inr rfl) rfl rfl ?_ ?_; rotate_left; (focus ((try simp only [Act.eval, getD_lit, List.getD_cons_zero, List.getD_cons_succ]); with_reducible rfl)))); (try simp only [Act.put, List.setIfInBounds_toArray, List.set_cons_zero, List.set_cons_succ]))) | (first | (refine wp_seq_shut (fun K hK => ?_)) | (refine wp_text hM (fun Kr hKr => ?_); simp only [inText]) | ((refine hK.out _ _ ?_); clear hK K))))
  (refine St.call3 rfl rfl (by kernel_rfl) (fun R hR => ?_); simp only [List.map_toArray, List.map_cons, List.map_nil, Act.eval, getD_lit, List.getD_cons_zero, List.getD_cons_succ])
  refine (fgiven_any (HF.out.below hM.to_below)).mono ?_
  rintro e w' ⟨rfl, rfl⟩; refine hR.out _ _ ?_; clear hR R; (try simp only [Act.put, List.setIfInBounds_toArray, List.set_cons_zero, List.set_cons_succ])
  (repeat (first | ((with_reducible show wpSeq _ _ _ _ _ _ _); first | ((with_reducible refine wpSeq_nil ?_); refine hKr.out _ _ ?_; clear hKr Kr) | (((refine St.pure (v := ?_) rfl rfl rfl (fun w => ?_) ?_; rotate_left; (focus (go_simp; all_goals with_reducible rfl)))); (try simp only [Act.put, List.setIfInBounds_toArray, List.set_cons_zero, List.set_cons_succ]))) | (first | (refine wp_seq_shut (fun K hK => ?_)) | (refine wp_text hM (fun Kr hKr => ?_); simp only [inText]) | refine wp_skip ?_ | (refine wp_cond_false rfl ?_) | ((refine hK.out _ _ ?_); clear hK K))))
  refine St.makeMap (kt := 3) rfl hM rfl rfl (fun w => ?_) ?_
  · go_simp
    simp [Instr.makeMap, newObj, Sem.run]
  clear hM; intro w b hM
  (try simp only [Act.put, List.setIfInBounds_toArray, List.set_cons_zero, List.set_cons_succ])
  (repeat (first | ((with_reducible show wpSeq _ _ _ _ _ _ _); first | ((with_reducible refine wpSeq_nil ?_); refine hKr.out _ _ ?_; clear hKr Kr) | ((first | (refine St.copy (v := ?_) (by exact .inl rfl) rfl rfl ?_ ?_; rotate_left; (focus ((try simp only [Act.eval, getD_lit, List.getD_cons_zero, List.getD_cons_succ]); with_reducible rfl))) | (refine St.pure (v := ?_) rfl rfl rfl (fun w => ?_) ?_; rotate_left; (focus (go_simp; all_goals with_reducible rfl))) | refine St.load rfl hM rfl rfl rfl rfl (by repeat constructor) (by rfl) (by kernel_rfl) ?_ | ((((refine St.store rfl hM rfl rfl rfl rfl rfl (by repeat constructor) (Nat.le_of_ble_eq_true rfl) (by kernel_rfl) rfl ?_ ?_); (focus ((intro h; cases h; done))); clear hM; intro w hM)); (try simp only [Res.put, Res.known, Act.eval, Value.cells, getD_lit, List.getD_cons_zero, List.getD_cons_succ, List.toList_toArray, List.set_cons_zero, List.set_cons_succ, over, Nat.reduceAdd] at hM))); (try simp only [Act.put, List.setIfInBounds_toArray, List.set_cons_zero, List.set_cons_succ])) | (((refine St.alloc (ty := 119) (z := .map none) rfl hM rfl rfl (by kernel_rfl) ?_); clear hM; intro w bk hM); (try simp only [Res.put, Res.known, Act.eval, Value.cells, getD_lit, List.getD_cons_zero, List.getD_cons_succ, List.toList_toArray, List.set_cons_zero, List.set_cons_succ, over, Nat.reduceAdd] at hM); (try simp only [Act.put, List.setIfInBounds_toArray, List.set_cons_zero, List.set_cons_succ]))) | (first | (refine wp_seq_shut (fun K hK => ?_)) | (refine wp_text hM (fun Kr hKr => ?_); simp only [inText]) | ((refine hK.out _ _ ?_); clear hK K))))
  (refine St.call3 rfl rfl (by kernel_rfl) (fun R hR => ?_); simp only [List.map_toArray, List.map_cons, List.map_nil, Act.eval, getD_lit, List.getD_cons_zero, List.getD_cons_succ])
  refine (Nodes9_any (HF.out.below hM.to_below).tbl (by decide) (by decide) (by decide) (by decide) names_s6).mono ?_
  intro e w' hn
  obtain ⟨g, c, g2, c2, s2, n2, s3, n3, rfl, hc, hcm, hN⟩ := nodes_s6 hn
  refine hR.out _ _ ?_; clear hR R; replace hM := hM.madeM hN (flag2 rfl rfl); clear hN hn
  simp only [List.cons_append, List.nil_append] at hM
  (try simp only [Act.put, List.setIfInBounds_toArray, List.set_cons_zero, List.set_cons_succ])
  (repeat (first | ((with_reducible show wpSeq _ _ _ _ _ _ _); first | ((with_reducible refine wpSeq_nil ?_); refine hKr.out _ _ ?_; clear hKr Kr) | ((first | (refine St.copy (v := ?_) (by exact .inl rfl) rfl rfl ?_ ?_; rotate_left; (focus ((try simp only [Act.eval, getD_lit, List.getD_cons_zero, List.getD_cons_succ]); with_reducible rfl))) | (refine St.pure (v := ?_) rfl rfl rfl (fun w => ?_) ?_; rotate_left; (focus (go_simp; all_goals with_reducible rfl)))); (try simp only [Act.put, List.setIfInBounds_toArray, List.set_cons_zero, List.set_cons_succ]))) | (first | refine wp_block ?_ | ((refine hK.out _ _ ?_); clear hK K))))
  trace_state
  refine wp_loop_rounds 4 ?_
  (refine rounds_shut (fun K hK => ?_))
  (repeat (first | ((with_reducible show wpSeq _ _ _ _ _ _ _); first | ((with_reducible refine wpSeq_nil ?_); refine hKr.out _ _ ?_; clear hKr Kr) | ((first | (refine St.pure (v := ?_) rfl rfl rfl (fun w => ?_) ?_; rotate_left; (focus (go_simp; all_goals with_reducible rfl))) | refine St.load rfl hM rfl rfl rfl rfl (by repeat constructor) (by rfl) (by kernel_rfl) ?_ | ((refine St.loadRow rfl hM rfl rfl rfl rfl (by repeat constructor) (Nat.le_of_ble_eq_true rfl) (by kernel_rfl) ?_); (try simp only [Res.known, List.drop_succ_cons, List.drop_zero, List.take_succ_cons, List.take_zero])) | ((((refine St.storeRow rfl hM rfl rfl rfl rfl rfl (by repeat constructor) (Nat.le_of_ble_eq_true rfl) (Nat.le_of_ble_eq_true rfl) (by kernel_rfl) rfl ?_ ?_); (focus ((intro h; cases h; done))); clear hM; intro w hM)); (try simp only [Res.put, Res.known, Act.eval, Value.cells, getD_lit, List.getD_cons_zero, List.getD_cons_succ, List.toList_toArray, List.set_cons_zero, List.set_cons_succ, over, Nat.reduceAdd] at hM))); (try simp only [Act.put, List.setIfInBounds_toArray, List.set_cons_zero, List.set_cons_succ])) | (((refine St.alloc (ty := 124) (z := .agg #[.int .i64 0, .bool false, .int .i64 0, .int .i64 0, .string ⟨#[]⟩, .slice none 0 0]) rfl hM rfl rfl (by kernel_rfl) ?_); clear hM; intro w bk hM); (try simp only [Res.put, Res.known, Act.eval, Value.cells, getD_lit, List.getD_cons_zero, List.getD_cons_succ, List.toList_toArray, List.set_cons_zero, List.set_cons_succ, over, Nat.reduceAdd] at hM); (try simp only [Act.put, List.setIfInBounds_toArray, List.set_cons_zero, List.set_cons_succ]))) | (first | (refine wp_seq_shut (fun K hK => ?_)) | (refine wp_text hM (fun Kr hKr => ?_); simp only [inText]) | refine wp_block ?_ | refine wp_skip ?_ | (refine wp_cond_true rfl ?_) | ((refine hK.out _ _ ?_); clear hK K))))
  refine St.mapUpdate (kl := .int .i64 1) (key := .int .i64 1) (val := row1 g2 c2) (m' := [(.int .i64 1, row1 g2 c2)]) rfl hM rfl rfl rfl rfl rfl (by repeat constructor) rfl key_int Tryz.underlying119 (by simp [maxLen]) (keyOf_int_mk Tryz.underlying3 (by decide)) (fun h => by cases h) ?_
  clear hM; intro w hM
  (try simp only [Act.put, List.setIfInBounds_toArray, List.set_cons_zero, List.set_cons_succ])
  (repeat (first | ((with_reducible show wpSeq _ _ _ _ _ _ _); first | ((with_reducible refine wpSeq_nil ?_); refine hKr.out _ _ ?_; clear hKr Kr) | ((first | (refine St.copy (v := ?_) (by exact .inl rfl) rfl rfl ?_ ?_; rotate_left; (focus ((try simp only [Act.eval, getD_lit, List.getD_cons_zero, List.getD_cons_succ]); with_reducible rfl))) | (refine St.pure (v := ?_) rfl rfl rfl (fun w => ?_) ?_; rotate_left; (focus (go_simp; all_goals with_reducible rfl)))); (try simp only [Act.put, List.setIfInBounds_toArray, List.set_cons_zero, List.set_cons_succ]))) | (first | (refine wp_seq_shut (fun K hK => ?_)) | (refine wp_text hM (fun Kr hKr => ?_); simp only [inText]) | refine wp_block ?_ | refine wp_skip ?_ | (refine wp_cond_true rfl ?_) | ((refine hK.out _ _ ?_); clear hK K))))
  simp only [show IntKind.i64.wrap 1 = 1 from by decide]
  (repeat (first | ((with_reducible show wpSeq _ _ _ _ _ _ _); first | ((with_reducible refine wpSeq_nil ?_); refine hKr.out _ _ ?_; clear hKr Kr) | ((first | (refine St.pure (v := ?_) rfl rfl rfl (fun w => ?_) ?_; rotate_left; (focus (go_simp; all_goals with_reducible rfl))) | refine St.load rfl hM rfl rfl rfl rfl (by repeat constructor) (by rfl) (by kernel_rfl) ?_ | ((refine St.loadRow rfl hM rfl rfl rfl rfl (by repeat constructor) (Nat.le_of_ble_eq_true rfl) (by kernel_rfl) ?_); (try simp only [Res.known, List.drop_succ_cons, List.drop_zero, List.take_succ_cons, List.take_zero])) | ((((refine St.storeRow rfl hM rfl rfl rfl rfl rfl (by repeat constructor) (Nat.le_of_ble_eq_true rfl) (Nat.le_of_ble_eq_true rfl) (by kernel_rfl) rfl ?_ ?_); (focus ((intro h; cases h; done))); clear hM; intro w hM)); (try simp only [Res.put, Res.known, Act.eval, Value.cells, getD_lit, List.getD_cons_zero, List.getD_cons_succ, List.toList_toArray, List.set_cons_zero, List.set_cons_succ, over, Nat.reduceAdd] at hM))); (try simp only [Act.put, List.setIfInBounds_toArray, List.set_cons_zero, List.set_cons_succ])) | (((refine St.alloc (ty := 124) (z := .agg #[.int .i64 0, .bool false, .int .i64 0, .int .i64 0, .string ⟨#[]⟩, .slice none 0 0]) rfl hM rfl rfl (by kernel_rfl) ?_); clear hM; intro w bk hM); (try simp only [Res.put, Res.known, Act.eval, Value.cells, getD_lit, List.getD_cons_zero, List.getD_cons_succ, List.toList_toArray, List.set_cons_zero, List.set_cons_succ, over, Nat.reduceAdd] at hM); (try simp only [Act.put, List.setIfInBounds_toArray, List.set_cons_zero, List.set_cons_succ]))) | (first | (refine wp_text hM (fun Kr hKr => ?_); simp only [inText]) | ((refine hK.out _ _ ?_); clear hK K))))
  refine St.mapUpdate (kl := .int .i64 2) (key := .int .i64 2) (val := row2 s2 n2) (m' := [(.int .i64 1, row1 g2 c2), (.int .i64 2, row2 s2 n2)]) rfl hM rfl rfl rfl rfl rfl (by repeat constructor) rfl key_int Tryz.underlying119 (by simp [maxLen]) (keyOf_int_mk Tryz.underlying3 (by decide)) (fun h => by cases h) ?_
  clear hM; intro w hM
  (try simp only [Act.put, List.setIfInBounds_toArray, List.set_cons_zero, List.set_cons_succ])
  (repeat (first | ((with_reducible show wpSeq _ _ _ _ _ _ _); first | ((with_reducible refine wpSeq_nil ?_); refine hKr.out _ _ ?_; clear hKr Kr) | ((first | (refine St.copy (v := ?_) (by exact .inl rfl) rfl rfl ?_ ?_; rotate_left; (focus ((try simp only [Act.eval, getD_lit, List.getD_cons_zero, List.getD_cons_succ]); with_reducible rfl))) | (refine St.pure (v := ?_) rfl rfl rfl (fun w => ?_) ?_; rotate_left; (focus (go_simp; all_goals with_reducible rfl)))); (try simp only [Act.put, List.setIfInBounds_toArray, List.set_cons_zero, List.set_cons_succ]))) | (first | (refine wp_seq_shut (fun K hK => ?_)) | (refine wp_text hM (fun Kr hKr => ?_); simp only [inText]) | refine wp_block ?_ | refine wp_skip ?_ | (refine wp_cond_true rfl ?_) | ((refine hK.out _ _ ?_); clear hK K))))
  simp only [show IntKind.i64.wrap 2 = 2 from by decide, show IntKind.i64.wrap (1 + 1) = 2 from by decide]
  (repeat (first | ((with_reducible show wpSeq _ _ _ _ _ _ _); first | ((with_reducible refine wpSeq_nil ?_); refine hKr.out _ _ ?_; clear hKr Kr) | ((first | (refine St.pure (v := ?_) rfl rfl rfl (fun w => ?_) ?_; rotate_left; (focus (go_simp; all_goals with_reducible rfl))) | refine St.load rfl hM rfl rfl rfl rfl (by repeat constructor) (by rfl) (by kernel_rfl) ?_ | ((refine St.loadRow rfl hM rfl rfl rfl rfl (by repeat constructor) (Nat.le_of_ble_eq_true rfl) (by kernel_rfl) ?_); (try simp only [Res.known, List.drop_succ_cons, List.drop_zero, List.take_succ_cons, List.take_zero])) | ((((refine St.storeRow rfl hM rfl rfl rfl rfl rfl (by repeat constructor) (Nat.le_of_ble_eq_true rfl) (Nat.le_of_ble_eq_true rfl) (by kernel_rfl) rfl ?_ ?_); (focus ((intro h; cases h; done))); clear hM; intro w hM)); (try simp only [Res.put, Res.known, Act.eval, Value.cells, getD_lit, List.getD_cons_zero, List.getD_cons_succ, List.toList_toArray, List.set_cons_zero, List.set_cons_succ, over, Nat.reduceAdd] at hM))); (try simp only [Act.put, List.setIfInBounds_toArray, List.set_cons_zero, List.set_cons_succ])) | (((refine St.alloc (ty := 124) (z := .agg #[.int .i64 0, .bool false, .int .i64 0, .int .i64 0, .string ⟨#[]⟩, .slice none 0 0]) rfl hM rfl rfl (by kernel_rfl) ?_); clear hM; intro w bk hM); (try simp only [Res.put, Res.known, Act.eval, Value.cells, getD_lit, List.getD_cons_zero, List.getD_cons_succ, List.toList_toArray, List.set_cons_zero, List.set_cons_succ, over, Nat.reduceAdd] at hM); (try simp only [Act.put, List.setIfInBounds_toArray, List.set_cons_zero, List.set_cons_succ]))) | (first | (refine wp_text hM (fun Kr hKr => ?_); simp only [inText]) | ((refine hK.out _ _ ?_); clear hK K))))
  refine St.mapUpdate (kl := .int .i64 3) (key := .int .i64 3) (val := row3 s3 n3) (m' := [(.int .i64 1, row1 g2 c2), (.int .i64 2, row2 s2 n2), (.int .i64 3, row3 s3 n3)]) rfl hM rfl rfl rfl rfl rfl (by repeat constructor) rfl key_int Tryz.underlying119 (by simp [maxLen]) (keyOf_int_mk Tryz.underlying3 (by decide)) (fun h => by cases h) ?_
  clear hM; intro w hM
  (try simp only [Act.put, List.setIfInBounds_toArray, List.set_cons_zero, List.set_cons_succ])
  (repeat (first | ((with_reducible show wpSeq _ _ _ _ _ _ _); first | ((with_reducible refine wpSeq_nil ?_); refine hKr.out _ _ ?_; clear hKr Kr) | ((first | (refine St.copy (v := ?_) (by exact .inl rfl) rfl rfl ?_ ?_; rotate_left; (focus ((try simp only [Act.eval, getD_lit, List.getD_cons_zero, List.getD_cons_succ]); with_reducible rfl))) | (refine St.pure (v := ?_) rfl rfl rfl (fun w => ?_) ?_; rotate_left; (focus (go_simp; all_goals with_reducible rfl))) | refine St.load rfl hM rfl rfl rfl rfl (by repeat constructor) (by rfl) (by kernel_rfl) ?_ | ((((refine St.store rfl hM rfl rfl rfl rfl rfl (by repeat constructor) (Nat.le_of_ble_eq_true rfl) (by kernel_rfl) rfl ?_ ?_); (focus ((intro h; cases h; done))); clear hM; intro w hM)); (try simp only [Res.put, Res.known, Act.eval, Value.cells, getD_lit, List.getD_cons_zero, List.getD_cons_succ, List.toList_toArray, List.set_cons_zero, List.set_cons_succ, over, Nat.reduceAdd] at hM))); (try simp only [Act.put, List.setIfInBounds_toArray, List.set_cons_zero, List.set_cons_succ])) | (((first | refine St.alloc (ty := 47) (z := .slice none 0 0) rfl hM rfl rfl (by kernel_rfl) ?_ | refine St.alloc (ty := 125) (z := .nilFunc) rfl hM rfl rfl (by kernel_rfl) ?_); clear hM; intro w bk hM); (try simp only [Res.put, Res.known, Act.eval, Value.cells, getD_lit, List.getD_cons_zero, List.getD_cons_succ, List.toList_toArray, List.set_cons_zero, List.set_cons_succ, over, Nat.reduceAdd] at hM); (try simp only [Act.put, List.setIfInBounds_toArray, List.set_cons_zero, List.set_cons_succ]))) | (first | (refine wp_seq_shut (fun K hK => ?_)) | (refine wp_text hM (fun Kr hKr => ?_); simp only [inText]) | (refine wp_cond_false rfl ?_) | (refine wp_exit ?_; simp only [Exit.then, Exit.inBlock, if_true, if_false, reduceCtorEq, Nat.reduceEqDiff, Nat.succ_ne_zero]) | ((first | refine hK.out _ _ ?_ | (clear hK K; refine hK.out _ _ ?_)); clear hK K))))
  (refine St.callv rfl rfl rfl rfl (by kernel_rfl) (fun R hR => ?_); simp only [List.map_toArray, List.map_cons, List.map_nil, Act.eval, getD_lit, List.getD_cons_zero, List.getD_cons_succ, Array.append_empty, Array.empty_append])
  refine Calls.mono (under_one (L0 := []) (w := w) (idv := 3) (nm := ⟨#[100]⟩) (St.part (hM.pick (by repeat (first | exact Pick.nil | (refine Pick.cons (by repeat (first | exact Del.head | apply Del.tail)) ?_)))) Part.all).st (by decide) (by decide) (by decide) (by decide) rfl rfl) ?_
  rintro e w' ⟨rfl, go, co, hN⟩
  replace hM := (hM.pick (by repeat (first | exact Pick.nil | (refine Pick.cons (by repeat (first | exact Del.head | apply Del.tail)) ?_)))).backM Swap.all (by intro z hz; simp only [List.mem_cons, List.not_mem_nil, or_false] at hz; rcases hz with rfl | rfl | rfl | rfl | rfl <;> rfl) hN (flag2 rfl rfl)
  clear hN
  refine hR.out _ _ (fun _ => ⟨hM.only, nofun⟩) ?_; clear hR R; (try simp only [Act.put, List.setIfInBounds_toArray, List.set_cons_zero, List.set_cons_succ])
  (repeat (first | ((with_reducible show wpSeq _ _ _ _ _ _ _); first | ((with_reducible refine wpSeq_nil ?_); refine hKr.out _ _ ?_; clear hKr Kr) | ((first | (refine St.copy (v := ?_) (by exact .inr rfl) rfl rfl ?_ ?_; rotate_left; (focus ((try simp only [Act.eval, getD_lit, List.getD_cons_zero, List.getD_cons_succ]); with_reducible rfl))) | refine St.load rfl hM rfl rfl rfl rfl (by repeat constructor) (by rfl) (by kernel_rfl) ?_); (try simp only [Act.put, List.setIfInBounds_toArray, List.set_cons_zero, List.set_cons_succ]))) | (first | (refine wp_seq_shut (fun K hK => ?_)) | (refine wp_text hM (fun Kr hKr => ?_); simp only [inText]) | ((refine hK.out _ _ ?_); clear hK K))))
  ((refine wp_ret ?_; (try simp only [Exit.then, Exit.inBlock]); refine St.ret hM rfl (by repeat (first | exact Outs.nil | apply Outs.tmp rfl)) rfl ?_))
  exact ⟨go, co, [], rfl, hM.drop (fun z hz => .tail _ hz) (List.nodup_cons.2 ⟨nofun, List.nodup_nil⟩)⟩
end Go.Proofs.YtcicjklhbnipcaaGreatDoor
