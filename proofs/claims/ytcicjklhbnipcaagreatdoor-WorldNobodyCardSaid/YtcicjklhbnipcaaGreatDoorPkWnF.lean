/-
  Texts laid one behind the other: what WrlZ asks for.
-/
import Derived.Test.YtcicjklhbnipcaaGreatDoorPkWnE
import Derived.KernelRfl
namespace Go.Proofs.YtcicjklhbnipcaaGreatDoor
set_option linter.unusedVariables false
set_option linter.unusedSimpArgs false
open Go.RowKit Go.Maps
theorem perm_ex1 {α : Type} (a e : α) (t f g h : List α) : (a :: e :: (t ++ (f ++ (g ++ h)))).Perm ((e :: g) ++ (a :: (t ++ (f ++ h)))) := (perm_by (by intro _ x; simp only [List.append_eq, List.count_append, List.count_cons, List.count_nil, List.cons_append, List.nil_append]; omega))
theorem perm_ex3 {α : Type} (o e : α) (g t f h l : List α) : ((e :: g) ++ (o :: (t ++ (f ++ (h ++ l))))).Perm ((e :: (f ++ (g ++ (h ++ (l ++ [o]))))) ++ t) := (perm_by (by intro _ x; simp only [List.append_eq, List.count_append, List.count_cons, List.count_nil, List.cons_append, List.nil_append]; omega))
section
variable {N : Nat} {X : DskX} {x y : FsX} {β γ : Int → Nat × Nat} {D : DskD} {d : FsD} {w w' w0 : World} {F : List Nat} {L L' M M' : List Ent} {b f g n : Nat} {s : Option (Nat × Nat)}
theorem contains_any {xs : List Int} (hM : St w0 F w (slL s (xs.map (Value.int .i64)) 3 1 ++ L)) (hk : SlOK s xs.length (xs.map (Value.int .i64)) 1) (x : Int) : Calls Tryz.prog 81 #[slV s xs.length, .int .i64 x] w fun e w' => e = .returned (.bool (xs.contains x)) ∧ w' = w := by
  rcases s with _ | ⟨g, cap⟩
  · have h0 : xs = [] := List.eq_nil_of_length_eq_zero hk.2
    subst h0
    exact Tryz.slices_Contains_int_empty none 0 x w
  · have := Tryz.slices_Contains_int g 0 xs.length cap xs x w (Nat.le_refl _) (by have := hk.2.1; have := hk.2.2; rw [maxLen_val] at this; omega) (fun j hj => by
      refine Res.cell (hM.holds (g, true, .pre (xs.map (Value.int .i64)) 3 (cap * 1)) (by simp [slL])) ?_
      show (xs.map (Value.int .i64))[0 + j]? = _
      rw [Nat.zero_add, List.getElem?_map, List.getElem?_eq_getElem hj, List.getD_eq_getElem?_getD, List.getElem?_eq_getElem hj]
      rfl)
    rw [List.take_length] at this
    exact this
set_option maxHeartbeats 16000000 in
set_option maxRecDepth 100000 in
theorem dExit_any (h : DskAt N X β γ D w) (hN : N ≤ 999999980) {o : Int} (ho : Fits o) :
    Calls Tryz.prog 44 #[.pointer (some ⟨X.b, 0, none⟩), .int .i64 o] w fun e w' => e = .returned (.tuple #[]) ∧ DGoes w X β γ D w' (Ol.exit D o) := by
  have hM := h.at_.st
  unfold DGoes
  obtain ⟨F, hF⟩ : ∃ F, keysOf (dskL X β γ D) = F := ⟨_, rfl⟩
  rw [hF] at hM ⊢
  have F0 : 0 ∉ F := hF ▸ h.zero
  clear hF
  have HI := Lib.hid h.inv
  have HX := Lib.hid h.mx
  have HK := Lib.hid h.ok
  have HO := Lib.hid ho
  clear h ho
  generalize hDN : Ol.exit D o = DN
  have HD := Lib.hid hDN
  clear hDN
  have hol : (Fs.owners D.now).length ≤ 1000000000 := by
    have := HI.out.now.inv.len
    unfold Fs.owners
    rw [List.length_map]
    omega
  unfold dskL at hM
  unfold dskE at hM
  go_enter Tryz.func44, Tryz.ntmps44
  (repeat (first | ((with_reducible show wpSeq _ _ _ _ _ _ _); first | ((with_reducible refine wpSeq_nil ?_); refine hKr.out _ _ ?_; clear hKr Kr) | ((first | (refine St.copy (v := ?_) (by exact .inl rfl) rfl rfl ?_ ?_; rotate_left; (focus ((try simp only [Act.eval, getD_lit, qGz, qGs]); with_reducible rfl))) | ((((refine St.box rfl hM rfl rfl rfl ?_); clear hM; intro w bk hM)); (try simp only [Res.put, Res.known, Act.eval, Value.cells, getD_lit, qGz, qGs, List.toList_toArray, qSz, qSs, over, Nat.reduceAdd] at hM))); (try simp only [Act.put, qSa, qSz, qSs]))) | (first | (refine wp_seq_shut (fun K hK => ?_)) | (refine wp_text hM (fun Kr hKr => ?_); simp only [inText]) | ((refine hK.out _ _ ?_); clear hK K)) | ((refine wp_drawn (id := 1) hM (Sub.all _) [7, 9] [(0, 2), (1, 2), (2, 2), (3, 2), (4, 0), (5, 0), (6, 0), (7, 1), (9, 1), (8, 2), (10, 2), (11, 2), (12, 2)] (by kernel_rfl) (by kernel_rfl) ?_); (clear hM; intro w hM Kr hKr); simp only [opsOf, qGz, qGs])))
  generalize bk = ob at *
  ((refine St.call rfl rfl rfl (by kernel_rfl) (fun R hR => ?_); simp only [List.map_toArray, List.map_cons, List.map_nil, Act.eval, getD_lit, qGz, qGs]))
  refine (dgiven_any (hM.holds (dskE X.b X.now.f X.sure.f X.s X.zs.length) (by repeat constructor))).mono ?_
  rintro e w' ⟨rfl, rfl⟩; refine hR.out _ _ (fun h => h) ?_; clear hR R; (try simp only [Act.put, qSa, qSz, qSs])
  (repeat (((with_reducible show wpSeq _ _ _ _ _ _ _); ((first | (refine St.copy (v := ?_) (by exact .inl rfl) rfl rfl ?_ ?_; rotate_left; (focus ((try simp only [Act.eval, getD_lit, qGz, qGs]); with_reducible rfl))) | (refine St.pure (v := ?_) rfl rfl rfl (fun w => ?_) ?_; rotate_left; (focus (go_simp; all_goals with_reducible rfl))) | refine St.load1 rfl rfl rfl rfl (by repeat constructor) (by rfl) (by kernel_rfl) ?_); (try simp only [Act.put, qSa, qSz, qSs])))))
  ((refine St.call rfl rfl rfl (by kernel_rfl) (fun R hR => ?_); simp only [List.map_toArray, List.map_cons, List.map_nil, Act.eval, getD_lit, qGz, qGs]))
  refine (fOwners_any (hM.fs (x := X.now) (β := β) (d := D.now) (by repeat (first | exact Part.here | apply Part.skip)) HI.out.now.inv HX.out F0) (by omega)).mono ?_
  rintro e w' ⟨s1, rfl, hk1, hN2⟩
  replace hM := hM.madeM hN2 (slL_flag _ _ _ _)
  refine hR.out _ _ (fun h => h.below hN2.to_below) ?_; clear hR R hN2
  (try simp only [Act.put, qSa, qSz, qSs])
  (repeat (fail))
  ((refine St.call rfl rfl rfl (by kernel_rfl) (fun R hR => ?_); simp only [List.map_toArray, List.map_cons, List.map_nil, Act.eval, getD_lit, qGz, qGs]))
  refine (contains_any hM hk1 o).mono ?_
  rintro e w' ⟨rfl, rfl⟩; refine hR.out _ _ (fun h => h) ?_; clear hR R hk1
  replace hM : St _ F _ ((ob, true, .cells [.int .i64 o] 3) :: (X.b, true, .cells [.pointer (some ⟨X.now.f, 0, none⟩), .pointer (some ⟨X.sure.f, 0, none⟩), slV X.s X.zs.length] 81) :: (fsL X.now β D.now ++ (logL X.s (X.zs.map LogV.val) ++ (fsL X.sure γ D.base ++ X.zs.flatMap LogV.ents)))) := hM.subM (List.sublist_append_right _ _)
  by_cases ho : o ∈ Fs.owners D.now
  · rw [List.contains_iff_mem.2 ho]
    (try simp only [Act.put, qSa, qSz, qSs])
    (repeat (first | ((with_reducible show wpSeq _ _ _ _ _ _ _); first | ((with_reducible refine wpSeq_nil ?_); refine hKr.out _ _ ?_; clear hKr Kr) | ((first | (refine St.copy (v := ?_) (by exact .inl rfl) rfl rfl ?_ ?_; rotate_left; (focus ((try simp only [Act.eval, getD_lit, qGz, qGs]); with_reducible rfl))) | (refine St.pure (v := ?_) rfl rfl rfl (fun w => ?_) ?_; rotate_left; (focus (go_simp; all_goals with_reducible rfl))) | refine St.load rfl hM rfl rfl rfl rfl (by repeat constructor) (by rfl) (by kernel_rfl) ?_ | refine St.load1 rfl rfl rfl rfl (by repeat constructor) (by rfl) (by kernel_rfl) ?_); (try simp only [Act.put, qSa, qSz, qSs]))) | (first | (refine wp_seq_shut (fun K hK => ?_)) | refine wp_skip ?_ | (refine wp_cond_false rfl ?_) | ((refine hK.out _ _ ?_); clear hK K)) | ((refine wp_drawn (id := 2) hM (Sub.all _) [3] [(0, 0), (1, 0), (2, 0), (3, 1), (4, 2), (5, 3)] (by kernel_rfl) (by kernel_rfl) ?_); (clear hM; intro w hM Kr hKr); simp only [opsOf, qGz, qGs])))
    (refine St.call3 rfl rfl (by kernel_rfl) (fun R hR => ?_); simp only [List.map_toArray, List.map_cons, List.map_nil, Act.eval, getD_lit, qGz, qGs])
    refine (fExit_any (hM.fs (x := X.now) (β := β) (d := D.now) (by repeat (first | exact Part.here | apply Part.skip)) HI.out.now.inv HX.out F0) hN HO.out).mono ?_
    rintro e w' ⟨rfl, ⟨β', hN2⟩, -⟩
    replace hM := hM.backM (M := fsL X.now β D.now) (by repeat (first | exact Swap.here | apply Swap.skip)) (fsL_flag _ _ _) hN2 (fsL_flag _ _ _)
    refine hR.out _ _ ?_; clear hR R hN2
    (try simp only [Act.put, qSa, qSz, qSs])
    (repeat (first | ((with_reducible show wpSeq _ _ _ _ _ _ _); first | ((with_reducible refine wpSeq_nil ?_); refine hKr.out _ _ ?_; clear hKr Kr) | ((first | (refine St.copy (v := ?_) (by exact .inl rfl) rfl rfl ?_ ?_; rotate_left; (focus ((try simp only [Act.eval, getD_lit, qGz, qGs]); with_reducible rfl))) | (refine St.pure (v := ?_) rfl rfl rfl (fun w => ?_) ?_; rotate_left; (focus (go_simp; all_goals with_reducible rfl)))); (try simp only [Act.put, qSa, qSz, qSs]))) | (first | (refine wp_text hM (fun Kr hKr => ?_); simp only [inText]) | ((refine hK.out _ _ ?_); clear hK K))))
    ((refine St.call rfl rfl rfl (by kernel_rfl) (fun R hR => ?_); simp only [List.map_toArray, List.map_cons, List.map_nil, Act.eval, getD_lit, qGz, qGs]))
    have hS : St _ F _ (_ :: dskE X.b X.now.f X.sure.f X.s X.zs.length :: ([] ++ (fsL X.now β' (Fs.exit D.now o) ++ (logL X.s (X.zs.map LogV.val) ++ (fsL X.sure γ D.base ++ X.zs.flatMap LogV.ents))))) := hM
    clear hM
    replace hS := hS.perm (perm_ex1 _ _ _ _ _ _)
    have hzl : X.zs.length ≤ 1000000000 := by
      have g1 := congrArg List.length HK.out.log
      rw [List.length_map] at g1
      obtain ⟨M0, -, g2⟩ := HI.out.base
      omega
    refine (logs_any HK.out.sl hzl (hS.part .here)).mono ?_
    rintro e w' ⟨rfl, s', hk', hN2⟩
    have hM := (hS.backM .here (fun y hy => by
      rcases List.mem_cons.1 hy with rfl | hy
      · rfl
      · exact slL_flag _ _ _ _ y hy) hN2 (fun y hy => by
      rcases List.mem_cons.1 hy with rfl | hy
      · rfl
      · exact slL_flag _ _ _ _ y hy))
    (refine hR.out _ _ (fun _ => ⟨hM.only, nofun⟩) ?_); clear hR R hS hN2
    have HK' := Lib.hid hk'
    clear hk'
    (try simp only [Act.put, qSa, qSz, qSs])
    (repeat (((with_reducible show wpSeq _ _ _ _ _ _ _); ((with_reducible refine wpSeq_nil ?_); refine hKr.out _ _ ?_; clear hKr Kr))))
    ((refine St.fin hM rfl (by repeat (exact Outs.nil)) rfl ?_))
    have e2 : DN = ⟨Fs.exit D.now o, D.base, D.log ++ [(o, none)]⟩ := by rw [← HD.out]; exact if_pos ho
    rw [e2]
    refine ⟨rfl, ⟨X.b, X.now, X.sure, s', X.zs ++ [((o, none), (ob, ob))]⟩, β', γ, rfl, ⟨?_, ?_⟩, ?_⟩
    · show List.map (fun z : LogV => z.1) (X.zs ++ [_]) = D.log ++ [_]
      rw [List.map_append, HK.out.log]
      rfl
    · show SlOK s' (X.zs ++ [_]).length ((X.zs ++ [_]).map LogV.val) 1
      rw [List.length_append, List.map_append]
      exact HK'.out
    · rw [dskL_snoc]
      exact (hM.perm (perm_ex3 _ _ _ [] _ _ _)).front
  · have hc : (Fs.owners D.now).contains o = false := by
      cases hq : (Fs.owners D.now).contains o with
      | false => rfl
      | true => exact absurd (List.contains_iff_mem.1 hq) ho
    rw [hc]
    have e2 : DN = D := by rw [← HD.out]; exact if_neg ho
    subst e2
    (try simp only [Act.put, qSa, qSz, qSs])
    (repeat (first | ((with_reducible show wpSeq _ _ _ _ _ _ _); first | ((with_reducible refine wpSeq_nil ?_); refine hKr.out _ _ ?_; clear hKr Kr) | (((refine St.pure (v := ?_) rfl rfl rfl (fun w => ?_) ?_; rotate_left; (focus (go_simp; all_goals with_reducible rfl)))); (try simp only [Act.put, qSa, qSz, qSs]))) | (first | (refine wp_cond_true rfl ?_) | ((refine hK.out _ _ ?_); clear hK K))))
    ((refine wp_ret ?_; (try simp only [Exit.then, Exit.inBlock]); refine St.ret hM rfl (by repeat (exact Outs.nil)) rfl ?_))
    exact ⟨rfl, X, β, γ, rfl, HK.out, hM.forget⟩
theorem perm_cl {α : Type} (n : α) (a b r : List α) : (n :: (a ++ (b ++ r))).Perm ((n :: (b ++ a)) ++ r) := (perm_by (by intro _ x; simp only [List.append_eq, List.count_append, List.count_cons, List.count_nil, List.cons_append, List.nil_append]; omega))
set_option maxHeartbeats 16000000 in
set_option maxRecDepth 100000 in
/-- A slice of logged entries, copied. -/
theorem cloneE_any {vs : List Value} (hk : SlOK s n vs 1) (h1 : vs.all (·.oneCell') = true) (hn : n ≤ 1000000000) (hA : At (logL s vs) w) : Calls Tryz.prog 77 #[slV s n] w fun e w' => ∃ s', e = .returned (slV s' n) ∧ SlOK s' n vs 1 ∧ St w [] w' (logL s' vs) := by
  have hM := hA.ro
  rcases s with _ | ⟨g, cap⟩
  · obtain ⟨hl, rfl⟩ := hk
    have hv : vs = [] := List.eq_nil_of_length_eq_zero (by omega)
    subst hv
    clear hM
    have hM := St.start w []
    simp only [slV]
    go_enter Tryz.func77, Tryz.ntmps77
    (repeat (first | ((with_reducible show wpSeq _ _ _ _ _ _ _); first | ((with_reducible refine wpSeq_nil ?_); refine hKr.out _ _ ?_; clear hKr Kr) | (((refine St.copy (v := ?_) (by first | exact .inl rfl | exact .inr rfl) rfl rfl ?_ ?_; rotate_left; (focus ((try simp only [Act.eval, getD_lit, qGz, qGs]); with_reducible rfl)))); (try simp only [Act.put, qSa, qSz, qSs]))) | (first | (refine wp_seq_shut (fun K hK => ?_)) | (refine wp_text hM (fun Kr hKr => ?_); simp only [inText]) | ((refine hK.out _ _ ?_); clear hK K))))
    refine St.pure (v := .bool true) rfl rfl rfl (fun w => ?_) ?_
    · go_simp
      rw [Lib.run_eql_slice_nil (h := Tryz.underlying79)]
      rfl
    (try simp only [Act.put, qSa, qSz, qSs])
    (repeat (first | ((with_reducible show wpSeq _ _ _ _ _ _ _); first | ((with_reducible refine wpSeq_nil ?_); refine hKr.out _ _ ?_; clear hKr Kr) | (((refine St.copy (v := ?_) (by exact .inr rfl) rfl rfl ?_ ?_; rotate_left; (focus ((try simp only [Act.eval, getD_lit, qGz, qGs]); with_reducible rfl)))); (try simp only [Act.put, qSa, qSz, qSs]))) | (first | (refine wp_seq_shut (fun K hK => ?_)) | (refine wp_text hM (fun Kr hKr => ?_); simp only [inText]) | (refine wp_cond_true rfl ?_) | ((refine hK.out _ _ ?_); clear hK K))))
    ((refine wp_ret ?_; (try simp only [Exit.then, Exit.inBlock]); refine St.ret hM rfl (by repeat (first | exact Outs.nil | apply Outs.tmp rfl)) rfl ?_))
    exact ⟨none, rfl, ⟨rfl, rfl⟩, hM⟩
  · have HK := Lib.hid hk
    clear hk
    simp only [slL, List.map_cons, List.map_nil, unflag] at hM
    simp only [slV]
    go_enter Tryz.func77, Tryz.ntmps77
    (repeat (first | ((with_reducible show wpSeq _ _ _ _ _ _ _); first | ((with_reducible refine wpSeq_nil ?_); refine hKr.out _ _ ?_; clear hKr Kr) | (((refine St.copy (v := ?_) (by first | exact .inl rfl | exact .inr rfl) rfl rfl ?_ ?_; rotate_left; (focus ((try simp only [Act.eval, getD_lit, qGz, qGs]); with_reducible rfl)))); (try simp only [Act.put, qSa, qSz, qSs]))) | (first | (refine wp_seq_shut (fun K hK => ?_)) | (refine wp_text hM (fun Kr hKr => ?_); simp only [inText]) | ((refine hK.out _ _ ?_); clear hK K))))
    refine St.pure (v := .bool false) rfl rfl rfl (fun w => ?_) ?_
    · go_simp
      rw [Lib.run_eql_slice_nil (h := Tryz.underlying79)]
      rfl
    (try simp only [Act.put, qSa, qSz, qSs])
    (repeat (first | ((with_reducible show wpSeq _ _ _ _ _ _ _); first | ((with_reducible refine wpSeq_nil ?_); refine hKr.out _ _ ?_; clear hKr Kr) | ((first | (refine St.copy (v := ?_) (by exact .inl rfl) rfl rfl ?_ ?_; rotate_left; (focus ((try simp only [Act.eval, getD_lit, qGz, qGs]); with_reducible rfl))) | (((((refine St.buildSlice (cells := ?_) (e := ?_) rfl hM rfl rfl (fun w => ?_) ?_; rotate_left 2; (focus (go_simp; all_goals with_reducible rfl)))); clear hM; intro w bk hM)); (try simp only [Res.put, Res.known, Act.eval, Value.cells, getD_lit, qGz, qGs, List.toList_toArray, qSz, qSs, over, Nat.reduceAdd] at hM))); (try simp only [Act.put, qSa, qSz, qSs]))) | (first | (refine wp_seq_shut (fun K hK => ?_)) | (refine wp_text hM (fun Kr hKr => ?_); simp only [inText]) | refine wp_skip ?_ | (refine wp_cond_false rfl ?_) | ((refine hK.out _ _ ?_); clear hK K))))
    replace hM := hM.weaken (r' := .pre [] 138 (0 * 1)) (L' := slL (some (bk, 0)) [] 138 1 ++ [(g, false, Res.pre vs 138 (cap * 1))]) Upd.head (Res.toPre rfl)
    have hlen := HK.out.1
    refine St.append (s := some (bk, 0)) (n := 0) (xs := []) (m := n) (news := vs) rfl hM rfl rfl rfl rfl rfl (by kernel_rfl) (by intro s'; repeat (exact Swap.here)) ⟨rfl, Nat.le_refl _, Nat.zero_le _⟩ hlen (hM.news (b := g) (ow := false) (r := .pre vs 138 (cap * 1)) (.tail _ (.head _))) h1 (by rw [maxLen_val]; omega) (by omega) (fun h => by cases h) ?_
    clear hM; intro w s' hM hk' _
    rw [List.nil_append] at hM hk'
    rw [Nat.zero_add] at hk' ⊢
    (try simp only [Act.put, qSa, qSz, qSs])
    (repeat (first | ((with_reducible show wpSeq _ _ _ _ _ _ _); first | ((with_reducible refine wpSeq_nil ?_); refine hKr.out _ _ ?_; clear hKr Kr) | (((refine St.copy (v := ?_) (by exact .inr rfl) rfl rfl ?_ ?_; rotate_left; (focus ((try simp only [Act.eval, getD_lit, qGz, qGs]); with_reducible rfl)))); (try simp only [Act.put, qSa, qSz, qSs]))) | (((refine hK.out _ _ ?_); clear hK K))))
    ((refine wp_ret ?_; (try simp only [Exit.then, Exit.inBlock]); refine St.ret hM rfl (by repeat (first | exact Outs.nil | apply Outs.tmp rfl)) rfl ?_))
    exact ⟨s', rfl, hk', hM.front⟩
set_option maxHeartbeats 16000000 in
set_option maxRecDepth 100000 in
/-- A disk of its own with the same files, what is sure shared. -/
theorem dClone_any {vs : List Value} (hk : SlOK s n vs 1) (h1 : vs.all (·.oneCell') = true) (hn : n ≤ 1000000000) (hN : N ≤ 1000000000) (h : (dskE b x.f g s n).2.2.holds w.heap[b]?) (hA : FsAt N x β d w) (hL : At (logL s vs) w) :
    Calls Tryz.prog 27 #[.pointer (some ⟨b, 0, none⟩)] w fun e w' => ∃ c x' γ s', e = .returned (.pointer (some ⟨c, 0, none⟩)) ∧ SlOK s' n vs 1 ∧ St w [] w' (dskE c (FsX.f x') g s' n :: (fsL x' γ d ++ logL s' vs)) := by
  have hM := St.one h
  have HW := Lib.hid h
  unfold dskE at hM
  obtain ⟨va, vc, hv, -⟩ := slV_open hk
  rw [hv] at hM
  go_enter Tryz.func27, Tryz.ntmps27
  (repeat (first | ((with_reducible show wpSeq _ _ _ _ _ _ _); first | ((with_reducible refine wpSeq_nil ?_); refine hKr.out _ _ ?_; clear hKr Kr) | (((refine St.copy (v := ?_) (by first | exact .inl rfl | exact .inr rfl) rfl rfl ?_ ?_; rotate_left; (focus ((try simp only [Act.eval, getD_lit, qGz, qGs]); with_reducible rfl)))); (try simp only [Act.put, qSa, qSz, qSs]))) | (first | (refine wp_seq_shut (fun K hK => ?_)) | (refine wp_text hM (fun Kr hKr => ?_); simp only [inText]) | ((refine hK.out _ _ ?_); clear hK K))))
  ((refine St.call rfl rfl rfl (by kernel_rfl) (fun R hR => ?_); simp only [List.map_toArray, List.map_cons, List.map_nil, Act.eval, getD_lit, qGz, qGs]))
  refine (dgiven_any (hM.only.holds HW.out)).mono ?_
  rintro e w' ⟨rfl, rfl⟩; refine hR.out _ _ (fun h => h) ?_; clear hR R; (try simp only [Act.put, qSa, qSz, qSs])
  (repeat (first | ((with_reducible show wpSeq _ _ _ _ _ _ _); first | ((with_reducible refine wpSeq_nil ?_); refine hKr.out _ _ ?_; clear hKr Kr) | ((first | (refine St.copy (v := ?_) (by exact .inl rfl) rfl rfl ?_ ?_; rotate_left; (focus ((try simp only [Act.eval, getD_lit, qGz, qGs]); with_reducible rfl))) | (refine St.pure (v := ?_) rfl rfl rfl (fun w => ?_) ?_; rotate_left; (focus (go_simp; all_goals with_reducible rfl))) | refine St.load1 rfl rfl rfl rfl (by repeat constructor) (by rfl) (by kernel_rfl) ?_); (try simp only [Act.put, qSa, qSz, qSs]))) | (first | (refine wp_seq_shut (fun K hK => ?_)) | refine wp_skip ?_ | (refine wp_cond_false rfl ?_) | ((refine hK.out _ _ ?_); clear hK K)) | ((refine wp_drawn (id := 3) hM (Sub.all _) [3, 8, 12] [(0, 0), (1, 0), (2, 0), (3, 1), (5, 0), (6, 0), (7, 0), (8, 1), (9, 0), (10, 0), (11, 0), (12, 1), (4, 2), (13, 2), (14, 2), (15, 2), (16, 3)] (by kernel_rfl) (by kernel_rfl) ?_); (clear hM; intro w hM Kr hKr); simp only [opsOf, qGz, qGs])))
  ((refine St.call rfl rfl rfl (by kernel_rfl) (fun R hR => ?_); simp only [List.map_toArray, List.map_cons, List.map_nil, Act.eval, getD_lit, qGz, qGs]))
  refine (fClone_any (hA.below hM.to_below) hN).mono ?_
  rintro e w' ⟨x', γ, rfl, hN2⟩
  replace hM := hM.madeM hN2 (fsL_flag _ _ _)
  refine hR.out _ _ (fun h => h.below hN2.to_below) ?_; clear hR R hN2; (try simp only [Act.put, qSa, qSz, qSs])
  (repeat (fail))
  ((refine St.call rfl rfl rfl (by kernel_rfl) (fun R hR => ?_); simp only [List.map_toArray, List.map_cons, List.map_nil, Act.eval, getD_lit, qGz, qGs]))
  rw [← hv]
  refine (cloneE_any hk h1 hn (hL.below hM.to_below)).mono ?_
  rintro e w' ⟨s', rfl, hk', hN2⟩
  replace hM := hM.madeM hN2 (slL_flag _ _ _ _)
  refine hR.out _ _ (fun h => h.below hN2.to_below) ?_; clear hR R hN2
  obtain ⟨va', vc', hv', -⟩ := slV_open hk'
  rw [hv']
  (try simp only [Act.put, qSa, qSz, qSs])
  (repeat (first | ((with_reducible show wpSeq _ _ _ _ _ _ _); first | ((with_reducible refine wpSeq_nil ?_); refine hKr.out _ _ ?_; clear hKr Kr) | ((first | (refine St.copy (v := ?_) (by exact .inr rfl) rfl rfl ?_ ?_; rotate_left; (focus ((try simp only [Act.eval, getD_lit, qGz, qGs]); with_reducible rfl))) | (refine St.pure (v := ?_) rfl rfl rfl (fun w => ?_) ?_; rotate_left; (focus (go_simp; all_goals with_reducible rfl))) | ((((refine St.box rfl hM rfl rfl rfl ?_); clear hM; intro w bk hM)); (try simp only [Res.put, Res.known, Act.eval, Value.cells, getD_lit, qGz, qGs, List.toList_toArray, qSz, qSs, over, Nat.reduceAdd] at hM))); (try simp only [Act.put, qSa, qSz, qSs]))) | (((refine hK.out _ _ ?_); clear hK K))))
  ((refine wp_ret ?_; (try simp only [Exit.then, Exit.inBlock]); refine St.ret hM rfl (by repeat (first | exact Outs.nil | apply Outs.tmp rfl)) rfl ?_))
  rw [← hv'] at hM
  refine ⟨bk, x', γ, s', rfl, hk', ?_⟩
  exact St.front (M := dskE bk x'.f g s' n :: (fsL x' γ d ++ logL s' vs)) (hM.perm (perm_cl _ _ _ _))
end
end Go.Proofs.YtcicjklhbnipcaaGreatDoor
namespace Go.Proofs.YtcicjklhbnipcaaGreatDoor
set_option linter.unusedVariables false
set_option linter.unusedSimpArgs false
open Go.RowKit Go.Maps
theorem tx_cells {w0 w : World} {F : List Nat} {L : List Ent} {g cap : Nat} {xs : List ByteArray} {ow : Bool} (hM : St w0 F w L) (hm : (g, ow, Res.pre (xs.map Value.string) 9 (cap * 1)) ∈ L) : ∀ j, j < xs.length → w.cell? ⟨g, 0 + j, none⟩ = some (.string (xs.getD j ByteArray.empty)) := fun j hj => by
  refine Res.cell (hM.holds _ hm) ?_
  show (xs.map Value.string)[0 + j]? = _
  rw [Nat.zero_add, List.getElem?_map, List.getElem?_eq_getElem hj, List.getD_eq_getElem?_getD, List.getElem?_eq_getElem hj]
  rfl
theorem draws_below (w : World) (q : Nat) : Below w.heap.size w (w.drewN q) := ⟨rfl, rfl, rfl, Nat.le_refl _, fun _ _ => rfl⟩
set_option maxHeartbeats 4000000 in
set_option maxRecDepth 100000 in
theorem Under_any (p dir : ByteArray) (w : World) (hp : p.size ≤ 1000000) (hd : dir.size ≤ 1000000) (hm : Mx w) : Calls Tryz.prog 130 #[.string p, .string dir] w fun e w' => e = .returned (.bool (Pt.under p dir)) ∧ Below w.heap.size w w' := by
  have hM := St.start w []
  have F0 : 0 ∉ ([] : List Nat) := nofun
  have HX := Lib.hid hm
  have C1 := Lib.hid (fun (W : World) (h : Mx W) => Parts_any p W hp h)
  have C2 := Lib.hid (fun (W : World) (h : Mx W) => Parts_any dir W hd h)
  have l1 := Pt.parts_len p hp
  have l2 := Pt.parts_len dir hd
  unfold Pt.under
  generalize Pt.parts p = xs at *
  generalize Pt.parts dir = ys at *
  clear hp hd hm
  generalize hU : (decide (ys.length < xs.length) && decide (xs.take ys.length = ys)) = U
  have HU := Lib.hid hU
  clear hU
  go_enter Tryz.func130, Tryz.ntmps130
  (repeat (first | ((with_reducible show wpSeq _ _ _ _ _ _ _); first | ((with_reducible refine wpSeq_nil ?_); refine hKr.out _ _ ?_; clear hKr Kr) | (((refine St.copy (v := ?_) (by first | exact .inl rfl | exact .inr rfl) rfl rfl ?_ ?_; rotate_left; (focus ((try simp only [Act.eval, getD_lit, qGz, qGs]); with_reducible rfl)))); (try simp only [Act.put, qSa, qSz, qSs]))) | (first | (refine wp_seq_shut (fun K hK => ?_)) | (refine wp_text hM (fun Kr hKr => ?_); simp only [inText]) | ((refine hK.out _ _ ?_); clear hK K))))
  ((refine St.call rfl rfl rfl (by kernel_rfl) (fun R hR => ?_); simp only [List.map_toArray, List.map_cons, List.map_nil, Act.eval, getD_lit, qGz, qGs]))
  refine (C1.out _ (hM.mx HX.out F0)).mono ?_
  rintro e w' ⟨s1, rfl, hk1, hN⟩
  replace hM := hM.madeM hN (txL_flag _ _)
  refine hR.out _ _ (fun h => h.below hN.to_below) ?_; clear hR R hN
  obtain ⟨a1, c1, hv1, ha1⟩ := slV_open hk1
  rw [hv1]
  (try simp only [Act.put, qSa, qSz, qSs])
  (repeat (((with_reducible show wpSeq _ _ _ _ _ _ _); (((refine St.copy (v := ?_) (by exact .inl rfl) rfl rfl ?_ ?_; rotate_left; (focus ((try simp only [Act.eval, getD_lit, qGz, qGs]); with_reducible rfl)))); (try simp only [Act.put, qSa, qSz, qSs])))))
  ((refine St.call rfl rfl rfl (by kernel_rfl) (fun R hR => ?_); simp only [List.map_toArray, List.map_cons, List.map_nil, Act.eval, getD_lit, qGz, qGs]))
  refine (C2.out _ (hM.mx HX.out F0)).mono ?_
  rintro e w' ⟨s2, rfl, hk2, hN⟩
  replace hM := hM.madeM hN (txL_flag _ _)
  refine hR.out _ _ (fun h => h.below hN.to_below) ?_; clear hR R hN
  obtain ⟨a2, c2, hv2, ha2⟩ := slV_open hk2
  rw [hv2]
  (try simp only [Act.put, qSa, qSz, qSs])
  by_cases h1 : ys.length < xs.length
  · have k1 : (ys.length : Int) < (xs.length : Int) := by omega
    have d1 : decide (ys.length < xs.length) = true := decide_eq_true h1
    cases s1 with
    | none => exact absurd hk1.2 (by omega)
    | some gc =>
    obtain ⟨g, cap⟩ := gc
    obtain ⟨rfl, rfl⟩ := ha1 g cap rfl
    have k2 : (ys.length : Int) ≤ (c1 : Int) := by have := hk1.2.1; omega
    have HL := Lib.hid hk2
    have e : decide (xs.take ys.length = ys) = U := by rw [← HU.out, d1, Bool.true_and]
    simp only [slL, List.cons_append, List.nil_append] at hM
    (repeat (first | ((with_reducible show wpSeq _ _ _ _ _ _ _); first | ((with_reducible refine wpSeq_nil ?_); refine hKr.out _ _ ?_; clear hKr Kr) | ((first | (refine St.copy (v := ?_) (by first | exact .inl rfl | exact .inr rfl) rfl rfl ?_ ?_; rotate_left; (focus ((try simp only [Act.eval, getD_lit, qGz, qGs]); with_reducible rfl))) | (refine St.pure (v := ?_) rfl rfl rfl (fun w => ?_) ?_; rotate_left; (focus (go_simp; all_goals with_reducible rfl)))); (try simp only [Act.put, qSa, qSz, qSs]))) | (first | (refine wp_seq_shut (fun K hK => ?_)) | (refine wp_text hM (fun Kr hKr => ?_); simp only [inText]) | ((refine hK.out _ _ ?_); clear hK K))))
    ((refine St.call rfl rfl rfl (by kernel_rfl) (fun R hR => ?_); simp only [List.map_toArray, List.map_cons, List.map_nil, Act.eval, getD_lit, qGz, qGs]))
    by_cases h0 : ys.length = 0
    · have e0 : true = U := by rw [← e, h0]; simpa using (List.eq_nil_of_length_eq_zero h0).symm
      subst e0
      rw [h0]
      refine (Tryz.slices_Equal_string_empty _ _ _ _ _ _ (by decide)).mono ?_
      rintro e w' ⟨rfl, rfl⟩; refine hR.out _ _ (fun h => h) ?_; clear hR R; (try simp only [Act.put, qSa, qSz, qSs])
      (repeat (first | ((with_reducible show wpSeq _ _ _ _ _ _ _); first | ((with_reducible refine wpSeq_nil ?_); refine hKr.out _ _ ?_; clear hKr Kr) | ((first | (refine St.copy (v := ?_) (by exact .inr rfl) rfl rfl ?_ ?_; rotate_left; (focus ((try simp only [Act.eval, getD_lit, qGz, qGs]); with_reducible rfl))) | (refine St.pure (v := ?_) rfl rfl rfl (fun w => ?_) ?_; rotate_left; (focus (go_simp; all_goals with_reducible rfl)))); (try simp only [Act.put, qSa, qSz, qSs]))) | (((refine hK.out _ _ ?_); clear hK K))))
      ((refine wp_ret ?_; (try simp only [Exit.then, Exit.inBlock]); refine St.ret hM rfl (by repeat (first | exact Outs.nil | apply Outs.tmp rfl)) rfl ?_))
      exact ⟨rfl, hM.to_below⟩
    · cases s2 with
      | none => exact absurd HL.out.2 h0
      | some gc2 =>
      obtain ⟨g2, cap2⟩ := gc2
      obtain ⟨rfl, rfl⟩ := ha2 g2 cap2 rfl
      simp only [slL, List.cons_append, List.nil_append] at hM
      refine (Tryz.slices_Equal_string _ _ _ _ _ _ _ _ xs ys _ (by omega) (by omega) (by omega) (by omega) (tx_cells hM (by repeat constructor)) (tx_cells hM (by repeat constructor))).mono ?_
      rintro e' w' ⟨rfl, q, rfl⟩
      refine hR.out _ _ (fun h => h.below (draws_below _ q)) ?_; clear hR R; replace hM := hM.below (draws_below _ q)
      rw [List.take_of_length_le (Nat.le_refl ys.length), e]
      (try simp only [Act.put, qSa, qSz, qSs])
      (repeat (first | ((with_reducible show wpSeq _ _ _ _ _ _ _); first | ((with_reducible refine wpSeq_nil ?_); refine hKr.out _ _ ?_; clear hKr Kr) | ((first | (refine St.copy (v := ?_) (by exact .inr rfl) rfl rfl ?_ ?_; rotate_left; (focus ((try simp only [Act.eval, getD_lit, qGz, qGs]); with_reducible rfl))) | (refine St.pure (v := ?_) rfl rfl rfl (fun w => ?_) ?_; rotate_left; (focus (go_simp; all_goals with_reducible rfl)))); (try simp only [Act.put, qSa, qSz, qSs]))) | (((refine hK.out _ _ ?_); clear hK K))))
      ((refine wp_ret ?_; (try simp only [Exit.then, Exit.inBlock]); refine St.ret hM rfl (by repeat (first | exact Outs.nil | apply Outs.tmp rfl)) rfl ?_))
      exact ⟨rfl, hM.to_below⟩
  · have k1 : ¬ ((ys.length : Int) < (xs.length : Int)) := by omega
    have d1 : decide (ys.length < xs.length) = false := decide_eq_false h1
    have e : false = U := by rw [← HU.out, d1, Bool.false_and]
    subst e
    (repeat (first | ((with_reducible show wpSeq _ _ _ _ _ _ _); first | ((with_reducible refine wpSeq_nil ?_); refine hKr.out _ _ ?_; clear hKr Kr) | ((first | (refine St.copy (v := ?_) (by first | exact .inl rfl | exact .inr rfl) rfl rfl ?_ ?_; rotate_left; (focus ((try simp only [Act.eval, getD_lit, qGz, qGs]); with_reducible rfl))) | (refine St.pure (v := ?_) rfl rfl rfl (fun w => ?_) ?_; rotate_left; (focus (go_simp; all_goals with_reducible rfl))) | refine wpSeq_off rfl rfl ?_); (try simp only [Act.put, qSa, qSz, qSs]))) | (first | (refine wp_seq_shut (fun K hK => ?_)) | (refine wp_text hM (fun Kr hKr => ?_); simp only [inText]) | ((refine hK.out _ _ ?_); clear hK K))))
    ((refine wp_ret ?_; (try simp only [Exit.then, Exit.inBlock]); refine St.ret hM rfl (by repeat (first | exact Outs.nil | apply Outs.tmp rfl)) rfl ?_))
    exact ⟨rfl, hM.to_below⟩
end Go.Proofs.YtcicjklhbnipcaaGreatDoor
namespace Go.Proofs.YtcicjklhbnipcaaGreatDoor
set_option linter.unusedVariables false
set_option linter.unusedSimpArgs false
open Go.RowKit Go.Maps
/-- The first 'k' and the last 'k' have changed places. -/
def RevK (xs ys : List FileD) (k : Nat) : Prop := ys.length = xs.length ∧ ∀ i, i < xs.length → ys[i]? = if i < k ∨ xs.length - 1 - k < i then xs[xs.length - 1 - i]? else xs[i]?
theorem revK_zero (xs : List FileD) : RevK xs xs 0 := ⟨rfl, fun i hi => by rw [if_neg (by omega)]⟩
theorem revK_all {xs ys : List FileD} {k : Nat} (h : RevK xs ys k) (hk : xs.length ≤ 2 * k + 1) : ys = xs.reverse := by
  obtain ⟨h1, h2⟩ := h
  refine List.ext_getElem? fun i => ?_
  by_cases hi : i < xs.length
  · rw [h2 i hi, List.getElem?_reverse hi]
    split
    · rfl
    · rw [show xs.length - 1 - i = i by omega]
  · rw [List.getElem?_eq_none (by omega), List.getElem?_eq_none (by rw [List.length_reverse]; omega)]
theorem revK_step {xs ys : List FileD} {k m : Nat} {a b : FileD} (h : RevK xs ys k) (hm : m = xs.length - 1 - k) (hkm : k < m) (ha : ys[k]? = some a) (hb : ys[m]? = some b) : RevK xs ((ys.set k b).set m a) (k + 1) := by
  obtain ⟨h1, h2⟩ := h
  refine ⟨by simp [h1], fun i hi => ?_⟩
  have ga := h2 k (by omega)
  rw [if_neg (by omega), ha] at ga
  have gb := h2 m (by omega)
  rw [if_neg (by omega), hb] at gb
  by_cases e1 : i = m
  · subst e1
    rw [List.getElem?_set_self (by simp; omega), if_pos (by omega), ga]
    exact congrArg (fun z => xs[z]?) (by omega)
  · rw [List.getElem?_set_ne (fun e => e1 e.symm)]
    by_cases e2 : i = k
    · subst e2
      rw [List.getElem?_set_self (by omega), if_pos (by omega), gb]
      exact congrArg (fun z => xs[z]?) (by omega)
    · rw [List.getElem?_set_ne (fun e => e2 e.symm), h2 i hi]
      by_cases c : i < k ∨ xs.length - 1 - k < i
      · rw [if_pos c, if_pos (by omega)]
      · rw [if_neg c, if_neg (by omega)]
theorem file_at {xs : List FileD} {k : Nat} {f : FileD} (h : xs[k]? = some f) : ((xs.flatMap FileD.cells).drop (k * 3)).take 3 = [.string f.path, .bool f.dir, .string f.data] := by
  induction xs generalizing k with
  | nil => simp at h
  | cons p r ih =>
    cases k with
    | zero =>
      rw [List.getElem?_cons_zero] at h
      cases h
      rfl
    | succ k =>
      rw [List.getElem?_cons_succ] at h
      have := ih h
      rw [show (k + 1) * 3 = k * 3 + 3 by omega]
      exact this
theorem over_file {xs : List FileD} {k : Nat} (f : FileD) (h : k < xs.length) : over (xs.flatMap FileD.cells) (k * 3) [.string f.path, .bool f.dir, .string f.data] = (xs.set k f).flatMap FileD.cells := by
  induction xs generalizing k with
  | nil => simp at h
  | cons p r ih =>
    cases k with
    | zero => rfl
    | succ k =>
      rw [List.length_cons] at h
      have := ih (k := k) (by omega)
      rw [show (k + 1) * 3 = k * 3 + 3 by omega, qSs]
      exact congrArg (fun z => p.cells ++ z) this
section
variable {N : Nat} {X : DskX} {x y : FsX} {β γ : Int → Nat × Nat} {D : DskD} {d : FsD} {w w' w0 : World} {F : List Nat} {L L' M M' : List Ent} {b f g n : Nat} {s : Option (Nat × Nat)}
theorem cells_len : ∀ l : List FileD, (l.flatMap FileD.cells).length = l.length * 3
  | [] => rfl
  | p :: r => by rw [List.flatMap_cons, List.length_append, cells_len r, List.length_cons]; simp [FileD.cells]; omega
theorem fileOK_set {xs ys : List FileD} (h : FileOK s xs) (hl : ys.length = xs.length) : FileOK s ys := by
  refine ⟨cells_len ys, ?_⟩
  rw [hl]
  exact h.2
set_option maxHeartbeats 16000000 in
set_option maxRecDepth 100000 in
theorem revF_any {xs : List FileD} (hk : FileOK s xs) (hl : xs.length ≤ 1000000) (hA : At (fileL s xs) w0) : Calls Tryz.prog 129 #[slV s xs.length] w0 fun e w' => e = .returned (.tuple #[]) ∧ St w0 (keysOf (fileL s xs)) w' (fileL s xs.reverse) := by
  have hM := hA.st
  obtain ⟨F, hF⟩ : ∃ F, keysOf (fileL s xs) = F := ⟨_, rfl⟩
  rw [hF] at hM ⊢
  have HK := Lib.hid hk
  clear hF hA hk
  rcases s with _ | ⟨g, cap⟩
  · have h0 : xs = [] := List.eq_nil_of_length_eq_zero HK.out.2
    subst h0
    simp only [slV]
    go_enter Tryz.func129, Tryz.ntmps129
    (repeat (first | ((with_reducible show wpSeq _ _ _ _ _ _ _); first | ((with_reducible refine wpSeq_nil ?_); refine hKr.out _ _ ?_; clear hKr Kr) | ((first | (refine St.copy (v := ?_) (by first | exact .inl rfl | exact .inr rfl) rfl rfl ?_ ?_; rotate_left; (focus ((try simp only [Act.eval, getD_lit, qGz, qGs]); with_reducible rfl))) | (refine St.pure (v := ?_) rfl rfl rfl (fun w => ?_) ?_; rotate_left; (focus (go_simp; all_goals with_reducible rfl)))); (try simp only [Act.put, qSa, qSz, qSs]))) | (first | (refine wp_seq_shut (fun K hK => ?_)) | (refine wp_text hM (fun Kr hKr => ?_); simp only [inText]) | refine wp_block ?_ | ((refine hK.out _ _ ?_); clear hK K))))
    refine wp_loop_rounds 1 ?_
    (refine rounds_shut (fun K hK => ?_))
    (repeat (first | ((with_reducible show wpSeq _ _ _ _ _ _ _); first | ((with_reducible refine wpSeq_nil ?_); refine hKr.out _ _ ?_; clear hKr Kr) | ((first | (refine St.copy (v := ?_) (by exact .inl rfl) rfl rfl ?_ ?_; rotate_left; (focus ((try simp only [Act.eval, getD_lit, qGz, qGs]); with_reducible rfl))) | (refine St.pure (v := ?_) rfl rfl rfl (fun w => ?_) ?_; rotate_left; (focus (go_simp; all_goals with_reducible rfl)))); (try simp only [Act.put, qSa, qSz, qSs]))) | (first | (refine wp_seq_shut (fun K hK => ?_)) | (refine wp_text hM (fun Kr hKr => ?_); simp only [inText]) | (refine wp_cond_false rfl ?_) | (refine wp_exit ?_; simp only [Exit.then, Exit.inBlock, if_true, if_false, reduceCtorEq, Nat.reduceEqDiff, Nat.succ_ne_zero]) | ((refine hK.out _ _ ?_); clear hK K))))
    ((refine St.fin hM rfl (by repeat (exact Outs.nil)) rfl ?_))
    exact ⟨rfl, hM⟩
  · simp only [slV, fileL, slL] at hM ⊢
    by_cases hz : xs.length = 0
    · have h0 : xs = [] := List.eq_nil_of_length_eq_zero hz
      subst h0
      simp only [List.length_nil]
      go_enter Tryz.func129, Tryz.ntmps129
      (repeat (first | ((with_reducible show wpSeq _ _ _ _ _ _ _); first | ((with_reducible refine wpSeq_nil ?_); refine hKr.out _ _ ?_; clear hKr Kr) | ((first | (refine St.copy (v := ?_) (by first | exact .inl rfl | exact .inr rfl) rfl rfl ?_ ?_; rotate_left; (focus ((try simp only [Act.eval, getD_lit, qGz, qGs]); with_reducible rfl))) | (refine St.pure (v := ?_) rfl rfl rfl (fun w => ?_) ?_; rotate_left; (focus (go_simp; all_goals with_reducible rfl)))); (try simp only [Act.put, qSa, qSz, qSs]))) | (first | (refine wp_seq_shut (fun K hK => ?_)) | (refine wp_text hM (fun Kr hKr => ?_); simp only [inText]) | refine wp_block ?_ | ((refine hK.out _ _ ?_); clear hK K))))
      refine wp_loop_rounds 1 ?_
      (refine rounds_shut (fun K hK => ?_))
      (repeat (first | ((with_reducible show wpSeq _ _ _ _ _ _ _); first | ((with_reducible refine wpSeq_nil ?_); refine hKr.out _ _ ?_; clear hKr Kr) | ((first | (refine St.copy (v := ?_) (by exact .inl rfl) rfl rfl ?_ ?_; rotate_left; (focus ((try simp only [Act.eval, getD_lit, qGz, qGs]); with_reducible rfl))) | (refine St.pure (v := ?_) rfl rfl rfl (fun w => ?_) ?_; rotate_left; (focus (go_simp; all_goals with_reducible rfl)))); (try simp only [Act.put, qSa, qSz, qSs]))) | (first | (refine wp_seq_shut (fun K hK => ?_)) | (refine wp_text hM (fun Kr hKr => ?_); simp only [inText]) | (refine wp_cond_false rfl ?_) | (refine wp_exit ?_; simp only [Exit.then, Exit.inBlock, if_true, if_false, reduceCtorEq, Nat.reduceEqDiff, Nat.succ_ne_zero]) | ((refine hK.out _ _ ?_); clear hK K))))
      ((refine St.fin hM rfl (by repeat (exact Outs.nil)) rfl ?_))
      exact ⟨rfl, hM⟩
    have hw1 : IntKind.i64.wrap ((xs.length : Int) - 1) = ((xs.length - 1 : Nat) : Int) := by rw [wrap_in _ (by omega)]; omega
    go_enter Tryz.func129, Tryz.ntmps129
    (repeat (first | ((with_reducible show wpSeq _ _ _ _ _ _ _); first | ((with_reducible refine wpSeq_nil ?_); refine hKr.out _ _ ?_; clear hKr Kr) | ((first | (refine St.copy (v := ?_) (by first | exact .inl rfl | exact .inr rfl) rfl rfl ?_ ?_; rotate_left; (focus ((try simp only [Act.eval, getD_lit, qGz, qGs]); with_reducible rfl))) | (refine St.pure (v := ?_) rfl rfl rfl (fun w => ?_) ?_; rotate_left; (focus (go_simp; all_goals with_reducible rfl)))); (try simp only [Act.put, qSa, qSz, qSs]))) | (first | (refine wp_seq_shut (fun K hK => ?_)) | (refine wp_text hM (fun Kr hKr => ?_); simp only [inText]) | refine wp_block ?_ | ((refine hK.out _ _ ?_); clear hK K))))
    go_loopw [2, 3] (fun i j wr => ∃ (k m : Nat) (ys : List FileD), i = .int .i64 k ∧ j = .int .i64 m ∧ m = xs.length - 1 - k ∧ k ≤ m + 1 ∧ RevK xs ys k ∧ St w0 F wr [(g, true, .pre (ys.flatMap FileD.cells) 112 (cap * 3))]) (fun i _ _ => xs.length - (intOf i).toNat)
    case atStart => exact ⟨0, xs.length - 1, xs, rfl, by simp [hw1], by omega, by omega, revK_zero xs, hM⟩
    case round =>
      clear hM
      obtain ⟨k, m, ys, rfl, rfl, hm, hkm, hrev, hM⟩ := hrel
      have HV := Lib.hid hrev
      clear hrev
      by_cases hlt : k < m
      · have hyl := HV.out.1
        obtain ⟨a, ha⟩ := get_at (xs := ys) (k := k) (by omega)
        obtain ⟨b, hb⟩ := get_at (xs := ys) (k := m) (by omega)
        have hra := file_at ha
        have hrb := file_at hb
        have HST := Lib.hid (revK_step HV.out hm hlt ha hb)
        have oa := over_file (xs := ys) (k := k) b (by omega)
        have ob := over_file (xs := ys.set k b) (k := m) a (by rw [List.length_set]; omega)
        have hca : k * 3 + 3 ≤ (ys.flatMap FileD.cells).length := by rw [cells_len]; omega
        have hcb : m * 3 + 3 ≤ (ys.flatMap FileD.cells).length := by rw [cells_len]; omega
        have hcc : m * 3 + 3 ≤ ((ys.set k b).flatMap FileD.cells).length := by rw [cells_len, List.length_set]; omega
        have k1 : (k : Int) < (m : Int) := by omega
        have b1 : (k : Int) < (xs.length : Int) := by omega
        have b2 : (m : Int) < (xs.length : Int) := by omega
        have HM := Lib.hid hm
        clear hyl ha hb hm hkm
        (repeat (first | ((with_reducible show wpSeq _ _ _ _ _ _ _); first | ((with_reducible refine wpSeq_nil ?_); refine hKr.out _ _ ?_; clear hKr Kr) | ((first | (refine St.copy (v := ?_) (by exact .inl rfl) rfl rfl ?_ ?_; rotate_left; (focus ((try simp only [Act.eval, getD_lit, qGz, qGs]); with_reducible rfl))) | (refine St.pure (v := ?_) rfl rfl rfl (fun w => ?_) ?_; rotate_left; (focus (go_simp; all_goals with_reducible rfl)))); (try simp only [Act.put, qSa, qSz, qSs]))) | (first | (refine wp_seq_shut (fun K hK => ?_)) | (refine wp_text hM (fun Kr hKr => ?_); simp only [inText]) | refine wp_block ?_ | refine wp_skip ?_ | (refine wp_cond_true rfl ?_) | ((refine hK.out _ _ ?_); clear hK K)) | ((refine wp_drawn (id := 3) hM (Sub.all _) [7] [(0, 0), (1, 0), (2, 0), (3, 0), (4, 0), (5, 0), (6, 0), (7, 1), (8, 0), (9, 2), (10, 2), (11, 2), (12, 3), (13, 3), (14, 3), (15, 3)] (by kernel_rfl) (by kernel_rfl) ?_); (clear hM; intro w hM Kr hKr); simp only [opsOf, qGz, qGs])))
        refine St.loadRow1 rfl rfl rfl rfl (by repeat constructor) (by exact hcb) (by kernel_rfl) ?_
        simp only [Res.known]
        rw [hrb]
        (try simp only [Act.put, qSa, qSz, qSs])
        (repeat (((with_reducible show wpSeq _ _ _ _ _ _ _); ((first | (refine St.copy (v := ?_) (by exact .inl rfl) rfl rfl ?_ ?_; rotate_left; (focus ((try simp only [Act.eval, getD_lit, qGz, qGs]); with_reducible rfl))) | (refine St.pure (v := ?_) rfl rfl rfl (fun w => ?_) ?_; rotate_left; (focus (go_simp; all_goals with_reducible rfl)))); (try simp only [Act.put, qSa, qSz, qSs])))))
        refine St.loadRow rfl hM rfl rfl rfl rfl (by repeat constructor) (by exact hca) (by kernel_rfl) ?_
        simp only [Res.known]
        rw [hra]
        (try simp only [Act.put, qSa, qSz, qSs])
        (repeat (((with_reducible show wpSeq _ _ _ _ _ _ _); (((refine St.pure (v := ?_) rfl rfl rfl (fun w => ?_) ?_; rotate_left; (focus (go_simp; all_goals with_reducible rfl)))); (try simp only [Act.put, qSa, qSz, qSs])))))
        refine St.storeRow (vs := #[.string b.path, .bool b.dir, .string b.data]) rfl hM rfl rfl rfl rfl rfl Upd.head (by exact hca) (Nat.le_of_ble_eq_true rfl) (by kernel_rfl) rfl (fun h => by cases h) ?_
        clear hM; intro w hM
        simp only [Res.put, Res.known] at hM
        rw [oa] at hM
        (try simp only [Act.put, qSa, qSz, qSs])
        (repeat (((with_reducible show wpSeq _ _ _ _ _ _ _); (((refine St.pure (v := ?_) rfl rfl rfl (fun w => ?_) ?_; rotate_left; (focus (go_simp; all_goals with_reducible rfl)))); (try simp only [Act.put, qSa, qSz, qSs])))))
        refine St.storeRow (vs := #[.string a.path, .bool a.dir, .string a.data]) rfl hM rfl rfl rfl rfl rfl Upd.head (by exact hcc) (Nat.le_of_ble_eq_true rfl) (by kernel_rfl) rfl (fun h => by cases h) ?_
        clear hM; intro w hM
        simp only [Res.put, Res.known] at hM
        rw [ob] at hM
        have hwm : IntKind.i64.wrap ((m : Int) - 1) = ((m - 1 : Nat) : Int) := by rw [wrap_in _ (by omega)]; omega
        (try simp only [Act.put, qSa, qSz, qSs])
        (repeat (first | ((with_reducible show wpSeq _ _ _ _ _ _ _); first | ((with_reducible refine wpSeq_nil ?_); refine hKr.out _ _ ?_; clear hKr Kr) | ((first | (refine St.copy (v := ?_) (by first | exact .inl rfl | exact .inr rfl) rfl rfl ?_ ?_; rotate_left; (focus ((try simp only [Act.eval, getD_lit, qGz, qGs]); with_reducible rfl))) | refine St.inc rfl rfl rfl rfl rfl (by omega) ?_ | (refine St.pure (v := ?_) rfl rfl rfl (fun w => ?_) ?_; rotate_left; (focus (go_simp; all_goals with_reducible rfl)))); (try simp only [Act.put, qSa, qSz, qSs]))) | (first | (refine wp_text hM (fun Kr hKr => ?_); simp only [inText]) | ((refine hK.out _ _ ?_); clear hK K))))
        (refine ⟨?_, ?_⟩; (focus (repeat (first | exact ⟨⟨k + 1, m - 1, _, rfl, rfl, by have := HM.out; omega, by omega, HST.out, hM⟩, rfl⟩ | apply Exists.intro))); (simp only [getD_lit, qGz, qGs, intOf]; omega))
      · have k0 : ¬ ((k : Int) < (m : Int)) := by omega
        have e := revK_all HV.out (by omega)
        subst e
        clear hm hkm hlt
        (repeat (first | ((with_reducible show wpSeq _ _ _ _ _ _ _); first | ((with_reducible refine wpSeq_nil ?_); refine hKr.out _ _ ?_; clear hKr Kr) | ((first | (refine St.copy (v := ?_) (by exact .inl rfl) rfl rfl ?_ ?_; rotate_left; (focus ((try simp only [Act.eval, getD_lit, qGz, qGs]); with_reducible rfl))) | (refine St.pure (v := ?_) rfl rfl rfl (fun w => ?_) ?_; rotate_left; (focus (go_simp; all_goals with_reducible rfl)))); (try simp only [Act.put, qSa, qSz, qSs]))) | (first | (refine wp_seq_shut (fun K hK => ?_)) | (refine wp_text hM (fun Kr hKr => ?_); simp only [inText]) | (refine wp_cond_false rfl ?_) | (refine wp_exit ?_; simp only [Exit.then, Exit.inBlock, if_true, if_false, reduceCtorEq, Nat.reduceEqDiff, Nat.succ_ne_zero]) | ((refine hK.out _ _ ?_); clear hK K))))
        ((refine St.fin hM rfl (by repeat (exact Outs.nil)) rfl ?_))
        exact ⟨rfl, hM⟩
set_option maxHeartbeats 4000000 in
set_option maxRecDepth 100000 in
/-- A logged operation is done again. -/
theorem again_do (hA : FsAt N x β d w) (hN : N ≤ 999999990) {o : Int} (ho : Fits o) {p : OpD} (hp : p.Ok) {ob qb : Nat} (h1 : (Res.cells [.int .i64 o] 3).holds w.heap[ob]?) (h2 : (Res.cells p.cells 34).holds w.heap[qb]?) :
    Calls Tryz.prog 83 #[.pointer (some ⟨x.f, 0, none⟩), .pointer (some ⟨ob, 0, none⟩), .pointer (some ⟨qb, 0, none⟩)] w fun e w' => e = .returned (.tuple #[]) ∧ ∃ β', St w (keysOf (fsL x β d)) w' (fsL x β' (Fs.do_ d o p).2) := by
  have hM := St.start w []
  have c1 : w.cell? ⟨ob, 0, none⟩ = some (.int .i64 o) := Res.cell h1 rfl
  have c2 : w.rangeAt qb 0 p.cells := Res.range (q := 0) (n := p.cells.length) h2 (by show 0 + p.cells.length ≤ p.cells.length; omega)
  have C := Lib.hid (fDo_any hA hN ho p hp)
  generalize Fs.do_ d o p = G at *
  obtain ⟨⟨er, n, da, ns⟩, d'⟩ := G
  clear h1 h2 hp ho
  obtain ⟨pk, pp, pd, ph, pa, pn, px, py, pb⟩ := p
  simp only [OpD.cells] at C c2
  go_enter Tryz.func83, Tryz.ntmps83
  (repeat (first | ((with_reducible show wpSeq _ _ _ _ _ _ _); ((first | (refine St.copy (v := ?_) (by exact .inl rfl) rfl rfl ?_ ?_; rotate_left; (focus ((try simp only [Act.eval, getD_lit, qGz, qGs]); with_reducible rfl))) | refine St.loadF rfl rfl rfl rfl rfl (hM.old (by assumption)) (by kernel_rfl) ?_ | refine St.loadRowF rfl rfl rfl rfl rfl (hM.oldRow (by assumption)) (by kernel_rfl) ?_); (try simp only [Act.put, qSa, qSz, qSs]))) | ((refine wp_text hM (fun Kr hKr => ?_); simp only [inText]))))
  (refine St.call3 rfl rfl (by kernel_rfl) (fun R hR => ?_); simp only [List.map_toArray, List.map_cons, List.map_nil, Act.eval, getD_lit, qGz, qGs])
  refine C.out.mono ?_
  rintro e w' ⟨s, β', rfl, hs, hN2⟩
  refine hR.out _ _ ?_; clear hR R hM C
  have hM := hN2
  clear hN2
  (try simp only [Act.put, qSa, qSz, qSs])
  (repeat (((with_reducible show wpSeq _ _ _ _ _ _ _); ((with_reducible refine wpSeq_nil ?_); refine hKr.out _ _ ?_; clear hKr Kr))))
  ((refine St.fin hM rfl (by repeat (exact Outs.nil)) rfl ?_))
  exact ⟨rfl, β', hM.subM (List.sublist_append_right _ _)⟩
set_option maxHeartbeats 4000000 in
set_option maxRecDepth 100000 in
/-- An exit is done again. -/
theorem again_exit (hA : FsAt N x β d w) (hN : N ≤ 999999980) {o : Int} (ho : Fits o) {ob : Nat} (h1 : (Res.cells [.int .i64 o] 3).holds w.heap[ob]?) :
    Calls Tryz.prog 90 #[.pointer (some ⟨x.f, 0, none⟩), .pointer (some ⟨ob, 0, none⟩)] w fun e w' => e = .returned (.tuple #[]) ∧ ∃ β', St w (keysOf (fsL x β d)) w' (fsL x β' (Fs.exit d o)) := by
  have hM := St.start w []
  have c1 : w.cell? ⟨ob, 0, none⟩ = some (.int .i64 o) := Res.cell h1 rfl
  have C := Lib.hid (fExit_any hA hN ho)
  generalize Fs.exit d o = d' at *
  clear h1 ho
  go_enter Tryz.func90, Tryz.ntmps90
  (repeat (first | ((with_reducible show wpSeq _ _ _ _ _ _ _); ((first | (refine St.copy (v := ?_) (by exact .inl rfl) rfl rfl ?_ ?_; rotate_left; (focus ((try simp only [Act.eval, getD_lit, qGz, qGs]); with_reducible rfl))) | refine St.loadF rfl rfl rfl rfl rfl (hM.old (by assumption)) (by kernel_rfl) ?_); (try simp only [Act.put, qSa, qSz, qSs]))) | ((refine wp_text hM (fun Kr hKr => ?_); simp only [inText]))))
  (refine St.call3 rfl rfl (by kernel_rfl) (fun R hR => ?_); simp only [List.map_toArray, List.map_cons, List.map_nil, Act.eval, getD_lit, qGz, qGs])
  refine C.out.mono ?_
  rintro e w' ⟨rfl, ⟨β', hN2⟩, -⟩
  refine hR.out _ _ ?_; clear hR R hM C
  have hM := hN2
  clear hN2
  (try simp only [Act.put, qSa, qSz, qSs])
  (repeat (((with_reducible show wpSeq _ _ _ _ _ _ _); ((with_reducible refine wpSeq_nil ?_); refine hKr.out _ _ ?_; clear hKr Kr))))
  ((refine St.fin hM rfl (by repeat (exact Outs.nil)) rfl ?_))
  exact ⟨rfl, β', hM⟩
end
end Go.Proofs.YtcicjklhbnipcaaGreatDoor
namespace Go.Proofs.YtcicjklhbnipcaaGreatDoor
set_option linter.unusedVariables false
set_option linter.unusedSimpArgs false
open Go.RowKit Go.Maps
namespace Fs
theorem under_size {N : Nat} {t : TabD} (I : In.Inv N t) : ∀ (k : Nat) (id : Int) (dir : ByteArray), ∀ f ∈ under t k id dir, f.path.size ≤ dir.size + 33 * k
  | 0, _, _, f, h => by cases h
  | k + 1, id, dir, f, h => by
    unfold under at h
    obtain ⟨p, hp, hf⟩ := List.mem_flatMap.1 h
    have hs := I.short _ (In.find_some (In.names_found hp)).1 p hp
    have hj := join_size dir p.1
    rcases List.mem_cons.1 hf with rfl | hf
    · show (Pt.join dir p.1).size ≤ _
      omega
    · have := under_size I k p.2 (Pt.join dir p.1) f hf
      omega
theorem files_size {N : Nat} {d : FsD} (I : Inv N d) (hN : N ≤ 30000) : ∀ f ∈ files d, f.path.size ≤ 1000000 := fun f hf => by
  have := under_size I.tbl _ _ _ f hf
  have h2 := I.tbl.last
  have e : (⟨#[]⟩ : ByteArray).size = 0 := rfl
  omega
end Fs
section
variable {N : Nat} {X : DskX} {x y : FsX} {β γ : Int → Nat × Nat} {D : DskD} {d : FsD} {w w' w0 : World} {F : List Nat} {L L' M M' : List Ent} {b f g n : Nat} {s : Option (Nat × Nat)}
theorem opK_ok {k : Int} (hk : Fits k) {p : ByteArray} (h : p.size ≤ 1000000) : (opK k p).Ok := ⟨hk, show Fits 0 by decide, show Fits 0 by decide, show Fits 0 by decide, h, show (⟨#[]⟩ : ByteArray).size ≤ 1000000 by decide, show (⟨#[]⟩ : ByteArray).size ≤ maxLen by decide⟩
theorem fold_step {xs : List FileD} {k : Nat} {f : FileD} (h : xs[k]? = some f) (d : FsD) : (xs.take (k + 1)).foldl Ol.empty1 d = Ol.empty1 ((xs.take k).foldl Ol.empty1 d) f := by
  rw [List.take_add_one, h, Option.toList_some, List.foldl_append]
  rfl
set_option maxHeartbeats 16000000 in
set_option maxRecDepth 100000 in
theorem empties_any (h : FsAt N x β d w0) (hfi0 : Ol.FInv N d) (hN : N ≤ 30000) : Calls Tryz.prog 79 #[.pointer (some ⟨x.f, 0, none⟩), .string ⟨#[114, 117, 110]⟩] w0 fun e w' => e = .returned (.tuple #[]) ∧ ∃ β', St w0 (keysOf (fsL x β d)) w' (fsL x β' (Ol.empties d)) := by
  have hM := h.at_.st
  obtain ⟨F, hF⟩ : ∃ F, keysOf (fsL x β d) = F := ⟨_, rfl⟩
  rw [hF] at hM ⊢
  have F0 : 0 ∉ F := hF ▸ h.zero
  have HI := Lib.hid h.inv
  have HX := Lib.hid h.mx
  have HFI := Lib.hid hfi0
  have hup := hfi0.up
  have HSZ := Lib.hid (Fs.files_size h.inv hN)
  have HLN := Lib.hid (Fs.files_len h.inv hup)
  have CF := Lib.hid (fFiles_any h hup (by omega))
  have hED : Ol.empties d = (Fs.files d).reverse.foldl Ol.empty1 d := rfl
  rw [hED]
  clear hF h hup hED hfi0
  generalize Fs.files d = fs at *
  go_enter Tryz.func79, Tryz.ntmps79
  (repeat (first | ((with_reducible show wpSeq _ _ _ _ _ _ _); (((refine St.copy (v := ?_) (by exact .inl rfl) rfl rfl ?_ ?_; rotate_left; (focus ((try simp only [Act.eval, getD_lit, qGz, qGs]); with_reducible rfl)))); (try simp only [Act.put, qSa, qSz, qSs]))) | (first | (refine wp_seq_shut (fun K hK => ?_)) | (refine wp_text hM (fun Kr hKr => ?_); simp only [inText]))))
  ((refine St.call rfl rfl rfl (by kernel_rfl) (fun R hR => ?_); simp only [List.map_toArray, List.map_cons, List.map_nil, Act.eval, getD_lit, qGz, qGs]))
  refine CF.out.mono ?_
  rintro e w' ⟨s, rfl, hk, hN2⟩
  replace hM := hM.madeM hN2 (slL_flag _ _ _ _)
  (refine hR.out _ _ (fun _ => ⟨hM.only, nofun⟩) ?_); clear hR R hN2 CF
  have HK := Lib.hid hk
  obtain ⟨va, vc, hv, hva⟩ := slV_open hk
  (try simp only [Act.put, qSa, qSz, qSs])
  (repeat (first | ((with_reducible show wpSeq _ _ _ _ _ _ _); first | ((with_reducible refine wpSeq_nil ?_); refine hKr.out _ _ ?_; clear hKr Kr) | (((refine St.copy (v := ?_) (by first | exact .inl rfl | exact .inr rfl) rfl rfl ?_ ?_; rotate_left; (focus ((try simp only [Act.eval, getD_lit, qGz, qGs]); with_reducible rfl)))); (try simp only [Act.put, qSa, qSz, qSs]))) | (first | (refine wp_seq_shut (fun K hK => ?_)) | (refine wp_text hM (fun Kr hKr => ?_); simp only [inText]) | ((refine hK.out _ _ ?_); clear hK K))))
  ((refine St.call rfl rfl rfl (by kernel_rfl) (fun R hR => ?_); simp only [List.map_toArray, List.map_cons, List.map_nil, Act.eval, getD_lit, qGz, qGs]))
  refine (revF_any hk (by have := HLN.out; omega) (hM.part .here)).mono ?_
  rintro e w' ⟨rfl, hN2⟩
  replace hM := hM.backM .here (slL_flag _ _ _ _) hN2 (slL_flag _ _ _ _)
  (refine hR.out _ _ (fun _ => ⟨hM.only, nofun⟩) ?_); clear hR R hN2
  have hk2 := fileOK_set hk (ys := fs.reverse) (by simp)
  have e1 : fs.length = fs.reverse.length := by simp
  have HSZ2 := Lib.hid (fun f (hf : f ∈ fs.reverse) => HSZ.out f (List.mem_reverse.1 hf))
  have HLN2 := Lib.hid (e1 ▸ HLN.out)
  rw [hv]
  rw [e1] at hv ⊢
  clear HSZ HLN HK hk e1
  generalize fs.reverse = rs at *
  have HK := Lib.hid hk2
  clear hk2
  (try simp only [Act.put, qSa, qSz, qSs])
  (repeat (first | ((with_reducible show wpSeq _ _ _ _ _ _ _); first | ((with_reducible refine wpSeq_nil ?_); refine hKr.out _ _ ?_; clear hKr Kr) | ((first | (refine St.copy (v := ?_) (by exact .inl rfl) rfl rfl ?_ ?_; rotate_left; (focus ((try simp only [Act.eval, getD_lit, qGz, qGs]); with_reducible rfl))) | (refine St.pure (v := ?_) rfl rfl rfl (fun w => ?_) ?_; rotate_left; (focus (go_simp; all_goals with_reducible rfl)))); (try simp only [Act.put, qSa, qSz, qSs]))) | (first | (refine wp_seq_shut (fun K hK => ?_)) | (refine wp_text hM (fun Kr hKr => ?_); simp only [inText]) | refine wp_block ?_ | ((refine hK.out _ _ ?_); clear hK K))))
  have hrl : rs.length ≤ 30000 := by have := HLN2.out; omega
  go_loopw [14] (fun i wr => ∃ (k : Nat) (β' : Int → Nat × Nat) (dk : FsD), k ≤ rs.length ∧ i = .int .i64 k ∧ (rs.take k).foldl Ol.empty1 d = dk ∧ Ol.FInv N dk ∧ St w0 F wr (fileL s rs ++ fsL x β' dk)) (fun i _ => rs.length - (intOf i).toNat)
  case atStart => exact ⟨0, β, d, by omega, rfl, by simp, HFI.out, hM⟩
  case round =>
    clear hM
    obtain ⟨k, β, dk, hk, rfl, hdk, hfi, hM⟩ := hrel
    have HDK := Lib.hid hdk
    have HFK := Lib.hid hfi
    clear hdk hfi
    by_cases hlt : k < rs.length
    · obtain ⟨f, hf⟩ := get_at hlt
      cases s with
      | none => exact absurd HK.out.2 (by omega)
      | some gc =>
      obtain ⟨g, cap⟩ := gc
      obtain ⟨rfl, rfl⟩ := hva g cap rfl
      have hsz := HSZ2.out f (List.mem_of_getElem? hf)
      have hrow := file_at hf
      have hlen : k * 3 + 3 ≤ (rs.flatMap FileD.cells).length := by rw [cells_len]; omega
      have HST := Lib.hid ((fold_step hf d).trans (congrArg (fun z => Ol.empty1 z f) HDK.out))
      have HF1 := Lib.hid (Ol.finv_empty1 HFK.out f)
      have k1 : (k : Int) < (rs.length : Int) := by omega
      have CU := Lib.hid (fun (W : World) (hm : Mx W) => Under_any f.path Pt.run W hsz (by decide) hm)
      have CD2 := Lib.hid (fun (W : World) (β' : Int → Nat × Nat) (hA : FsAt N x β' dk W) => fDo_any hA (by omega) (o := 0) (by decide) (opK 2 f.path) (opK_ok (by decide) hsz))
      have CD11 := Lib.hid (fun (W : World) (β' : Int → Nat × Nat) (hA : FsAt N x β' dk W) => fDo_any hA (by omega) (o := 0) (by decide) (opK 11 f.path) (opK_ok (by decide) hsz))
      have hem : Ol.empty1 dk f = if Pt.under f.path Pt.run then (Fs.do_ dk 0 (opK (if f.dir then 2 else 11) f.path)).2 else dk := rfl
      rw [hem] at HST HF1
      clear hf hlt hsz hem
      obtain ⟨fp, fd, ft⟩ := f
      simp only at hrow HST HF1 CU CD2 CD11
      simp only [slL, List.cons_append, List.nil_append] at hM
      (repeat (first | ((with_reducible show wpSeq _ _ _ _ _ _ _); first | ((with_reducible refine wpSeq_nil ?_); refine hKr.out _ _ ?_; clear hKr Kr) | (((refine St.pure (v := ?_) rfl rfl rfl (fun w => ?_) ?_; rotate_left; (focus (go_simp; all_goals with_reducible rfl)))); (try simp only [Act.put, qSa, qSz, qSs]))) | (first | (refine wp_seq_shut (fun K hK => ?_)) | (refine wp_text hM (fun Kr hKr => ?_); simp only [inText]) | refine wp_block ?_ | refine wp_skip ?_ | (refine wp_cond_true rfl ?_) | ((refine hK.out _ _ ?_); clear hK K))))
      refine St.loadRow rfl hM rfl rfl rfl rfl (by repeat constructor) (by exact hlen) (by kernel_rfl) ?_
      simp only [Res.known]
      rw [hrow]
      (try simp only [Act.put, qSa, qSz, qSs])
      generalize Pt.under fp Pt.run = un at *
      cases fd with
      | false =>
        cases un with
        | false =>
          have hst := HST.out
          have hf1 := HF1.out
          simp only [Bool.false_eq_true, if_false, if_true] at hst hf1
          have HS1 := Lib.hid hst
          have HF2 := Lib.hid hf1
          clear hst hf1 HST HF1
          (repeat (first | ((with_reducible show wpSeq _ _ _ _ _ _ _); first | ((with_reducible refine wpSeq_nil ?_); refine hKr.out _ _ ?_; clear hKr Kr) | ((first | (refine St.copy (v := ?_) (by exact .inl rfl) rfl rfl ?_ ?_; rotate_left; (focus ((try simp only [Act.eval, getD_lit, qGz, qGs]); with_reducible rfl))) | (refine St.pure (v := ?_) rfl rfl rfl (fun w => ?_) ?_; rotate_left; (focus (go_simp; all_goals with_reducible rfl))) | refine St.load rfl hM rfl rfl rfl rfl (by repeat constructor) (by rfl) (by kernel_rfl) ?_ | ((((refine St.storeRow rfl hM rfl rfl rfl rfl rfl (by repeat constructor) (Nat.le_of_ble_eq_true rfl) (Nat.le_of_ble_eq_true rfl) (by kernel_rfl) rfl ?_ ?_); (focus ((intro h; cases h; done))); clear hM; intro w hM)); (try simp only [Res.put, Res.known, Act.eval, Value.cells, getD_lit, qGz, qGs, List.toList_toArray, qSz, qSs, over, Nat.reduceAdd] at hM))); (try simp only [Act.put, qSa, qSz, qSs])) | (((first | refine St.alloc (ty := 112) (z := .agg #[.string ⟨#[]⟩, .bool false, .string ⟨#[]⟩]) rfl hM rfl rfl (by kernel_rfl) ?_ | refine St.alloc (ty := 34) (z := .agg #[.int .i64 0, .string ⟨#[]⟩, .string ⟨#[]⟩, .int .i64 0, .int .i64 0, .int .i64 0, .string ⟨#[]⟩, .int .i64 0, .int .i64 0]) rfl hM rfl rfl (by kernel_rfl) ?_); clear hM; intro w bk hM); (try simp only [Res.put, Res.known, Act.eval, Value.cells, getD_lit, qGz, qGs, List.toList_toArray, qSz, qSs, over, Nat.reduceAdd] at hM); (try simp only [Act.put, qSa, qSz, qSs]))) | (first | (refine wp_seq_shut (fun K hK => ?_)) | (refine wp_text hM (fun Kr hKr => ?_); simp only [inText]) | refine wp_skip ?_ | (refine wp_cond_false rfl ?_) | ((refine hK.out _ _ ?_); clear hK K))))
          ((refine St.call rfl rfl rfl (by kernel_rfl) (fun R hR => ?_); simp only [List.map_toArray, List.map_cons, List.map_nil, Act.eval, getD_lit, qGz, qGs]))
          refine (CU.out _ (hM.mx HX.out F0)).mono ?_
          rintro e w' ⟨rfl, hb⟩
          replace hM := hM.below hb
          (refine hR.out _ _ (fun _ => ⟨hM.only, nofun⟩) ?_); clear hR R hb
          (try simp only [Act.put, qSa, qSz, qSs])
          (repeat (first | ((with_reducible show wpSeq _ _ _ _ _ _ _); first | ((with_reducible refine wpSeq_nil ?_); refine hKr.out _ _ ?_; clear hKr Kr) | ((first | (refine St.copy (v := ?_) (by exact .inl rfl) rfl rfl ?_ ?_; rotate_left; (focus ((try simp only [Act.eval, getD_lit, qGz, qGs]); with_reducible rfl))) | refine St.inc rfl rfl rfl rfl rfl (by omega) ?_); (try simp only [Act.put, qSa, qSz, qSs]))) | (first | (refine wp_text hM (fun Kr hKr => ?_); simp only [inText]) | refine wp_skip ?_ | (refine wp_cond_false rfl ?_) | ((refine hK.out _ _ ?_); clear hK K))))
          replace hM := hM.forget.forget
          simp only [Exit.then]
          (refine ⟨?_, ?_⟩; (focus (repeat (first | exact ⟨⟨k + 1, β, dk, by omega, rfl, HS1.out, HF2.out, hM⟩, rfl⟩ | apply Exists.intro))); (simp only [getD_lit, qGz, qGs, intOf]; omega))
        | true =>
          have hst := HST.out
          have hf1 := HF1.out
          simp only [Bool.false_eq_true, if_false, if_true] at hst hf1
          have HS1 := Lib.hid hst
          have HF2 := Lib.hid hf1
          clear hst hf1 HST HF1
          (repeat (first | ((with_reducible show wpSeq _ _ _ _ _ _ _); first | ((with_reducible refine wpSeq_nil ?_); refine hKr.out _ _ ?_; clear hKr Kr) | ((first | (refine St.copy (v := ?_) (by exact .inl rfl) rfl rfl ?_ ?_; rotate_left; (focus ((try simp only [Act.eval, getD_lit, qGz, qGs]); with_reducible rfl))) | (refine St.pure (v := ?_) rfl rfl rfl (fun w => ?_) ?_; rotate_left; (focus (go_simp; all_goals with_reducible rfl))) | refine St.load rfl hM rfl rfl rfl rfl (by repeat constructor) (by rfl) (by kernel_rfl) ?_ | ((((refine St.storeRow rfl hM rfl rfl rfl rfl rfl (by repeat constructor) (Nat.le_of_ble_eq_true rfl) (Nat.le_of_ble_eq_true rfl) (by kernel_rfl) rfl ?_ ?_); (focus ((intro h; cases h; done))); clear hM; intro w hM)); (try simp only [Res.put, Res.known, Act.eval, Value.cells, getD_lit, qGz, qGs, List.toList_toArray, qSz, qSs, over, Nat.reduceAdd] at hM))); (try simp only [Act.put, qSa, qSz, qSs])) | (((first | refine St.alloc (ty := 112) (z := .agg #[.string ⟨#[]⟩, .bool false, .string ⟨#[]⟩]) rfl hM rfl rfl (by kernel_rfl) ?_ | refine St.alloc (ty := 34) (z := .agg #[.int .i64 0, .string ⟨#[]⟩, .string ⟨#[]⟩, .int .i64 0, .int .i64 0, .int .i64 0, .string ⟨#[]⟩, .int .i64 0, .int .i64 0]) rfl hM rfl rfl (by kernel_rfl) ?_); clear hM; intro w bk hM); (try simp only [Res.put, Res.known, Act.eval, Value.cells, getD_lit, qGz, qGs, List.toList_toArray, qSz, qSs, over, Nat.reduceAdd] at hM); (try simp only [Act.put, qSa, qSz, qSs]))) | (first | (refine wp_seq_shut (fun K hK => ?_)) | (refine wp_text hM (fun Kr hKr => ?_); simp only [inText]) | refine wp_skip ?_ | (refine wp_cond_false rfl ?_) | ((refine hK.out _ _ ?_); clear hK K))))
          ((refine St.call rfl rfl rfl (by kernel_rfl) (fun R hR => ?_); simp only [List.map_toArray, List.map_cons, List.map_nil, Act.eval, getD_lit, qGz, qGs]))
          refine (CU.out _ (hM.mx HX.out F0)).mono ?_
          rintro e w' ⟨rfl, hb⟩
          replace hM := hM.below hb
          (refine hR.out _ _ (fun _ => ⟨hM.only, nofun⟩) ?_); clear hR R hb
          (try simp only [Act.put, qSa, qSz, qSs])
          (repeat (first | ((with_reducible show wpSeq _ _ _ _ _ _ _); first | ((with_reducible refine wpSeq_nil ?_); refine hKr.out _ _ ?_; clear hKr Kr) | ((first | (refine St.copy (v := ?_) (by exact .inl rfl) rfl rfl ?_ ?_; rotate_left; (focus ((try simp only [Act.eval, getD_lit, qGz, qGs]); with_reducible rfl))) | ((refine St.loadRow rfl hM rfl rfl rfl rfl (by repeat constructor) (Nat.le_of_ble_eq_true rfl) (by kernel_rfl) ?_); (try simp only [Res.known, List.drop_succ_cons, List.drop_zero, List.take_succ_cons, List.take_zero]))); (try simp only [Act.put, qSa, qSz, qSs]))) | (first | (refine wp_text hM (fun Kr hKr => ?_); simp only [inText]) | (refine wp_cond_true rfl ?_) | ((refine hK.out _ _ ?_); clear hK K))))
          ((refine St.call rfl rfl rfl (by kernel_rfl) (fun R hR => ?_); simp only [List.map_toArray, List.map_cons, List.map_nil, Act.eval, getD_lit, qGz, qGs]))
          refine (CD11.out _ β (hM.fs (x := x) (β := β) (d := dk) (by repeat (first | exact Part.all | apply Part.skip)) HFK.out.inv HX.out F0)).mono ?_
          rintro e w' ⟨s2, β2, rfl, -, hN2⟩
          replace hM := hM.backM (M := fsL x β dk) (.skip (.skip (.skip .all))) (fsL_flag _ _ _) hN2 (fun y hy => (List.mem_append.1 hy).elim (txL_flag _ _ y) (fsL_flag _ _ _ y))
          (refine hR.out _ _ (fun _ => ⟨hM.only, nofun⟩) ?_); clear hR R hN2
          (try simp only [Act.put, qSa, qSz, qSs])
          (repeat (first | ((with_reducible show wpSeq _ _ _ _ _ _ _); first | ((with_reducible refine wpSeq_nil ?_); refine hKr.out _ _ ?_; clear hKr Kr) | ((first | (refine St.copy (v := ?_) (by exact .inl rfl) rfl rfl ?_ ?_; rotate_left; (focus ((try simp only [Act.eval, getD_lit, qGz, qGs]); with_reducible rfl))) | refine St.inc rfl rfl rfl rfl rfl (by omega) ?_); (try simp only [Act.put, qSa, qSz, qSs]))) | (first | (refine wp_text hM (fun Kr hKr => ?_); simp only [inText]) | ((refine hK.out _ _ ?_); clear hK K))))
          replace hM := hM.forget.forget.subM ((List.sublist_append_right _ _).cons_cons _)
          simp only [Exit.then]
          (refine ⟨?_, ?_⟩; (focus (repeat (first | exact ⟨⟨k + 1, β2, _, by omega, rfl, HS1.out, HF2.out, hM⟩, rfl⟩ | apply Exists.intro))); (simp only [getD_lit, qGz, qGs, intOf]; omega))
      | true =>
        cases un with
        | false =>
          have hst := HST.out
          have hf1 := HF1.out
          simp only [Bool.false_eq_true, if_false, if_true] at hst hf1
          have HS1 := Lib.hid hst
          have HF2 := Lib.hid hf1
          clear hst hf1 HST HF1
          (repeat (first | ((with_reducible show wpSeq _ _ _ _ _ _ _); first | ((with_reducible refine wpSeq_nil ?_); refine hKr.out _ _ ?_; clear hKr Kr) | ((first | (refine St.copy (v := ?_) (by exact .inl rfl) rfl rfl ?_ ?_; rotate_left; (focus ((try simp only [Act.eval, getD_lit, qGz, qGs]); with_reducible rfl))) | (refine St.pure (v := ?_) rfl rfl rfl (fun w => ?_) ?_; rotate_left; (focus (go_simp; all_goals with_reducible rfl))) | refine St.load rfl hM rfl rfl rfl rfl (by repeat constructor) (by rfl) (by kernel_rfl) ?_ | ((((first | refine St.store rfl hM rfl rfl rfl rfl rfl (by repeat constructor) (Nat.le_of_ble_eq_true rfl) (by kernel_rfl) rfl ?_ ?_ | refine St.storeRow rfl hM rfl rfl rfl rfl rfl (by repeat constructor) (Nat.le_of_ble_eq_true rfl) (Nat.le_of_ble_eq_true rfl) (by kernel_rfl) rfl ?_ ?_); (focus ((intro h; cases h; done))); clear hM; intro w hM)); (try simp only [Res.put, Res.known, Act.eval, Value.cells, getD_lit, qGz, qGs, List.toList_toArray, qSz, qSs, over, Nat.reduceAdd] at hM))); (try simp only [Act.put, qSa, qSz, qSs])) | (((first | refine St.alloc (ty := 112) (z := .agg #[.string ⟨#[]⟩, .bool false, .string ⟨#[]⟩]) rfl hM rfl rfl (by kernel_rfl) ?_ | refine St.alloc (ty := 34) (z := .agg #[.int .i64 0, .string ⟨#[]⟩, .string ⟨#[]⟩, .int .i64 0, .int .i64 0, .int .i64 0, .string ⟨#[]⟩, .int .i64 0, .int .i64 0]) rfl hM rfl rfl (by kernel_rfl) ?_); clear hM; intro w bk hM); (try simp only [Res.put, Res.known, Act.eval, Value.cells, getD_lit, qGz, qGs, List.toList_toArray, qSz, qSs, over, Nat.reduceAdd] at hM); (try simp only [Act.put, qSa, qSz, qSs]))) | (first | (refine wp_seq_shut (fun K hK => ?_)) | (refine wp_text hM (fun Kr hKr => ?_); simp only [inText]) | (refine wp_cond_true rfl ?_) | ((refine hK.out _ _ ?_); clear hK K))))
          ((refine St.call rfl rfl rfl (by kernel_rfl) (fun R hR => ?_); simp only [List.map_toArray, List.map_cons, List.map_nil, Act.eval, getD_lit, qGz, qGs]))
          refine (CU.out _ (hM.mx HX.out F0)).mono ?_
          rintro e w' ⟨rfl, hb⟩
          replace hM := hM.below hb
          (refine hR.out _ _ (fun _ => ⟨hM.only, nofun⟩) ?_); clear hR R hb
          (try simp only [Act.put, qSa, qSz, qSs])
          (repeat (first | ((with_reducible show wpSeq _ _ _ _ _ _ _); first | ((with_reducible refine wpSeq_nil ?_); refine hKr.out _ _ ?_; clear hKr Kr) | ((first | (refine St.copy (v := ?_) (by exact .inl rfl) rfl rfl ?_ ?_; rotate_left; (focus ((try simp only [Act.eval, getD_lit, qGz, qGs]); with_reducible rfl))) | refine St.inc rfl rfl rfl rfl rfl (by omega) ?_); (try simp only [Act.put, qSa, qSz, qSs]))) | (first | (refine wp_text hM (fun Kr hKr => ?_); simp only [inText]) | refine wp_skip ?_ | (refine wp_cond_false rfl ?_) | ((refine hK.out _ _ ?_); clear hK K))))
          replace hM := hM.forget.forget
          simp only [Exit.then]
          (refine ⟨?_, ?_⟩; (focus (repeat (first | exact ⟨⟨k + 1, β, dk, by omega, rfl, HS1.out, HF2.out, hM⟩, rfl⟩ | apply Exists.intro))); (simp only [getD_lit, qGz, qGs, intOf]; omega))
        | true =>
          have hst := HST.out
          have hf1 := HF1.out
          simp only [Bool.false_eq_true, if_false, if_true] at hst hf1
          have HS1 := Lib.hid hst
          have HF2 := Lib.hid hf1
          clear hst hf1 HST HF1
          (repeat (first | ((with_reducible show wpSeq _ _ _ _ _ _ _); first | ((with_reducible refine wpSeq_nil ?_); refine hKr.out _ _ ?_; clear hKr Kr) | ((first | (refine St.copy (v := ?_) (by exact .inl rfl) rfl rfl ?_ ?_; rotate_left; (focus ((try simp only [Act.eval, getD_lit, qGz, qGs]); with_reducible rfl))) | (refine St.pure (v := ?_) rfl rfl rfl (fun w => ?_) ?_; rotate_left; (focus (go_simp; all_goals with_reducible rfl))) | refine St.load rfl hM rfl rfl rfl rfl (by repeat constructor) (by rfl) (by kernel_rfl) ?_ | ((((first | refine St.store rfl hM rfl rfl rfl rfl rfl (by repeat constructor) (Nat.le_of_ble_eq_true rfl) (by kernel_rfl) rfl ?_ ?_ | refine St.storeRow rfl hM rfl rfl rfl rfl rfl (by repeat constructor) (Nat.le_of_ble_eq_true rfl) (Nat.le_of_ble_eq_true rfl) (by kernel_rfl) rfl ?_ ?_); (focus ((intro h; cases h; done))); clear hM; intro w hM)); (try simp only [Res.put, Res.known, Act.eval, Value.cells, getD_lit, qGz, qGs, List.toList_toArray, qSz, qSs, over, Nat.reduceAdd] at hM))); (try simp only [Act.put, qSa, qSz, qSs])) | (((first | refine St.alloc (ty := 112) (z := .agg #[.string ⟨#[]⟩, .bool false, .string ⟨#[]⟩]) rfl hM rfl rfl (by kernel_rfl) ?_ | refine St.alloc (ty := 34) (z := .agg #[.int .i64 0, .string ⟨#[]⟩, .string ⟨#[]⟩, .int .i64 0, .int .i64 0, .int .i64 0, .string ⟨#[]⟩, .int .i64 0, .int .i64 0]) rfl hM rfl rfl (by kernel_rfl) ?_); clear hM; intro w bk hM); (try simp only [Res.put, Res.known, Act.eval, Value.cells, getD_lit, qGz, qGs, List.toList_toArray, qSz, qSs, over, Nat.reduceAdd] at hM); (try simp only [Act.put, qSa, qSz, qSs]))) | (first | (refine wp_seq_shut (fun K hK => ?_)) | (refine wp_text hM (fun Kr hKr => ?_); simp only [inText]) | (refine wp_cond_true rfl ?_) | ((refine hK.out _ _ ?_); clear hK K))))
          ((refine St.call rfl rfl rfl (by kernel_rfl) (fun R hR => ?_); simp only [List.map_toArray, List.map_cons, List.map_nil, Act.eval, getD_lit, qGz, qGs]))
          refine (CU.out _ (hM.mx HX.out F0)).mono ?_
          rintro e w' ⟨rfl, hb⟩
          replace hM := hM.below hb
          (refine hR.out _ _ (fun _ => ⟨hM.only, nofun⟩) ?_); clear hR R hb
          (try simp only [Act.put, qSa, qSz, qSs])
          (repeat (first | ((with_reducible show wpSeq _ _ _ _ _ _ _); first | ((with_reducible refine wpSeq_nil ?_); refine hKr.out _ _ ?_; clear hKr Kr) | ((first | (refine St.copy (v := ?_) (by exact .inl rfl) rfl rfl ?_ ?_; rotate_left; (focus ((try simp only [Act.eval, getD_lit, qGz, qGs]); with_reducible rfl))) | ((refine St.loadRow rfl hM rfl rfl rfl rfl (by repeat constructor) (Nat.le_of_ble_eq_true rfl) (by kernel_rfl) ?_); (try simp only [Res.known, List.drop_succ_cons, List.drop_zero, List.take_succ_cons, List.take_zero]))); (try simp only [Act.put, qSa, qSz, qSs]))) | (first | (refine wp_text hM (fun Kr hKr => ?_); simp only [inText]) | (refine wp_cond_true rfl ?_) | ((refine hK.out _ _ ?_); clear hK K))))
          ((refine St.call rfl rfl rfl (by kernel_rfl) (fun R hR => ?_); simp only [List.map_toArray, List.map_cons, List.map_nil, Act.eval, getD_lit, qGz, qGs]))
          refine (CD2.out _ β (hM.fs (x := x) (β := β) (d := dk) (by repeat (first | exact Part.all | apply Part.skip)) HFK.out.inv HX.out F0)).mono ?_
          rintro e w' ⟨s2, β2, rfl, -, hN2⟩
          replace hM := hM.backM (M := fsL x β dk) (.skip (.skip (.skip .all))) (fsL_flag _ _ _) hN2 (fun y hy => (List.mem_append.1 hy).elim (txL_flag _ _ y) (fsL_flag _ _ _ y))
          (refine hR.out _ _ (fun _ => ⟨hM.only, nofun⟩) ?_); clear hR R hN2
          (try simp only [Act.put, qSa, qSz, qSs])
          (repeat (first | ((with_reducible show wpSeq _ _ _ _ _ _ _); first | ((with_reducible refine wpSeq_nil ?_); refine hKr.out _ _ ?_; clear hKr Kr) | ((first | (refine St.copy (v := ?_) (by exact .inl rfl) rfl rfl ?_ ?_; rotate_left; (focus ((try simp only [Act.eval, getD_lit, qGz, qGs]); with_reducible rfl))) | refine St.inc rfl rfl rfl rfl rfl (by omega) ?_); (try simp only [Act.put, qSa, qSz, qSs]))) | (first | (refine wp_text hM (fun Kr hKr => ?_); simp only [inText]) | ((refine hK.out _ _ ?_); clear hK K))))
          replace hM := hM.forget.forget.subM ((List.sublist_append_right _ _).cons_cons _)
          simp only [Exit.then]
          (refine ⟨?_, ?_⟩; (focus (repeat (first | exact ⟨⟨k + 1, β2, _, by omega, rfl, HS1.out, HF2.out, hM⟩, rfl⟩ | apply Exists.intro))); (simp only [getD_lit, qGz, qGs, intOf]; omega))
    · have k0 : ¬ ((k : Int) < (rs.length : Int)) := by omega
      obtain rfl : k = rs.length := by omega
      have e := HDK.out
      rw [List.take_length] at e
      clear hlt hk
      (repeat (first | ((with_reducible show wpSeq _ _ _ _ _ _ _); first | ((with_reducible refine wpSeq_nil ?_); refine hKr.out _ _ ?_; clear hKr Kr) | (((refine St.pure (v := ?_) rfl rfl rfl (fun w => ?_) ?_; rotate_left; (focus (go_simp; all_goals with_reducible rfl)))); (try simp only [Act.put, qSa, qSz, qSs]))) | (first | (refine wp_seq_shut (fun K hK => ?_)) | (refine wp_text hM (fun Kr hKr => ?_); simp only [inText]) | (refine wp_cond_false rfl ?_) | (refine wp_exit ?_; simp only [Exit.then, Exit.inBlock, if_true, if_false, reduceCtorEq, Nat.reduceEqDiff, Nat.succ_ne_zero]) | ((refine hK.out _ _ ?_); clear hK K))))
      ((refine St.fin hM rfl (by repeat (exact Outs.nil)) rfl ?_))
      refine ⟨rfl, β, ?_⟩
      rw [e]
      exact hM.subM (List.sublist_append_right _ _)
end
end Go.Proofs.YtcicjklhbnipcaaGreatDoor
namespace Go.Proofs.YtcicjklhbnipcaaGreatDoor
set_option linter.unusedVariables false
set_option linter.unusedSimpArgs false
open Go.RowKit Go.Maps
section
variable {N : Nat} {X : DskX} {x y : FsX} {β γ : Int → Nat × Nat} {D : DskD} {d : FsD} {w w' w0 : World} {F : List Nat} {L L' M M' R : List Ent} {b f g n : Nat} {s : Option (Nat × Nat)}
/-- One block is written, the others are read. -/
theorem At.stB {e : Ent} (h : At (e :: R) w) : St w [e.1] w (e :: R.map unflag) := by
  refine ⟨Only.refl _ w, fun z hz => ?_, ?_, fun z hz h1 => ?_⟩
  · rcases List.mem_cons.1 hz with rfl | hz
    · exact h.has z (.head _)
    · obtain ⟨y, hy, rfl⟩ := List.mem_map.1 hz
      exact h.has y (.tail _ hy)
  · have := h.nd
    unfold keysOf at this
    rw [List.map_cons] at this ⊢
    rw [List.map_map]
    exact this
  · rcases List.mem_cons.1 hz with rfl | hz
    · exact .inl (by simp)
    · obtain ⟨y, hy, rfl⟩ := List.mem_map.1 hz
      cases h1
theorem log_step {l : List LogD} {k : Nat} {z : LogD} (h : l[k]? = some z) (d : FsD) : Ol.replay d (l.take (k + 1)) = Ol.again (Ol.replay d (l.take k)) z := by
  rw [List.take_add_one, h, Option.toList_some, Ol.replay_snoc]
theorem own_step {l : List Int} {k : Nat} {o : Int} (h : l[k]? = some o) (d : FsD) : (l.take (k + 1)).foldl Fs.exit d = Fs.exit ((l.take k).foldl Fs.exit d) o := by
  rw [List.take_add_one, h, Option.toList_some, List.foldl_append]
  rfl
theorem ents_holds {zs : List LogV} {z : LogV} (hM : St w0 F w L) (hs : ∀ e ∈ (zs.flatMap LogV.ents).map unflag, e ∈ L) (hz : z ∈ zs) : ∀ e ∈ z.ents, e.2.2.holds w.heap[e.1]? := fun e he =>
  hM.holds (unflag e) (hs _ (List.mem_map_of_mem (List.mem_flatMap.2 ⟨z, hz, he⟩)))
set_option maxHeartbeats 16000000 in
set_option maxRecDepth 100000 in
theorem dCut_any {zs : List LogV} (hA : At (dskE b f y.f s zs.length :: (logL s (zs.map LogV.val) ++ (fsL y γ D.base ++ zs.flatMap LogV.ents))) w0) (hk : SlOK s zs.length (zs.map LogV.val) 1) (hz : zs.map (·.1) = D.log) {K0 : Nat} (hB : Ol.FInv K0 D.base) (hKN : K0 + 3 * D.log.length ≤ 30000) (hok : ∀ l ∈ D.log, Ol.LogOk l) (hX : Mx w0) (h0 : 0 ∉ keysOf (dskE b f y.f s zs.length :: (logL s (zs.map LogV.val) ++ (fsL y γ D.base ++ zs.flatMap LogV.ents)))) (keep : Int) :
    Calls Tryz.prog 30 #[.pointer (some ⟨b, 0, none⟩), .int .i64 keep] w0 fun e w' => e = .returned (.int .i64 0) ∧ ∃ x1 β1 x2 β2, St w0 [b] w' (dskE b (FsX.f x1) (FsX.f x2) none 0 :: (fsL x1 β1 (Ol.cutFs D keep) ++ fsL x2 β2 (Ol.cutFs D keep))) := by
  have hY : FsAt K0 y γ D.base w0 := ⟨hA.sub (((List.sublist_append_left _ _).trans (List.sublist_append_right _ _)).cons _), hB.inv, hX, keys_sub (((List.sublist_append_left _ _).trans (List.sublist_append_right _ _)).cons _) h0⟩
  have hM := hA.stB
  have HY := Lib.hid hY
  have HX := Lib.hid hX
  have F0 : 0 ∉ ([b] : List Nat) := fun h => h0 (by rcases List.mem_singleton.1 h with rfl; exact .head _)
  have HB := Lib.hid hB
  have HOK := Lib.hid hok
  have HZ := Lib.hid hz
  have HK := Lib.hid hk
  have hlog : zs.length = D.log.length := by rw [← hz, List.length_map]
  have hln : zs.length ≤ 10000 := by omega
  obtain ⟨kk, hkk⟩ : ∃ kk : Nat, max 0 (min keep (zs.length : Int)) = (kk : Int) := ⟨(max 0 (min keep (zs.length : Int))).toNat, by omega⟩
  have hC : Ol.cutFs D keep = Ol.empties (Ol.exits (Ol.replay D.base (D.log.take kk))) := by
    unfold Ol.cutFs
    rw [← hlog, hkk, Int.toNat_natCast]
  rw [hC]
  have hkl : kk ≤ zs.length := by omega
  obtain ⟨va, vc, hv, hva⟩ := slV_open hk
  have hvc : (kk : Int) ≤ (vc : Int) := by
    rcases s with _ | ⟨g, cap⟩
    · have := hk.2; omega
    · obtain ⟨-, rfl⟩ := hva g cap rfl
      have := hk.2.1
      omega
  have HLG := Lib.hid hlog
  clear hA hY hX hB hok hz hk h0 hC hlog
  unfold dskE at hM
  rw [hv] at hM
  rw [List.map_append, List.map_append] at hM
  go_enter Tryz.func30, Tryz.ntmps30
  (repeat (first | ((with_reducible show wpSeq _ _ _ _ _ _ _); first | ((with_reducible refine wpSeq_nil ?_); refine hKr.out _ _ ?_; clear hKr Kr) | (((refine St.copy (v := ?_) (by first | exact .inl rfl | exact .inr rfl) rfl rfl ?_ ?_; rotate_left; (focus ((try simp only [Act.eval, getD_lit, qGz, qGs]); with_reducible rfl)))); (try simp only [Act.put, qSa, qSz, qSs]))) | (first | (refine wp_seq_shut (fun K hK => ?_)) | (refine wp_text hM (fun Kr hKr => ?_); simp only [inText]) | ((refine hK.out _ _ ?_); clear hK K))))
  ((refine St.call rfl rfl rfl (by kernel_rfl) (fun R hR => ?_); simp only [List.map_toArray, List.map_cons, List.map_nil, Act.eval, getD_lit, qGz, qGs]))
  refine (dgiven_any (f := f) (g := y.f) (s := s) (n := zs.length) (by
    have := hM.holds _ (.head _)
    unfold dskE
    rw [hv]
    exact this)).mono ?_
  rintro e w' ⟨rfl, rfl⟩; refine hR.out _ _ (fun h => h) ?_; clear hR R; (try simp only [Act.put, qSa, qSz, qSs])
  (repeat (first | ((with_reducible show wpSeq _ _ _ _ _ _ _); first | ((with_reducible refine wpSeq_nil ?_); refine hKr.out _ _ ?_; clear hKr Kr) | ((first | (refine St.copy (v := ?_) (by exact .inl rfl) rfl rfl ?_ ?_; rotate_left; (focus ((try simp only [Act.eval, getD_lit, qGz, qGs]); with_reducible rfl))) | (refine St.pure (v := ?_) rfl rfl rfl (fun w => ?_) ?_; rotate_left; (focus (go_simp; all_goals with_reducible rfl))) | refine St.load rfl hM rfl rfl rfl rfl (by repeat constructor) (by rfl) (by kernel_rfl) ?_); (try simp only [Act.put, qSa, qSz, qSs]))) | (first | (refine wp_seq_shut (fun K hK => ?_)) | (refine wp_text hM (fun Kr hKr => ?_); simp only [inText]) | refine wp_skip ?_ | (refine wp_cond_false rfl ?_) | ((refine hK.out _ _ ?_); clear hK K))))
  ((refine St.call rfl rfl rfl (by kernel_rfl) (fun R hR => ?_); simp only [List.map_toArray, List.map_cons, List.map_nil, Act.eval, getD_lit, qGz, qGs]))
  refine (fClone_any HY.out (by omega)).mono ?_
  rintro e w' ⟨x1, β1, rfl, hN2⟩
  replace hM := hM.madeM hN2 (fsL_flag _ _ _)
  (refine hR.out _ _ (fun _ => ⟨hM.only, nofun⟩) ?_); clear hR R hN2
  replace hM := hM.perm (List.perm_middle)
  (try simp only [Act.put, qSa, qSz, qSs])
  (repeat (first | ((with_reducible show wpSeq _ _ _ _ _ _ _); first | ((with_reducible refine wpSeq_nil ?_); refine hKr.out _ _ ?_; clear hKr Kr) | ((first | (refine St.copy (v := ?_) (by first | exact .inl rfl | exact .inr rfl) rfl rfl ?_ ?_; rotate_left; (focus ((try simp only [Act.eval, getD_lit, qGz, qGs]); with_reducible rfl))) | (refine St.pure (v := ?_) rfl rfl rfl (fun w => ?_) ?_; rotate_left; (focus (go_simp; all_goals with_reducible rfl))) | refine St.load1 rfl rfl rfl rfl (by repeat constructor) (by rfl) (by kernel_rfl) ?_); (try simp only [Act.put, qSa, qSz, qSs]))) | (first | (refine wp_seq_shut (fun K hK => ?_)) | refine wp_block ?_ | ((refine hK.out _ _ ?_); clear hK K)) | ((refine wp_drawn (id := 4) hM (Sub.all _) [3, 8] [(0, 0), (1, 0), (2, 0), (3, 1), (4, 0), (5, 0), (6, 0), (7, 0), (8, 1), (9, 0), (10, 0), (11, 0), (12, 0), (13, 0), (14, 2)] (by kernel_rfl) (by kernel_rfl) ?_); (clear hM; intro w hM Kr hKr); simp only [opsOf, qGz, qGs])))
  have RE : ∀ e ∈ (zs.flatMap LogV.ents).map unflag, e ∈ List.map unflag (logL s (List.map LogV.val zs)) ++ (List.map unflag (fsL y γ D.base) ++ List.map unflag (List.flatMap LogV.ents zs)) := fun e he => List.mem_append_right _ (List.mem_append_right _ he)
  have RG : ∀ g cap, s = some (g, cap) → (g, false, Res.pre (zs.map LogV.val) 138 (cap * 1)) ∈ List.map unflag (logL s (List.map LogV.val zs)) ++ (List.map unflag (fsL y γ D.base) ++ List.map unflag (List.flatMap LogV.ents zs)) := fun g cap hs => by
    subst hs
    exact List.mem_append_left _ (.head _)
  generalize List.map unflag (logL s (List.map LogV.val zs)) ++ (List.map unflag (fsL y γ D.base) ++ List.map unflag (List.flatMap LogV.ents zs)) = RR at *
  have HRE := Lib.hid RE
  have HRG := Lib.hid RG
  clear RE RG
  go_loopw [32] (fun i wr => ∃ (k : Nat) (β' : Int → Nat × Nat) (dk : FsD), k ≤ kk ∧ i = .int .i64 k ∧ Ol.replay D.base (D.log.take k) = dk ∧ Ol.FInv (K0 + 3 * k) dk ∧ St w0 [b] wr ((b, true, .cells [.pointer (some ⟨f, 0, none⟩), .pointer (some ⟨y.f, 0, none⟩), .slice va zs.length vc] 81) :: (fsL x1 β' dk ++ RR))) (fun i _ => kk - (intOf i).toNat)
  case atStart => exact ⟨0, β1, D.base, by omega, rfl, rfl, HB.out, hM⟩
  case round =>
    clear hM
    obtain ⟨k, β1, dk, hk, rfl, hdk, hfi, hM⟩ := hrel
    have HDK := Lib.hid hdk
    have HFK := Lib.hid hfi
    clear hdk hfi
    by_cases hlt : k < kk
    · obtain ⟨z, hzk⟩ := get_at (xs := zs) (k := k) (by omega)
      rcases hs : s with _ | ⟨g, cap⟩
      · have := HK.out
        rw [hs] at this
        exact absurd this.2 (by omega)
      obtain ⟨rfl, rfl⟩ := hva g cap hs
      have hmem := HRG.out g vc hs
      have hzm := List.mem_of_getElem? hzk
      have hvk : ((zs.map LogV.val).drop k).take 1 = [z.val] := by
        have h1 : (zs.map LogV.val)[k]? = some z.val := by rw [List.getElem?_map, hzk]; rfl
        obtain ⟨h2, h3⟩ := List.getElem?_eq_some_iff.1 h1
        rw [List.drop_eq_getElem_cons h2, h3]
        rfl
      have hlk : D.log[k]? = some z.1 := by rw [← HZ.out, List.getElem?_map, hzk]; rfl
      have HST := Lib.hid ((log_step hlk D.base).trans (congrArg (fun q => Ol.again q z.1) HDK.out))
      have hlok := HOK.out z.1 (List.mem_of_getElem? hlk)
      have hKk : K0 + 3 * k + 3 ≤ 30000 := by have := HLG.out; omega
      have HFN := Lib.hid (Ol.finv_again HFK.out (by omega) hlok)
      have hlen : k + 1 ≤ (zs.map LogV.val).length := by rw [List.length_map]; omega
      have k1 : (k : Int) < (kk : Int) := by omega
      clear hzk hlk hs hlt
      (repeat (first | ((with_reducible show wpSeq _ _ _ _ _ _ _); first | ((with_reducible refine wpSeq_nil ?_); refine hKr.out _ _ ?_; clear hKr Kr) | (((refine St.pure (v := ?_) rfl rfl rfl (fun w => ?_) ?_; rotate_left; (focus (go_simp; all_goals with_reducible rfl)))); (try simp only [Act.put, qSa, qSz, qSs]))) | (first | (refine wp_seq_shut (fun K hK => ?_)) | (refine wp_text hM (fun Kr hKr => ?_); simp only [inText]) | refine wp_block ?_ | refine wp_skip ?_ | (refine wp_cond_true rfl ?_) | ((refine hK.out _ _ ?_); clear hK K))))
      refine St.loadRow rfl hM rfl rfl rfl rfl (.tail _ (List.mem_append_right _ hmem)) (by exact hlen) (by kernel_rfl) ?_
      simp only [Res.known]
      rw [hvk]
      obtain ⟨⟨o, _ | p⟩, ob, qb⟩ := z
      · have HH : ∀ w L, St w0 [b] w L → (∀ e ∈ RR, e ∈ L) → (Res.cells [.int .i64 o] 3).holds w.heap[ob]? := fun w L hM hs => ents_holds (z := ((o, none), ob, qb)) hM (fun e he => hs e (HRE.out e he)) hzm (ob, true, .cells [.int .i64 o] 3) (.head _)
        simp only [LogV.val]
        (try simp only [Act.put, qSa, qSz, qSs])
        (repeat (first | ((with_reducible show wpSeq _ _ _ _ _ _ _); first | ((with_reducible refine wpSeq_nil ?_); refine hKr.out _ _ ?_; clear hKr Kr) | ((first | (refine St.copy (v := ?_) (by exact .inl rfl) rfl rfl ?_ ?_; rotate_left; (focus ((try simp only [Act.eval, getD_lit, qGz, qGs]); with_reducible rfl))) | (refine St.pure (v := ?_) rfl rfl rfl (fun w => ?_) ?_; rotate_left; (focus (go_simp; all_goals with_reducible rfl))) | refine St.load rfl hM rfl rfl rfl rfl (by repeat constructor) (by rfl) (by kernel_rfl) ?_ | ((((refine St.storeRow rfl hM rfl rfl rfl rfl rfl (by repeat constructor) (Nat.le_of_ble_eq_true rfl) (Nat.le_of_ble_eq_true rfl) (by kernel_rfl) rfl ?_ ?_); (focus ((intro h; cases h; done))); clear hM; intro w hM)); (try simp only [Res.put, Res.known, Act.eval, Value.cells, getD_lit, qGz, qGs, List.toList_toArray, qSz, qSs, over, Nat.reduceAdd] at hM))); (try simp only [Act.put, qSa, qSz, qSs])) | (((refine St.alloc (ty := 138) (z := .agg #[.nilFunc]) rfl hM rfl rfl (by kernel_rfl) ?_); clear hM; intro w bk hM); (try simp only [Res.put, Res.known, Act.eval, Value.cells, getD_lit, qGz, qGs, List.toList_toArray, qSz, qSs, over, Nat.reduceAdd] at hM); (try simp only [Act.put, qSa, qSz, qSs]))) | (first | (refine wp_text hM (fun Kr hKr => ?_); simp only [inText]) | ((refine hK.out _ _ ?_); clear hK K))))
        (refine St.callv rfl rfl rfl rfl (by kernel_rfl) (fun R hR => ?_); simp only [List.map_toArray, List.map_cons, List.map_nil, Act.eval, getD_lit, qGz, qGs, Array.append_empty, Array.empty_append])
        refine (again_exit (hM.fs (x := x1) (β := β1) (d := dk) (.skip (.skip .here)) HFK.out.inv HX.out F0) (by omega) hlok.1 (HH _ _ hM (fun e he => .tail _ (.tail _ (List.mem_append_right _ he))))).mono ?_
        rintro e w' ⟨rfl, β2, hN2⟩
        replace hM := hM.backM (M := fsL x1 β1 dk) (.skip (.skip .here)) (fsL_flag _ _ _) hN2 (fsL_flag _ _ _)
        (refine hR.out _ _ (fun _ => ⟨hM.only, nofun⟩) ?_); clear hR R hN2
        (try simp only [Act.put, qSa, qSz, qSs])
        (repeat (first | ((with_reducible show wpSeq _ _ _ _ _ _ _); first | ((with_reducible refine wpSeq_nil ?_); refine hKr.out _ _ ?_; clear hKr Kr) | ((first | (refine St.copy (v := ?_) (by exact .inl rfl) rfl rfl ?_ ?_; rotate_left; (focus ((try simp only [Act.eval, getD_lit, qGz, qGs]); with_reducible rfl))) | refine St.inc rfl rfl rfl rfl rfl (by omega) ?_); (try simp only [Act.put, qSa, qSz, qSs]))) | (first | (refine wp_text hM (fun Kr hKr => ?_); simp only [inText]) | ((refine hK.out _ _ ?_); clear hK K))))
        replace hM := hM.forget
        simp only [Exit.then]
        (refine ⟨?_, ?_⟩; (focus (repeat (first | exact ⟨⟨k + 1, β2, _, by omega, rfl, HST.out, HFN.out, hM⟩, rfl⟩ | apply Exists.intro))); (simp only [getD_lit, qGz, qGs, intOf]; omega))
      · have HH1 : ∀ w L, St w0 [b] w L → (∀ e ∈ RR, e ∈ L) → (Res.cells [.int .i64 o] 3).holds w.heap[ob]? := fun w L hM hs => ents_holds (z := ((o, some p), ob, qb)) hM (fun e he => hs e (HRE.out e he)) hzm (ob, true, .cells [.int .i64 o] 3) (.head _)
        have HH2 : ∀ w L, St w0 [b] w L → (∀ e ∈ RR, e ∈ L) → (Res.cells p.cells 34).holds w.heap[qb]? := fun w L hM hs => ents_holds (z := ((o, some p), ob, qb)) hM (fun e he => hs e (HRE.out e he)) hzm (qb, true, .cells p.cells 34) (.tail _ (.head _))
        simp only [LogV.val]
        (try simp only [Act.put, qSa, qSz, qSs])
        (repeat (first | ((with_reducible show wpSeq _ _ _ _ _ _ _); first | ((with_reducible refine wpSeq_nil ?_); refine hKr.out _ _ ?_; clear hKr Kr) | ((first | (refine St.copy (v := ?_) (by exact .inl rfl) rfl rfl ?_ ?_; rotate_left; (focus ((try simp only [Act.eval, getD_lit, qGz, qGs]); with_reducible rfl))) | (refine St.pure (v := ?_) rfl rfl rfl (fun w => ?_) ?_; rotate_left; (focus (go_simp; all_goals with_reducible rfl))) | refine St.load rfl hM rfl rfl rfl rfl (by repeat constructor) (by rfl) (by kernel_rfl) ?_ | ((((refine St.storeRow rfl hM rfl rfl rfl rfl rfl (by repeat constructor) (Nat.le_of_ble_eq_true rfl) (Nat.le_of_ble_eq_true rfl) (by kernel_rfl) rfl ?_ ?_); (focus ((intro h; cases h; done))); clear hM; intro w hM)); (try simp only [Res.put, Res.known, Act.eval, Value.cells, getD_lit, qGz, qGs, List.toList_toArray, qSz, qSs, over, Nat.reduceAdd] at hM))); (try simp only [Act.put, qSa, qSz, qSs])) | (((refine St.alloc (ty := 138) (z := .agg #[.nilFunc]) rfl hM rfl rfl (by kernel_rfl) ?_); clear hM; intro w bk hM); (try simp only [Res.put, Res.known, Act.eval, Value.cells, getD_lit, qGz, qGs, List.toList_toArray, qSz, qSs, over, Nat.reduceAdd] at hM); (try simp only [Act.put, qSa, qSz, qSs]))) | (first | (refine wp_text hM (fun Kr hKr => ?_); simp only [inText]) | ((refine hK.out _ _ ?_); clear hK K))))
        (refine St.callv rfl rfl rfl rfl (by kernel_rfl) (fun R hR => ?_); simp only [List.map_toArray, List.map_cons, List.map_nil, Act.eval, getD_lit, qGz, qGs, Array.append_empty, Array.empty_append])
        refine (again_do (hM.fs (x := x1) (β := β1) (d := dk) (.skip (.skip .here)) HFK.out.inv HX.out F0) (by omega) hlok.1 (hlok.2 p rfl) (HH1 _ _ hM (fun e he => .tail _ (.tail _ (List.mem_append_right _ he)))) (HH2 _ _ hM (fun e he => .tail _ (.tail _ (List.mem_append_right _ he))))).mono ?_
        rintro e w' ⟨rfl, β2, hN2⟩
        replace hM := hM.backM (M := fsL x1 β1 dk) (.skip (.skip .here)) (fsL_flag _ _ _) hN2 (fsL_flag _ _ _)
        (refine hR.out _ _ (fun _ => ⟨hM.only, nofun⟩) ?_); clear hR R hN2
        (try simp only [Act.put, qSa, qSz, qSs])
        (repeat (first | ((with_reducible show wpSeq _ _ _ _ _ _ _); first | ((with_reducible refine wpSeq_nil ?_); refine hKr.out _ _ ?_; clear hKr Kr) | ((first | (refine St.copy (v := ?_) (by exact .inl rfl) rfl rfl ?_ ?_; rotate_left; (focus ((try simp only [Act.eval, getD_lit, qGz, qGs]); with_reducible rfl))) | refine St.inc rfl rfl rfl rfl rfl (by omega) ?_); (try simp only [Act.put, qSa, qSz, qSs]))) | (first | (refine wp_text hM (fun Kr hKr => ?_); simp only [inText]) | ((refine hK.out _ _ ?_); clear hK K))))
        replace hM := hM.forget
        simp only [Exit.then]
        (refine ⟨?_, ?_⟩; (focus (repeat (first | exact ⟨⟨k + 1, β2, _, by omega, rfl, HST.out, HFN.out, hM⟩, rfl⟩ | apply Exists.intro))); (simp only [getD_lit, qGz, qGs, intOf]; omega))
    · have k0 : ¬ ((k : Int) < (kk : Int)) := by omega
      obtain rfl : k = kk := by omega
      clear hlt hk
      (repeat (first | ((with_reducible show wpSeq _ _ _ _ _ _ _); first | ((with_reducible refine wpSeq_nil ?_); refine hKr.out _ _ ?_; clear hKr Kr) | ((first | (refine St.copy (v := ?_) (by exact .inl rfl) rfl rfl ?_ ?_; rotate_left; (focus ((try simp only [Act.eval, getD_lit, qGz, qGs]); with_reducible rfl))) | (refine St.pure (v := ?_) rfl rfl rfl (fun w => ?_) ?_; rotate_left; (focus (go_simp; all_goals with_reducible rfl)))); (try simp only [Act.put, qSa, qSz, qSs]))) | (first | (refine wp_seq_shut (fun K hK => ?_)) | (refine wp_text hM (fun Kr hKr => ?_); simp only [inText]) | (refine wp_cond_false rfl ?_) | (refine wp_exit ?_; simp only [Exit.then, Exit.inBlock, if_true, if_false, reduceCtorEq, Nat.reduceEqDiff, Nat.succ_ne_zero]) | ((first | refine hK.out _ _ ?_ | (clear hK K; refine hK.out _ _ ?_)); clear hK K))))
      ((refine St.call rfl rfl rfl (by kernel_rfl) (fun R hR => ?_); simp only [List.map_toArray, List.map_cons, List.map_nil, Act.eval, getD_lit, qGz, qGs]))
      refine (fOwners_any (hM.fs (x := x1) (β := β1) (d := dk) (.skip .here) HFK.out.inv HX.out F0) (by omega)).mono ?_
      rintro e w' ⟨s2, rfl, hk2, hN2⟩
      replace hM := hM.madeM hN2 (slL_flag _ _ _ _)
      (refine hR.out _ _ (fun _ => ⟨hM.only, nofun⟩) ?_); clear hR R hN2
      have hol : (Fs.owners dk).length ≤ 30000 := by
        have := HFK.out.inv.len
        unfold Fs.owners
        rw [List.length_map]
        have := HLG.out
        omega
      have HOF := Lib.hid (Ol.owners_fit HFK.out)
      have hex : Ol.exits dk = (Fs.owners dk).foldl Fs.exit dk := rfl
      have HEX := Lib.hid hex
      have HFK' := Lib.hid (HFK.out.more (M := 30000) (by have := HLG.out; omega))
      obtain ⟨v2, c2, hv2, hva2⟩ := slV_open hk2
      have HK2 := Lib.hid hk2
      rw [hv2]
      generalize Fs.owners dk = os at *
      clear hex hk2 hkk hvc
      (try simp only [Act.put, qSa, qSz, qSs])
      (repeat (first | ((with_reducible show wpSeq _ _ _ _ _ _ _); first | ((with_reducible refine wpSeq_nil ?_); refine hKr.out _ _ ?_; clear hKr Kr) | ((first | (refine St.copy (v := ?_) (by exact .inl rfl) rfl rfl ?_ ?_; rotate_left; (focus ((try simp only [Act.eval, getD_lit, qGz, qGs]); with_reducible rfl))) | (refine St.pure (v := ?_) rfl rfl rfl (fun w => ?_) ?_; rotate_left; (focus (go_simp; all_goals with_reducible rfl)))); (try simp only [Act.put, qSa, qSz, qSs]))) | (first | refine wp_block ?_ | ((refine hK.out _ _ ?_); clear hK K))))
      go_loopw [9, 44] (fun _ i wr => ∃ (j : Nat) (β' : Int → Nat × Nat) (dj : FsD), j ≤ os.length ∧ i = .int .i64 j ∧ (os.take j).foldl Fs.exit dk = dj ∧ Ol.FInv 30000 dj ∧ St w0 [b] wr (slL s2 (os.map (Value.int .i64)) 3 1 ++ ((b, true, .cells [.pointer (some ⟨f, 0, none⟩), .pointer (some ⟨y.f, 0, none⟩), .slice va zs.length vc] 81) :: (fsL x1 β' dj ++ RR)))) (fun _ i _ => os.length - (intOf i).toNat)
      case atStart => exact ⟨0, β1, dk, by omega, rfl, rfl, HFK'.out, hM⟩
      case round =>
        clear hM
        obtain ⟨j, β2, dj, hj, rfl, hdj, hfj, hM⟩ := hrel
        have HDJ := Lib.hid hdj
        have HFJ := Lib.hid hfj
        clear hdj hfj
        by_cases hlt : j < os.length
        · obtain ⟨o, ho⟩ := get_at hlt
          rcases hs2 : s2 with _ | ⟨g2, cap2⟩
          · have := HK2.out
            rw [hs2] at this
            exact absurd this.2 (by omega)
          obtain ⟨rfl, rfl⟩ := hva2 g2 cap2 hs2
          have hof := HOF.out o (List.mem_of_getElem? ho)
          have HST := Lib.hid ((own_step ho dk).trans (congrArg (fun q => Fs.exit q o) HDJ.out))
          have HFN := Lib.hid (Ol.finv_exit HFJ.out hof)
          have hx' : (os.map (Value.int .i64))[j]? = some (.int .i64 o) := by rw [List.getElem?_map, ho]; rfl
          have j1 : (j : Int) < (os.length : Int) := by omega
          subst hs2
          clear ho hlt
          simp only [slL, List.cons_append, List.nil_append] at hM
          (repeat (first | ((with_reducible show wpSeq _ _ _ _ _ _ _); first | ((with_reducible refine wpSeq_nil ?_); refine hKr.out _ _ ?_; clear hKr Kr) | ((first | (refine St.copy (v := ?_) (by first | exact .inl rfl | exact .inr rfl) rfl rfl ?_ ?_; rotate_left; (focus ((try simp only [Act.eval, getD_lit, qGz, qGs]); with_reducible rfl))) | (refine St.pure (v := ?_) rfl rfl rfl (fun w => ?_) ?_; rotate_left; (focus (go_simp; all_goals with_reducible rfl))) | refine St.load rfl hM rfl rfl rfl rfl (by repeat constructor) (by assumption) (by kernel_rfl) ?_); (try simp only [Act.put, qSa, qSz, qSs]))) | (first | (refine wp_seq_shut (fun K hK => ?_)) | (refine wp_text hM (fun Kr hKr => ?_); simp only [inText]) | refine wp_block ?_ | refine wp_skip ?_ | (refine wp_cond_true rfl ?_) | ((refine hK.out _ _ ?_); clear hK K))))
          ((refine St.call rfl rfl rfl (by kernel_rfl) (fun R hR => ?_); simp only [List.map_toArray, List.map_cons, List.map_nil, Act.eval, getD_lit, qGz, qGs]))
          refine (fExit_any (hM.fs (x := x1) (β := β2) (d := dj) (.skip (.skip .here)) HFJ.out.inv HX.out F0) (by omega) hof).mono ?_
          rintro e w' ⟨rfl, ⟨β3, hN2⟩, -⟩
          replace hM := hM.backM (M := fsL x1 β2 dj) (.skip (.skip .here)) (fsL_flag _ _ _) hN2 (fsL_flag _ _ _)
          (refine hR.out _ _ (fun _ => ⟨hM.only, nofun⟩) ?_); clear hR R hN2
          (try simp only [Act.put, qSa, qSz, qSs])
          (repeat (first | ((with_reducible show wpSeq _ _ _ _ _ _ _); first | ((with_reducible refine wpSeq_nil ?_); refine hKr.out _ _ ?_; clear hKr Kr) | ((first | (refine St.copy (v := ?_) (by exact .inl rfl) rfl rfl ?_ ?_; rotate_left; (focus ((try simp only [Act.eval, getD_lit, qGz, qGs]); with_reducible rfl))) | refine St.inc rfl rfl rfl rfl rfl (by omega) ?_); (try simp only [Act.put, qSa, qSz, qSs]))) | (first | (refine wp_text hM (fun Kr hKr => ?_); simp only [inText]) | ((refine hK.out _ _ ?_); clear hK K))))
          simp only [Exit.then]
          (refine ⟨?_, ?_⟩; (focus (repeat (first | exact ⟨⟨j + 1, β3, _, by omega, rfl, HST.out, HFN.out, hM⟩, rfl⟩ | apply Exists.intro))); (simp only [getD_lit, qGz, qGs, intOf]; omega))
        · have k0 : ¬ ((j : Int) < (os.length : Int)) := by omega
          obtain rfl : j = os.length := by omega
          have e := HDJ.out
          rw [List.take_length, ← HEX.out] at e
          rw [← e] at hM HFJ
          clear hlt hj e HDJ
          replace hM := hM.subM (List.sublist_append_right _ _)
          have HCF := Lib.hid (show Ol.exits (Ol.replay D.base (D.log.take k)) = Ol.exits dk by rw [HDK.out])
          clear HEX
          generalize Ol.exits dk = de at *
          (repeat (first | ((with_reducible show wpSeq _ _ _ _ _ _ _); first | ((with_reducible refine wpSeq_nil ?_); refine hKr.out _ _ ?_; clear hKr Kr) | ((first | (refine St.copy (v := ?_) (by exact .inl rfl) rfl rfl ?_ ?_; rotate_left; (focus ((try simp only [Act.eval, getD_lit, qGz, qGs]); with_reducible rfl))) | (refine St.pure (v := ?_) rfl rfl rfl (fun w => ?_) ?_; rotate_left; (focus (go_simp; all_goals with_reducible rfl)))); (try simp only [Act.put, qSa, qSz, qSs]))) | (first | (refine wp_seq_shut (fun K hK => ?_)) | (refine wp_text hM (fun Kr hKr => ?_); simp only [inText]) | (refine wp_cond_false rfl ?_) | (refine wp_exit ?_; simp only [Exit.then, Exit.inBlock, if_true, if_false, reduceCtorEq, Nat.reduceEqDiff, Nat.succ_ne_zero]) | ((first | refine hK.out _ _ ?_ | (clear hK K; refine hK.out _ _ ?_)); clear hK K))))
          ((refine St.call rfl rfl rfl (by kernel_rfl) (fun R hR => ?_); simp only [List.map_toArray, List.map_cons, List.map_nil, Act.eval, getD_lit, qGz, qGs]))
          refine (empties_any (hM.fs (x := x1) (β := β2) (d := de) (.skip .here) HFJ.out.inv HX.out F0) HFJ.out (by omega)).mono ?_
          rintro e w' ⟨rfl, β3, hN2⟩
          replace hM := hM.backM (M := fsL x1 β2 de) (.skip .here) (fsL_flag _ _ _) hN2 (fsL_flag _ _ _)
          (refine hR.out _ _ (fun _ => ⟨hM.only, nofun⟩) ?_); clear hR R hN2
          have HFE := Lib.hid (Ol.finv_empties HFJ.out)
          have HCE := Lib.hid (congrArg Ol.empties HCF.out)
          generalize Ol.empties de = dz at *
          (try simp only [Act.put, qSa, qSz, qSs])
          (repeat (first | ((with_reducible show wpSeq _ _ _ _ _ _ _); first | ((with_reducible refine wpSeq_nil ?_); refine hKr.out _ _ ?_; clear hKr Kr) | ((first | (refine St.copy (v := ?_) (by exact .inl rfl) rfl rfl ?_ ?_; rotate_left; (focus ((try simp only [Act.eval, getD_lit, qGz, qGs]); with_reducible rfl))) | (refine St.pure (v := ?_) rfl rfl rfl (fun w => ?_) ?_; rotate_left; (focus (go_simp; all_goals with_reducible rfl))) | ((((refine St.store rfl hM rfl rfl rfl rfl rfl (by repeat constructor) (Nat.le_of_ble_eq_true rfl) (by kernel_rfl) rfl ?_ ?_); (focus ((intro h; cases h; done))); clear hM; intro w hM)); (try simp only [Res.put, Res.known, Act.eval, Value.cells, getD_lit, qGz, qGs, List.toList_toArray, qSz, qSs, over, Nat.reduceAdd] at hM))); (try simp only [Act.put, qSa, qSz, qSs]))) | (first | (refine wp_seq_shut (fun K hK => ?_)) | (refine wp_text hM (fun Kr hKr => ?_); simp only [inText]) | ((refine hK.out _ _ ?_); clear hK K))))
          ((refine St.call rfl rfl rfl (by kernel_rfl) (fun R hR => ?_); simp only [List.map_toArray, List.map_cons, List.map_nil, Act.eval, getD_lit, qGz, qGs]))
          rw [← hv] at hM
          have hS : St w0 [b] w ((dskE b x1.f y.f s zs.length :: fsL x1 β3 dz) ++ RR) := hM
          have hS2 : St w0 [b] w (dskE b x1.f y.f s zs.length :: (fsL x1 β3 dz ++ RR)) := hM
          clear hM
          refine (syncs_any (hS2.fs (x := x1) (β := β3) (d := dz) (.skip .here) HFE.out.inv HX.out F0) (by omega) (hS.part .here)).mono ?_
          rintro e w' ⟨rfl, x2, β4, hN2⟩
          have hM := hS2.backM (M := [dskE b x1.f y.f s zs.length]) .one (flag_1 _ _) hN2 (fun y hy => by
            rcases List.mem_cons.1 hy with rfl | hy
            · rfl
            · exact fsL_flag _ _ _ y hy)
          (refine hR.out _ _ (fun _ => ⟨hM.only, nofun⟩) ?_); clear hR R hN2 hS hS2
          (try simp only [Act.put, qSa, qSz, qSs])
          (repeat (first | ((with_reducible show wpSeq _ _ _ _ _ _ _); first | ((with_reducible refine wpSeq_nil ?_); refine hKr.out _ _ ?_; clear hKr Kr) | (((refine St.copy (v := ?_) (by exact .inr rfl) rfl rfl ?_ ?_; rotate_left; (focus ((try simp only [Act.eval, getD_lit, qGz, qGs]); with_reducible rfl)))); (try simp only [Act.put, qSa, qSz, qSs]))) | (first | (refine wp_seq_shut (fun K hK => ?_)) | (refine wp_text hM (fun Kr hKr => ?_); simp only [inText]) | ((refine hK.out _ _ ?_); clear hK K))))
          ((refine wp_ret ?_; (try simp only [Exit.then, Exit.inBlock]); refine St.ret hM rfl (by repeat (first | exact Outs.nil | apply Outs.tmp rfl)) rfl ?_))
          refine ⟨rfl, x1, β3, x2, β4, ?_⟩
          rw [HCE.out]
          have hS3 : St w0 [b] w' ((dskE b x1.f x2.f none 0 :: fsL x2 β4 dz) ++ fsL x1 β3 dz) := hM.subM (List.Sublist.append_left (List.sublist_append_left _ _) _)
          exact hS3.perm (L' := dskE b x1.f x2.f none 0 :: (fsL x1 β3 dz ++ fsL x2 β4 dz)) (perm_by (by intro _ x; simp only [List.append_eq, List.count_append, List.count_cons, List.count_nil, List.cons_append, List.nil_append]; omega))
end
end Go.Proofs.YtcicjklhbnipcaaGreatDoor
namespace Go.Proofs.YtcicjklhbnipcaaGreatDoor
set_option linter.unusedVariables false
set_option linter.unusedSimpArgs false
open Go.RowKit Go.Maps
section
variable {w w' w0 : World} {F : List Nat} {L : List Ent}
/-- What is no disk, or one that New did not give. -/
def DBare (w : World) (p : Option Addr) : Prop := p = none ∨ ∃ f, p = some ⟨f, 0, none⟩ ∧ w.rangeAt f 0 [.pointer none, .pointer none, .slice none 0 0]
theorem DBare.below {p : Option Addr} (h : DBare w p) (hb : Below w.heap.size w w') : DBare w' p := by
  rcases h with h | ⟨f, h, hc⟩
  · exact .inl h
  · refine .inr ⟨f, h, fun j v hj => ?_⟩
    have := hc j v hj
    exact (hb.cell (p := ⟨f, 0 + j, none⟩) (World.block_lt_of_cell? w _ this)).trans this
end
end Go.Proofs.YtcicjklhbnipcaaGreatDoor
namespace Go.Proofs.YtcicjklhbnipcaaGreatDoor
set_option linter.unusedVariables false
set_option linter.unusedSimpArgs false
open Go.RowKit Go.Maps
namespace Aw10
def o1 : OpD := ⟨3, ⟨#[97]⟩, ⟨#[]⟩, 0, 0, 0, ⟨#[]⟩, 0, 0⟩
def o2 : OpD := ⟨14, ⟨#[]⟩, ⟨#[]⟩, 0, 0, 0, ⟨#[]⟩, 0, 0⟩
def o3 : OpD := ⟨7, ⟨#[]⟩, ⟨#[]⟩, 1, 0, 0, ⟨#[120]⟩, 0, 0⟩
def o4 : OpD := ⟨1, ⟨#[100]⟩, ⟨#[]⟩, 0, 0, 0, ⟨#[]⟩, 0, 0⟩
def o5 : OpD := ⟨6, ⟨#[]⟩, ⟨#[]⟩, 1, 0, 1, ⟨#[]⟩, 0, 0⟩
def s1 : FsD := ⟨⟨4096, 128, 2, [⟨1, true, 1, 0, ⟨#[]⟩, [(⟨#[97]⟩, 2)]⟩, ⟨2, false, 1, 1, ⟨#[]⟩, []⟩]⟩, [(1, [0, 2, 0, 0, 0, 0, 0, 0, 0])]⟩
def s3 : FsD := ⟨⟨4096, 129, 2, [⟨1, true, 1, 0, ⟨#[]⟩, [(⟨#[97]⟩, 2)]⟩, ⟨2, false, 1, 1, ⟨#[120]⟩, []⟩]⟩, [(1, [0, 2, 0, 0, 0, 0, 0, 0, 0])]⟩
def s4 : FsD := ⟨⟨4096, 193, 3, [⟨1, true, 1, 0, ⟨#[]⟩, [(⟨#[97]⟩, 2), (⟨#[100]⟩, 3)]⟩, ⟨2, false, 1, 1, ⟨#[120]⟩, []⟩, ⟨3, true, 1, 0, ⟨#[]⟩, []⟩]⟩, [(1, [0, 2, 0, 0, 0, 0, 0, 0, 0])]⟩
def s5 : FsD := ⟨⟨4096, 129, 2, [⟨1, true, 1, 0, ⟨#[]⟩, [(⟨#[97]⟩, 2)]⟩, ⟨2, false, 1, 0, ⟨#[120]⟩, []⟩]⟩, []⟩
def D1 : DskD := ⟨s1, Fs.new 4096, [(1, some o1)]⟩
def D2 : DskD := ⟨s1, s1, []⟩
def D3 : DskD := ⟨s3, s1, [(1, some o3)]⟩
def D4 : DskD := ⟨s4, s1, [(1, some o3), (1, some o4)]⟩
theorem f1 : Fs.do_ (Fs.new 4096) 1 o1 = (⟨0, 1, ⟨#[]⟩, []⟩, s1) := by kernel_rfl
theorem f3 : Fs.do_ s1 1 o3 = (⟨0, 0, ⟨#[]⟩, []⟩, s3) := by kernel_rfl
theorem f4 : Fs.do_ s3 1 o4 = (⟨0, 0, ⟨#[]⟩, []⟩, s4) := by kernel_rfl
theorem f5 : Fs.do_ s5 1 o5 = (⟨13, 0, ⟨#[]⟩, []⟩, s5) := by kernel_rfl
theorem d1 : Ol.do_ (Ol.new 4096) 1 o1 = (⟨0, 1, ⟨#[]⟩, []⟩, D1) := by
  unfold Ol.do_ Ol.doN Ol.new
  rw [if_neg (by decide), f1]
  rw [if_pos (by unfold Ol.logs; decide)]
  rfl
theorem d2 : Ol.do_ D1 1 o2 = (⟨0, 0, ⟨#[]⟩, []⟩, D2) := rfl
theorem d3 : Ol.do_ D2 1 o3 = (⟨0, 0, ⟨#[]⟩, []⟩, D3) := by
  unfold Ol.do_ Ol.doN D2
  rw [if_neg (by decide), f3]
  rw [if_pos (by unfold Ol.logs; decide)]
  rfl
theorem d4 : Ol.do_ D3 1 o4 = (⟨0, 0, ⟨#[]⟩, []⟩, D4) := by
  unfold Ol.do_ Ol.doN D3
  rw [if_neg (by decide), f4]
  rw [if_pos (by unfold Ol.logs; decide)]
  rfl
theorem e1 : Fs.files s5 = [⟨⟨#[97]⟩, false, ⟨#[120]⟩⟩] := by kernel_rfl
theorem e2 : Fs.files s4 = [⟨⟨#[97]⟩, false, ⟨#[120]⟩⟩, ⟨⟨#[100]⟩, true, ⟨#[]⟩⟩] := by kernel_rfl
end Aw10
theorem val_one (zs : List LogV) : (zs.map LogV.val).all (·.oneCell') = true := by
  rw [List.all_eq_true]
  intro v hv
  obtain ⟨z, -, rfl⟩ := List.mem_map.1 hv
  obtain ⟨⟨o, _ | p⟩, q⟩ := z <;> rfl
theorem log_sub {X : DskX} {β γ : Int → Nat × Nat} {D : DskD} : (logL X.s (X.zs.map LogV.val)).Sublist (dskL X β γ D) := by
  unfold dskL
  exact (((List.sublist_append_left _ _).trans (List.sublist_append_right _ _))).cons _
end Go.Proofs.YtcicjklhbnipcaaGreatDoor
namespace Go.Proofs.YtcicjklhbnipcaaGreatDoor
set_option linter.unusedVariables false
set_option linter.unusedSimpArgs false
open Go.RowKit Go.Maps
/-- Where a world lies. -/
structure WrlX where
  b : Nat
  P : PrcX
  X : DskX
def wrlE (b p d : Nat) : Ent := (b, true, .cells [.pointer (some ⟨p, 0, none⟩), .pointer (some ⟨d, 0, none⟩)] 105)
def wrlL (x : WrlX) (β γ : Int → Nat × Nat) (W : WrlD) : List Ent := wrlE x.b x.P.b x.X.b :: (prcL x.P W.p ++ dskL x.X β γ W.d)
structure WrlOk (x : WrlX) (W : WrlD) : Prop where
  dsk : DskOk x.X W.d
  prc : x.P.m = none → W.p.births = []
theorem wrlL_flag (x : WrlX) (β γ : Int → Nat × Nat) (W : WrlD) : flagged (wrlL x β γ W) := fun y hy => by
  unfold wrlL at hy
  rcases List.mem_cons.1 hy with rfl | hy
  · rfl
  rcases List.mem_append.1 hy with hy | hy
  · exact prcL_flag _ _ y hy
  · exact dskL_flag _ _ _ _ y hy
/-- A world that is right stands here. -/
structure WrlAt (N : Nat) (x : WrlX) (β γ : Int → Nat × Nat) (W : WrlD) (w : World) : Prop where
  at_ : At (wrlL x β γ W) w
  ok : WrlOk x W
  inv : Wd.Inv N W
  mx : Mx w
  zero : 0 ∉ keysOf (wrlL x β γ W)
/-- Since 'w' the world has become this one. -/
def WGoes (w : World) (x : WrlX) (β γ : Int → Nat × Nat) (W : WrlD) (w' : World) (W' : WrlD) : Prop := ∃ x' β' γ', WrlX.b x' = x.b ∧ WrlOk x' W' ∧ St w (keysOf (wrlL x β γ W)) w' (wrlL x' β' γ' W')
section
variable {N : Nat} {x : WrlX} {β γ : Int → Nat × Nat} {W : WrlD} {w w' w0 : World} {F : List Nat} {L L' M M' : List Ent} {b p d : Nat}
theorem St.wrl (hM : St w0 F w L) (hs : Part L (wrlL x β γ W)) (hk : WrlOk x W) (hI : Wd.Inv N W) (hm : Mx w0) (h0 : 0 ∉ F) : WrlAt N x β γ W w := by
  refine ⟨hM.part hs, hk, hI, hM.mx hm h0, fun h => ?_⟩
  obtain ⟨y, hy, e⟩ := List.mem_map.1 h
  obtain ⟨A, B, rfl⟩ := hs.split
  rcases hM.own y (by simp [hy]) (wrlL_flag x β γ W y hy) with h1 | h1
  · rw [e] at h1; exact h0 h1
  · have := hm.pos
    omega
theorem WrlAt.row (h : WrlAt N x β γ W w) : (wrlE x.b x.P.b x.X.b).2.2.holds w.heap[x.b]? := h.at_.has (wrlE x.b x.P.b x.X.b) (by unfold wrlL; exact .head _)
theorem wprc_sub : (prcL x.P W.p).Sublist (wrlL x β γ W) := by
  unfold wrlL
  exact (List.sublist_append_left _ _).cons _
theorem wdsk_sub : (dskL x.X β γ W.d).Sublist (wrlL x β γ W) := by
  unfold wrlL
  exact (List.sublist_append_right _ _).cons _
theorem WrlAt.prc (h : WrlAt N x β γ W w) : PrcAt x.P W.p w := ⟨h.at_.sub wprc_sub, h.ok.prc, h.inv.fit⟩
theorem WrlAt.dsk (h : WrlAt N x β γ W w) : DskAt N x.X β γ W.d w := ⟨h.at_.sub wdsk_sub, h.ok.dsk, h.inv.disk, h.mx, keys_sub wdsk_sub h.zero⟩
theorem WrlAt.below (h : WrlAt N x β γ W w) (hb : Below w.heap.size w w') : WrlAt N x β γ W w' := ⟨h.at_.below hb, h.ok, h.inv, h.mx.below hb, h.zero⟩
set_option maxHeartbeats 4000000 in
set_option maxRecDepth 100000 in
theorem wgiven_any (h : (wrlE b p d).2.2.holds w.heap[b]?) : Calls Tryz.prog 94 #[.pointer (some ⟨b, 0, none⟩)] w fun e w' => e = .returned (.bool true) ∧ w = w' := by
  have hM := St.one h
  clear h
  unfold wrlE at hM
  go_enter Tryz.func94, Tryz.ntmps94
  (repeat (first | ((with_reducible show wpSeq _ _ _ _ _ _ _); first | ((with_reducible refine wpSeq_nil ?_); refine hKr.out _ _ ?_; clear hKr Kr) | ((first | (refine St.copy (v := ?_) (by first | exact .inl rfl | exact .inr rfl) rfl rfl ?_ ?_; rotate_left; (focus ((try simp only [Act.eval, getD_lit, qGz, qGs]); with_reducible rfl))) | (refine St.pure (v := ?_) rfl rfl rfl (fun w => ?_) ?_; rotate_left; (focus (go_simp; all_goals with_reducible rfl))) | refine St.load rfl hM rfl rfl rfl rfl (by repeat constructor) (by rfl) (by kernel_rfl) ?_); (try simp only [Act.put, qSa, qSz, qSs]))) | (first | (refine wp_seq_shut (fun K hK => ?_)) | (refine wp_text hM (fun Kr hKr => ?_); simp only [inText]) | ((refine hK.out _ _ ?_); clear hK K))))
  (refine wp_ret ?_; (try simp only [Exit.then, Exit.inBlock]); refine St.ret hM rfl (by repeat (first | exact Outs.nil | apply Outs.tmp rfl)) rfl ?_)
  exact ⟨rfl, rfl⟩
set_option maxHeartbeats 4000000 in
set_option maxRecDepth 100000 in
theorem wNew_any (q : Int) (w : World) (hq : In.newE q = 0) (hX : Mx w) : Calls Tryz.prog 45 #[.int .i64 q] w fun e w' => ∃ x β γ, e = .returned (.tuple #[.pointer (some ⟨WrlX.b x, 0, none⟩), .int .i64 0]) ∧ WrlOk x (Wd.new q) ∧ St w [] w' (wrlL x β γ (Wd.new q)) := by
  have hM := St.start w []
  have HX := Lib.hid hX
  have F0 : 0 ∉ ([] : List Nat) := nofun
  have CN := Lib.hid (fun (W : World) (h : Mx W) => dNew_any q W hq h)
  clear hq hX
  go_enter Tryz.func45, Tryz.ntmps45
  (repeat (first | ((with_reducible show wpSeq _ _ _ _ _ _ _); first | ((with_reducible refine wpSeq_nil ?_); refine hKr.out _ _ ?_; clear hKr Kr) | (((refine St.copy (v := ?_) (by first | exact .inl rfl | exact .inr rfl) rfl rfl ?_ ?_; rotate_left; (focus ((try simp only [Act.eval, getD_lit, qGz, qGs]); with_reducible rfl)))); (try simp only [Act.put, qSa, qSz, qSs]))) | (first | (refine wp_seq_shut (fun K hK => ?_)) | (refine wp_text hM (fun Kr hKr => ?_); simp only [inText]) | ((refine hK.out _ _ ?_); clear hK K))))
  ((refine St.call rfl rfl rfl (by kernel_rfl) (fun R hR => ?_); simp only [List.map_toArray, List.map_cons, List.map_nil, Act.eval, getD_lit, qGz, qGs]))
  refine (CN.out _ (hM.mx HX.out F0)).mono ?_
  rintro e w' ⟨X, β, γ, rfl, hk, hN⟩
  replace hM := hM.madeM hN (dskL_flag _ _ _ _)
  refine hR.out _ _ (fun h => h.below hN.to_below) ?_; clear hR R hN
  (try simp only [Act.put, qSa, qSz, qSs])
  (repeat (first | ((with_reducible show wpSeq _ _ _ _ _ _ _); first | ((with_reducible refine wpSeq_nil ?_); refine hKr.out _ _ ?_; clear hKr Kr) | ((first | (refine St.copy (v := ?_) (by first | exact .inl rfl | exact .inr rfl) rfl rfl ?_ ?_; rotate_left; (focus ((try simp only [Act.eval, getD_lit, qGz, qGs]); with_reducible rfl))) | (refine St.pure (v := ?_) rfl rfl rfl (fun w => ?_) ?_; rotate_left; (focus (go_simp; all_goals with_reducible rfl))) | ((((refine St.box rfl hM rfl rfl rfl ?_); clear hM; intro w bk hM)); (try simp only [Res.put, Res.known, Act.eval, Value.cells, getD_lit, qGz, qGs, List.toList_toArray, qSz, qSs, over, Nat.reduceAdd] at hM))); (try simp only [Act.put, qSa, qSz, qSs]))) | (first | (refine wp_seq_shut (fun K hK => ?_)) | (refine wp_text hM (fun Kr hKr => ?_); simp only [inText]) | refine wp_skip ?_ | (refine wp_cond_false rfl ?_) | ((refine hK.out _ _ ?_); clear hK K))))
  ((refine wp_ret ?_; (try simp only [Exit.then, Exit.inBlock]); refine St.ret hM rfl (by repeat (first | exact Outs.nil | apply Outs.tmp rfl)) rfl ?_))
  rename_i w1 pb
  rw [List.append_nil] at hM
  exact ⟨⟨bk, ⟨pb, none⟩, X⟩, β, γ, rfl, ⟨hk, fun _ => rfl⟩, hM⟩
set_option maxHeartbeats 4000000 in
set_option maxRecDepth 100000 in
theorem wBirth_any (h : (wrlE b p d).2.2.holds w.heap[b]?) {P : PrcX} {t : PrcD} (hP : PrcAt P t w) (hp : P.b = p) {pid : Int} (hf : Fits pid) : Calls Tryz.prog 49 #[.pointer (some ⟨b, 0, none⟩), .int .i64 pid] w fun e w' => e = .returned (.tuple #[.int .i64 (Pc.birth t.births pid), .int .i64 (Pc.birthE t pid)]) ∧ Below w.heap.size w w' := by
  have hM := St.one h
  have HW := Lib.hid h
  have HP := Lib.hid hP
  subst hp
  clear h hP
  have C := Lib.hid (fun (W : World) (h : PrcAt P t W) => pBirth_any h hf)
  generalize Pc.birth t.births pid = B at *
  generalize Pc.birthE t pid = E at *
  unfold wrlE at hM
  go_enter Tryz.func49, Tryz.ntmps49
  (repeat (first | ((with_reducible show wpSeq _ _ _ _ _ _ _); first | ((with_reducible refine wpSeq_nil ?_); refine hKr.out _ _ ?_; clear hKr Kr) | (((refine St.copy (v := ?_) (by first | exact .inl rfl | exact .inr rfl) rfl rfl ?_ ?_; rotate_left; (focus ((try simp only [Act.eval, getD_lit, qGz, qGs]); with_reducible rfl)))); (try simp only [Act.put, qSa, qSz, qSs]))) | (first | (refine wp_seq_shut (fun K hK => ?_)) | (refine wp_text hM (fun Kr hKr => ?_); simp only [inText]) | ((refine hK.out _ _ ?_); clear hK K))))
  ((refine St.call rfl rfl rfl (by kernel_rfl) (fun R hR => ?_); simp only [List.map_toArray, List.map_cons, List.map_nil, Act.eval, getD_lit, qGz, qGs]))
  refine (wgiven_any (hM.only.holds HW.out)).mono ?_
  rintro e w' ⟨rfl, rfl⟩; refine hR.out _ _ (fun h => h) ?_; clear hR R; (try simp only [Act.put, qSa, qSz, qSs])
  (repeat (first | ((with_reducible show wpSeq _ _ _ _ _ _ _); first | ((with_reducible refine wpSeq_nil ?_); refine hKr.out _ _ ?_; clear hKr Kr) | ((first | (refine St.copy (v := ?_) (by exact .inl rfl) rfl rfl ?_ ?_; rotate_left; (focus ((try simp only [Act.eval, getD_lit, qGz, qGs]); with_reducible rfl))) | (refine St.pure (v := ?_) rfl rfl rfl (fun w => ?_) ?_; rotate_left; (focus (go_simp; all_goals with_reducible rfl))) | refine St.load rfl hM rfl rfl rfl rfl (by repeat constructor) (by rfl) (by kernel_rfl) ?_); (try simp only [Act.put, qSa, qSz, qSs]))) | (first | (refine wp_seq_shut (fun K hK => ?_)) | (refine wp_text hM (fun Kr hKr => ?_); simp only [inText]) | refine wp_skip ?_ | (refine wp_cond_false rfl ?_) | ((refine hK.out _ _ ?_); clear hK K))))
  ((refine St.call rfl rfl rfl (by kernel_rfl) (fun R hR => ?_); simp only [List.map_toArray, List.map_cons, List.map_nil, Act.eval, getD_lit, qGz, qGs]))
  refine (C.out _ (HP.out.below hM.to_below)).mono ?_
  rintro e w' ⟨rfl, hb⟩; replace hM := hM.below hb; (refine hR.out _ _ (fun _ => ⟨hM.only, nofun⟩) ?_); clear hR R hb; (try simp only [Act.put, qSa, qSz, qSs])
  (repeat (first | ((with_reducible show wpSeq _ _ _ _ _ _ _); first | ((with_reducible refine wpSeq_nil ?_); refine hKr.out _ _ ?_; clear hKr Kr) | ((first | (refine St.copy (v := ?_) (by exact .inr rfl) rfl rfl ?_ ?_; rotate_left; (focus ((try simp only [Act.eval, getD_lit, qGz, qGs]); with_reducible rfl))) | (refine St.pure (v := ?_) rfl rfl rfl (fun w => ?_) ?_; rotate_left; (focus (go_simp; all_goals with_reducible rfl)))); (try simp only [Act.put, qSa, qSz, qSs]))) | (((refine hK.out _ _ ?_); clear hK K))))
  (refine wp_ret ?_; (try simp only [Exit.then, Exit.inBlock]); refine St.ret hM rfl (by repeat (first | exact Outs.nil | apply Outs.tmp rfl)) rfl ?_)
  exact ⟨rfl, hM.to_below⟩
set_option maxHeartbeats 4000000 in
set_option maxRecDepth 100000 in
theorem wFiles_any (h : WrlAt N x β γ W w) (hN : N ≤ 1000000) : Calls Tryz.prog 48 #[.pointer (some ⟨x.b, 0, none⟩)] w (SomeFiles (Fs.files W.d.now) w) := by
  have hM := St.one h.row
  have HW := Lib.hid h
  unfold wrlE at hM
  go_enter Tryz.func48, Tryz.ntmps48
  (repeat (first | ((with_reducible show wpSeq _ _ _ _ _ _ _); first | ((with_reducible refine wpSeq_nil ?_); refine hKr.out _ _ ?_; clear hKr Kr) | (((refine St.copy (v := ?_) (by first | exact .inl rfl | exact .inr rfl) rfl rfl ?_ ?_; rotate_left; (focus ((try simp only [Act.eval, getD_lit, qGz, qGs]); with_reducible rfl)))); (try simp only [Act.put, qSa, qSz, qSs]))) | (first | (refine wp_seq_shut (fun K hK => ?_)) | (refine wp_text hM (fun Kr hKr => ?_); simp only [inText]) | ((refine hK.out _ _ ?_); clear hK K))))
  ((refine St.call rfl rfl rfl (by kernel_rfl) (fun R hR => ?_); simp only [List.map_toArray, List.map_cons, List.map_nil, Act.eval, getD_lit, qGz, qGs]))
  refine (wgiven_any (hM.only.holds HW.out.row)).mono ?_
  rintro e w' ⟨rfl, rfl⟩; refine hR.out _ _ (fun h => h) ?_; clear hR R; (try simp only [Act.put, qSa, qSz, qSs])
  (repeat (first | ((with_reducible show wpSeq _ _ _ _ _ _ _); first | ((with_reducible refine wpSeq_nil ?_); refine hKr.out _ _ ?_; clear hKr Kr) | ((first | (refine St.copy (v := ?_) (by exact .inl rfl) rfl rfl ?_ ?_; rotate_left; (focus ((try simp only [Act.eval, getD_lit, qGz, qGs]); with_reducible rfl))) | (refine St.pure (v := ?_) rfl rfl rfl (fun w => ?_) ?_; rotate_left; (focus (go_simp; all_goals with_reducible rfl))) | refine St.load rfl hM rfl rfl rfl rfl (by repeat constructor) (by rfl) (by kernel_rfl) ?_); (try simp only [Act.put, qSa, qSz, qSs]))) | (first | (refine wp_seq_shut (fun K hK => ?_)) | (refine wp_text hM (fun Kr hKr => ?_); simp only [inText]) | refine wp_skip ?_ | (refine wp_cond_false rfl ?_) | ((refine hK.out _ _ ?_); clear hK K))))
  ((refine St.call rfl rfl rfl (by kernel_rfl) (fun R hR => ?_); simp only [List.map_toArray, List.map_cons, List.map_nil, Act.eval, getD_lit, qGz, qGs]))
  have HD := (HW.out.below hM.to_below).dsk
  refine (dFiles_any HD.row HD.now HD.inv.now.up hN).mono ?_
  rintro e w' ⟨s1, rfl, hk, hN2⟩
  replace hM := hM.madeM hN2 (slL_flag _ _ _ _)
  refine hR.out _ _ (fun h => ⟨hM.only, nofun⟩) ?_; clear hR R hN2; (try simp only [Act.put, qSa, qSz, qSs])
  (repeat (first | ((with_reducible show wpSeq _ _ _ _ _ _ _); first | ((with_reducible refine wpSeq_nil ?_); refine hKr.out _ _ ?_; clear hKr Kr) | (((refine St.copy (v := ?_) (by exact .inr rfl) rfl rfl ?_ ?_; rotate_left; (focus ((try simp only [Act.eval, getD_lit, qGz, qGs]); with_reducible rfl)))); (try simp only [Act.put, qSa, qSz, qSs]))) | (((refine hK.out _ _ ?_); clear hK K))))
  ((refine wp_ret ?_; (try simp only [Exit.then, Exit.inBlock]); refine St.ret hM rfl (by repeat (first | exact Outs.nil | apply Outs.tmp rfl)) rfl ?_))
  exact ⟨s1, rfl, hk, St.front hM⟩
set_option maxHeartbeats 4000000 in
set_option maxRecDepth 100000 in
theorem wSpawn_any (h : WrlAt N x β γ W w) (hN : N ≤ 1000000000) {pid : Int} (hp : Fits pid) : Calls Tryz.prog 91 #[.pointer (some ⟨x.b, 0, none⟩), .int .i64 pid] w fun e w' => e = .returned (.tuple #[.int .i64 (Pc.spawn W.p pid).1.1, .int .i64 (Pc.spawn W.p pid).1.2]) ∧ WGoes w x β γ W w' (Wd.spawn W pid) := by
  have hM := h.at_.st
  unfold WGoes
  obtain ⟨F, hF⟩ : ∃ F, keysOf (wrlL x β γ W) = F := ⟨_, rfl⟩
  rw [hF] at hM ⊢
  have hl : W.p.last ≤ 1000000000 := by have := h.inv.last; omega
  have HK := Lib.hid h.ok
  have HT := Lib.hid h.inv.fit
  clear h hF
  have C := Lib.hid (fun (w1 : World) (h : PrcAt x.P W.p w1) => pSpawn_any h hl hp)
  unfold Wd.spawn
  generalize Pc.spawn W.p pid = r at *
  obtain ⟨⟨r1, r2⟩, t'⟩ := r
  simp only at C ⊢
  unfold wrlL wrlE at hM
  go_enter Tryz.func91, Tryz.ntmps91
  (repeat (first | ((with_reducible show wpSeq _ _ _ _ _ _ _); first | ((with_reducible refine wpSeq_nil ?_); refine hKr.out _ _ ?_; clear hKr Kr) | (((refine St.copy (v := ?_) (by first | exact .inl rfl | exact .inr rfl) rfl rfl ?_ ?_; rotate_left; (focus ((try simp only [Act.eval, getD_lit, qGz, qGs]); with_reducible rfl)))); (try simp only [Act.put, qSa, qSz, qSs]))) | (first | (refine wp_seq_shut (fun K hK => ?_)) | (refine wp_text hM (fun Kr hKr => ?_); simp only [inText]) | ((refine hK.out _ _ ?_); clear hK K))))
  ((refine St.call rfl rfl rfl (by kernel_rfl) (fun R hR => ?_); simp only [List.map_toArray, List.map_cons, List.map_nil, Act.eval, getD_lit, qGz, qGs]))
  refine (wgiven_any (hM.holds (wrlE x.b x.P.b x.X.b) (by repeat constructor))).mono ?_
  rintro e w' ⟨rfl, rfl⟩; refine hR.out _ _ (fun h => h) ?_; clear hR R; (try simp only [Act.put, qSa, qSz, qSs])
  (repeat (first | ((with_reducible show wpSeq _ _ _ _ _ _ _); first | ((with_reducible refine wpSeq_nil ?_); refine hKr.out _ _ ?_; clear hKr Kr) | ((first | (refine St.copy (v := ?_) (by exact .inl rfl) rfl rfl ?_ ?_; rotate_left; (focus ((try simp only [Act.eval, getD_lit, qGz, qGs]); with_reducible rfl))) | (refine St.pure (v := ?_) rfl rfl rfl (fun w => ?_) ?_; rotate_left; (focus (go_simp; all_goals with_reducible rfl))) | refine St.load rfl hM rfl rfl rfl rfl (by repeat constructor) (by rfl) (by kernel_rfl) ?_); (try simp only [Act.put, qSa, qSz, qSs]))) | (first | (refine wp_seq_shut (fun K hK => ?_)) | (refine wp_text hM (fun Kr hKr => ?_); simp only [inText]) | refine wp_skip ?_ | (refine wp_cond_false rfl ?_) | ((refine hK.out _ _ ?_); clear hK K))))
  ((refine St.call rfl rfl rfl (by kernel_rfl) (fun R hR => ?_); simp only [List.map_toArray, List.map_cons, List.map_nil, Act.eval, getD_lit, qGz, qGs]))
  refine (C.out _ ⟨hM.part (by repeat (first | exact Part.here | apply Part.skip)), HK.out.prc, HT.out⟩).mono ?_
  rintro e w' ⟨rfl, P', hb, hz, hN2⟩
  replace hM := hM.backM (by repeat (first | exact Swap.here | apply Swap.skip)) (prcL_flag _ _) hN2 (prcL_flag _ _)
  (refine hR.out _ _ (fun _ => ⟨hM.only, nofun⟩) ?_); clear hR R hN2 C
  (try simp only [Act.put, qSa, qSz, qSs])
  (repeat (first | ((with_reducible show wpSeq _ _ _ _ _ _ _); first | ((with_reducible refine wpSeq_nil ?_); refine hKr.out _ _ ?_; clear hKr Kr) | ((first | (refine St.copy (v := ?_) (by exact .inr rfl) rfl rfl ?_ ?_; rotate_left; (focus ((try simp only [Act.eval, getD_lit, qGz, qGs]); with_reducible rfl))) | (refine St.pure (v := ?_) rfl rfl rfl (fun w => ?_) ?_; rotate_left; (focus (go_simp; all_goals with_reducible rfl)))); (try simp only [Act.put, qSa, qSz, qSs]))) | (((refine hK.out _ _ ?_); clear hK K))))
  ((refine wp_ret ?_; (try simp only [Exit.then, Exit.inBlock]); refine St.ret hM rfl (by repeat (first | exact Outs.nil | apply Outs.tmp rfl)) rfl ?_))
  refine ⟨rfl, ⟨x.b, P', x.X⟩, β, γ, rfl, ⟨HK.out.dsk, hz⟩, ?_⟩
  show St _ F _ (wrlE x.b P'.b x.X.b :: _)
  rw [hb]
  exact hM
set_option maxHeartbeats 4000000 in
set_option maxRecDepth 100000 in
theorem wKill_any (h : WrlAt N x β γ W w) (hN : N ≤ 999999980) {pid : Int} (hp : Fits pid) : Calls Tryz.prog 93 #[.pointer (some ⟨x.b, 0, none⟩), .int .i64 pid] w fun e w' => e = .returned (.int .i64 (Wd.kill W pid).1) ∧ WGoes w x β γ W w' (Wd.kill W pid).2 := by
  have hM := h.at_.st
  unfold WGoes
  obtain ⟨F, hF⟩ : ∃ F, keysOf (wrlL x β γ W) = F := ⟨_, rfl⟩
  rw [hF] at hM ⊢
  have F0 : 0 ∉ F := hF ▸ h.zero
  have HK := Lib.hid h.ok
  have HT := Lib.hid h.inv
  have HX := Lib.hid h.mx
  have hbf := Wd.birth_fits h.inv hN pid
  clear h hF
  have C := Lib.hid (fun (w1 : World) (h : PrcAt x.P W.p w1) => fun h2 => wBirth_any (b := x.b) (d := x.X.b) h2 h rfl hp)
  have CK := Lib.hid (fun (w1 : World) (h : PrcAt x.P W.p w1) => pKill_any h hp)
  unfold Pc.birthE at C
  unfold Wd.kill
  unfold wrlL wrlE at hM
  by_cases h0 : Pc.birth W.p.births pid = 0
  · rw [if_pos h0] at C ⊢
    rw [h0] at C
    go_enter Tryz.func93, Tryz.ntmps93
    (repeat (first | ((with_reducible show wpSeq _ _ _ _ _ _ _); first | ((with_reducible refine wpSeq_nil ?_); refine hKr.out _ _ ?_; clear hKr Kr) | (((refine St.copy (v := ?_) (by first | exact .inl rfl | exact .inr rfl) rfl rfl ?_ ?_; rotate_left; (focus ((try simp only [Act.eval, getD_lit, qGz, qGs]); with_reducible rfl)))); (try simp only [Act.put, qSa, qSz, qSs]))) | (first | (refine wp_seq_shut (fun K hK => ?_)) | (refine wp_text hM (fun Kr hKr => ?_); simp only [inText]) | ((refine hK.out _ _ ?_); clear hK K))))
    ((refine St.call rfl rfl rfl (by kernel_rfl) (fun R hR => ?_); simp only [List.map_toArray, List.map_cons, List.map_nil, Act.eval, getD_lit, qGz, qGs]))
    refine (C.out _ ⟨hM.part (by repeat (first | exact Part.here | apply Part.skip)), HK.out.prc, HT.out.fit⟩ (hM.holds (wrlE x.b x.P.b x.X.b) (by repeat constructor))).mono ?_
    rintro e w' ⟨rfl, hb⟩; replace hM := hM.below hb; (refine hR.out _ _ (fun _ => ⟨hM.only, nofun⟩) ?_); clear hR R hb; (try simp only [Act.put, qSa, qSz, qSs])
    (repeat (first | ((with_reducible show wpSeq _ _ _ _ _ _ _); first | ((with_reducible refine wpSeq_nil ?_); refine hKr.out _ _ ?_; clear hKr Kr) | ((first | (refine St.copy (v := ?_) (by first | exact .inl rfl | exact .inr rfl) rfl rfl ?_ ?_; rotate_left; (focus ((try simp only [Act.eval, getD_lit, qGz, qGs]); with_reducible rfl))) | (refine St.pure (v := ?_) rfl rfl rfl (fun w => ?_) ?_; rotate_left; (focus (go_simp; all_goals with_reducible rfl)))); (try simp only [Act.put, qSa, qSz, qSs]))) | (first | (refine wp_seq_shut (fun K hK => ?_)) | (refine wp_text hM (fun Kr hKr => ?_); simp only [inText]) | (refine wp_cond_true rfl ?_) | ((refine hK.out _ _ ?_); clear hK K))))
    ((refine wp_ret ?_; (try simp only [Exit.then, Exit.inBlock]); refine St.ret hM rfl (by repeat (first | exact Outs.nil | apply Outs.tmp rfl)) rfl ?_))
    exact ⟨rfl, x, β, γ, rfl, HK.out, hM⟩
  · rw [if_neg h0] at C ⊢
    simp only
    have hkl : (Pc.kill W.p pid).1 = 0 := by unfold Pc.kill; rw [if_neg h0]
    rw [hkl] at CK
    clear hkl h0
    have CE := Lib.hid (fun (w1 : World) (β γ : Int → Nat × Nat) (h : DskAt N x.X β γ W.d w1) => dExit_any h hN hbf)
    generalize Pc.birth W.p.births pid = B at *
    generalize (Pc.kill W.p pid).2 = t' at *
    generalize Ol.exit W.d B = D' at *
    go_enter Tryz.func93, Tryz.ntmps93
    (repeat (first | ((with_reducible show wpSeq _ _ _ _ _ _ _); first | ((with_reducible refine wpSeq_nil ?_); refine hKr.out _ _ ?_; clear hKr Kr) | (((refine St.copy (v := ?_) (by first | exact .inl rfl | exact .inr rfl) rfl rfl ?_ ?_; rotate_left; (focus ((try simp only [Act.eval, getD_lit, qGz, qGs]); with_reducible rfl)))); (try simp only [Act.put, qSa, qSz, qSs]))) | (first | (refine wp_seq_shut (fun K hK => ?_)) | (refine wp_text hM (fun Kr hKr => ?_); simp only [inText]) | ((refine hK.out _ _ ?_); clear hK K))))
    ((refine St.call rfl rfl rfl (by kernel_rfl) (fun R hR => ?_); simp only [List.map_toArray, List.map_cons, List.map_nil, Act.eval, getD_lit, qGz, qGs]))
    refine (C.out _ ⟨hM.part (by repeat (first | exact Part.here | apply Part.skip)), HK.out.prc, HT.out.fit⟩ (hM.holds (wrlE x.b x.P.b x.X.b) (by repeat constructor))).mono ?_
    rintro e w' ⟨rfl, hb⟩; replace hM := hM.below hb; (refine hR.out _ _ (fun _ => ⟨hM.only, nofun⟩) ?_); clear hR R hb; (try simp only [Act.put, qSa, qSz, qSs])
    (repeat (first | ((with_reducible show wpSeq _ _ _ _ _ _ _); first | ((with_reducible refine wpSeq_nil ?_); refine hKr.out _ _ ?_; clear hKr Kr) | ((first | (refine St.copy (v := ?_) (by first | exact .inl rfl | exact .inr rfl) rfl rfl ?_ ?_; rotate_left; (focus ((try simp only [Act.eval, getD_lit, qGz, qGs]); with_reducible rfl))) | (refine St.pure (v := ?_) rfl rfl rfl (fun w => ?_) ?_; rotate_left; (focus (go_simp; all_goals with_reducible rfl))) | refine St.load rfl hM rfl rfl rfl rfl (by repeat constructor) (by rfl) (by kernel_rfl) ?_); (try simp only [Act.put, qSa, qSz, qSs]))) | (first | (refine wp_seq_shut (fun K hK => ?_)) | (refine wp_text hM (fun Kr hKr => ?_); simp only [inText]) | refine wp_skip ?_ | (refine wp_cond_false rfl ?_) | ((refine hK.out _ _ ?_); clear hK K))))
    ((refine St.call rfl rfl rfl (by kernel_rfl) (fun R hR => ?_); simp only [List.map_toArray, List.map_cons, List.map_nil, Act.eval, getD_lit, qGz, qGs]))
    refine (CE.out _ β γ (hM.dsk (by repeat (first | exact Part.all | apply Part.skip | apply Part.past)) HK.out.dsk HT.out.disk HX.out F0)).mono ?_
    rintro e w' ⟨rfl, X', β', γ', hb, hk, hN2⟩
    replace hM := hM.backM (.skip (.past .all)) (dskL_flag _ _ _ _) hN2 (dskL_flag _ _ _ _)
    (refine hR.out _ _ (fun _ => ⟨hM.only, nofun⟩) ?_); clear hR R hN2 CE
    (try simp only [Act.put, qSa, qSz, qSs])
    (repeat (first | ((with_reducible show wpSeq _ _ _ _ _ _ _); first | ((with_reducible refine wpSeq_nil ?_); refine hKr.out _ _ ?_; clear hKr Kr) | ((first | (refine St.copy (v := ?_) (by exact .inl rfl) rfl rfl ?_ ?_; rotate_left; (focus ((try simp only [Act.eval, getD_lit, qGz, qGs]); with_reducible rfl))) | (refine St.pure (v := ?_) rfl rfl rfl (fun w => ?_) ?_; rotate_left; (focus (go_simp; all_goals with_reducible rfl))) | refine St.load rfl hM rfl rfl rfl rfl (by repeat constructor) (by rfl) (by kernel_rfl) ?_); (try simp only [Act.put, qSa, qSz, qSs]))) | (first | (refine wp_seq_shut (fun K hK => ?_)) | (refine wp_text hM (fun Kr hKr => ?_); simp only [inText]) | ((refine hK.out _ _ ?_); clear hK K))))
    ((refine St.call rfl rfl rfl (by kernel_rfl) (fun R hR => ?_); simp only [List.map_toArray, List.map_cons, List.map_nil, Act.eval, getD_lit, qGz, qGs]))
    refine (CK.out _ ⟨hM.part (.skip .here), HK.out.prc, HT.out.fit⟩).mono ?_
    rintro e w' ⟨rfl, P', hb2, hz, hN2⟩
    replace hM := hM.backM (.skip .here) (prcL_flag _ _) hN2 (prcL_flag _ _)
    (refine hR.out _ _ (fun _ => ⟨hM.only, nofun⟩) ?_); clear hR R hN2 CK
    (try simp only [Act.put, qSa, qSz, qSs])
    (repeat (first | ((with_reducible show wpSeq _ _ _ _ _ _ _); first | ((with_reducible refine wpSeq_nil ?_); refine hKr.out _ _ ?_; clear hKr Kr) | (((refine St.copy (v := ?_) (by exact .inr rfl) rfl rfl ?_ ?_; rotate_left; (focus ((try simp only [Act.eval, getD_lit, qGz, qGs]); with_reducible rfl)))); (try simp only [Act.put, qSa, qSz, qSs]))) | (((refine hK.out _ _ ?_); clear hK K))))
    ((refine wp_ret ?_; (try simp only [Exit.then, Exit.inBlock]); refine St.ret hM rfl (by repeat (first | exact Outs.nil | apply Outs.tmp rfl)) rfl ?_))
    refine ⟨rfl, ⟨x.b, P', X'⟩, β', γ', rfl, ⟨hk, hz⟩, ?_⟩
    show St _ F _ (wrlE x.b P'.b X'.b :: _)
    rw [hb2, hb]
    exact hM
end
end Go.Proofs.YtcicjklhbnipcaaGreatDoor
namespace Go.Proofs.YtcicjklhbnipcaaGreatDoor
set_option linter.unusedVariables false
set_option linter.unusedSimpArgs false
open Go.RowKit Go.Maps Go.Shelf
open Go.Sort in
theorem keys_bir (l : List (Int × Int)) : intKeys (heldD (birL l)) = l.map Prod.fst := by
  simp [heldD, birL, intKeys, Go.intOf]
theorem keysN_any (mb : Option Nat) (W : World) : Calls Tryz.prog 155 #[.map mb] W fun e w' => e = .returned (.func (.func 190) #[] #[.pointer (some ⟨W.heap.size, 0, none⟩)]) ∧ w' = W.alloc (.cells #[.map mb] 150) :=
  (callsIn_wide (n := 5)).1 (AnyZI.keys_in Tryz.keysN Fence.wide 5 trivial rfl mb W)
open Go.Sort in
/-- The numbers, in order, in a new slice. -/
theorem sortedN_any {m : Nat} {l : List (Int × Int)} (w : World) (h : MapAt Tryz.prog 3 w m (birL l)) (hl : l.length ≤ 4611686018427) :
    Calls Tryz.prog 72 #[.func (.func 190) #[] #[.pointer (some ⟨w.heap.size, 0, none⟩)]] (w.alloc (.cells #[.map (some m)] 150)) fun e w' => ∃ v : Value, e = .returned v ∧
      w'.ownsRow (w.heap.size + 1) 3 1 v l.length ((l.map Prod.fst).map (Value.int .i64)) ∧ Below w.heap.size w w' := by
  have hbl := MapAt.lt h
  have hsz : Maps.size (heldD (birL l)) = l.length := by rw [size_held]; simp [birL]
  have hown : w.ownsMap Tryz.prog 3 anyElem m (birL l).length (heldD (birL l)) := h
  have hseq : SeqGives Fence.wide 2 Tryz.prog 190 #[.pointer (some ⟨w.heap.size, 0, none⟩)] encZ (fun ss => ss.Perm (intKeys (heldD (birL l)))) (Maps.size (heldD (birL l))) (w.alloc (.cells #[.map (some m)] 150)) :=
    AnyZI.keys_gives (ρ := Tryz.keysN_ren) { Tryz.keysN with } Fence.wide _ trivial rfl (by omega) w.heap.size m _ _ _ (by simp) (by simp) (by
      obtain ⟨es, clock, hb, Ft, hs, hD⟩ := hown
      exact ⟨es, clock, (Below.heap_alloc _ _ m hbl).trans hb, Ft, hs, hD⟩)
  have key := AnyZI.sorted_in Tryz.sortedI Fence.wide 5 trivial trivial trivial trivial rfl (by omega) (sortsI _) (enters_of Tryz.func124 (by kernel_rfl) rfl) 190 #[.pointer (some ⟨w.heap.size, 0, none⟩)] trivial (enters_of Tryz.func190 (by kernel_rfl) rfl) _ _ (by rw [hsz, maxLen_val]; omega) (by rw [hsz]; omega) _ hseq
  refine ((callsIn_wide (n := 5)).1 key).mono fun e w' hx => ?_
  obtain ⟨v, ss, he, hp, hrow, _, hb⟩ := hx
  refine ⟨v, he, ?_, ((Below.refl _ w).alloc (Nat.le_refl _) _).trans (hb.mono (by simp))⟩
  rw [keys_bir] at hp
  have hs : (l.map Prod.fst).Pairwise fun a b => a < b := by
    have := MapAt.sorted h key_int
    unfold birL at this
    rw [List.pairwise_map] at this ⊢
    exact this.imp fun h => by simpa [Lit.before] using h
  have e := sort_ints hp hs
  have hlen : ss.length = l.length := by rw [hp.length_eq]; simp
  rw [show (fun x y : Int => decide (x ≤ y)) = leI from rfl, e, hlen] at hrow
  rw [size_alloc] at hrow
  exact hrow
theorem sortedN_nil (w : World) :
    Calls Tryz.prog 72 #[.func (.func 190) #[] #[.pointer (some ⟨w.heap.size, 0, none⟩)]] (w.alloc (.cells #[.map none] 150)) fun e w' => ∃ v : Value, e = .returned v ∧
      w'.ownsRow (w.heap.size + 1) 3 1 v 0 [] ∧ Below w.heap.size w w' := by
  have hseq : SeqGives Fence.wide 2 Tryz.prog 190 #[.pointer (some ⟨w.heap.size, 0, none⟩)] encZ (fun ss => ss = []) 0 (w.alloc (.cells #[.map none] 150)) :=
    AnyZI.keys_gives_nil (ρ := Tryz.keysN_ren) { Tryz.keysN with } Fence.wide _ trivial rfl w.heap.size _ (by simp) (cell_of_row _ _ _ _ _ _ (heap_alloc_new _ _))
  have key := AnyZI.sorted_in Tryz.sortedI Fence.wide 5 trivial trivial trivial trivial rfl (by omega) (sortsI _) (enters_of Tryz.func124 (by kernel_rfl) rfl) 190 #[.pointer (some ⟨w.heap.size, 0, none⟩)] trivial (enters_of Tryz.func190 (by kernel_rfl) rfl) _ _ (Nat.zero_le _) (by omega) _ hseq
  refine ((callsIn_wide (n := 5)).1 key).mono fun e w' hx => ?_
  obtain ⟨v, ss, he, rfl, hrow, _, hb⟩ := hx
  refine ⟨v, he, ?_, ((Below.refl _ w).alloc (Nat.le_refl _) _).trans (hb.mono (by simp))⟩
  rw [size_alloc] at hrow
  simp only [List.mergeSort_nil, List.map_nil, List.length_nil] at hrow
  exact hrow
section
variable {x : PrcX} {t : PrcD} {w w' w0 : World} {F : List Nat} {L : List Ent}
set_option maxHeartbeats 4000000 in
set_option maxRecDepth 100000 in
theorem pPids_any (h : PrcAt x t w) : Calls Tryz.prog 101 #[.pointer (some ⟨x.b, 0, none⟩)] w (SomeInts (Pc.pids t) w) := by
  have hM := h.at_.ro
  unfold prcL prcE at hM
  simp only [List.map_cons, unflag] at hM
  have HA := Lib.hid h.at_
  have hn := h.none_
  have hf := h.fit.few
  have e1 : t.births.length = (t.births.map Prod.fst).length := by simp
  obtain ⟨b, m⟩ := x
  simp only at hM hn
  clear h
  unfold Pc.pids
  cases m with
  | none =>
    obtain hz : t.births = [] := hn rfl
    rw [hz]
    clear hz hn e1 hf HA
    simp only [prcM, List.map_nil] at hM
    go_enter Tryz.func101, Tryz.ntmps101
    (repeat (first | ((with_reducible show wpSeq _ _ _ _ _ _ _); first | ((with_reducible refine wpSeq_nil ?_); refine hKr.out _ _ ?_; clear hKr Kr) | ((first | (refine St.copy (v := ?_) (by first | exact .inl rfl | exact .inr rfl) rfl rfl ?_ ?_; rotate_left; (focus ((try simp only [Act.eval, getD_lit, qGz, qGs]); with_reducible rfl))) | (refine St.pure (v := ?_) rfl rfl rfl (fun w => ?_) ?_; rotate_left; (focus (go_simp; all_goals with_reducible rfl))) | refine St.load rfl hM rfl rfl rfl rfl (by repeat constructor) (by rfl) (by kernel_rfl) ?_); (try simp only [Act.put, qSa, qSz, qSs]))) | (first | (refine wp_seq_shut (fun K hK => ?_)) | (refine wp_text hM (fun Kr hKr => ?_); simp only [inText]) | refine wp_skip ?_ | (refine wp_cond_false rfl ?_) | ((refine hK.out _ _ ?_); clear hK K))))
    ((refine St.call rfl rfl rfl (by kernel_rfl) (fun R hR => ?_); simp only [List.map_toArray, List.map_cons, List.map_nil, Act.eval, getD_lit, qGz, qGs]))
    refine (keysN_any _ _).mono ?_
    rintro e w' ⟨rfl, rfl⟩
    refine hR.out _ _ (fun h => h.below ((Below.refl _ w).alloc (Nat.le_refl _) _)) ?_; clear hR R; (try simp only [Act.put, qSa, qSz, qSs])
    ((refine St.call rfl rfl rfl (by kernel_rfl) (fun R hR => ?_); simp only [List.map_toArray, List.map_cons, List.map_nil, Act.eval, getD_lit, qGz, qGs]))
    refine (sortedN_nil w).mono ?_
    rintro e w' ⟨v, rfl, hrow, hb⟩
    obtain ⟨s, rfl, hok, hst⟩ := st_of_own hrow hb (Nat.le_succ _)
    replace hM := hM.madeM hst (slL_flag _ _ _ _)
    have HOK := Lib.hid hok
    refine hR.out _ _ (fun h => ⟨hM.only, nofun⟩) ?_; clear hR R hrow hok; (try simp only [Act.put, qSa, qSz, qSs])
    (repeat (first | ((with_reducible show wpSeq _ _ _ _ _ _ _); first | ((with_reducible refine wpSeq_nil ?_); refine hKr.out _ _ ?_; clear hKr Kr) | (((refine St.copy (v := ?_) (by exact .inr rfl) rfl rfl ?_ ?_; rotate_left; (focus ((try simp only [Act.eval, getD_lit, qGz, qGs]); with_reducible rfl)))); (try simp only [Act.put, qSa, qSz, qSs]))) | (((refine hK.out _ _ ?_); clear hK K))))
    ((refine wp_ret ?_; (try simp only [Exit.then, Exit.inBlock]); refine St.ret hM rfl (by repeat (first | exact Outs.nil | apply Outs.tmp rfl)) rfl ?_))
    exact ⟨s, rfl, HOK.out, hst⟩
  | some mb =>
    clear hn
    have HMP := Lib.hid (mapR_at (HA.out.has (mb, true, mapR Tryz.prog 3 (birL t.births)) (by unfold prcL prcM; exact .tail _ (.head _))))
    simp only [prcM, List.map_cons, List.map_nil, unflag] at hM
    go_enter Tryz.func101, Tryz.ntmps101
    (repeat (first | ((with_reducible show wpSeq _ _ _ _ _ _ _); first | ((with_reducible refine wpSeq_nil ?_); refine hKr.out _ _ ?_; clear hKr Kr) | ((first | (refine St.copy (v := ?_) (by first | exact .inl rfl | exact .inr rfl) rfl rfl ?_ ?_; rotate_left; (focus ((try simp only [Act.eval, getD_lit, qGz, qGs]); with_reducible rfl))) | (refine St.pure (v := ?_) rfl rfl rfl (fun w => ?_) ?_; rotate_left; (focus (go_simp; all_goals with_reducible rfl))) | refine St.load rfl hM rfl rfl rfl rfl (by repeat constructor) (by rfl) (by kernel_rfl) ?_); (try simp only [Act.put, qSa, qSz, qSs]))) | (first | (refine wp_seq_shut (fun K hK => ?_)) | (refine wp_text hM (fun Kr hKr => ?_); simp only [inText]) | refine wp_skip ?_ | (refine wp_cond_false rfl ?_) | ((refine hK.out _ _ ?_); clear hK K))))
    ((refine St.call rfl rfl rfl (by kernel_rfl) (fun R hR => ?_); simp only [List.map_toArray, List.map_cons, List.map_nil, Act.eval, getD_lit, qGz, qGs]))
    refine (keysN_any _ _).mono ?_
    rintro e w' ⟨rfl, rfl⟩
    refine hR.out _ _ (fun h => h.below ((Below.refl _ w).alloc (Nat.le_refl _) _)) ?_; clear hR R; (try simp only [Act.put, qSa, qSz, qSs])
    ((refine St.call rfl rfl rfl (by kernel_rfl) (fun R hR => ?_); simp only [List.map_toArray, List.map_cons, List.map_nil, Act.eval, getD_lit, qGz, qGs]))
    refine (sortedN_any w HMP.out (by omega)).mono ?_
    rintro e w' ⟨v, rfl, hrow, hb⟩
    obtain ⟨s, rfl, hok, hst⟩ := st_of_own hrow hb (Nat.le_succ _)
    replace hM := hM.madeM hst (slL_flag _ _ _ _)
    have HOK := Lib.hid hok
    refine hR.out _ _ (fun h => ⟨hM.only, nofun⟩) ?_; clear hR R hrow hok; (try simp only [Act.put, qSa, qSz, qSs])
    (repeat (first | ((with_reducible show wpSeq _ _ _ _ _ _ _); first | ((with_reducible refine wpSeq_nil ?_); refine hKr.out _ _ ?_; clear hKr Kr) | (((refine St.copy (v := ?_) (by exact .inr rfl) rfl rfl ?_ ?_; rotate_left; (focus ((try simp only [Act.eval, getD_lit, qGz, qGs]); with_reducible rfl)))); (try simp only [Act.put, qSa, qSz, qSs]))) | (((refine hK.out _ _ ?_); clear hK K))))
    ((refine wp_ret ?_; (try simp only [Exit.then, Exit.inBlock]); refine St.ret hM rfl (by repeat (first | exact Outs.nil | apply Outs.tmp rfl)) rfl ?_))
    have h2 := HOK.out
    rw [e1] at h2
    refine ⟨s, ?_, h2, hst⟩
    show Ending.returned (slV s t.births.length) = .returned (slV s (t.births.map Prod.fst).length)
    rw [← e1]
theorem cloneN_any {b : Nat} {l : List (Lit × Value)} (h : (mapR Tryz.prog 3 l).holds w.heap[b]?) : Calls Tryz.prog 156 #[.map (some b)] w fun e w' => ∃ c, e = .returned (.map (some c)) ∧ St w [] w' [(c, true, mapR Tryz.prog 3 l)] := by
  have hm := mapR_at h
  have hm0 := hm
  obtain ⟨es, clock, hb, -⟩ := hm0
  refine (AnyW.maps_Clone Tryz.cloneN b es clock w hb).mono ?_
  rintro e w' ⟨rfl, rfl⟩
  exact ⟨_, rfl, st_clone hb hm⟩
set_option maxHeartbeats 4000000 in
set_option maxRecDepth 100000 in
theorem pClone_any (h : PrcAt x t w) : Calls Tryz.prog 102 #[.pointer (some ⟨x.b, 0, none⟩)] w fun e w' => ∃ x', e = .returned (.pointer (some ⟨PrcX.b x', 0, none⟩)) ∧ (x'.m = none → t.births = []) ∧ St w [] w' (prcL x' t) := by
  have hM := h.at_.ro
  unfold prcL prcE at hM
  simp only [List.map_cons, unflag] at hM
  have HA := Lib.hid h.at_
  have hn := h.none_
  obtain ⟨b, m⟩ := x
  simp only at hM hn
  clear h
  cases m with
  | none =>
    simp only [prcM, List.map_nil] at hM
    have HN := Lib.hid (hn rfl)
    clear hn
    go_enter Tryz.func102, Tryz.ntmps102
    (repeat (first | ((with_reducible show wpSeq _ _ _ _ _ _ _); first | ((with_reducible refine wpSeq_nil ?_); refine hKr.out _ _ ?_; clear hKr Kr) | ((first | (refine St.copy (v := ?_) (by first | exact .inl rfl | exact .inr rfl) rfl rfl ?_ ?_; rotate_left; (focus ((try simp only [Act.eval, getD_lit, qGz, qGs]); with_reducible rfl))) | (refine St.pure (v := ?_) rfl rfl rfl (fun w => ?_) ?_; rotate_left; (focus (go_simp; all_goals with_reducible rfl))) | refine St.load1 rfl rfl rfl rfl (by repeat constructor) (by rfl) (by kernel_rfl) ?_); (try simp only [Act.put, qSa, qSz, qSs]))) | (first | (refine wp_seq_shut (fun K hK => ?_)) | (refine wp_text hM (fun Kr hKr => ?_); simp only [inText]) | refine wp_skip ?_ | (refine wp_cond_false rfl ?_) | ((refine hK.out _ _ ?_); clear hK K)) | ((refine wp_drawn (id := 3) hM (Sub.all _) [3, 8] [(0, 0), (1, 0), (2, 0), (3, 1), (5, 0), (6, 0), (7, 0), (8, 1), (4, 2), (9, 2), (10, 2), (11, 3)] (by kernel_rfl) (by kernel_rfl) ?_); (clear hM; intro w hM Kr hKr); simp only [opsOf, qGz, qGs])))
    ((refine St.call rfl rfl rfl (by kernel_rfl) (fun R hR => ?_); simp only [List.map_toArray, List.map_cons, List.map_nil, Act.eval, getD_lit, qGz, qGs]))
    refine (AnyW.maps_Clone_nil Tryz.cloneN _).mono ?_
    rintro e w' ⟨rfl, rfl⟩
    refine hR.out _ _ (fun h => h) ?_; clear hR R; (try simp only [Act.put, qSa, qSz, qSs])
    (repeat (first | ((with_reducible show wpSeq _ _ _ _ _ _ _); first | ((with_reducible refine wpSeq_nil ?_); refine hKr.out _ _ ?_; clear hKr Kr) | ((first | (refine St.copy (v := ?_) (by exact .inr rfl) rfl rfl ?_ ?_; rotate_left; (focus ((try simp only [Act.eval, getD_lit, qGz, qGs]); with_reducible rfl))) | (refine St.pure (v := ?_) rfl rfl rfl (fun w => ?_) ?_; rotate_left; (focus (go_simp; all_goals with_reducible rfl))) | ((((refine St.box rfl hM rfl rfl rfl ?_); clear hM; intro w bk hM)); (try simp only [Res.put, Res.known, Act.eval, Value.cells, getD_lit, qGz, qGs, List.toList_toArray, qSz, qSs, over, Nat.reduceAdd] at hM))); (try simp only [Act.put, qSa, qSz, qSs]))) | (((refine hK.out _ _ ?_); clear hK K))))
    ((refine wp_ret ?_; (try simp only [Exit.then, Exit.inBlock]); refine St.ret hM rfl (by repeat (first | exact Outs.nil | apply Outs.tmp rfl)) rfl ?_))
    exact ⟨⟨bk, none⟩, rfl, fun _ => HN.out, St.front (M := [_]) hM⟩
  | some mb =>
    clear hn
    have HMP := Lib.hid (HA.out.has (mb, true, mapR Tryz.prog 3 (birL t.births)) (by unfold prcL prcM; exact .tail _ (.head _)))
    simp only [prcM, List.map_cons, List.map_nil, unflag] at hM
    go_enter Tryz.func102, Tryz.ntmps102
    (repeat (first | ((with_reducible show wpSeq _ _ _ _ _ _ _); first | ((with_reducible refine wpSeq_nil ?_); refine hKr.out _ _ ?_; clear hKr Kr) | ((first | (refine St.copy (v := ?_) (by first | exact .inl rfl | exact .inr rfl) rfl rfl ?_ ?_; rotate_left; (focus ((try simp only [Act.eval, getD_lit, qGz, qGs]); with_reducible rfl))) | (refine St.pure (v := ?_) rfl rfl rfl (fun w => ?_) ?_; rotate_left; (focus (go_simp; all_goals with_reducible rfl))) | refine St.load1 rfl rfl rfl rfl (by repeat constructor) (by rfl) (by kernel_rfl) ?_); (try simp only [Act.put, qSa, qSz, qSs]))) | (first | (refine wp_seq_shut (fun K hK => ?_)) | (refine wp_text hM (fun Kr hKr => ?_); simp only [inText]) | refine wp_skip ?_ | (refine wp_cond_false rfl ?_) | ((refine hK.out _ _ ?_); clear hK K)) | ((refine wp_drawn (id := 3) hM (Sub.all _) [3, 8] [(0, 0), (1, 0), (2, 0), (3, 1), (5, 0), (6, 0), (7, 0), (8, 1), (4, 2), (9, 2), (10, 2), (11, 3)] (by kernel_rfl) (by kernel_rfl) ?_); (clear hM; intro w hM Kr hKr); simp only [opsOf, qGz, qGs])))
    ((refine St.call rfl rfl rfl (by kernel_rfl) (fun R hR => ?_); simp only [List.map_toArray, List.map_cons, List.map_nil, Act.eval, getD_lit, qGz, qGs]))
    refine (cloneN_any (hM.only.holds HMP.out)).mono ?_
    rintro e w' ⟨c, rfl, hN⟩
    replace hM := hM.madeM hN (flag_1 _ _)
    refine hR.out _ _ (fun h => h.below hN.to_below) ?_; clear hR R hN; (try simp only [Act.put, qSa, qSz, qSs])
    simp only [List.cons_append, List.nil_append] at hM
    (repeat (first | ((with_reducible show wpSeq _ _ _ _ _ _ _); first | ((with_reducible refine wpSeq_nil ?_); refine hKr.out _ _ ?_; clear hKr Kr) | ((first | (refine St.copy (v := ?_) (by exact .inr rfl) rfl rfl ?_ ?_; rotate_left; (focus ((try simp only [Act.eval, getD_lit, qGz, qGs]); with_reducible rfl))) | (refine St.pure (v := ?_) rfl rfl rfl (fun w => ?_) ?_; rotate_left; (focus (go_simp; all_goals with_reducible rfl))) | ((((refine St.box rfl hM rfl rfl rfl ?_); clear hM; intro w bk hM)); (try simp only [Res.put, Res.known, Act.eval, Value.cells, getD_lit, qGz, qGs, List.toList_toArray, qSz, qSs, over, Nat.reduceAdd] at hM))); (try simp only [Act.put, qSa, qSz, qSs]))) | (((refine hK.out _ _ ?_); clear hK K))))
    ((refine wp_ret ?_; (try simp only [Exit.then, Exit.inBlock]); refine St.ret hM rfl (by repeat (first | exact Outs.nil | apply Outs.tmp rfl)) rfl ?_))
    exact ⟨⟨bk, some c⟩, rfl, nofun, St.front (M := [_, _]) hM⟩
end
end Go.Proofs.YtcicjklhbnipcaaGreatDoor
namespace Go.Proofs.YtcicjklhbnipcaaGreatDoor
set_option linter.unusedVariables false
set_option linter.unusedSimpArgs false
open Go.RowKit Go.Maps
section
variable {N : Nat} {x : WrlX} {β γ : Int → Nat × Nat} {W : WrlD} {w w' w0 : World} {F : List Nat} {A L L' M M' R : List Ent} {b p d : Nat} {e : Ent}
/-- Some blocks are written, those ahead of them are read. -/
theorem At.stM (h : At (A ++ M) w) : St w (keysOf M) w (A.map unflag ++ M) := by
  refine ⟨Only.refl _ w, fun z hz => ?_, ?_, fun z hz h1 => ?_⟩
  · rcases List.mem_append.1 hz with hz | hz
    · obtain ⟨y, hy, rfl⟩ := List.mem_map.1 hz
      exact h.has y (List.mem_append_left _ hy)
    · exact h.has z (List.mem_append_right _ hz)
  · have := h.nd
    unfold keysOf at this
    rw [List.map_append] at this ⊢
    rw [List.map_map]
    exact this
  · rcases List.mem_append.1 hz with hz | hz
    · obtain ⟨y, hy, rfl⟩ := List.mem_map.1 hz
      cases h1
    · exact .inl (List.mem_map_of_mem hz)
/-- What was read ahead is there still, behind one block that is known. -/
theorem At.read (h : At (e :: R) w0) (hM : St w0 F w L) (he : e ∈ L) (hF : ∀ k ∈ keysOf R, k ∉ F) : At (e :: R) w := by
  refine ⟨fun z hz => ?_, h.nd⟩
  rcases List.mem_cons.1 hz with rfl | hz
  · exact hM.holds _ he
  · rw [hM.only.block z.1 (h.has.lt (.tail _ hz)) (hF z.1 (List.mem_map_of_mem hz))]
    exact h.has z (.tail _ hz)
set_option maxHeartbeats 8000000 in
set_option maxRecDepth 100000 in
/-- A power failure: what is sure, and what was logged, is just read. -/
theorem wPower_fine {P : PrcX} {t : PrcD} {b db : Nat} {f : Nat} {y : FsX} {γ : Int → Nat × Nat} {D : DskD} {s : Option (Nat × Nat)} {zs : List LogV}
    (hA : At (wrlE b P.b db :: (prcL P t ++ (dskE db f y.f s zs.length :: (logL s (zs.map LogV.val) ++ (fsL y γ D.base ++ zs.flatMap LogV.ents))))) w0)
    (hp : P.m = none → t.births = []) (ht : Pc.Fit t) (hk : SlOK s zs.length (zs.map LogV.val) 1) (hz : zs.map (·.1) = D.log) {K0 : Nat} (hB : Ol.FInv K0 D.base) (hKN : K0 + 3 * D.log.length ≤ 30000) (hok : ∀ l ∈ D.log, Ol.LogOk l) (hX : Mx w0)
    (h0 : 0 ∉ keysOf (wrlE b P.b db :: (prcL P t ++ (dskE db f y.f s zs.length :: (logL s (zs.map LogV.val) ++ (fsL y γ D.base ++ zs.flatMap LogV.ents)))))) (keep : Int) :
    Calls Tryz.prog 92 #[.pointer (some ⟨b, 0, none⟩), .int .i64 keep] w0 fun e w' => e = .returned (.int .i64 0) ∧ ∃ P' x1 β1 x2 β2, PrcX.b P' = P.b ∧ St w0 (keysOf (prcL P t ++ [dskE db f y.f s zs.length])) w' (prcL P' (Pc.killAll t) ++ (dskE db (FsX.f x1) (FsX.f x2) none 0 :: (fsL x1 β1 (Ol.cutFs D keep) ++ fsL x2 β2 (Ol.cutFs D keep)))) := by
  have hR0 : At (dskE db f y.f s zs.length :: (logL s (zs.map LogV.val) ++ (fsL y γ D.base ++ zs.flatMap LogV.ents))) w0 := hA.sub ((List.sublist_append_right _ _).cons _)
  have h00 : 0 ∉ keysOf (dskE db f y.f s zs.length :: (logL s (zs.map LogV.val) ++ (fsL y γ D.base ++ zs.flatMap LogV.ents))) := keys_sub ((List.sublist_append_right _ _).cons _) h0
  have hS1 : ([wrlE b P.b db] ++ (prcL P t ++ [dskE db f y.f s zs.length])).Sublist (wrlE b P.b db :: (prcL P t ++ (dskE db f y.f s zs.length :: (logL s (zs.map LogV.val) ++ (fsL y γ D.base ++ zs.flatMap LogV.ents))))) := ((List.sublist_append_left [dskE db f y.f s zs.length] _).append_left _).cons_cons _
  have hM := (hA.sub hS1).stM
  have hF : ∀ k ∈ keysOf (logL s (zs.map LogV.val) ++ (fsL y γ D.base ++ zs.flatMap LogV.ents)), k ∉ keysOf (prcL P t ++ [dskE db f y.f s zs.length]) := fun k hk hm => by
    have hnd := hA.nd
    unfold keysOf at hnd hm hk
    rw [List.map_cons, List.nodup_cons] at hnd
    have h2 := hnd.2
    rw [List.map_append, List.map_cons, List.nodup_append] at h2
    rw [List.map_append, List.mem_append] at hm
    rcases hm with hm | hm
    · exact h2.2.2 k hm k (.tail _ hk) rfl
    · rw [List.map_singleton, List.mem_singleton] at hm
      rw [hm] at hk
      exact (List.nodup_cons.1 h2.2.1).1 hk
  obtain ⟨F, hFF⟩ : ∃ F, keysOf (prcL P t ++ [dskE db f y.f s zs.length]) = F := ⟨_, rfl⟩
  rw [hFF] at hM hF ⊢
  have F0 : 0 ∉ F := by rw [← hFF]; exact keys_sub ((List.sublist_append_right _ _).trans hS1) h0
  have HR := Lib.hid hR0
  have HF := Lib.hid hF
  have HX := Lib.hid hX
  have H00 := Lib.hid h00
  have C := Lib.hid (fun (w1 : World) (h1 : At (dskE db f y.f s zs.length :: (logL s (zs.map LogV.val) ++ (fsL y γ D.base ++ zs.flatMap LogV.ents))) w1) (hm : Mx w1) => dCut_any h1 hk hz hB hKN hok hm h00 keep)
  have HP := Lib.hid hp
  have HT := Lib.hid ht
  clear hR0 h00 hS1 hF hX hp ht hA h0 hFF hz hB hKN hok
  simp only [List.map_cons, List.map_nil, unflag, List.singleton_append] at hM
  go_enter Tryz.func92, Tryz.ntmps92
  (repeat (first | ((with_reducible show wpSeq _ _ _ _ _ _ _); first | ((with_reducible refine wpSeq_nil ?_); refine hKr.out _ _ ?_; clear hKr Kr) | (((refine St.copy (v := ?_) (by first | exact .inl rfl | exact .inr rfl) rfl rfl ?_ ?_; rotate_left; (focus ((try simp only [Act.eval, getD_lit, qGz, qGs]); with_reducible rfl)))); (try simp only [Act.put, qSa, qSz, qSs]))) | (first | (refine wp_seq_shut (fun K hK => ?_)) | (refine wp_text hM (fun Kr hKr => ?_); simp only [inText]) | ((refine hK.out _ _ ?_); clear hK K))))
  ((refine St.call rfl rfl rfl (by kernel_rfl) (fun R hR => ?_); simp only [List.map_toArray, List.map_cons, List.map_nil, Act.eval, getD_lit, qGz, qGs]))
  refine (wgiven_any (hM.holds (unflag (wrlE b P.b db)) (by repeat constructor))).mono ?_
  rintro e w' ⟨rfl, rfl⟩; refine hR.out _ _ (fun h => h) ?_; clear hR R; (try simp only [Act.put, qSa, qSz, qSs])
  unfold wrlE at hM
  simp only at hM
  (repeat (first | ((with_reducible show wpSeq _ _ _ _ _ _ _); first | ((with_reducible refine wpSeq_nil ?_); refine hKr.out _ _ ?_; clear hKr Kr) | ((first | (refine St.copy (v := ?_) (by exact .inl rfl) rfl rfl ?_ ?_; rotate_left; (focus ((try simp only [Act.eval, getD_lit, qGz, qGs]); with_reducible rfl))) | (refine St.pure (v := ?_) rfl rfl rfl (fun w => ?_) ?_; rotate_left; (focus (go_simp; all_goals with_reducible rfl))) | refine St.load rfl hM rfl rfl rfl rfl (by repeat constructor) (by rfl) (by kernel_rfl) ?_); (try simp only [Act.put, qSa, qSz, qSs]))) | (first | (refine wp_seq_shut (fun K hK => ?_)) | (refine wp_text hM (fun Kr hKr => ?_); simp only [inText]) | refine wp_skip ?_ | (refine wp_cond_false rfl ?_) | ((refine hK.out _ _ ?_); clear hK K))))
  ((refine St.call rfl rfl rfl (by kernel_rfl) (fun R hR => ?_); simp only [List.map_toArray, List.map_cons, List.map_nil, Act.eval, getD_lit, qGz, qGs]))
  refine (pKillAll_any ⟨hM.part (.skip .here), HP.out, HT.out⟩).mono ?_
  rintro e w' ⟨rfl, P', hb2, hz, hN2⟩
  replace hM := hM.backM (.skip .here) (prcL_flag _ _) hN2 (prcL_flag _ _)
  (refine hR.out _ _ (fun _ => ⟨hM.only, nofun⟩) ?_); clear hR R hN2
  (try simp only [Act.put, qSa, qSz, qSs])
  (repeat (first | ((with_reducible show wpSeq _ _ _ _ _ _ _); first | ((with_reducible refine wpSeq_nil ?_); refine hKr.out _ _ ?_; clear hKr Kr) | ((first | (refine St.copy (v := ?_) (by exact .inl rfl) rfl rfl ?_ ?_; rotate_left; (focus ((try simp only [Act.eval, getD_lit, qGz, qGs]); with_reducible rfl))) | (refine St.pure (v := ?_) rfl rfl rfl (fun w => ?_) ?_; rotate_left; (focus (go_simp; all_goals with_reducible rfl))) | refine St.load rfl hM rfl rfl rfl rfl (by repeat constructor) (by rfl) (by kernel_rfl) ?_); (try simp only [Act.put, qSa, qSz, qSs]))) | (first | (refine wp_seq_shut (fun K hK => ?_)) | (refine wp_text hM (fun Kr hKr => ?_); simp only [inText]) | ((refine hK.out _ _ ?_); clear hK K))))
  ((refine St.call rfl rfl rfl (by kernel_rfl) (fun R hR => ?_); simp only [List.map_toArray, List.map_cons, List.map_nil, Act.eval, getD_lit, qGz, qGs]))
  refine (C.out _ (HR.out.read hM (.tail _ (List.mem_append_right _ (.head _))) HF.out) (hM.mx HX.out F0)).mono ?_
  rintro e w' ⟨rfl, x1, β1, x2, β2, hN2⟩
  replace hM := hM.backM (M := [dskE db f y.f s zs.length]) (.skip (.past .all)) (flag_1 _ _) hN2 (fun y hy => by
    rcases List.mem_cons.1 hy with rfl | hy
    · rfl
    · rcases List.mem_append.1 hy with hy | hy
      · exact fsL_flag _ _ _ y hy
      · exact fsL_flag _ _ _ y hy)
  (refine hR.out _ _ (fun _ => ⟨hM.only, nofun⟩) ?_); clear hR R hN2
  (try simp only [Act.put, qSa, qSz, qSs])
  (repeat (first | ((with_reducible show wpSeq _ _ _ _ _ _ _); first | ((with_reducible refine wpSeq_nil ?_); refine hKr.out _ _ ?_; clear hKr Kr) | (((refine St.copy (v := ?_) (by exact .inr rfl) rfl rfl ?_ ?_; rotate_left; (focus ((try simp only [Act.eval, getD_lit, qGz, qGs]); with_reducible rfl)))); (try simp only [Act.put, qSa, qSz, qSs]))) | (((refine hK.out _ _ ?_); clear hK K))))
  ((refine wp_ret ?_; (try simp only [Exit.then, Exit.inBlock]); refine St.ret hM rfl (by repeat (first | exact Outs.nil | apply Outs.tmp rfl)) rfl ?_))
  exact ⟨rfl, P', x1, β1, x2, β2, hb2, hM.forget⟩
/-- What a world answers, and what it has become. -/
def WDid (w : World) (x : WrlX) (β γ : Int → Nat × Nat) (W : WrlD) (r : ResD × WrlD) (e : Ending) (w' : World) : Prop :=
  ∃ s x' β' γ', e = .returned (.agg #[.int .i64 r.1.err, .int .i64 r.1.n, .string r.1.data, slV s r.1.names.length]) ∧ TxOK s r.1.names ∧ WrlX.b x' = x.b ∧ WrlOk x' r.2 ∧ St w (keysOf (wrlL x β γ W)) w' (txL s r.1.names ++ wrlL x' β' γ' r.2)
theorem perm_wd {α : Type} (a : α) (p t k : List α) : (a :: (p ++ (t ++ k))).Perm (t ++ (a :: (p ++ k))) := (perm_by (by intro _ x; simp only [List.append_eq, List.count_append, List.count_cons, List.count_nil, List.cons_append, List.nil_append]; omega))
set_option maxHeartbeats 8000000 in
set_option maxRecDepth 100000 in
theorem wDo_any (h : WrlAt N x β γ W w) (hN : N ≤ 999999980) {pid : Int} (hp : Fits pid) (op : OpD) (ho : op.Ok) (hop : Fits op.pid) : Calls Tryz.prog 51 #[.pointer (some ⟨x.b, 0, none⟩), .int .i64 pid, .agg op.cells.toArray] w (WDid w x β γ W (Wd.do_ W pid op)) := by
  have hM := h.at_.st
  unfold WDid
  obtain ⟨F, hF⟩ : ∃ F, keysOf (wrlL x β γ W) = F := ⟨_, rfl⟩
  rw [hF] at hM ⊢
  have F0 : 0 ∉ F := hF ▸ h.zero
  have HK := Lib.hid h.ok
  have HT := Lib.hid h.inv
  have HX := Lib.hid h.mx
  have hbf := Wd.birth_fits h.inv hN pid
  clear h hF
  have C := Lib.hid (fun (w1 : World) (h : PrcAt x.P W.p w1) => fun h2 => wBirth_any (b := x.b) (d := x.X.b) h2 h rfl hp)
  unfold Pc.birthE at C
  unfold Wd.do_
  unfold wrlL wrlE at hM
  by_cases h0 : Pc.birth W.p.births pid = 0
  · rw [if_pos h0] at C ⊢
    rw [h0] at C
    obtain ⟨pk, pp, pd, ph, pa, pn, px, py, pb⟩ := op
    simp only [OpD.cells]
    go_enter Tryz.func51, Tryz.ntmps51
    (repeat (first | ((with_reducible show wpSeq _ _ _ _ _ _ _); first | ((with_reducible refine wpSeq_nil ?_); refine hKr.out _ _ ?_; clear hKr Kr) | ((first | (refine St.copy (v := ?_) (by exact .inl rfl) rfl rfl ?_ ?_; rotate_left; (focus ((try simp only [Act.eval, getD_lit, qGz, qGs]); with_reducible rfl))) | ((((refine St.box rfl hM rfl rfl rfl ?_); clear hM; intro w bk hM)); (try simp only [Res.put, Res.known, Act.eval, Value.cells, getD_lit, qGz, qGs, List.toList_toArray, qSz, qSs, over, Nat.reduceAdd] at hM))); (try simp only [Act.put, qSa, qSz, qSs])) | (((refine St.alloc (ty := 31) (z := .agg #[.int .i64 0, .int .i64 0, .string ⟨#[]⟩, .slice none 0 0]) rfl hM rfl rfl (by kernel_rfl) ?_); clear hM; intro w bk hM); (try simp only [Res.put, Res.known, Act.eval, Value.cells, getD_lit, qGz, qGs, List.toList_toArray, qSz, qSs, over, Nat.reduceAdd] at hM); (try simp only [Act.put, qSa, qSz, qSs]))) | (first | (refine wp_seq_shut (fun K hK => ?_)) | (refine wp_text hM (fun Kr hKr => ?_); simp only [inText]) | ((refine hK.out _ _ ?_); clear hK K))))
    ((refine St.call rfl rfl rfl (by kernel_rfl) (fun R hR => ?_); simp only [List.map_toArray, List.map_cons, List.map_nil, Act.eval, getD_lit, qGz, qGs]))
    refine (C.out _ ⟨hM.part (by repeat (first | exact Part.here | apply Part.skip)), HK.out.prc, HT.out.fit⟩ (hM.holds (wrlE x.b x.P.b x.X.b) (by repeat constructor))).mono ?_
    rintro e w' ⟨rfl, hb⟩; replace hM := hM.below hb; (refine hR.out _ _ (fun _ => ⟨hM.only, nofun⟩) ?_); clear hR R hb; (try simp only [Act.put, qSa, qSz, qSs])
    (repeat (first | ((with_reducible show wpSeq _ _ _ _ _ _ _); first | ((with_reducible refine wpSeq_nil ?_); refine hKr.out _ _ ?_; clear hKr Kr) | ((first | (refine St.copy (v := ?_) (by first | exact .inl rfl | exact .inr rfl) rfl rfl ?_ ?_; rotate_left; (focus ((try simp only [Act.eval, getD_lit, qGz, qGs]); with_reducible rfl))) | (refine St.pure (v := ?_) rfl rfl rfl (fun w => ?_) ?_; rotate_left; (focus (go_simp; all_goals with_reducible rfl))) | ((((refine St.storeRow rfl hM rfl rfl rfl rfl rfl (by repeat constructor) (Nat.le_of_ble_eq_true rfl) (Nat.le_of_ble_eq_true rfl) (by kernel_rfl) rfl ?_ ?_); (focus ((intro h; cases h; done))); clear hM; intro w hM)); (try simp only [Res.put, Res.known, Act.eval, Value.cells, getD_lit, qGz, qGs, List.toList_toArray, qSz, qSs, over, Nat.reduceAdd] at hM))); (try simp only [Act.put, qSa, qSz, qSs]))) | (first | (refine wp_seq_shut (fun K hK => ?_)) | (refine wp_text hM (fun Kr hKr => ?_); simp only [inText]) | refine wp_block ?_ | (refine wp_cond_true rfl ?_) | ((refine hK.out _ _ ?_); clear hK K))))
    ((refine wp_ret ?_; (try simp only [Exit.then, Exit.inBlock]); refine St.ret hM rfl (by repeat (first | exact Outs.nil | (apply Outs.row rfl rfl (by repeat constructor) (by kernel_rfl)))) rfl ?_))
    exact ⟨none, x, β, γ, rfl, ⟨rfl, rfl⟩, rfl, HK.out, hM.forget.forget⟩
  · rw [if_neg h0] at C ⊢
    have CE := Lib.hid (fun (w1 : World) (β γ : Int → Nat × Nat) (h : DskAt N x.X β γ W.d w1) => dDo_any h hN hbf op ho)
    have CA := Lib.hid (fun (w1 : World) (h : PrcAt x.P W.p w1) => pAlive_any (c := op.birth) h hop)
    generalize Pc.birth W.p.births pid = B at *
    by_cases h1 : op.kind = 15
    · rw [if_pos h1]
      generalize Pc.alive W.p op.pid op.birth = al at *
      obtain ⟨pk, pp, pd, ph, pa, pn, px, py, pb⟩ := op
      simp only at h1
      subst h1
      simp only [OpD.cells]
      clear CE h0
      cases al with
      | true =>
        go_enter Tryz.func51, Tryz.ntmps51
        (repeat (first | ((with_reducible show wpSeq _ _ _ _ _ _ _); first | ((with_reducible refine wpSeq_nil ?_); refine hKr.out _ _ ?_; clear hKr Kr) | ((first | (refine St.copy (v := ?_) (by exact .inl rfl) rfl rfl ?_ ?_; rotate_left; (focus ((try simp only [Act.eval, getD_lit, qGz, qGs]); with_reducible rfl))) | ((((refine St.box rfl hM rfl rfl rfl ?_); clear hM; intro w bk hM)); (try simp only [Res.put, Res.known, Act.eval, Value.cells, getD_lit, qGz, qGs, List.toList_toArray, qSz, qSs, over, Nat.reduceAdd] at hM))); (try simp only [Act.put, qSa, qSz, qSs])) | (((refine St.alloc (ty := 31) (z := .agg #[.int .i64 0, .int .i64 0, .string ⟨#[]⟩, .slice none 0 0]) rfl hM rfl rfl (by kernel_rfl) ?_); clear hM; intro w bk hM); (try simp only [Res.put, Res.known, Act.eval, Value.cells, getD_lit, qGz, qGs, List.toList_toArray, qSz, qSs, over, Nat.reduceAdd] at hM); (try simp only [Act.put, qSa, qSz, qSs]))) | (first | (refine wp_seq_shut (fun K hK => ?_)) | (refine wp_text hM (fun Kr hKr => ?_); simp only [inText]) | ((refine hK.out _ _ ?_); clear hK K))))
        ((refine St.call rfl rfl rfl (by kernel_rfl) (fun R hR => ?_); simp only [List.map_toArray, List.map_cons, List.map_nil, Act.eval, getD_lit, qGz, qGs]))
        refine (C.out _ ⟨hM.part (by repeat (first | exact Part.here | apply Part.skip)), HK.out.prc, HT.out.fit⟩ (hM.holds (wrlE x.b x.P.b x.X.b) (by repeat constructor))).mono ?_
        rintro e w' ⟨rfl, hb⟩; replace hM := hM.below hb; (refine hR.out _ _ (fun _ => ⟨hM.only, nofun⟩) ?_); clear hR R hb; (try simp only [Act.put, qSa, qSz, qSs])
        (repeat (first | ((with_reducible show wpSeq _ _ _ _ _ _ _); first | ((with_reducible refine wpSeq_nil ?_); refine hKr.out _ _ ?_; clear hKr Kr) | ((first | (refine St.copy (v := ?_) (by first | exact .inl rfl | exact .inr rfl) rfl rfl ?_ ?_; rotate_left; (focus ((try simp only [Act.eval, getD_lit, qGz, qGs]); with_reducible rfl))) | (refine St.pure (v := ?_) rfl rfl rfl (fun w => ?_) ?_; rotate_left; (focus (go_simp; all_goals with_reducible rfl))) | refine St.load rfl hM rfl rfl rfl rfl (by repeat constructor) (by rfl) (by kernel_rfl) ?_ | refine St.load1 rfl rfl rfl rfl (by repeat constructor) (by rfl) (by kernel_rfl) ?_); (try simp only [Act.put, qSa, qSz, qSs]))) | (first | (refine wp_seq_shut (fun K hK => ?_)) | (refine wp_text hM (fun Kr hKr => ?_); simp only [inText]) | refine wp_block ?_ | (refine wp_cond_false rfl ?_) | ((refine hK.out _ _ ?_); clear hK K)) | ((refine wp_drawn (id := 6) hM (Sub.all _) [3, 5] [(0, 0), (1, 0), (2, 0), (3, 1), (4, 0), (5, 1), (6, 2), (7, 2), (8, 3), (9, 2)] (by kernel_rfl) (by kernel_rfl) ?_); (clear hM; intro w hM Kr hKr); simp only [opsOf, qGz, qGs])))
        ((refine St.call rfl rfl rfl (by kernel_rfl) (fun R hR => ?_); simp only [List.map_toArray, List.map_cons, List.map_nil, Act.eval, getD_lit, qGz, qGs]))
        refine (CA.out _ ⟨hM.part (by repeat (first | exact Part.here | apply Part.skip)), HK.out.prc, HT.out.fit⟩).mono ?_
        (rintro e w' ⟨rfl, hb⟩; refine hR.out _ _ (fun h => h.below hb) ?_; clear hR R; replace hM := hM.below hb; clear hb; (try simp only [Act.put, qSa, qSz, qSs]))
        (repeat (first | ((with_reducible show wpSeq _ _ _ _ _ _ _); first | ((with_reducible refine wpSeq_nil ?_); refine hKr.out _ _ ?_; clear hKr Kr) | ((first | (refine St.copy (v := ?_) (by exact .inr rfl) rfl rfl ?_ ?_; rotate_left; (focus ((try simp only [Act.eval, getD_lit, qGz, qGs]); with_reducible rfl))) | (refine St.pure (v := ?_) rfl rfl rfl (fun w => ?_) ?_; rotate_left; (focus (go_simp; all_goals with_reducible rfl))) | ((((refine St.storeRow rfl hM rfl rfl rfl rfl rfl (by repeat constructor) (Nat.le_of_ble_eq_true rfl) (Nat.le_of_ble_eq_true rfl) (by kernel_rfl) rfl ?_ ?_); (focus ((intro h; cases h; done))); clear hM; intro w hM)); (try simp only [Res.put, Res.known, Act.eval, Value.cells, getD_lit, qGz, qGs, List.toList_toArray, qSz, qSs, over, Nat.reduceAdd] at hM))); (try simp only [Act.put, qSa, qSz, qSs]))) | (first | (refine wp_seq_shut (fun K hK => ?_)) | (refine wp_text hM (fun Kr hKr => ?_); simp only [inText]) | (refine wp_cond_true rfl ?_) | ((refine hK.out _ _ ?_); clear hK K))))
        ((refine wp_ret ?_; (try simp only [Exit.then, Exit.inBlock]); refine St.ret hM rfl (by repeat (first | exact Outs.nil | (apply Outs.row rfl rfl (by repeat constructor) (by kernel_rfl)))) rfl ?_))
        exact ⟨none, x, β, γ, rfl, ⟨rfl, rfl⟩, rfl, HK.out, hM.forget.forget⟩
      | false =>
        go_enter Tryz.func51, Tryz.ntmps51
        (repeat (first | ((with_reducible show wpSeq _ _ _ _ _ _ _); first | ((with_reducible refine wpSeq_nil ?_); refine hKr.out _ _ ?_; clear hKr Kr) | ((first | (refine St.copy (v := ?_) (by exact .inl rfl) rfl rfl ?_ ?_; rotate_left; (focus ((try simp only [Act.eval, getD_lit, qGz, qGs]); with_reducible rfl))) | ((((refine St.box rfl hM rfl rfl rfl ?_); clear hM; intro w bk hM)); (try simp only [Res.put, Res.known, Act.eval, Value.cells, getD_lit, qGz, qGs, List.toList_toArray, qSz, qSs, over, Nat.reduceAdd] at hM))); (try simp only [Act.put, qSa, qSz, qSs])) | (((refine St.alloc (ty := 31) (z := .agg #[.int .i64 0, .int .i64 0, .string ⟨#[]⟩, .slice none 0 0]) rfl hM rfl rfl (by kernel_rfl) ?_); clear hM; intro w bk hM); (try simp only [Res.put, Res.known, Act.eval, Value.cells, getD_lit, qGz, qGs, List.toList_toArray, qSz, qSs, over, Nat.reduceAdd] at hM); (try simp only [Act.put, qSa, qSz, qSs]))) | (first | (refine wp_seq_shut (fun K hK => ?_)) | (refine wp_text hM (fun Kr hKr => ?_); simp only [inText]) | ((refine hK.out _ _ ?_); clear hK K))))
        ((refine St.call rfl rfl rfl (by kernel_rfl) (fun R hR => ?_); simp only [List.map_toArray, List.map_cons, List.map_nil, Act.eval, getD_lit, qGz, qGs]))
        refine (C.out _ ⟨hM.part (by repeat (first | exact Part.here | apply Part.skip)), HK.out.prc, HT.out.fit⟩ (hM.holds (wrlE x.b x.P.b x.X.b) (by repeat constructor))).mono ?_
        rintro e w' ⟨rfl, hb⟩; replace hM := hM.below hb; (refine hR.out _ _ (fun _ => ⟨hM.only, nofun⟩) ?_); clear hR R hb; (try simp only [Act.put, qSa, qSz, qSs])
        (repeat (first | ((with_reducible show wpSeq _ _ _ _ _ _ _); first | ((with_reducible refine wpSeq_nil ?_); refine hKr.out _ _ ?_; clear hKr Kr) | ((first | (refine St.copy (v := ?_) (by first | exact .inl rfl | exact .inr rfl) rfl rfl ?_ ?_; rotate_left; (focus ((try simp only [Act.eval, getD_lit, qGz, qGs]); with_reducible rfl))) | (refine St.pure (v := ?_) rfl rfl rfl (fun w => ?_) ?_; rotate_left; (focus (go_simp; all_goals with_reducible rfl))) | refine St.load rfl hM rfl rfl rfl rfl (by repeat constructor) (by rfl) (by kernel_rfl) ?_ | refine St.load1 rfl rfl rfl rfl (by repeat constructor) (by rfl) (by kernel_rfl) ?_); (try simp only [Act.put, qSa, qSz, qSs]))) | (first | (refine wp_seq_shut (fun K hK => ?_)) | (refine wp_text hM (fun Kr hKr => ?_); simp only [inText]) | refine wp_block ?_ | (refine wp_cond_false rfl ?_) | ((refine hK.out _ _ ?_); clear hK K)) | ((refine wp_drawn (id := 6) hM (Sub.all _) [3, 5] [(0, 0), (1, 0), (2, 0), (3, 1), (4, 0), (5, 1), (6, 2), (7, 2), (8, 3), (9, 2)] (by kernel_rfl) (by kernel_rfl) ?_); (clear hM; intro w hM Kr hKr); simp only [opsOf, qGz, qGs])))
        ((refine St.call rfl rfl rfl (by kernel_rfl) (fun R hR => ?_); simp only [List.map_toArray, List.map_cons, List.map_nil, Act.eval, getD_lit, qGz, qGs]))
        refine (CA.out _ ⟨hM.part (by repeat (first | exact Part.here | apply Part.skip)), HK.out.prc, HT.out.fit⟩).mono ?_
        (rintro e w' ⟨rfl, hb⟩; refine hR.out _ _ (fun h => h.below hb) ?_; clear hR R; replace hM := hM.below hb; clear hb; (try simp only [Act.put, qSa, qSz, qSs]))
        (repeat (first | ((with_reducible show wpSeq _ _ _ _ _ _ _); first | ((with_reducible refine wpSeq_nil ?_); refine hKr.out _ _ ?_; clear hKr Kr) | ((first | (refine St.copy (v := ?_) (by exact .inr rfl) rfl rfl ?_ ?_; rotate_left; (focus ((try simp only [Act.eval, getD_lit, qGz, qGs]); with_reducible rfl))) | (refine St.pure (v := ?_) rfl rfl rfl (fun w => ?_) ?_; rotate_left; (focus (go_simp; all_goals with_reducible rfl))) | ((((refine St.storeRow rfl hM rfl rfl rfl rfl rfl (by repeat constructor) (Nat.le_of_ble_eq_true rfl) (Nat.le_of_ble_eq_true rfl) (by kernel_rfl) rfl ?_ ?_); (focus ((intro h; cases h; done))); clear hM; intro w hM)); (try simp only [Res.put, Res.known, Act.eval, Value.cells, getD_lit, qGz, qGs, List.toList_toArray, qSz, qSs, over, Nat.reduceAdd] at hM))); (try simp only [Act.put, qSa, qSz, qSs]))) | (first | (refine wp_seq_shut (fun K hK => ?_)) | (refine wp_text hM (fun Kr hKr => ?_); simp only [inText]) | refine wp_skip ?_ | (refine wp_cond_false rfl ?_) | ((refine hK.out _ _ ?_); clear hK K))))
        ((refine wp_ret ?_; (try simp only [Exit.then, Exit.inBlock]); refine St.ret hM rfl (by repeat (first | exact Outs.nil | (apply Outs.row rfl rfl (by repeat constructor) (by kernel_rfl)))) rfl ?_))
        exact ⟨none, x, β, γ, rfl, ⟨rfl, rfl⟩, rfl, HK.out, hM.forget.forget⟩
    · rw [if_neg h1]
      have hq : (op.kind != 15) = true := bne_iff_ne.2 h1
      simp only
      obtain ⟨r, hr⟩ : ∃ r, Ol.do_ W.d B op = r := ⟨_, rfl⟩
      rw [hr] at CE ⊢
      clear CA h0 h1 hr
      obtain ⟨pk, pp, pd, ph, pa, pn, px, py, pb⟩ := op
      simp only [OpD.cells] at hq CE ⊢
      go_enter Tryz.func51, Tryz.ntmps51
      (repeat (first | ((with_reducible show wpSeq _ _ _ _ _ _ _); first | ((with_reducible refine wpSeq_nil ?_); refine hKr.out _ _ ?_; clear hKr Kr) | ((first | (refine St.copy (v := ?_) (by exact .inl rfl) rfl rfl ?_ ?_; rotate_left; (focus ((try simp only [Act.eval, getD_lit, qGz, qGs]); with_reducible rfl))) | ((((refine St.box rfl hM rfl rfl rfl ?_); clear hM; intro w bk hM)); (try simp only [Res.put, Res.known, Act.eval, Value.cells, getD_lit, qGz, qGs, List.toList_toArray, qSz, qSs, over, Nat.reduceAdd] at hM))); (try simp only [Act.put, qSa, qSz, qSs])) | (((refine St.alloc (ty := 31) (z := .agg #[.int .i64 0, .int .i64 0, .string ⟨#[]⟩, .slice none 0 0]) rfl hM rfl rfl (by kernel_rfl) ?_); clear hM; intro w bk hM); (try simp only [Res.put, Res.known, Act.eval, Value.cells, getD_lit, qGz, qGs, List.toList_toArray, qSz, qSs, over, Nat.reduceAdd] at hM); (try simp only [Act.put, qSa, qSz, qSs]))) | (first | (refine wp_seq_shut (fun K hK => ?_)) | (refine wp_text hM (fun Kr hKr => ?_); simp only [inText]) | ((refine hK.out _ _ ?_); clear hK K))))
      ((refine St.call rfl rfl rfl (by kernel_rfl) (fun R hR => ?_); simp only [List.map_toArray, List.map_cons, List.map_nil, Act.eval, getD_lit, qGz, qGs]))
      refine (C.out _ ⟨hM.part (by repeat (first | exact Part.here | apply Part.skip)), HK.out.prc, HT.out.fit⟩ (hM.holds (wrlE x.b x.P.b x.X.b) (by repeat constructor))).mono ?_
      rintro e w' ⟨rfl, hb⟩; replace hM := hM.below hb; (refine hR.out _ _ (fun _ => ⟨hM.only, nofun⟩) ?_); clear hR R hb; (try simp only [Act.put, qSa, qSz, qSs])
      (repeat (first | ((with_reducible show wpSeq _ _ _ _ _ _ _); first | ((with_reducible refine wpSeq_nil ?_); refine hKr.out _ _ ?_; clear hKr Kr) | ((first | (refine St.copy (v := ?_) (by first | exact .inl rfl | exact .inr rfl) rfl rfl ?_ ?_; rotate_left; (focus ((try simp only [Act.eval, getD_lit, qGz, qGs]); with_reducible rfl))) | (refine St.pure (v := ?_) rfl rfl rfl (fun w => ?_) ?_; rotate_left; (focus (go_simp; all_goals with_reducible rfl))) | refine St.load rfl hM rfl rfl rfl rfl (by repeat constructor) (by rfl) (by kernel_rfl) ?_ | refine St.load1 rfl rfl rfl rfl (by repeat constructor) (by rfl) (by kernel_rfl) ?_ | ((refine St.loadRow rfl hM rfl rfl rfl rfl (by repeat constructor) (Nat.le_of_ble_eq_true rfl) (by kernel_rfl) ?_); (try simp only [Res.known, List.drop_succ_cons, List.drop_zero, List.take_succ_cons, List.take_zero]))); (try simp only [Act.put, qSa, qSz, qSs]))) | (first | (refine wp_seq_shut (fun K hK => ?_)) | (refine wp_text hM (fun Kr hKr => ?_); simp only [inText]) | refine wp_block ?_ | (first | refine wp_cond_true rfl ?_ | refine wp_cond_false rfl ?_) | ((refine hK.out _ _ ?_); clear hK K)) | ((refine wp_drawn (id := 5) hM (Sub.skip (Sub.take (Sub.take Sub.nil))) [3] [(0, 0), (1, 0), (2, 0), (3, 1), (4, 0), (5, 2), (6, 3), (7, 3)] (by kernel_rfl) (by kernel_rfl) ?_); (clear hM; intro w hM Kr hKr); simp only [opsOf, qGz, qGs])))
      ((refine St.call rfl rfl rfl (by kernel_rfl) (fun R hR => ?_); simp only [List.map_toArray, List.map_cons, List.map_nil, Act.eval, getD_lit, qGz, qGs]))
      refine (CE.out _ β γ (hM.dsk (by repeat (first | exact Part.all | apply Part.skip | apply Part.past)) HK.out.dsk HT.out.disk HX.out F0)).mono ?_
      rintro e w' ⟨s, X', β', γ', rfl, hs, hb, hk, hN2⟩
      replace hM := hM.backM (.skip (.skip (.skip (.past .all)))) (dskL_flag _ _ _ _) hN2 (fun y hy => (List.mem_append.1 hy).elim (txL_flag _ _ y) (dskL_flag _ _ _ _ y))
      refine hR.out _ _ (fun _ => hM.held (fun z hz => by
        simp only [List.mem_cons, List.not_mem_nil, or_false] at hz
        rcases hz with rfl | rfl
        · exact .tail _ (.head _)
        · exact .tail _ (.tail _ (.head _)))) ?_; clear hR R hN2 CE
      obtain ⟨va, vc, hv, -⟩ := slV_open hs
      have HS := Lib.hid hs
      clear hs
      rw [hv]
      (try simp only [Act.put, qSa, qSz, qSs])
      (repeat (first | ((with_reducible show wpSeq _ _ _ _ _ _ _); first | ((with_reducible refine wpSeq_nil ?_); refine hKr.out _ _ ?_; clear hKr Kr) | ((((((refine St.storeRow rfl hM rfl rfl rfl rfl rfl (by repeat constructor) (Nat.le_of_ble_eq_true rfl) (Nat.le_of_ble_eq_true rfl) (by kernel_rfl) rfl ?_ ?_); (focus ((intro h; cases h; done))); clear hM; intro w hM)); (try simp only [Res.put, Res.known, Act.eval, Value.cells, getD_lit, qGz, qGs, List.toList_toArray, qSz, qSs, over, Nat.reduceAdd] at hM))); (try simp only [Act.put, qSa, qSz, qSs]))) | (((refine hK.out _ _ ?_); clear hK K))))
      ((refine wp_ret ?_; (try simp only [Exit.then, Exit.inBlock]); refine St.ret hM rfl (by repeat (first | exact Outs.nil | (apply Outs.row rfl rfl (by repeat constructor) (by kernel_rfl)))) rfl ?_))
      refine ⟨s, ⟨x.b, x.P, X'⟩, β', γ', by rw [hv]; rfl, HS.out, rfl, ⟨hk, HK.out.prc⟩, ?_⟩
      have hM2 := hM.forget.forget.perm (perm_wd _ _ _ _)
      show St _ F _ (_ ++ (wrlE x.b x.P.b X'.b :: _))
      rw [hb]
      exact hM2
/-- Do, where the answer lists no names: the world alone comes back. -/
theorem wDo_bare (h : WrlAt N x β γ W w) (hN : N ≤ 999999980) {pid : Int} (hp : Fits pid) (op : OpD) (ho : op.Ok) (hop : Fits op.pid) {er n : Int} {da : ByteArray} {W' : WrlD} (hd : Wd.do_ W pid op = (⟨er, n, da, []⟩, W')) :
    Calls Tryz.prog 51 #[.pointer (some ⟨x.b, 0, none⟩), .int .i64 pid, .agg op.cells.toArray] w fun e w' => (∃ a c, e = .returned (.agg #[.int .i64 er, .int .i64 n, .string da, .slice a 0 c])) ∧ WGoes w x β γ W w' W' := by
  refine (wDo_any h hN hp op ho hop).mono ?_
  rintro e w' ⟨s, x', β', γ', rfl, hs, hb, hok, hM⟩
  rw [hd] at hM hok ⊢
  refine ⟨?_, x', β', γ', hb, hok, hM.subM (List.sublist_append_right _ _)⟩
  rcases s with _ | ⟨g, c⟩ <;> exact ⟨_, _, rfl⟩
set_option maxHeartbeats 4000000 in
set_option maxRecDepth 100000 in
theorem wPids_any (h : (wrlE b p d).2.2.holds w.heap[b]?) {P : PrcX} {t : PrcD} (hP : PrcAt P t w) (hp : P.b = p) : Calls Tryz.prog 57 #[.pointer (some ⟨b, 0, none⟩)] w (SomeInts (Pc.pids t) w) := by
  have hM := St.one h
  have HW := Lib.hid h
  have HP := Lib.hid hP
  subst hp
  clear h hP
  unfold wrlE at hM
  go_enter Tryz.func57, Tryz.ntmps57
  (repeat (first | ((with_reducible show wpSeq _ _ _ _ _ _ _); first | ((with_reducible refine wpSeq_nil ?_); refine hKr.out _ _ ?_; clear hKr Kr) | (((refine St.copy (v := ?_) (by first | exact .inl rfl | exact .inr rfl) rfl rfl ?_ ?_; rotate_left; (focus ((try simp only [Act.eval, getD_lit, qGz, qGs]); with_reducible rfl)))); (try simp only [Act.put, qSa, qSz, qSs]))) | (first | (refine wp_seq_shut (fun K hK => ?_)) | (refine wp_text hM (fun Kr hKr => ?_); simp only [inText]) | ((refine hK.out _ _ ?_); clear hK K))))
  ((refine St.call rfl rfl rfl (by kernel_rfl) (fun R hR => ?_); simp only [List.map_toArray, List.map_cons, List.map_nil, Act.eval, getD_lit, qGz, qGs]))
  refine (wgiven_any (hM.only.holds HW.out)).mono ?_
  rintro e w' ⟨rfl, rfl⟩; refine hR.out _ _ (fun h => h) ?_; clear hR R; (try simp only [Act.put, qSa, qSz, qSs])
  (repeat (first | ((with_reducible show wpSeq _ _ _ _ _ _ _); first | ((with_reducible refine wpSeq_nil ?_); refine hKr.out _ _ ?_; clear hKr Kr) | ((first | (refine St.copy (v := ?_) (by exact .inl rfl) rfl rfl ?_ ?_; rotate_left; (focus ((try simp only [Act.eval, getD_lit, qGz, qGs]); with_reducible rfl))) | (refine St.pure (v := ?_) rfl rfl rfl (fun w => ?_) ?_; rotate_left; (focus (go_simp; all_goals with_reducible rfl))) | refine St.load rfl hM rfl rfl rfl rfl (by repeat constructor) (by rfl) (by kernel_rfl) ?_); (try simp only [Act.put, qSa, qSz, qSs]))) | (first | (refine wp_seq_shut (fun K hK => ?_)) | (refine wp_text hM (fun Kr hKr => ?_); simp only [inText]) | refine wp_skip ?_ | (refine wp_cond_false rfl ?_) | ((refine hK.out _ _ ?_); clear hK K))))
  ((refine St.call rfl rfl rfl (by kernel_rfl) (fun R hR => ?_); simp only [List.map_toArray, List.map_cons, List.map_nil, Act.eval, getD_lit, qGz, qGs]))
  refine (pPids_any (HP.out.below hM.to_below)).mono ?_
  rintro e w' ⟨s1, rfl, hk, hN2⟩
  replace hM := hM.madeM hN2 (slL_flag _ _ _ _)
  refine hR.out _ _ (fun h => ⟨hM.only, nofun⟩) ?_; clear hR R hN2; (try simp only [Act.put, qSa, qSz, qSs])
  (repeat (first | ((with_reducible show wpSeq _ _ _ _ _ _ _); first | ((with_reducible refine wpSeq_nil ?_); refine hKr.out _ _ ?_; clear hKr Kr) | (((refine St.copy (v := ?_) (by exact .inr rfl) rfl rfl ?_ ?_; rotate_left; (focus ((try simp only [Act.eval, getD_lit, qGz, qGs]); with_reducible rfl)))); (try simp only [Act.put, qSa, qSz, qSs]))) | (((refine hK.out _ _ ?_); clear hK K))))
  ((refine wp_ret ?_; (try simp only [Exit.then, Exit.inBlock]); refine St.ret hM rfl (by repeat (first | exact Outs.nil | apply Outs.tmp rfl)) rfl ?_))
  exact ⟨s1, rfl, hk, St.front hM⟩
theorem perm_wc {α : Type} (n c : α) (f l p r : List α) : (n :: ((c :: (f ++ l)) ++ (p ++ r))).Perm ((n :: (p ++ (c :: (f ++ l)))) ++ r) := (perm_by (by intro _ x; simp only [List.append_eq, List.count_append, List.count_cons, List.count_nil, List.cons_append, List.nil_append]; omega))
set_option maxHeartbeats 8000000 in
set_option maxRecDepth 100000 in
/-- A world of its own with the same, what is sure shared. -/
theorem wClone_any (h : WrlAt N x β γ W w) (hN : N ≤ 1000000) : Calls Tryz.prog 59 #[.pointer (some ⟨x.b, 0, none⟩)] w fun e w' => ∃ b' P' c y δ s', e = .returned (.pointer (some ⟨b', 0, none⟩)) ∧ (PrcX.m P' = none → W.p.births = []) ∧ SlOK s' x.X.zs.length (x.X.zs.map LogV.val) 1 ∧
    St w [] w' (wrlE b' P'.b c :: (prcL P' W.p ++ (dskE c (FsX.f y) x.X.sure.f s' x.X.zs.length :: (fsL y δ W.d.now ++ logL s' (x.X.zs.map LogV.val))))) := by
  have hM := St.one h.row
  have HW := Lib.hid h
  have hlz : x.X.zs.length ≤ 1000000000 := by
    obtain ⟨K, -, h2⟩ := h.inv.disk.base
    have := congrArg List.length h.ok.dsk.log
    rw [List.length_map] at this
    omega
  unfold wrlE at hM
  go_enter Tryz.func59, Tryz.ntmps59
  (repeat (first | ((with_reducible show wpSeq _ _ _ _ _ _ _); first | ((with_reducible refine wpSeq_nil ?_); refine hKr.out _ _ ?_; clear hKr Kr) | (((refine St.copy (v := ?_) (by first | exact .inl rfl | exact .inr rfl) rfl rfl ?_ ?_; rotate_left; (focus ((try simp only [Act.eval, getD_lit, qGz, qGs]); with_reducible rfl)))); (try simp only [Act.put, qSa, qSz, qSs]))) | (first | (refine wp_seq_shut (fun K hK => ?_)) | (refine wp_text hM (fun Kr hKr => ?_); simp only [inText]) | ((refine hK.out _ _ ?_); clear hK K))))
  ((refine St.call rfl rfl rfl (by kernel_rfl) (fun R hR => ?_); simp only [List.map_toArray, List.map_cons, List.map_nil, Act.eval, getD_lit, qGz, qGs]))
  refine (wgiven_any (hM.only.holds HW.out.row)).mono ?_
  rintro e w' ⟨rfl, rfl⟩; refine hR.out _ _ (fun h => h) ?_; clear hR R; (try simp only [Act.put, qSa, qSz, qSs])
  (repeat (first | ((with_reducible show wpSeq _ _ _ _ _ _ _); first | ((with_reducible refine wpSeq_nil ?_); refine hKr.out _ _ ?_; clear hKr Kr) | ((first | (refine St.copy (v := ?_) (by exact .inl rfl) rfl rfl ?_ ?_; rotate_left; (focus ((try simp only [Act.eval, getD_lit, qGz, qGs]); with_reducible rfl))) | (refine St.pure (v := ?_) rfl rfl rfl (fun w => ?_) ?_; rotate_left; (focus (go_simp; all_goals with_reducible rfl))) | refine St.load1 rfl rfl rfl rfl (by repeat constructor) (by rfl) (by kernel_rfl) ?_); (try simp only [Act.put, qSa, qSz, qSs]))) | (first | (refine wp_seq_shut (fun K hK => ?_)) | refine wp_skip ?_ | (refine wp_cond_false rfl ?_) | ((refine hK.out _ _ ?_); clear hK K)) | ((refine wp_drawn (id := 3) hM (Sub.all _) [3, 8] [(0, 0), (1, 0), (2, 0), (3, 1), (5, 0), (6, 0), (7, 0), (8, 1), (4, 2), (9, 2), (10, 2), (11, 2), (12, 3)] (by kernel_rfl) (by kernel_rfl) ?_); (clear hM; intro w hM Kr hKr); simp only [opsOf, qGz, qGs])))
  ((refine St.call rfl rfl rfl (by kernel_rfl) (fun R hR => ?_); simp only [List.map_toArray, List.map_cons, List.map_nil, Act.eval, getD_lit, qGz, qGs]))
  refine (pClone_any (HW.out.below hM.to_below).prc).mono ?_
  rintro e w' ⟨P', rfl, hz, hN2⟩
  replace hM := hM.madeM hN2 (prcL_flag _ _)
  refine hR.out _ _ (fun h => h.below hN2.to_below) ?_; clear hR R hN2; (try simp only [Act.put, qSa, qSz, qSs])
  (repeat (fail))
  ((refine St.call rfl rfl rfl (by kernel_rfl) (fun R hR => ?_); simp only [List.map_toArray, List.map_cons, List.map_nil, Act.eval, getD_lit, qGz, qGs]))
  have HD := (HW.out.below hM.to_below).dsk
  refine (dClone_any HD.ok.sl (val_one _) hlz (by omega) HD.row HD.now (HD.at_.sub log_sub)).mono ?_
  rintro e w' ⟨c, y, δ, s', rfl, hk, hN2⟩
  replace hM := hM.madeM hN2 (fun z hz => by
    rcases List.mem_cons.1 hz with rfl | hz
    · rfl
    · rcases List.mem_append.1 hz with hz | hz
      · exact fsL_flag _ _ _ z hz
      · exact slL_flag _ _ _ _ z hz)
  refine hR.out _ _ (fun h => h.below hN2.to_below) ?_; clear hR R hN2; (try simp only [Act.put, qSa, qSz, qSs])
  (repeat (first | ((with_reducible show wpSeq _ _ _ _ _ _ _); first | ((with_reducible refine wpSeq_nil ?_); refine hKr.out _ _ ?_; clear hKr Kr) | ((first | (refine St.copy (v := ?_) (by exact .inr rfl) rfl rfl ?_ ?_; rotate_left; (focus ((try simp only [Act.eval, getD_lit, qGz, qGs]); with_reducible rfl))) | (refine St.pure (v := ?_) rfl rfl rfl (fun w => ?_) ?_; rotate_left; (focus (go_simp; all_goals with_reducible rfl))) | ((((refine St.box rfl hM rfl rfl rfl ?_); clear hM; intro w bk hM)); (try simp only [Res.put, Res.known, Act.eval, Value.cells, getD_lit, qGz, qGs, List.toList_toArray, qSz, qSs, over, Nat.reduceAdd] at hM))); (try simp only [Act.put, qSa, qSz, qSs]))) | (((refine hK.out _ _ ?_); clear hK K))))
  ((refine wp_ret ?_; (try simp only [Exit.then, Exit.inBlock]); refine St.ret hM rfl (by repeat (first | exact Outs.nil | apply Outs.tmp rfl)) rfl ?_))
  exact ⟨bk, P', c, y, δ, s', rfl, hz, hk, (hM.perm (perm_wc _ _ _ _ _ _)).front⟩
end
end Go.Proofs.YtcicjklhbnipcaaGreatDoor
namespace Go.Proofs.YtcicjklhbnipcaaGreatDoor
set_option linter.unusedVariables false
set_option linter.unusedSimpArgs false
open Go.RowKit Go.Maps
section
variable {w w' w0 : World} {F : List Nat} {L : List Ent}
/-- What is no world, or one that New did not give. -/
def WBare (w : World) (p : Option Addr) : Prop := p = none ∨ ∃ f, p = some ⟨f, 0, none⟩ ∧ w.rangeAt f 0 [.pointer none, .pointer none]
theorem WBare.below {p : Option Addr} (h : WBare w p) (hb : Below w.heap.size w w') : WBare w' p := by
  rcases h with h | ⟨f, h, hc⟩
  · exact .inl h
  · refine .inr ⟨f, h, fun j v hj => ?_⟩
    have := hc j v hj
    exact (hb.cell (p := ⟨f, 0 + j, none⟩) (World.block_lt_of_cell? w _ this)).trans this
theorem wbare_none : WBare w none := .inl rfl
theorem wbare_at {f : Nat} {ow : Bool} {t : TypeId} (hM : St w0 F w L) (hm : (f, ow, Res.cells [.pointer none, .pointer none] t) ∈ L) : WBare w (some ⟨f, 0, none⟩) :=
  .inr ⟨f, rfl, Res.range (q := 0) (n := 2) (hM.holds _ hm) (Nat.le_refl _)⟩
theorem wbare_cells {f : Nat} (h : w.rangeAt f 0 [.pointer none, .pointer none]) : w.cell? ⟨f, 1, none⟩ = some (.pointer none) := h 1 _ rfl
set_option maxHeartbeats 4000000 in
set_option maxRecDepth 100000 in
theorem wgiven_no {p : Option Addr} (h : WBare w p) : Calls Tryz.prog 94 #[.pointer p] w fun e w' => e = .returned (.bool false) ∧ w = w' := by
  have hM := St.start w []
  rcases h with rfl | ⟨f, rfl, hc⟩
  · go_enter Tryz.func94, Tryz.ntmps94
    (repeat (first | ((with_reducible show wpSeq _ _ _ _ _ _ _); first | ((with_reducible refine wpSeq_nil ?_); refine hKr.out _ _ ?_; clear hKr Kr) | ((first | (refine St.copy (v := ?_) (by first | exact .inl rfl | exact .inr rfl) rfl rfl ?_ ?_; rotate_left; (focus ((try simp only [Act.eval, getD_lit, qGz, qGs]); with_reducible rfl))) | (refine St.pure (v := ?_) rfl rfl rfl (fun w => ?_) ?_; rotate_left; (focus (go_simp; all_goals with_reducible rfl))) | refine wpSeq_off rfl rfl ?_); (try simp only [Act.put, qSa, qSz, qSs]))) | (first | (refine wp_seq_shut (fun K hK => ?_)) | (refine wp_text hM (fun Kr hKr => ?_); simp only [inText]) | ((refine hK.out _ _ ?_); clear hK K))))
    (refine wp_ret ?_; (try simp only [Exit.then, Exit.inBlock]); refine St.ret hM rfl (by repeat (first | exact Outs.nil | apply Outs.tmp rfl)) rfl ?_)
    exact ⟨rfl, rfl⟩
  · have c1 := wbare_cells hc
    clear hc
    go_enter Tryz.func94, Tryz.ntmps94
    (repeat (first | ((with_reducible show wpSeq _ _ _ _ _ _ _); first | ((with_reducible refine wpSeq_nil ?_); refine hKr.out _ _ ?_; clear hKr Kr) | ((first | (refine St.copy (v := ?_) (by first | exact .inl rfl | exact .inr rfl) rfl rfl ?_ ?_; rotate_left; (focus ((try simp only [Act.eval, getD_lit, qGz, qGs]); with_reducible rfl))) | (refine St.pure (v := ?_) rfl rfl rfl (fun w => ?_) ?_; rotate_left; (focus (go_simp; all_goals with_reducible rfl))) | refine St.loadF rfl rfl rfl rfl rfl (hM.old (by assumption)) (by kernel_rfl) ?_); (try simp only [Act.put, qSa, qSz, qSs]))) | (first | (refine wp_seq_shut (fun K hK => ?_)) | (refine wp_text hM (fun Kr hKr => ?_); simp only [inText]) | ((refine hK.out _ _ ?_); clear hK K))))
    (refine wp_ret ?_; (try simp only [Exit.then, Exit.inBlock]); refine St.ret hM rfl (by repeat (first | exact Outs.nil | apply Outs.tmp rfl)) rfl ?_)
    exact ⟨rfl, rfl⟩
set_option maxHeartbeats 4000000 in
set_option maxRecDepth 100000 in
theorem wSpawn_no {p : Option Addr} (h : WBare w p) (i : Int) : Calls Tryz.prog 91 #[.pointer p, .int .i64 i] w fun e w' => e = .returned (.tuple #[.int .i64 0, .int .i64 1]) ∧ Below w.heap.size w w' := by
  have hM := St.start w []
  have C := Lib.hid (fun (W : World) (hb : Below w.heap.size w W) => wgiven_no (h.below hb))
  clear h
  go_enter Tryz.func91, Tryz.ntmps91
  (repeat (first | (first | ((with_reducible show wpSeq _ _ _ _ _ _ _); first | ((with_reducible refine wpSeq_nil ?_); refine hKr.out _ _ ?_; clear hKr Kr) | ((first | (refine St.copy (v := ?_) (by first | exact .inl rfl | exact .inr rfl) rfl rfl ?_ ?_; rotate_left; (focus ((try simp only [Act.eval, getD_lit, qGz, qGs]); with_reducible rfl))) | (refine St.pure (v := ?_) rfl rfl rfl (fun w => ?_) ?_; rotate_left; (focus (go_simp; all_goals with_reducible rfl)))); (try simp only [Act.put, qSa, qSz, qSs]))) | (first | (refine wp_seq_shut (fun K hK => ?_)) | (refine wp_text hM (fun Kr hKr => ?_); simp only [inText]) | (refine wp_cond_true rfl ?_) | ((refine hK.out _ _ ?_); clear hK K))) | ((refine St.call rfl rfl rfl (by kernel_rfl) (fun R hR => ?_); simp only [List.map_toArray, List.map_cons, List.map_nil, Act.eval, getD_lit, qGz, qGs]); ((with_reducible refine (C.out _ hM.to_below).mono ?_); (rintro e w' ⟨rfl, rfl⟩; refine hR.out _ _ (fun h => h) ?_; clear hR R; (try simp only [Act.put, qSa, qSz, qSs]))))))
  ((refine wp_ret ?_; (try simp only [Exit.then, Exit.inBlock]); refine St.ret hM rfl (by repeat (first | exact Outs.nil | apply Outs.tmp rfl)) rfl ?_))
  exact ⟨rfl, hM.to_below⟩
set_option maxHeartbeats 4000000 in
set_option maxRecDepth 100000 in
theorem wBirth_no {p : Option Addr} (h : WBare w p) (i : Int) : Calls Tryz.prog 49 #[.pointer p, .int .i64 i] w fun e w' => e = .returned (.tuple #[.int .i64 0, .int .i64 1]) ∧ Below w.heap.size w w' := by
  have hM := St.start w []
  have C := Lib.hid (fun (W : World) (hb : Below w.heap.size w W) => wgiven_no (h.below hb))
  clear h
  go_enter Tryz.func49, Tryz.ntmps49
  (repeat (first | (first | ((with_reducible show wpSeq _ _ _ _ _ _ _); first | ((with_reducible refine wpSeq_nil ?_); refine hKr.out _ _ ?_; clear hKr Kr) | ((first | (refine St.copy (v := ?_) (by first | exact .inl rfl | exact .inr rfl) rfl rfl ?_ ?_; rotate_left; (focus ((try simp only [Act.eval, getD_lit, qGz, qGs]); with_reducible rfl))) | (refine St.pure (v := ?_) rfl rfl rfl (fun w => ?_) ?_; rotate_left; (focus (go_simp; all_goals with_reducible rfl)))); (try simp only [Act.put, qSa, qSz, qSs]))) | (first | (refine wp_seq_shut (fun K hK => ?_)) | (refine wp_text hM (fun Kr hKr => ?_); simp only [inText]) | (refine wp_cond_true rfl ?_) | ((refine hK.out _ _ ?_); clear hK K))) | ((refine St.call rfl rfl rfl (by kernel_rfl) (fun R hR => ?_); simp only [List.map_toArray, List.map_cons, List.map_nil, Act.eval, getD_lit, qGz, qGs]); ((with_reducible refine (C.out _ hM.to_below).mono ?_); (rintro e w' ⟨rfl, rfl⟩; refine hR.out _ _ (fun h => h) ?_; clear hR R; (try simp only [Act.put, qSa, qSz, qSs]))))))
  ((refine wp_ret ?_; (try simp only [Exit.then, Exit.inBlock]); refine St.ret hM rfl (by repeat (first | exact Outs.nil | apply Outs.tmp rfl)) rfl ?_))
  exact ⟨rfl, hM.to_below⟩
set_option maxHeartbeats 4000000 in
set_option maxRecDepth 100000 in
theorem wPids_no {p : Option Addr} (h : WBare w p) : Calls Tryz.prog 57 #[.pointer p] w fun e w' => e = .returned (.slice none 0 0) ∧ Below w.heap.size w w' := by
  have hM := St.start w []
  have C := Lib.hid (fun (W : World) (hb : Below w.heap.size w W) => wgiven_no (h.below hb))
  clear h
  go_enter Tryz.func57, Tryz.ntmps57
  (repeat (first | (first | ((with_reducible show wpSeq _ _ _ _ _ _ _); first | ((with_reducible refine wpSeq_nil ?_); refine hKr.out _ _ ?_; clear hKr Kr) | ((first | (refine St.copy (v := ?_) (by first | exact .inl rfl | exact .inr rfl) rfl rfl ?_ ?_; rotate_left; (focus ((try simp only [Act.eval, getD_lit, qGz, qGs]); with_reducible rfl))) | (refine St.pure (v := ?_) rfl rfl rfl (fun w => ?_) ?_; rotate_left; (focus (go_simp; all_goals with_reducible rfl)))); (try simp only [Act.put, qSa, qSz, qSs]))) | (first | (refine wp_seq_shut (fun K hK => ?_)) | (refine wp_text hM (fun Kr hKr => ?_); simp only [inText]) | (refine wp_cond_true rfl ?_) | ((refine hK.out _ _ ?_); clear hK K))) | ((refine St.call rfl rfl rfl (by kernel_rfl) (fun R hR => ?_); simp only [List.map_toArray, List.map_cons, List.map_nil, Act.eval, getD_lit, qGz, qGs]); ((with_reducible refine (C.out _ hM.to_below).mono ?_); (rintro e w' ⟨rfl, rfl⟩; refine hR.out _ _ (fun h => h) ?_; clear hR R; (try simp only [Act.put, qSa, qSz, qSs]))))))
  ((refine wp_ret ?_; (try simp only [Exit.then, Exit.inBlock]); refine St.ret hM rfl (by repeat (first | exact Outs.nil | apply Outs.tmp rfl)) rfl ?_))
  exact ⟨rfl, hM.to_below⟩
set_option maxHeartbeats 4000000 in
set_option maxRecDepth 100000 in
theorem wPower_no {p : Option Addr} (h : WBare w p) (k : Int) : Calls Tryz.prog 92 #[.pointer p, .int .i64 k] w fun e w' => e = .returned (.int .i64 1) ∧ Below w.heap.size w w' := by
  have hM := St.start w []
  have C := Lib.hid (fun (W : World) (hb : Below w.heap.size w W) => wgiven_no (h.below hb))
  clear h
  go_enter Tryz.func92, Tryz.ntmps92
  (repeat (first | (first | ((with_reducible show wpSeq _ _ _ _ _ _ _); first | ((with_reducible refine wpSeq_nil ?_); refine hKr.out _ _ ?_; clear hKr Kr) | ((first | (refine St.copy (v := ?_) (by first | exact .inl rfl | exact .inr rfl) rfl rfl ?_ ?_; rotate_left; (focus ((try simp only [Act.eval, getD_lit, qGz, qGs]); with_reducible rfl))) | (refine St.pure (v := ?_) rfl rfl rfl (fun w => ?_) ?_; rotate_left; (focus (go_simp; all_goals with_reducible rfl)))); (try simp only [Act.put, qSa, qSz, qSs]))) | (first | (refine wp_seq_shut (fun K hK => ?_)) | (refine wp_text hM (fun Kr hKr => ?_); simp only [inText]) | (refine wp_cond_true rfl ?_) | ((refine hK.out _ _ ?_); clear hK K))) | ((refine St.call rfl rfl rfl (by kernel_rfl) (fun R hR => ?_); simp only [List.map_toArray, List.map_cons, List.map_nil, Act.eval, getD_lit, qGz, qGs]); ((with_reducible refine (C.out _ hM.to_below).mono ?_); (rintro e w' ⟨rfl, rfl⟩; refine hR.out _ _ (fun h => h) ?_; clear hR R; (try simp only [Act.put, qSa, qSz, qSs]))))))
  ((refine wp_ret ?_; (try simp only [Exit.then, Exit.inBlock]); refine St.ret hM rfl (by repeat (first | exact Outs.nil | apply Outs.tmp rfl)) rfl ?_))
  exact ⟨rfl, hM.to_below⟩
set_option maxHeartbeats 4000000 in
set_option maxRecDepth 100000 in
theorem wUsed_no {p : Option Addr} (h : WBare w p) : Calls Tryz.prog 55 #[.pointer p] w fun e w' => e = .returned (.int .i64 0) ∧ Below w.heap.size w w' := by
  have hM := St.start w []
  have C := Lib.hid (fun (W : World) (hb : Below w.heap.size w W) => wgiven_no (h.below hb))
  clear h
  go_enter Tryz.func55, Tryz.ntmps55
  (repeat (first | (first | ((with_reducible show wpSeq _ _ _ _ _ _ _); first | ((with_reducible refine wpSeq_nil ?_); refine hKr.out _ _ ?_; clear hKr Kr) | ((first | (refine St.copy (v := ?_) (by first | exact .inl rfl | exact .inr rfl) rfl rfl ?_ ?_; rotate_left; (focus ((try simp only [Act.eval, getD_lit, qGz, qGs]); with_reducible rfl))) | (refine St.pure (v := ?_) rfl rfl rfl (fun w => ?_) ?_; rotate_left; (focus (go_simp; all_goals with_reducible rfl)))); (try simp only [Act.put, qSa, qSz, qSs]))) | (first | (refine wp_seq_shut (fun K hK => ?_)) | (refine wp_text hM (fun Kr hKr => ?_); simp only [inText]) | (refine wp_cond_true rfl ?_) | ((refine hK.out _ _ ?_); clear hK K))) | ((refine St.call rfl rfl rfl (by kernel_rfl) (fun R hR => ?_); simp only [List.map_toArray, List.map_cons, List.map_nil, Act.eval, getD_lit, qGz, qGs]); ((with_reducible refine (C.out _ hM.to_below).mono ?_); (rintro e w' ⟨rfl, rfl⟩; refine hR.out _ _ (fun h => h) ?_; clear hR R; (try simp only [Act.put, qSa, qSz, qSs]))))))
  ((refine wp_ret ?_; (try simp only [Exit.then, Exit.inBlock]); refine St.ret hM rfl (by repeat (first | exact Outs.nil | apply Outs.tmp rfl)) rfl ?_))
  exact ⟨rfl, hM.to_below⟩
set_option maxHeartbeats 4000000 in
set_option maxRecDepth 100000 in
theorem wLogged_no {p : Option Addr} (h : WBare w p) : Calls Tryz.prog 56 #[.pointer p] w fun e w' => e = .returned (.int .i64 0) ∧ Below w.heap.size w w' := by
  have hM := St.start w []
  have C := Lib.hid (fun (W : World) (hb : Below w.heap.size w W) => wgiven_no (h.below hb))
  clear h
  go_enter Tryz.func56, Tryz.ntmps56
  (repeat (first | (first | ((with_reducible show wpSeq _ _ _ _ _ _ _); first | ((with_reducible refine wpSeq_nil ?_); refine hKr.out _ _ ?_; clear hKr Kr) | ((first | (refine St.copy (v := ?_) (by first | exact .inl rfl | exact .inr rfl) rfl rfl ?_ ?_; rotate_left; (focus ((try simp only [Act.eval, getD_lit, qGz, qGs]); with_reducible rfl))) | (refine St.pure (v := ?_) rfl rfl rfl (fun w => ?_) ?_; rotate_left; (focus (go_simp; all_goals with_reducible rfl)))); (try simp only [Act.put, qSa, qSz, qSs]))) | (first | (refine wp_seq_shut (fun K hK => ?_)) | (refine wp_text hM (fun Kr hKr => ?_); simp only [inText]) | (refine wp_cond_true rfl ?_) | ((refine hK.out _ _ ?_); clear hK K))) | ((refine St.call rfl rfl rfl (by kernel_rfl) (fun R hR => ?_); simp only [List.map_toArray, List.map_cons, List.map_nil, Act.eval, getD_lit, qGz, qGs]); ((with_reducible refine (C.out _ hM.to_below).mono ?_); (rintro e w' ⟨rfl, rfl⟩; refine hR.out _ _ (fun h => h) ?_; clear hR R; (try simp only [Act.put, qSa, qSz, qSs]))))))
  ((refine wp_ret ?_; (try simp only [Exit.then, Exit.inBlock]); refine St.ret hM rfl (by repeat (first | exact Outs.nil | apply Outs.tmp rfl)) rfl ?_))
  exact ⟨rfl, hM.to_below⟩
set_option maxHeartbeats 4000000 in
set_option maxRecDepth 100000 in
theorem wFiles_no {p : Option Addr} (h : WBare w p) : Calls Tryz.prog 48 #[.pointer p] w fun e w' => e = .returned (.slice none 0 0) ∧ Below w.heap.size w w' := by
  have hM := St.start w []
  have C := Lib.hid (fun (W : World) (hb : Below w.heap.size w W) => wgiven_no (h.below hb))
  clear h
  go_enter Tryz.func48, Tryz.ntmps48
  (repeat (first | (first | ((with_reducible show wpSeq _ _ _ _ _ _ _); first | ((with_reducible refine wpSeq_nil ?_); refine hKr.out _ _ ?_; clear hKr Kr) | ((first | (refine St.copy (v := ?_) (by first | exact .inl rfl | exact .inr rfl) rfl rfl ?_ ?_; rotate_left; (focus ((try simp only [Act.eval, getD_lit, qGz, qGs]); with_reducible rfl))) | (refine St.pure (v := ?_) rfl rfl rfl (fun w => ?_) ?_; rotate_left; (focus (go_simp; all_goals with_reducible rfl)))); (try simp only [Act.put, qSa, qSz, qSs]))) | (first | (refine wp_seq_shut (fun K hK => ?_)) | (refine wp_text hM (fun Kr hKr => ?_); simp only [inText]) | (refine wp_cond_true rfl ?_) | ((refine hK.out _ _ ?_); clear hK K))) | ((refine St.call rfl rfl rfl (by kernel_rfl) (fun R hR => ?_); simp only [List.map_toArray, List.map_cons, List.map_nil, Act.eval, getD_lit, qGz, qGs]); ((with_reducible refine (C.out _ hM.to_below).mono ?_); (rintro e w' ⟨rfl, rfl⟩; refine hR.out _ _ (fun h => h) ?_; clear hR R; (try simp only [Act.put, qSa, qSz, qSs]))))))
  ((refine wp_ret ?_; (try simp only [Exit.then, Exit.inBlock]); refine St.ret hM rfl (by repeat (first | exact Outs.nil | apply Outs.tmp rfl)) rfl ?_))
  exact ⟨rfl, hM.to_below⟩
set_option maxHeartbeats 4000000 in
set_option maxRecDepth 100000 in
theorem wClone_no {p : Option Addr} (h : WBare w p) : Calls Tryz.prog 59 #[.pointer p] w fun e w' => e = .returned (.pointer none) ∧ Below w.heap.size w w' := by
  have hM := St.start w []
  have C := Lib.hid (fun (W : World) (hb : Below w.heap.size w W) => wgiven_no (h.below hb))
  clear h
  go_enter Tryz.func59, Tryz.ntmps59
  (repeat (first | (first | ((with_reducible show wpSeq _ _ _ _ _ _ _); first | ((with_reducible refine wpSeq_nil ?_); refine hKr.out _ _ ?_; clear hKr Kr) | ((first | (refine St.copy (v := ?_) (by first | exact .inl rfl | exact .inr rfl) rfl rfl ?_ ?_; rotate_left; (focus ((try simp only [Act.eval, getD_lit, qGz, qGs]); with_reducible rfl))) | (refine St.pure (v := ?_) rfl rfl rfl (fun w => ?_) ?_; rotate_left; (focus (go_simp; all_goals with_reducible rfl)))); (try simp only [Act.put, qSa, qSz, qSs]))) | (first | (refine wp_seq_shut (fun K hK => ?_)) | (refine wp_text hM (fun Kr hKr => ?_); simp only [inText]) | (refine wp_cond_true rfl ?_) | ((refine hK.out _ _ ?_); clear hK K))) | ((refine St.call rfl rfl rfl (by kernel_rfl) (fun R hR => ?_); simp only [List.map_toArray, List.map_cons, List.map_nil, Act.eval, getD_lit, qGz, qGs]); ((with_reducible refine (C.out _ hM.to_below).mono ?_); (rintro e w' ⟨rfl, rfl⟩; refine hR.out _ _ (fun h => h) ?_; clear hR R; (try simp only [Act.put, qSa, qSz, qSs]))))))
  ((refine wp_ret ?_; (try simp only [Exit.then, Exit.inBlock]); refine St.ret hM rfl (by repeat (first | exact Outs.nil | apply Outs.tmp rfl)) rfl ?_))
  exact ⟨rfl, hM.to_below⟩
set_option maxHeartbeats 4000000 in
set_option maxRecDepth 100000 in
theorem wKill_no {p : Option Addr} (h : WBare w p) (i : Int) : Calls Tryz.prog 93 #[.pointer p, .int .i64 i] w fun e w' => e = .returned (.int .i64 1) ∧ Below w.heap.size w w' := by
  have hM := St.start w []
  have C := Lib.hid (fun (W : World) (hb : Below w.heap.size w W) => wBirth_no (h.below hb) i)
  clear h
  go_enter Tryz.func93, Tryz.ntmps93
  (repeat (first | (first | ((with_reducible show wpSeq _ _ _ _ _ _ _); first | ((with_reducible refine wpSeq_nil ?_); refine hKr.out _ _ ?_; clear hKr Kr) | ((first | (refine St.copy (v := ?_) (by first | exact .inl rfl | exact .inr rfl) rfl rfl ?_ ?_; rotate_left; (focus ((try simp only [Act.eval, getD_lit, qGz, qGs]); with_reducible rfl))) | (refine St.pure (v := ?_) rfl rfl rfl (fun w => ?_) ?_; rotate_left; (focus (go_simp; all_goals with_reducible rfl)))); (try simp only [Act.put, qSa, qSz, qSs]))) | (first | (refine wp_seq_shut (fun K hK => ?_)) | (refine wp_text hM (fun Kr hKr => ?_); simp only [inText]) | (refine wp_cond_true rfl ?_) | ((refine hK.out _ _ ?_); clear hK K))) | ((refine St.call rfl rfl rfl (by kernel_rfl) (fun R hR => ?_); simp only [List.map_toArray, List.map_cons, List.map_nil, Act.eval, getD_lit, qGz, qGs]); ((with_reducible refine (C.out _ hM.to_below).mono ?_); (rintro e w' ⟨rfl, hb⟩; refine hR.out _ _ (fun h => h.below hb) ?_; clear hR R; replace hM := hM.below hb; clear hb; (try simp only [Act.put, qSa, qSz, qSs]))))))
  ((refine wp_ret ?_; (try simp only [Exit.then, Exit.inBlock]); refine St.ret hM rfl (by repeat (first | exact Outs.nil | apply Outs.tmp rfl)) rfl ?_))
  exact ⟨rfl, hM.to_below⟩
set_option maxHeartbeats 4000000 in
set_option maxRecDepth 100000 in
theorem wDo_no {p : Option Addr} (h : WBare w p) (i : Int) (q : OpD) : Calls Tryz.prog 51 #[.pointer p, .int .i64 i, .agg q.cells.toArray] w fun e w' => e = .returned (.agg #[.int .i64 1, .int .i64 0, .string ⟨#[]⟩, .slice none 0 0]) ∧ Below w.heap.size w w' := by
  have hM := St.start w []
  have C := Lib.hid (fun (W : World) (hb : Below w.heap.size w W) => wBirth_no (h.below hb) i)
  clear h
  obtain ⟨pk, pp, pd, ph, pa, pn, px, py, pb⟩ := q
  simp only [OpD.cells]
  go_enter Tryz.func51, Tryz.ntmps51
  (repeat (first | (first | ((with_reducible show wpSeq _ _ _ _ _ _ _); first | ((with_reducible refine wpSeq_nil ?_); refine hKr.out _ _ ?_; clear hKr Kr) | ((first | (refine St.copy (v := ?_) (by first | exact .inl rfl | exact .inr rfl) rfl rfl ?_ ?_; rotate_left; (focus ((try simp only [Act.eval, getD_lit, qGz, qGs]); with_reducible rfl))) | (refine St.pure (v := ?_) rfl rfl rfl (fun w => ?_) ?_; rotate_left; (focus (go_simp; all_goals with_reducible rfl))) | ((first | ((refine St.storeRow rfl hM rfl rfl rfl rfl rfl (by repeat constructor) (Nat.le_of_ble_eq_true rfl) (Nat.le_of_ble_eq_true rfl) (by kernel_rfl) rfl ?_ ?_); (focus ((intro h; cases h; done))); clear hM; intro w hM) | ((refine St.box rfl hM rfl rfl rfl ?_); clear hM; intro w bk hM)); (try simp only [Res.put, Res.known, Act.eval, Value.cells, getD_lit, qGz, qGs, List.toList_toArray, qSz, qSs, over, Nat.reduceAdd] at hM))); (try simp only [Act.put, qSa, qSz, qSs])) | (((refine St.alloc (ty := 31) (z := .agg #[.int .i64 0, .int .i64 0, .string ⟨#[]⟩, .slice none 0 0]) rfl hM rfl rfl (by kernel_rfl) ?_); clear hM; intro w bk hM); (try simp only [Res.put, Res.known, Act.eval, Value.cells, getD_lit, qGz, qGs, List.toList_toArray, qSz, qSs, over, Nat.reduceAdd] at hM); (try simp only [Act.put, qSa, qSz, qSs]))) | (first | (refine wp_seq_shut (fun K hK => ?_)) | (refine wp_text hM (fun Kr hKr => ?_); simp only [inText]) | refine wp_block ?_ | (refine wp_cond_true rfl ?_) | ((refine hK.out _ _ ?_); clear hK K))) | ((refine St.call rfl rfl rfl (by kernel_rfl) (fun R hR => ?_); simp only [List.map_toArray, List.map_cons, List.map_nil, Act.eval, getD_lit, qGz, qGs]); ((with_reducible refine (C.out _ hM.to_below).mono ?_); (rintro e w' ⟨rfl, hb⟩; refine hR.out _ _ (fun h => h.below hb) ?_; clear hR R; replace hM := hM.below hb; clear hb; (try simp only [Act.put, qSa, qSz, qSs]))))))
  ((refine wp_ret ?_; (try simp only [Exit.then, Exit.inBlock]); refine St.ret hM rfl (by repeat (first | exact Outs.nil | (apply Outs.row rfl rfl (by repeat constructor) (by kernel_rfl)))) rfl ?_))
  exact ⟨rfl, hM.to_below⟩
set_option maxHeartbeats 8000000 in
set_option maxRecDepth 100000 in
theorem step_no {p : Option Addr} (h : WBare w p) (a : ActV) : Calls Tryz.prog 50 #[.pointer p, .agg a.cells.toArray] w fun e w' => e = .returned (.agg #[.int .i64 1, .int .i64 0, .string ⟨#[]⟩, .slice none 0 0]) ∧ Below w.heap.size w w' := by
  have hM := St.start w []
  have HB := Lib.hid (fun (W : World) (hb : Below w.heap.size w W) => h.below hb)
  clear h
  obtain ⟨ak, ap, aq, ⟨pk, pp, pd, ph, pa, pn, px, py, pb⟩⟩ := a
  simp only [ActV.cells, OpD.cells]
  by_cases h1 : ak = 1
  · subst h1
    go_enter Tryz.func50, Tryz.ntmps50
    (repeat (first | (first | ((with_reducible show wpSeq _ _ _ _ _ _ _); first | ((with_reducible refine wpSeq_nil ?_); refine hKr.out _ _ ?_; clear hKr Kr) | ((first | (refine St.copy (v := ?_) (by first | exact .inl rfl | exact .inr rfl) rfl rfl ?_ ?_; rotate_left; (focus ((try simp only [Act.eval, getD_lit, qGz, qGs]); with_reducible rfl))) | (refine St.pure (v := ?_) rfl rfl rfl (fun w => ?_) ?_; rotate_left; (focus (go_simp; all_goals with_reducible rfl))) | refine St.load rfl hM rfl rfl rfl rfl (by repeat constructor) (by rfl) (by kernel_rfl) ?_ | ((first | ((refine St.storeRow rfl hM rfl rfl rfl rfl rfl (by repeat constructor) (Nat.le_of_ble_eq_true rfl) (Nat.le_of_ble_eq_true rfl) (by kernel_rfl) rfl ?_ ?_); (focus ((intro h; cases h; done))); clear hM; intro w hM) | ((refine St.box rfl hM rfl rfl rfl ?_); clear hM; intro w bk hM)); (try simp only [Res.put, Res.known, Act.eval, Value.cells, getD_lit, qGz, qGs, List.toList_toArray, qSz, qSs, over, Nat.reduceAdd] at hM))); (try simp only [Act.put, qSa, qSz, qSs])) | (((refine St.alloc (ty := 31) (z := .agg #[.int .i64 0, .int .i64 0, .string ⟨#[]⟩, .slice none 0 0]) rfl hM rfl rfl (by kernel_rfl) ?_); clear hM; intro w bk hM); (try simp only [Res.put, Res.known, Act.eval, Value.cells, getD_lit, qGz, qGs, List.toList_toArray, qSz, qSs, over, Nat.reduceAdd] at hM); (try simp only [Act.put, qSa, qSz, qSs]))) | (first | (refine wp_seq_shut (fun K hK => ?_)) | (refine wp_text hM (fun Kr hKr => ?_); simp only [inText]) | refine wp_block ?_ | (refine wp_cond_true rfl ?_) | ((refine hK.out _ _ ?_); clear hK K))) | ((refine St.call rfl rfl rfl (by kernel_rfl) (fun R hR => ?_); simp only [List.map_toArray, List.map_cons, List.map_nil, Act.eval, getD_lit, qGz, qGs]); ((with_reducible refine (wSpawn_no (HB.out _ hM.to_below) _).mono ?_); (rintro e w' ⟨rfl, hb⟩; refine hR.out _ _ (fun h => h.below hb) ?_; clear hR R; replace hM := hM.below hb; clear hb; (try simp only [Act.put, qSa, qSz, qSs]))))))
    ((refine wp_ret ?_; (try simp only [Exit.then, Exit.inBlock]); refine St.ret hM rfl (by repeat (first | exact Outs.nil | (apply Outs.row rfl rfl (by repeat constructor) (by kernel_rfl)))) rfl ?_))
    exact ⟨rfl, hM.to_below⟩
  have q1 : (ak == 1) = false := beq_eq_false_iff_ne.2 h1
  by_cases h2 : ak = 2
  · subst h2
    go_enter Tryz.func50, Tryz.ntmps50
    (repeat (first | (first | ((with_reducible show wpSeq _ _ _ _ _ _ _); first | ((with_reducible refine wpSeq_nil ?_); refine hKr.out _ _ ?_; clear hKr Kr) | ((first | (refine St.copy (v := ?_) (by first | exact .inl rfl | exact .inr rfl) rfl rfl ?_ ?_; rotate_left; (focus ((try simp only [Act.eval, getD_lit, qGz, qGs]); with_reducible rfl))) | (refine St.pure (v := ?_) rfl rfl rfl (fun w => ?_) ?_; rotate_left; (focus (go_simp; all_goals with_reducible rfl))) | refine St.load rfl hM rfl rfl rfl rfl (by repeat constructor) (by rfl) (by kernel_rfl) ?_ | ((first | ((refine St.storeRow rfl hM rfl rfl rfl rfl rfl (by repeat constructor) (Nat.le_of_ble_eq_true rfl) (Nat.le_of_ble_eq_true rfl) (by kernel_rfl) rfl ?_ ?_); (focus ((intro h; cases h; done))); clear hM; intro w hM) | ((refine St.box rfl hM rfl rfl rfl ?_); clear hM; intro w bk hM)); (try simp only [Res.put, Res.known, Act.eval, Value.cells, getD_lit, qGz, qGs, List.toList_toArray, qSz, qSs, over, Nat.reduceAdd] at hM))); (try simp only [Act.put, qSa, qSz, qSs])) | (((refine St.alloc (ty := 31) (z := .agg #[.int .i64 0, .int .i64 0, .string ⟨#[]⟩, .slice none 0 0]) rfl hM rfl rfl (by kernel_rfl) ?_); clear hM; intro w bk hM); (try simp only [Res.put, Res.known, Act.eval, Value.cells, getD_lit, qGz, qGs, List.toList_toArray, qSz, qSs, over, Nat.reduceAdd] at hM); (try simp only [Act.put, qSa, qSz, qSs]))) | (first | (refine wp_seq_shut (fun K hK => ?_)) | (refine wp_text hM (fun Kr hKr => ?_); simp only [inText]) | refine wp_block ?_ | (first | refine wp_cond_true rfl ?_ | refine wp_cond_false rfl ?_) | ((refine hK.out _ _ ?_); clear hK K))) | ((refine St.call rfl rfl rfl (by kernel_rfl) (fun R hR => ?_); simp only [List.map_toArray, List.map_cons, List.map_nil, Act.eval, getD_lit, qGz, qGs]); ((with_reducible refine (wKill_no (HB.out _ hM.to_below) _).mono ?_); (rintro e w' ⟨rfl, hb⟩; refine hR.out _ _ (fun h => h.below hb) ?_; clear hR R; replace hM := hM.below hb; clear hb; (try simp only [Act.put, qSa, qSz, qSs]))))))
    ((refine wp_ret ?_; (try simp only [Exit.then, Exit.inBlock]); refine St.ret hM rfl (by repeat (first | exact Outs.nil | (apply Outs.row rfl rfl (by repeat constructor) (by kernel_rfl)))) rfl ?_))
    exact ⟨rfl, hM.to_below⟩
  have q2 : (ak == 2) = false := beq_eq_false_iff_ne.2 h2
  by_cases h3 : ak = 3
  · subst h3
    go_enter Tryz.func50, Tryz.ntmps50
    (repeat (first | (first | ((with_reducible show wpSeq _ _ _ _ _ _ _); first | ((with_reducible refine wpSeq_nil ?_); refine hKr.out _ _ ?_; clear hKr Kr) | ((first | (refine St.copy (v := ?_) (by first | exact .inl rfl | exact .inr rfl) rfl rfl ?_ ?_; rotate_left; (focus ((try simp only [Act.eval, getD_lit, qGz, qGs]); with_reducible rfl))) | (refine St.pure (v := ?_) rfl rfl rfl (fun w => ?_) ?_; rotate_left; (focus (go_simp; all_goals with_reducible rfl))) | refine St.load rfl hM rfl rfl rfl rfl (by repeat constructor) (by rfl) (by kernel_rfl) ?_ | ((first | ((refine St.storeRow rfl hM rfl rfl rfl rfl rfl (by repeat constructor) (Nat.le_of_ble_eq_true rfl) (Nat.le_of_ble_eq_true rfl) (by kernel_rfl) rfl ?_ ?_); (focus ((intro h; cases h; done))); clear hM; intro w hM) | ((refine St.box rfl hM rfl rfl rfl ?_); clear hM; intro w bk hM)); (try simp only [Res.put, Res.known, Act.eval, Value.cells, getD_lit, qGz, qGs, List.toList_toArray, qSz, qSs, over, Nat.reduceAdd] at hM))); (try simp only [Act.put, qSa, qSz, qSs])) | (((refine St.alloc (ty := 31) (z := .agg #[.int .i64 0, .int .i64 0, .string ⟨#[]⟩, .slice none 0 0]) rfl hM rfl rfl (by kernel_rfl) ?_); clear hM; intro w bk hM); (try simp only [Res.put, Res.known, Act.eval, Value.cells, getD_lit, qGz, qGs, List.toList_toArray, qSz, qSs, over, Nat.reduceAdd] at hM); (try simp only [Act.put, qSa, qSz, qSs]))) | (first | (refine wp_seq_shut (fun K hK => ?_)) | (refine wp_text hM (fun Kr hKr => ?_); simp only [inText]) | refine wp_block ?_ | (first | refine wp_cond_true rfl ?_ | refine wp_cond_false rfl ?_) | ((refine hK.out _ _ ?_); clear hK K))) | ((refine St.call rfl rfl rfl (by kernel_rfl) (fun R hR => ?_); simp only [List.map_toArray, List.map_cons, List.map_nil, Act.eval, getD_lit, qGz, qGs]); ((with_reducible refine (wPower_no (HB.out _ hM.to_below) _).mono ?_); (rintro e w' ⟨rfl, hb⟩; refine hR.out _ _ (fun h => h.below hb) ?_; clear hR R; replace hM := hM.below hb; clear hb; (try simp only [Act.put, qSa, qSz, qSs]))))))
    ((refine wp_ret ?_; (try simp only [Exit.then, Exit.inBlock]); refine St.ret hM rfl (by repeat (first | exact Outs.nil | (apply Outs.row rfl rfl (by repeat constructor) (by kernel_rfl)))) rfl ?_))
    exact ⟨rfl, hM.to_below⟩
  have q3 : (ak == 3) = false := beq_eq_false_iff_ne.2 h3
  clear h1 h2 h3
  go_enter Tryz.func50, Tryz.ntmps50
  (repeat (first | (first | ((with_reducible show wpSeq _ _ _ _ _ _ _); first | ((with_reducible refine wpSeq_nil ?_); refine hKr.out _ _ ?_; clear hKr Kr) | ((first | (refine St.copy (v := ?_) (by first | exact .inl rfl | exact .inr rfl) rfl rfl ?_ ?_; rotate_left; (focus ((try simp only [Act.eval, getD_lit, qGz, qGs]); with_reducible rfl))) | (refine St.pure (v := ?_) rfl rfl rfl (fun w => ?_) ?_; rotate_left; (focus (go_simp; all_goals with_reducible rfl))) | refine St.load rfl hM rfl rfl rfl rfl (by repeat constructor) (by rfl) (by kernel_rfl) ?_ | ((refine St.loadRow rfl hM rfl rfl rfl rfl (by repeat constructor) (Nat.le_of_ble_eq_true rfl) (by kernel_rfl) ?_); (try simp only [Res.known, List.drop_succ_cons, List.drop_zero, List.take_succ_cons, List.take_zero])) | ((first | ((refine St.storeRow rfl hM rfl rfl rfl rfl rfl (by repeat constructor) (Nat.le_of_ble_eq_true rfl) (Nat.le_of_ble_eq_true rfl) (by kernel_rfl) rfl ?_ ?_); (focus ((intro h; cases h; done))); clear hM; intro w hM) | ((refine St.box rfl hM rfl rfl rfl ?_); clear hM; intro w bk hM)); (try simp only [Res.put, Res.known, Act.eval, Value.cells, getD_lit, qGz, qGs, List.toList_toArray, qSz, qSs, over, Nat.reduceAdd] at hM))); (try simp only [Act.put, qSa, qSz, qSs])) | (((refine St.alloc (ty := 31) (z := .agg #[.int .i64 0, .int .i64 0, .string ⟨#[]⟩, .slice none 0 0]) rfl hM rfl rfl (by kernel_rfl) ?_); clear hM; intro w bk hM); (try simp only [Res.put, Res.known, Act.eval, Value.cells, getD_lit, qGz, qGs, List.toList_toArray, qSz, qSs, over, Nat.reduceAdd] at hM); (try simp only [Act.put, qSa, qSz, qSs]))) | (first | (refine wp_seq_shut (fun K hK => ?_)) | (refine wp_text hM (fun Kr hKr => ?_); simp only [inText]) | refine wp_block ?_ | refine wp_skip ?_ | (refine wp_cond_false rfl ?_) | ((refine hK.out _ _ ?_); clear hK K))) | ((refine St.call rfl rfl rfl (by kernel_rfl) (fun R hR => ?_); simp only [List.map_toArray, List.map_cons, List.map_nil, Act.eval, getD_lit, qGz, qGs]); (refine (wDo_no (HB.out _ hM.to_below) _ ⟨pk, pp, pd, ph, pa, pn, px, py, pb⟩).mono ?_; (rintro e w' ⟨rfl, hb⟩; refine hR.out _ _ (fun h => h.below hb) ?_; clear hR R; replace hM := hM.below hb; clear hb; (try simp only [Act.put, qSa, qSz, qSs]))))))
  ((refine wp_ret ?_; (try simp only [Exit.then, Exit.inBlock]); refine St.ret hM rfl (by repeat (first | exact Outs.nil | (apply Outs.row rfl rfl (by repeat constructor) (by kernel_rfl)))) rfl ?_))
  exact ⟨rfl, hM.to_below⟩
end
end Go.Proofs.YtcicjklhbnipcaaGreatDoor
