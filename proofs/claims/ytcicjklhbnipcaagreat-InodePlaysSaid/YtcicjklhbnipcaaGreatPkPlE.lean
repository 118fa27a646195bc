/-
  Texts laid one behind the other: what RgS asks for.
-/
import Derived.Test.YtcicjklhbnipcaaGreatPkPlD
import Derived.BigQuiet
import Derived.BigRegion
import Derived.Deep.AppendLies
import Derived.Maps.RangeWalk
namespace Go.Proofs.YtcicjklhbnipcaaGreat
set_option linter.unusedVariables false
set_option linter.unusedSimpArgs false
open Go.RowKit Go.Maps
section
variable {w w' w0 : World} {F : List Nat} {L M : List Ent} {zs : List NodV} {x : RX} {t : TabD} {N : Nat} {q nx : Int}
set_option maxHeartbeats 16000000 in
set_option maxRecDepth 100000 in
theorem rRename_any (h : RIs x t zs w0) (I : In.Inv N t) (hN : N ≤ 900000) (dir : Int) (s : ByteArray) (tod : Int) (as_ : ByteArray) (hs : s.size ≤ 1000000000) (hs2 : as_.size ≤ 1000000000) :
    Calls Tryz.prog 34 #[.pointer (some ⟨x.g, 0, none⟩), .int .i64 dir, .string s, .int .i64 tod, .string as_] w0 fun e w' => e = .returned (.int .i64 (In.rename t dir s tod as_).1) ∧ RDid x t zs (In.rename t dir s tod as_).2 w0 w' := by
  by_cases hF : In.findE t dir s = 0
  · obtain ⟨d, hd, hdd, hl, hfn⟩ := In.findE_ok hF
    obtain ⟨n, hn⟩ := I.leads d (In.find_some hd).1 _ (In.leads_some hl)
    simp only at hn
    obtain ⟨z, hfz, hzd⟩ := h.some hd
    obtain ⟨y, hfy, hyn⟩ := h.some hn
    subst hzd hyn
    have hy := (rfind_mem hfy).1
    have hz := (rfind_mem hfz).1
    (obtain ⟨g, xs⟩ := x; obtain ⟨va, vc, hv, -⟩ := slV_open h.raw.sl; have hM : St w0 [g] w0 (rL ⟨g, xs⟩ t.quota (t.last + 1) zs) := h.raw.st; have HRP := Lib.hid (RP.start h.raw); have HOP := Lib.hid (fun nx => rL_open (x := ⟨g, xs⟩) (zs := zs) hv t.quota nx); obtain ⟨U, hU⟩ : ∃ U, (nodL xs zs ++ zs.flatMap NodV.ents).map unflag = U := ⟨_, rfl⟩; simp only [hU] at HOP; rw [HOP.out] at hM; have HAT := Lib.hid (fun (W : World) (hA : At ((g, true, Res.cells [.int .i64 t.quota, .int .i64 (t.last + 1), .slice va zs.length vc] 43) :: U) W) => (show RIs ⟨g, xs⟩ t zs W from ⟨RRaw.of (by rw [HOP.out]; exact hA) h.raw.sl h.raw.names h.raw.len, h.nodes⟩)); have HB := Lib.hid (fun (W : World) (hA : At ((g, true, Res.cells [.int .i64 t.quota, .int .i64 (t.last + 1), .slice va zs.length vc] 43) :: U) W) (ho : Only [g] w0 W) => (show RDid ⟨g, xs⟩ t zs t w0 W from ⟨xs, zs, h.nodes, HRP.out.to (by rw [HOP.out]; exact hA) ho⟩)))
    obtain ⟨ya, yc, hyv, -⟩ := slV_open (h.raw.names y hy)
    have HFI := Lib.hid (fun (W : World) (hA : At ((g, true, Res.cells [.int .i64 t.quota, .int .i64 (t.last + 1), .slice va zs.length vc] 43) :: U) W) => rFindE_any (HAT.out W hA) I hN dir s hs)
    have HG := Lib.hid (fun (W : World) (hA : At ((g, true, Res.cells [.int .i64 t.quota, .int .i64 (t.last + 1), .slice va zs.length vc] 43) :: U) W) => rget_some (HAT.out W hA).raw hfy)
    rw [hF, hfn] at HFI
    rw [NodV.open hyv] at HG
    cases hyd : y.1.dir with
    | true =>
      have HE := Lib.hid (In.rename_bad (t := t) (dir := dir) (s := s) (tod := tod) (as_ := as_) (e := 12) (by decide) (by rw [In.renameE_un (by rw [unlinkE_find hF, hfn, In.getE_some hn, hyd]; decide), unlinkE_find hF, hfn, In.getE_some hn, hyd]; rfl))
      rw [hyd] at HG
      generalize In.leads z.1.names s = k at *
      (have HH := Lib.hid h; have HI := Lib.hid I; clear h I hv hU)
      clear hF hd hdd hl hfn hn
      go_enter Tryz.func34, Tryz.ntmps34
      (repeat (first | ((with_reducible show wpSeq _ _ _ _ _ _ _); first | ((with_reducible refine wpSeq_nil ?_); refine hKr.out _ _ ?_; clear hKr Kr) | (((refine St.copy (v := ?_) (by first | exact .inl rfl | exact .inr rfl) rfl rfl ?_ ?_; rotate_left; (focus ((try simp only [Act.eval, getD_lit, qGz, qGs]); with_reducible rfl)))); (try simp only [Act.put, qSa, qSz, qSs]))) | (first | (refine wp_seq_shut (fun K hK => ?_)) | (refine wp_text hM (fun Kr hKr => ?_); simp only [List.append_eq, List.cons_append, List.nil_append, inText]) | ((refine hK.out _ _ ?_); clear hK K))))
      ((refine St.call3 rfl rfl (by kernel_rfl) (fun R hR => ?_); simp only [List.map_toArray, List.map_cons, List.map_nil, Act.eval, getD_lit, qGz, qGs]); refine (HFI.out _ (hM.part (by repeat (exact Part.all)))).mono ?_; (rintro e w' ⟨rfl, hb⟩; refine hR.out _ _ ?_; clear hR R; replace hM := hM.below hb; clear hb; (try simp only [Act.put, qSa, qSz, qSs])))
      (repeat (first | ((with_reducible show wpSeq _ _ _ _ _ _ _); first | ((with_reducible refine wpSeq_nil ?_); refine hKr.out _ _ ?_; clear hKr Kr) | ((first | (refine St.copy (v := ?_) (by first | exact .inl rfl | exact .inr rfl) rfl rfl ?_ ?_; rotate_left; (focus ((try simp only [Act.eval, getD_lit, qGz, qGs]); with_reducible rfl))) | (refine St.pure (v := ?_) rfl rfl rfl (fun w => ?_) ?_; rotate_left; (focus (go_simp; all_goals with_reducible rfl)))); (try simp only [Act.put, qSa, qSz, qSs]))) | (first | (refine wp_seq_shut (fun K hK => ?_)) | (refine wp_text hM (fun Kr hKr => ?_); simp only [List.append_eq, List.cons_append, List.nil_append, inText]) | refine wp_skip ?_ | (refine wp_cond_false rfl ?_) | ((refine hK.out _ _ ?_); clear hK K))))
      ((refine St.call3 rfl rfl (by kernel_rfl) (fun R hR => ?_); simp only [List.map_toArray, List.map_cons, List.map_nil, Act.eval, getD_lit, qGz, qGs]); refine (HG.out _ (hM.part (by repeat (exact Part.all)))).mono ?_; (rintro e w' ⟨rfl, hb⟩; refine hR.out _ _ ?_; clear hR R; replace hM := hM.below hb; clear hb; (try simp only [Act.put, qSa, qSz, qSs])))
      (repeat (first | ((with_reducible show wpSeq _ _ _ _ _ _ _); first | ((with_reducible refine wpSeq_nil ?_); refine hKr.out _ _ ?_; clear hKr Kr) | ((first | (refine St.copy (v := ?_) (by first | exact .inl rfl | exact .inr rfl) rfl rfl ?_ ?_; rotate_left; (focus ((try simp only [Act.eval, getD_lit, qGz, qGs]); with_reducible rfl))) | (refine St.pure (v := ?_) rfl rfl rfl (fun w => ?_) ?_; rotate_left; (focus (go_simp; all_goals with_reducible rfl))) | refine St.load rfl hM rfl rfl rfl rfl (by repeat constructor) (by rfl) (by kernel_rfl) ?_ | ((((refine St.storeRow rfl hM rfl rfl rfl rfl rfl (by repeat constructor) (Nat.le_of_ble_eq_true rfl) (Nat.le_of_ble_eq_true rfl) (by kernel_rfl) rfl ?_ ?_); (focus ((intro h; cases h; done))); clear hM; intro w hM)); (try simp only [Res.put, Res.known, Act.eval, Value.cells, getD_lit, qGz, qGs, List.toList_toArray, qSz, qSs, over, Nat.reduceAdd] at hM))); (try simp only [Act.put, qSa, qSz, qSs])) | (((refine St.alloc (ty := 63) (z := .agg #[.int .i64 0, .bool false, .int .i64 0, .int .i64 0, .string ⟨#[]⟩, .slice none 0 0]) rfl hM rfl rfl (by kernel_rfl) ?_); clear hM; intro w bk hM); (try simp only [Res.put, Res.known, Act.eval, Value.cells, getD_lit, qGz, qGs, List.toList_toArray, qSz, qSs, over, Nat.reduceAdd] at hM); (try simp only [Act.put, qSa, qSz, qSs]))) | (first | (refine wp_seq_shut (fun K hK => ?_)) | (refine wp_text hM (fun Kr hKr => ?_); simp only [List.append_eq, List.cons_append, List.nil_append, inText]) | (refine wp_cond_true rfl ?_) | ((refine hK.out _ _ ?_); clear hK K))))
      (((refine wp_ret ?_; (try simp only [Exit.then, Exit.inBlock]); refine St.ret hM rfl (by repeat (first | exact Outs.nil | apply Outs.tmp rfl)) rfl ?_)); (rw [HE.out]); exact ⟨rfl, HB.out _ (hM.part (by repeat (first | exact Part.all | apply Part.skip))) hM.only⟩)
    | false =>
      rw [hyd] at HG
      have hU0 : In.unlinkE t dir s = 0 := by rw [unlinkE_find hF, hfn, In.getE_some hn, hyd]; rfl
      cases hft : rfind zs tod with
      | none =>
        have hne3 : In.placeE t tod as_ = 3 := In.placeE_none (by rw [h.find tod, hft]; rfl)
        have HE := Lib.hid (In.rename_bad (t := t) (dir := dir) (s := s) (tod := tod) (as_ := as_) (e := 3) (by decide) (by rw [In.renameE_place hU0 (by rw [hne3]; decide), hne3]))
        have HP := Lib.hid (fun (W : World) (hA : At ((g, true, Res.cells [.int .i64 t.quota, .int .i64 (t.last + 1), .slice va zs.length vc] 43) :: U) W) => rplace_none (s := as_) (HAT.out W hA).raw hft)
        unfold nodZ at HP
        generalize In.leads z.1.names s = k at *
        (have HH := Lib.hid h; have HI := Lib.hid I; clear h I hv hU)
        clear hF hd hdd hl hfn hn hU0 hne3
        go_enter Tryz.func34, Tryz.ntmps34
        (repeat (first | ((with_reducible show wpSeq _ _ _ _ _ _ _); first | ((with_reducible refine wpSeq_nil ?_); refine hKr.out _ _ ?_; clear hKr Kr) | (((refine St.copy (v := ?_) (by first | exact .inl rfl | exact .inr rfl) rfl rfl ?_ ?_; rotate_left; (focus ((try simp only [Act.eval, getD_lit, qGz, qGs]); with_reducible rfl)))); (try simp only [Act.put, qSa, qSz, qSs]))) | (first | (refine wp_seq_shut (fun K hK => ?_)) | (refine wp_text hM (fun Kr hKr => ?_); simp only [List.append_eq, List.cons_append, List.nil_append, inText]) | ((refine hK.out _ _ ?_); clear hK K))))
        ((refine St.call3 rfl rfl (by kernel_rfl) (fun R hR => ?_); simp only [List.map_toArray, List.map_cons, List.map_nil, Act.eval, getD_lit, qGz, qGs]); refine (HFI.out _ (hM.part (by repeat (exact Part.all)))).mono ?_; (rintro e w' ⟨rfl, hb⟩; refine hR.out _ _ ?_; clear hR R; replace hM := hM.below hb; clear hb; (try simp only [Act.put, qSa, qSz, qSs])))
        (repeat (first | ((with_reducible show wpSeq _ _ _ _ _ _ _); first | ((with_reducible refine wpSeq_nil ?_); refine hKr.out _ _ ?_; clear hKr Kr) | ((first | (refine St.copy (v := ?_) (by first | exact .inl rfl | exact .inr rfl) rfl rfl ?_ ?_; rotate_left; (focus ((try simp only [Act.eval, getD_lit, qGz, qGs]); with_reducible rfl))) | (refine St.pure (v := ?_) rfl rfl rfl (fun w => ?_) ?_; rotate_left; (focus (go_simp; all_goals with_reducible rfl)))); (try simp only [Act.put, qSa, qSz, qSs]))) | (first | (refine wp_seq_shut (fun K hK => ?_)) | (refine wp_text hM (fun Kr hKr => ?_); simp only [List.append_eq, List.cons_append, List.nil_append, inText]) | refine wp_skip ?_ | (refine wp_cond_false rfl ?_) | ((refine hK.out _ _ ?_); clear hK K))))
        ((refine St.call3 rfl rfl (by kernel_rfl) (fun R hR => ?_); simp only [List.map_toArray, List.map_cons, List.map_nil, Act.eval, getD_lit, qGz, qGs]); refine (HG.out _ (hM.part (by repeat (exact Part.all)))).mono ?_; (rintro e w' ⟨rfl, hb⟩; refine hR.out _ _ ?_; clear hR R; replace hM := hM.below hb; clear hb; (try simp only [Act.put, qSa, qSz, qSs])))
        (repeat (first | ((with_reducible show wpSeq _ _ _ _ _ _ _); first | ((with_reducible refine wpSeq_nil ?_); refine hKr.out _ _ ?_; clear hKr Kr) | ((first | (refine St.copy (v := ?_) (by first | exact .inl rfl | exact .inr rfl) rfl rfl ?_ ?_; rotate_left; (focus ((try simp only [Act.eval, getD_lit, qGz, qGs]); with_reducible rfl))) | (refine St.pure (v := ?_) rfl rfl rfl (fun w => ?_) ?_; rotate_left; (focus (go_simp; all_goals with_reducible rfl))) | refine St.load rfl hM rfl rfl rfl rfl (by repeat constructor) (by rfl) (by kernel_rfl) ?_ | ((((refine St.storeRow rfl hM rfl rfl rfl rfl rfl (by repeat constructor) (Nat.le_of_ble_eq_true rfl) (Nat.le_of_ble_eq_true rfl) (by kernel_rfl) rfl ?_ ?_); (focus ((intro h; cases h; done))); clear hM; intro w hM)); (try simp only [Res.put, Res.known, Act.eval, Value.cells, getD_lit, qGz, qGs, List.toList_toArray, qSz, qSs, over, Nat.reduceAdd] at hM))); (try simp only [Act.put, qSa, qSz, qSs])) | (((refine St.alloc (ty := 63) (z := .agg #[.int .i64 0, .bool false, .int .i64 0, .int .i64 0, .string ⟨#[]⟩, .slice none 0 0]) rfl hM rfl rfl (by kernel_rfl) ?_); clear hM; intro w bk hM); (try simp only [Res.put, Res.known, Act.eval, Value.cells, getD_lit, qGz, qGs, List.toList_toArray, qSz, qSs, over, Nat.reduceAdd] at hM); (try simp only [Act.put, qSa, qSz, qSs]))) | (first | (refine wp_seq_shut (fun K hK => ?_)) | (refine wp_text hM (fun Kr hKr => ?_); simp only [List.append_eq, List.cons_append, List.nil_append, inText]) | refine wp_skip ?_ | (refine wp_cond_false rfl ?_) | ((refine hK.out _ _ ?_); clear hK K))))
        ((refine St.call3 rfl rfl (by kernel_rfl) (fun R hR => ?_); simp only [List.map_toArray, List.map_cons, List.map_nil, Act.eval, getD_lit, qGz, qGs]); refine (HP.out _ (hM.part (by repeat (first | exact Part.all | apply Part.skip)))).mono ?_; (rintro e w' ⟨rfl, hb⟩; refine hR.out _ _ ?_; clear hR R; replace hM := hM.below hb; clear hb; (try simp only [Act.put, qSa, qSz, qSs])))
        (repeat (first | ((with_reducible show wpSeq _ _ _ _ _ _ _); first | ((with_reducible refine wpSeq_nil ?_); refine hKr.out _ _ ?_; clear hKr Kr) | ((first | (refine St.copy (v := ?_) (by first | exact .inl rfl | exact .inr rfl) rfl rfl ?_ ?_; rotate_left; (focus ((try simp only [Act.eval, getD_lit, qGz, qGs]); with_reducible rfl))) | (refine St.pure (v := ?_) rfl rfl rfl (fun w => ?_) ?_; rotate_left; (focus (go_simp; all_goals with_reducible rfl))) | ((((refine St.storeRow rfl hM rfl rfl rfl rfl rfl (by repeat constructor) (Nat.le_of_ble_eq_true rfl) (Nat.le_of_ble_eq_true rfl) (by kernel_rfl) rfl ?_ ?_); (focus ((intro h; cases h; done))); clear hM; intro w hM)); (try simp only [Res.put, Res.known, Act.eval, Value.cells, getD_lit, qGz, qGs, List.toList_toArray, qSz, qSs, over, Nat.reduceAdd] at hM))); (try simp only [Act.put, qSa, qSz, qSs])) | (((refine St.alloc (ty := 63) (z := .agg #[.int .i64 0, .bool false, .int .i64 0, .int .i64 0, .string ⟨#[]⟩, .slice none 0 0]) rfl hM rfl rfl (by kernel_rfl) ?_); clear hM; intro w bk hM); (try simp only [Res.put, Res.known, Act.eval, Value.cells, getD_lit, qGz, qGs, List.toList_toArray, qSz, qSs, over, Nat.reduceAdd] at hM); (try simp only [Act.put, qSa, qSz, qSs]))) | (first | (refine wp_seq_shut (fun K hK => ?_)) | (refine wp_text hM (fun Kr hKr => ?_); simp only [List.append_eq, List.cons_append, List.nil_append, inText]) | (refine wp_cond_true rfl ?_) | ((refine hK.out _ _ ?_); clear hK K))))
        (((refine wp_ret ?_; (try simp only [Exit.then, Exit.inBlock]); refine St.ret hM rfl (by repeat (first | exact Outs.nil | apply Outs.tmp rfl)) rfl ?_)); (rw [HE.out]); exact ⟨rfl, HB.out _ (hM.part (by repeat (first | exact Part.all | apply Part.skip))) hM.only⟩)
      | some v =>
        have hv' := (rfind_mem hft).1
        have he : In.find t.nodes tod = some v.1 := by rw [h.find tod, hft]; rfl
        obtain ⟨wa, wc, hwv, -⟩ := slV_open (h.raw.names v hv')
        have HP := Lib.hid (fun (W : World) (hA : At ((g, true, Res.cells [.int .i64 t.quota, .int .i64 (t.last + 1), .slice va zs.length vc] 43) :: U) W) => rplace_some (s := as_) (HAT.out W hA).raw hs2 hft)
        have HLD := Lib.hid (fun (W : World) (hA : At ((g, true, Res.cells [.int .i64 t.quota, .int .i64 (t.last + 1), .slice va zs.length vc] 43) :: U) W) => rleads_any v ((HAT.out W hA).raw.nm (h.nl I hN) hv') as_)
        have HWO := Lib.hid (fun (W : World) (hA : At ((g, true, Res.cells [.int .i64 t.quota, .int .i64 (t.last + 1), .slice va zs.length vc] 43) :: U) W) => rwithout_any v ((HAT.out W hA).raw.nm (h.nl I hN) hv') as_)
        rw [NodV.open hwv] at HP HLD HWO
        rw [placeN_E h hft as_] at HP
        have HGU := Lib.hid (fun (u : NodV) (hfu : rfind zs (In.leads v.1.names as_) = some u) (W : World) (hA : At ((g, true, Res.cells [.int .i64 t.quota, .int .i64 (t.last + 1), .slice va zs.length vc] 43) :: U) W) => rget_some (HAT.out W hA).raw hfu)
        have HSU := Lib.hid (fun (n : NodeD) (hn : In.find t.nodes (In.leads v.1.names as_) = some n) => h.some hn)
        have HNM := Lib.hid h.raw.names
        (have HH := Lib.hid h; have HI := Lib.hid I; clear h I hv hU)
        generalize hk : In.leads z.1.names s = k at HFI HG
        generalize hc : In.placeE t tod as_ = c at HP
        generalize hi : In.leads v.1.names as_ = i at HLD
        go_enter Tryz.func34, Tryz.ntmps34
        (repeat (first | ((with_reducible show wpSeq _ _ _ _ _ _ _); first | ((with_reducible refine wpSeq_nil ?_); refine hKr.out _ _ ?_; clear hKr Kr) | (((refine St.copy (v := ?_) (by first | exact .inl rfl | exact .inr rfl) rfl rfl ?_ ?_; rotate_left; (focus ((try simp only [Act.eval, getD_lit, qGz, qGs]); with_reducible rfl)))); (try simp only [Act.put, qSa, qSz, qSs]))) | (first | (refine wp_seq_shut (fun K hK => ?_)) | (refine wp_text hM (fun Kr hKr => ?_); simp only [List.append_eq, List.cons_append, List.nil_append, inText]) | ((refine hK.out _ _ ?_); clear hK K))))
        ((refine St.call3 rfl rfl (by kernel_rfl) (fun R hR => ?_); simp only [List.map_toArray, List.map_cons, List.map_nil, Act.eval, getD_lit, qGz, qGs]); refine (HFI.out _ (hM.part (by repeat (exact Part.all)))).mono ?_; (rintro e w' ⟨rfl, hb⟩; refine hR.out _ _ ?_; clear hR R; replace hM := hM.below hb; clear hb; (try simp only [Act.put, qSa, qSz, qSs])))
        (repeat (first | ((with_reducible show wpSeq _ _ _ _ _ _ _); first | ((with_reducible refine wpSeq_nil ?_); refine hKr.out _ _ ?_; clear hKr Kr) | ((first | (refine St.copy (v := ?_) (by first | exact .inl rfl | exact .inr rfl) rfl rfl ?_ ?_; rotate_left; (focus ((try simp only [Act.eval, getD_lit, qGz, qGs]); with_reducible rfl))) | (refine St.pure (v := ?_) rfl rfl rfl (fun w => ?_) ?_; rotate_left; (focus (go_simp; all_goals with_reducible rfl)))); (try simp only [Act.put, qSa, qSz, qSs]))) | (first | (refine wp_seq_shut (fun K hK => ?_)) | (refine wp_text hM (fun Kr hKr => ?_); simp only [List.append_eq, List.cons_append, List.nil_append, inText]) | refine wp_skip ?_ | (refine wp_cond_false rfl ?_) | ((refine hK.out _ _ ?_); clear hK K))))
        ((refine St.call3 rfl rfl (by kernel_rfl) (fun R hR => ?_); simp only [List.map_toArray, List.map_cons, List.map_nil, Act.eval, getD_lit, qGz, qGs]); refine (HG.out _ (hM.part (by repeat (exact Part.all)))).mono ?_; (rintro e w' ⟨rfl, hb⟩; refine hR.out _ _ ?_; clear hR R; replace hM := hM.below hb; clear hb; (try simp only [Act.put, qSa, qSz, qSs])))
        (repeat (first | ((with_reducible show wpSeq _ _ _ _ _ _ _); first | ((with_reducible refine wpSeq_nil ?_); refine hKr.out _ _ ?_; clear hKr Kr) | ((first | (refine St.copy (v := ?_) (by first | exact .inl rfl | exact .inr rfl) rfl rfl ?_ ?_; rotate_left; (focus ((try simp only [Act.eval, getD_lit, qGz, qGs]); with_reducible rfl))) | (refine St.pure (v := ?_) rfl rfl rfl (fun w => ?_) ?_; rotate_left; (focus (go_simp; all_goals with_reducible rfl))) | refine St.load rfl hM rfl rfl rfl rfl (by repeat constructor) (by rfl) (by kernel_rfl) ?_ | ((((refine St.storeRow rfl hM rfl rfl rfl rfl rfl (by repeat constructor) (Nat.le_of_ble_eq_true rfl) (Nat.le_of_ble_eq_true rfl) (by kernel_rfl) rfl ?_ ?_); (focus ((intro h; cases h; done))); clear hM; intro w hM)); (try simp only [Res.put, Res.known, Act.eval, Value.cells, getD_lit, qGz, qGs, List.toList_toArray, qSz, qSs, over, Nat.reduceAdd] at hM))); (try simp only [Act.put, qSa, qSz, qSs])) | (((refine St.alloc (ty := 63) (z := .agg #[.int .i64 0, .bool false, .int .i64 0, .int .i64 0, .string ⟨#[]⟩, .slice none 0 0]) rfl hM rfl rfl (by kernel_rfl) ?_); clear hM; intro w bk hM); (try simp only [Res.put, Res.known, Act.eval, Value.cells, getD_lit, qGz, qGs, List.toList_toArray, qSz, qSs, over, Nat.reduceAdd] at hM); (try simp only [Act.put, qSa, qSz, qSs]))) | (first | (refine wp_seq_shut (fun K hK => ?_)) | (refine wp_text hM (fun Kr hKr => ?_); simp only [List.append_eq, List.cons_append, List.nil_append, inText]) | refine wp_skip ?_ | (refine wp_cond_false rfl ?_) | ((refine hK.out _ _ ?_); clear hK K))))
        ((refine St.call3 rfl rfl (by kernel_rfl) (fun R hR => ?_); simp only [List.map_toArray, List.map_cons, List.map_nil, Act.eval, getD_lit, qGz, qGs]); refine (HP.out _ (hM.part (by repeat (first | exact Part.all | apply Part.skip)))).mono ?_; (rintro e w' ⟨rfl, hb⟩; refine hR.out _ _ ?_; clear hR R; replace hM := hM.below hb; clear hb; (try simp only [Act.put, qSa, qSz, qSs])))
        (repeat (first | ((with_reducible show wpSeq _ _ _ _ _ _ _); first | ((with_reducible refine wpSeq_nil ?_); refine hKr.out _ _ ?_; clear hKr Kr) | ((first | (refine St.copy (v := ?_) (by first | exact .inl rfl | exact .inr rfl) rfl rfl ?_ ?_; rotate_left; (focus ((try simp only [Act.eval, getD_lit, qGz, qGs]); with_reducible rfl))) | (refine St.pure (v := ?_) rfl rfl rfl (fun w => ?_) ?_; rotate_left; (focus (go_simp; all_goals with_reducible rfl))) | ((((refine St.storeRow rfl hM rfl rfl rfl rfl rfl (by repeat constructor) (Nat.le_of_ble_eq_true rfl) (Nat.le_of_ble_eq_true rfl) (by kernel_rfl) rfl ?_ ?_); (focus ((intro h; cases h; done))); clear hM; intro w hM)); (try simp only [Res.put, Res.known, Act.eval, Value.cells, getD_lit, qGz, qGs, List.toList_toArray, qSz, qSs, over, Nat.reduceAdd] at hM))); (try simp only [Act.put, qSa, qSz, qSs])) | (((refine St.alloc (ty := 63) (z := .agg #[.int .i64 0, .bool false, .int .i64 0, .int .i64 0, .string ⟨#[]⟩, .slice none 0 0]) rfl hM rfl rfl (by kernel_rfl) ?_); clear hM; intro w bk hM); (try simp only [Res.put, Res.known, Act.eval, Value.cells, getD_lit, qGz, qGs, List.toList_toArray, qSz, qSs, over, Nat.reduceAdd] at hM); (try simp only [Act.put, qSa, qSz, qSs]))) | (first | (refine wp_seq_shut (fun K hK => ?_)) | (refine wp_text hM (fun Kr hKr => ?_); simp only [List.append_eq, List.cons_append, List.nil_append, inText]) | ((refine hK.out _ _ ?_); clear hK K))))
        by_cases hc0 : c = 0
        · subst hc0
          have hvd : v.1.dir = true := by
            obtain ⟨d, h1, h2, -⟩ := In.placeE_ok hc
            rw [he] at h1
            rw [Option.some.inj h1]
            exact h2
          (repeat (first | ((with_reducible show wpSeq _ _ _ _ _ _ _); ((first | (refine St.copy (v := ?_) (by exact .inl rfl) rfl rfl ?_ ?_; rotate_left; (focus ((try simp only [Act.eval, getD_lit, qGz, qGs]); with_reducible rfl))) | ((refine St.loadRow rfl hM rfl rfl rfl rfl (by repeat constructor) (Nat.le_of_ble_eq_true rfl) (by kernel_rfl) ?_); (try simp only [Res.known, List.drop_succ_cons, List.drop_zero, List.take_succ_cons, List.take_zero]))); (try simp only [Act.put, qSa, qSz, qSs]))) | (first | (refine wp_seq_shut (fun K hK => ?_)) | (refine wp_text hM (fun Kr hKr => ?_); simp only [List.append_eq, List.cons_append, List.nil_append, inText]) | refine wp_skip ?_ | (refine wp_cond_false rfl ?_) | ((refine hK.out _ _ ?_); clear hK K))))
          ((refine St.call3 rfl rfl (by kernel_rfl) (fun R hR => ?_); simp only [List.map_toArray, List.map_cons, List.map_nil, Act.eval, getD_lit, qGz, qGs]); refine (HLD.out _ (hM.part (by repeat (first | exact Part.all | apply Part.skip)))).mono ?_; (rintro e w' ⟨rfl, hb⟩; refine hR.out _ _ ?_; clear hR R; replace hM := hM.below hb; clear hb; (try simp only [Act.put, qSa, qSz, qSs])))
          by_cases hik : i = k
          · have q2 : (i == k) = true := beq_iff_eq.2 hik
            have HE := Lib.hid (show In.rename t dir s tod as_ = (0, t) by rw [In.rename_yes (by rw [In.renameE_at hU0 hc he, hfn, hi, hk, if_pos hik]), In.renameT_at he, hfn, hi, hk, if_pos hik])
            have hik' := Lib.hid hik
            clear hik hc hi hk he hvd hU0 hF hd hdd hl hfn hn
            (repeat (first | ((with_reducible show wpSeq _ _ _ _ _ _ _); first | ((with_reducible refine wpSeq_nil ?_); refine hKr.out _ _ ?_; clear hKr Kr) | ((first | (refine St.copy (v := ?_) (by first | exact .inl rfl | exact .inr rfl) rfl rfl ?_ ?_; rotate_left; (focus ((try simp only [Act.eval, getD_lit, qGz, qGs]); with_reducible rfl))) | (refine St.pure (v := ?_) rfl rfl rfl (fun w => ?_) ?_; rotate_left; (focus (go_simp; all_goals with_reducible rfl)))); (try simp only [Act.put, qSa, qSz, qSs]))) | (first | (refine wp_seq_shut (fun K hK => ?_)) | (refine wp_text hM (fun Kr hKr => ?_); simp only [List.append_eq, List.cons_append, List.nil_append, inText]) | (refine wp_cond_true rfl ?_) | ((refine hK.out _ _ ?_); clear hK K))))
            (((refine wp_ret ?_; (try simp only [Exit.then, Exit.inBlock]); refine St.ret hM rfl (by repeat (first | exact Outs.nil | apply Outs.tmp rfl)) rfl ?_)); (rw [HE.out]); exact ⟨rfl, HB.out _ (hM.part (by repeat (first | exact Part.all | apply Part.skip))) hM.only⟩)
          · have q2 : (i == k) = false := beq_eq_false_iff_ne.2 hik
            have hip : i = 0 ∨ 0 < i := by rw [← hi]; exact RIs.lead HI.out he
            rcases hip with hi0 | hi0
            · have HE := Lib.hid (show In.rename t dir s tod as_ = (0, In.renameIn t dir s tod as_ k) by rw [In.rename_yes (by rw [In.renameE_at hU0 hc he, hfn, hi, hk, if_neg hik, if_pos hi0]), In.renameT_at he, hfn, hi, hk, if_neg hik, if_pos hi0])
              have HD2 := Lib.hid hd
              have HV0 := Lib.hid (show In.leads v.1.names as_ = 0 by rw [hi]; exact hi0)
              have HVE := Lib.hid he
              have HLN := Lib.hid hl
              have HKE := Lib.hid hk
              have HID := Lib.hid (HH.out.ids HI.out)
              have k9 : ¬ 0 < i := by omega
              clear hik hc hi hk he hvd hU0 hF hd hl hfn hn hi0
              (repeat (first | ((with_reducible show wpSeq _ _ _ _ _ _ _); first | ((with_reducible refine wpSeq_nil ?_); refine hKr.out _ _ ?_; clear hKr Kr) | ((first | (refine St.copy (v := ?_) (by first | exact .inl rfl | exact .inr rfl) rfl rfl ?_ ?_; rotate_left; (focus ((try simp only [Act.eval, getD_lit, qGz, qGs]); with_reducible rfl))) | (refine St.pure (v := ?_) rfl rfl rfl (fun w => ?_) ?_; rotate_left; (focus (go_simp; all_goals with_reducible rfl)))); (try simp only [Act.put, qSa, qSz, qSs]))) | (first | (refine wp_seq_shut (fun K hK => ?_)) | (refine wp_text hM (fun Kr hKr => ?_); simp only [List.append_eq, List.cons_append, List.nil_append, inText]) | refine wp_skip ?_ | (refine wp_cond_false rfl ?_) | ((refine hK.out _ _ ?_); clear hK K))))
              rw [← HOP.out] at hM
              replace hM := St.forget2 hM
              have hp2 : RP g xs t.quota (t.last + 1) zs (keysOf (rL ⟨g, xs⟩ t.quota (t.last + 1) zs)) w0 := HRP.out
              have HKN := Lib.hid (show k ≠ 0 by rw [← HKE.out]; exact HLN.out)
              have HM2 := Lib.hid (show ∃ d2 e2, In.find t.nodes dir = some d2 ∧ d2.dir = true ∧ In.leads d2.names s = k ∧ In.find t.nodes tod = some e2 ∧ In.leads e2.names as_ = 0 from ⟨z.1, v.1, HD2.out, hdd, HKE.out, HVE.out, HV0.out⟩)
              obtain ⟨d2, e2, hd2, hdd2, hl2, he2, hw2⟩ := HM2.out
              obtain ⟨e3, h3, hlen3, hno3⟩ := In.rename_end HI.out hd2 hdd2 (by rw [hl2]; exact HKN.out) he2 hw2 k
              obtain ⟨z2, hfz2, hz2e⟩ : ∃ z2, rfind zs dir = some z2 ∧ z2.1 = d2 := by
                have h1 := hd2
                rw [← HH.out.nodes, rfind_map] at h1
                cases h2 : rfind zs dir with
                | none => rw [h2] at h1; cases h1
                | some z2 => rw [h2] at h1; exact ⟨z2, rfl, Option.some.inj h1⟩
              have hz2l : z2.1.names.length ≤ 1000000 := by
                have h1 := names_le (In.find_some hd2).1
                have h2 := HI.out.tot
                rw [hz2e]
                omega
              have HG2 := Lib.hid (fun (W : World) (hA : At (rL ⟨g, xs⟩ t.quota (t.last + 1) zs) W) => rget_some (hp2.raw hA) hfz2)
              have HW2 := Lib.hid (fun (W : World) (hA : At (rL ⟨g, xs⟩ t.quota (t.last + 1) zs) W) => rwithout_any z2 ⟨hp2.names _ (rfind_mem hfz2).1, fun y hy => (hp2.raw hA).ents.has y (List.mem_flatMap.2 ⟨z2, (rfind_mem hfz2).1, hy⟩), hz2l⟩ s)
              obtain ⟨ca, cc, hcv, -⟩ := slV_open (hp2.names z2 (rfind_mem hfz2).1)
              rw [NodV.open hcv] at HG2 HW2
              have HNO3 := Lib.hid (fun p' => (show (rset zs ((z2.1.setNames (In.without z2.1.names s), p') : NodV)).map (·.1) = (In.nameOut (t) dir s).nodes by rw [rput_nodes, HH.out.nodes, hz2e]; exact In.rput_without HI.out hd2 s))
              have HI3 := Lib.hid h3
              have HL3 := Lib.hid hlen3
              have HN3 := Lib.hid hno3
              have HF2 := Lib.hid hfz2
              have HID2 := Lib.hid (HID.out)
              clear h3 hlen3 hno3 hfz2 hcv hd2 hdd2 hl2 he2 hw2 hz2e hz2l
              (repeat (fail))
              (refine St.call3 rfl rfl (by kernel_rfl) (fun R hR => ?_); simp only [List.map_toArray, List.map_cons, List.map_nil, Act.eval, getD_lit, qGz, qGs])
              refine (HG2.out _ (hM.part (by repeat (first | exact Part.all | apply Part.skip)))).mono ?_
              (rintro e w' ⟨rfl, hb⟩; refine hR.out _ _ ?_; clear hR R; replace hM := hM.below hb; clear hb; (try simp only [Act.put, qSa, qSz, qSs]))
              (repeat (first | ((with_reducible show wpSeq _ _ _ _ _ _ _); first | ((with_reducible refine wpSeq_nil ?_); refine hKr.out _ _ ?_; clear hKr Kr) | ((first | (refine St.copy (v := ?_) (by first | exact .inl rfl | exact .inr rfl) rfl rfl ?_ ?_; rotate_left; (focus ((try simp only [Act.eval, getD_lit, qGz, qGs]); with_reducible rfl))) | (refine St.pure (v := ?_) rfl rfl rfl (fun w => ?_) ?_; rotate_left; (focus (go_simp; all_goals with_reducible rfl))) | ((refine St.loadRow rfl hM rfl rfl rfl rfl (by repeat constructor) (Nat.le_of_ble_eq_true rfl) (by kernel_rfl) ?_); (try simp only [Res.known, List.drop_succ_cons, List.drop_zero, List.take_succ_cons, List.take_zero])) | ((((refine St.storeRow rfl hM rfl rfl rfl rfl rfl (by repeat constructor) (Nat.le_of_ble_eq_true rfl) (Nat.le_of_ble_eq_true rfl) (by kernel_rfl) rfl ?_ ?_); (focus ((intro h; cases h; done))); clear hM; intro w hM)); (try simp only [Res.put, Res.known, Act.eval, Value.cells, getD_lit, qGz, qGs, List.toList_toArray, qSz, qSs, over, Nat.reduceAdd] at hM))); (try simp only [Act.put, qSa, qSz, qSs])) | (((refine St.alloc (ty := 63) (z := .agg #[.int .i64 0, .bool false, .int .i64 0, .int .i64 0, .string ⟨#[]⟩, .slice none 0 0]) rfl hM rfl rfl (by kernel_rfl) ?_); clear hM; intro w bk hM); (try simp only [Res.put, Res.known, Act.eval, Value.cells, getD_lit, qGz, qGs, List.toList_toArray, qSz, qSs, over, Nat.reduceAdd] at hM); (try simp only [Act.put, qSa, qSz, qSs]))) | (first | (refine wp_seq_shut (fun K hK => ?_)) | (refine wp_text hM (fun Kr hKr => ?_); simp only [List.append_eq, List.cons_append, List.nil_append, inText]) | ((refine hK.out _ _ ?_); clear hK K))))
              (refine St.call3 rfl rfl (by kernel_rfl) (fun R hR => ?_); simp only [List.map_toArray, List.map_cons, List.map_nil, Act.eval, getD_lit, qGz, qGs])
              refine (HW2.out _ (hM.part (by repeat (first | exact Part.all | apply Part.skip)))).mono ?_
              rintro e w' ⟨p', rfl, hok, hst⟩; refine hR.out _ _ ?_; clear hR R
              replace hM := hM.madeM hst (slL_flag _ _ _ _)
              clear hst
              replace hM := (St.rot hM).forget
              replace hM := St.rot hM
              (try simp only [Act.put, qSa, qSz, qSs])
              (repeat (fail))
              (refine St.call3 rfl rfl (by kernel_rfl) (fun R hR => ?_); simp only [List.map_toArray, List.map_cons, List.map_nil, Act.eval, getD_lit, qGz, qGs])
              refine (rputX_any hp2 hM (by intro s'; repeat (first | exact Swap.all | apply Swap.skip)) HID2.out hok).mono ?_
              rintro e w' ⟨rfl, s3, hM1, hp3⟩; refine hR.out _ _ ?_; clear hR R hM
              have hM := St.unF hM1 (by repeat (first | exact Swap.all | apply Swap.skip))
              clear hM1
              (try simp only [Act.put, qSa, qSz, qSs])
              (repeat (first | ((with_reducible show wpSeq _ _ _ _ _ _ _); first | ((with_reducible refine wpSeq_nil ?_); refine hKr.out _ _ ?_; clear hKr Kr) | (((refine St.copy (v := ?_) (by exact .inl rfl) rfl rfl ?_ ?_; rotate_left; (focus ((try simp only [Act.eval, getD_lit, qGz, qGs]); with_reducible rfl)))); (try simp only [Act.put, qSa, qSz, qSs]))) | (first | (refine wp_seq_shut (fun K hK => ?_)) | (refine wp_text hM (fun Kr hKr => ?_); simp only [List.append_eq, List.cons_append, List.nil_append, inText]) | ((refine hK.out _ _ ?_); clear hK K))))
              have hno3p := HNO3.out p'
              generalize hzs3 : rset zs ((z2.1.setNames (In.without z2.1.names s), p') : NodV) = zs3 at *
              obtain ⟨v3, hfv3, hv3e⟩ : ∃ v3, rfind zs3 tod = some v3 ∧ v3.1 = e3 := by
                have h1 := HI3.out
                rw [← hno3p, rfind_map] at h1
                cases h2 : rfind zs3 tod with
                | none => rw [h2] at h1; cases h1
                | some v3 => rw [h2] at h1; exact ⟨v3, rfl, Option.some.inj h1⟩
              have hv3l : v3.1.names.length ≤ 1000000 := by
                have h1 := HL3.out
                rw [hv3e]
                omega
              have hp3' := hp3
              have HG3 := Lib.hid (fun (W : World) (hA : At (rL ⟨g, s3⟩ t.quota (t.last + 1) zs3) W) => rget_some (hp3'.raw hA) hfv3)
              have HW3 := Lib.hid (fun (W : World) (hA : At (rL ⟨g, s3⟩ t.quota (t.last + 1) zs3) W) => rwith_any v3 ⟨hp3'.names _ (rfind_mem hfv3).1, fun y hy => (hp3'.raw hA).ents.has y (List.mem_flatMap.2 ⟨v3, (rfind_mem hfv3).1, hy⟩), hv3l⟩ as_ k)
              obtain ⟨da, dc, hdv, -⟩ := slV_open (hp3'.names v3 (rfind_mem hfv3).1)
              rw [NodV.open hdv] at HG3 HW3
              have HNO4 := Lib.hid (fun p' => (show (rset zs3 ((v3.1.setNames (ins (as_, k) v3.1.names), p') : NodV)).map (·.1) = (In.renameIn (t) dir s tod as_ k).nodes by rw [rput_nodes, hno3p, hv3e]; exact HN3.out))
              have HID3 := Lib.hid (show Ids zs3 from hzs3 ▸ ids_rset _ HID2.out)
              clear hfv3 hdv hzs3 hno3p hv3e hv3l
              (refine St.call3 rfl rfl (by kernel_rfl) (fun R hR => ?_); simp only [List.map_toArray, List.map_cons, List.map_nil, Act.eval, getD_lit, qGz, qGs])
              refine (HG3.out _ (hM.part (by repeat (first | exact Part.all | apply Part.skip)))).mono ?_
              (rintro e w' ⟨rfl, hb⟩; refine hR.out _ _ ?_; clear hR R; replace hM := hM.below hb; clear hb; (try simp only [Act.put, qSa, qSz, qSs]))
              (repeat (first | ((with_reducible show wpSeq _ _ _ _ _ _ _); first | ((with_reducible refine wpSeq_nil ?_); refine hKr.out _ _ ?_; clear hKr Kr) | ((first | (refine St.copy (v := ?_) (by exact .inl rfl) rfl rfl ?_ ?_; rotate_left; (focus ((try simp only [Act.eval, getD_lit, qGz, qGs]); with_reducible rfl))) | (refine St.pure (v := ?_) rfl rfl rfl (fun w => ?_) ?_; rotate_left; (focus (go_simp; all_goals with_reducible rfl))) | ((refine St.loadRow rfl hM rfl rfl rfl rfl (by repeat constructor) (Nat.le_of_ble_eq_true rfl) (by kernel_rfl) ?_); (try simp only [Res.known, List.drop_succ_cons, List.drop_zero, List.take_succ_cons, List.take_zero])) | ((((refine St.storeRow rfl hM rfl rfl rfl rfl rfl (by repeat constructor) (Nat.le_of_ble_eq_true rfl) (Nat.le_of_ble_eq_true rfl) (by kernel_rfl) rfl ?_ ?_); (focus ((intro h; cases h; done))); clear hM; intro w hM)); (try simp only [Res.put, Res.known, Act.eval, Value.cells, getD_lit, qGz, qGs, List.toList_toArray, qSz, qSs, over, Nat.reduceAdd] at hM))); (try simp only [Act.put, qSa, qSz, qSs]))) | (first | (refine wp_seq_shut (fun K hK => ?_)) | (refine wp_text hM (fun Kr hKr => ?_); simp only [List.append_eq, List.cons_append, List.nil_append, inText]) | ((refine hK.out _ _ ?_); clear hK K))))
              (refine St.call3 rfl rfl (by kernel_rfl) (fun R hR => ?_); simp only [List.map_toArray, List.map_cons, List.map_nil, Act.eval, getD_lit, qGz, qGs])
              refine (HW3.out _ (hM.part (by repeat (first | exact Part.all | apply Part.skip)))).mono ?_
              rintro e w' ⟨p', rfl, hok, hst⟩; refine hR.out _ _ ?_; clear hR R
              replace hM := hM.madeM hst (slL_flag _ _ _ _)
              clear hst
              replace hM := St.rot hM
              (try simp only [Act.put, qSa, qSz, qSs])
              (repeat (fail))
              (refine St.call3 rfl rfl (by kernel_rfl) (fun R hR => ?_); simp only [List.map_toArray, List.map_cons, List.map_nil, Act.eval, getD_lit, qGz, qGs])
              refine (rputX_any hp3' hM (by intro s'; repeat (first | exact Swap.all | apply Swap.skip)) HID3.out hok).mono ?_
              rintro e w' ⟨rfl, s4, hM1, hp4⟩; refine hR.out _ _ ?_; clear hR R hM
              have hM := St.unF hM1 (by repeat (first | exact Swap.all | apply Swap.skip))
              clear hM1
              (try simp only [Act.put, qSa, qSz, qSs])
              (repeat (first | ((with_reducible show wpSeq _ _ _ _ _ _ _); first | ((with_reducible refine wpSeq_nil ?_); refine hKr.out _ _ ?_; clear hKr Kr) | (((refine St.copy (v := ?_) (by exact .inr rfl) rfl rfl ?_ ?_; rotate_left; (focus ((try simp only [Act.eval, getD_lit, qGz, qGs]); with_reducible rfl)))); (try simp only [Act.put, qSa, qSz, qSs]))) | (first | (refine wp_seq_shut (fun K hK => ?_)) | (refine wp_text hM (fun Kr hKr => ?_); simp only [List.append_eq, List.cons_append, List.nil_append, inText]) | ((refine hK.out _ _ ?_); clear hK K))))
              ((refine wp_ret ?_; (try simp only [Exit.then, Exit.inBlock]); refine St.ret hM rfl (by repeat (first | exact Outs.nil | apply Outs.tmp rfl)) rfl ?_))
              rw [HE.out]
              refine ⟨rfl, s4, _, HNO4.out p', ?_⟩
              exact hp4.to (hM.part (by repeat (first | exact Part.all | apply Part.skip))) hM.only
            · obtain ⟨nu, hnu⟩ := HI.out.leads v.1 (In.find_some he).1 _ (In.leads_some (by rw [hi]; omega))
              simp only at hnu
              obtain ⟨u, hfu, hue⟩ := HSU.out nu hnu
              subst hue
              have HGU2 := Lib.hid (HGU.out u hfu)
              rw [hi] at HGU2
              have hum := (rfind_mem hfu).1
              obtain ⟨ba, bc, hbv, -⟩ := slV_open (HNM.out u hum)
              rw [NodV.open hbv] at HGU2
              cases hud : u.1.dir with
              | true =>
                have HE := Lib.hid (In.rename_bad (t := t) (dir := dir) (s := s) (tod := tod) (as_ := as_) (e := 12) (by decide) (by rw [In.renameE_at hU0 hc he, hfn, hi, hk, if_neg hik, if_neg (by omega)]; rw [hi] at hnu; rw [In.at_some hnu, hud]; rfl))
                rw [hud] at HGU2
                clear hik hc hi hk he hvd hU0 hF hd hdd hl hfn hn hnu hfu
                (repeat (first | ((with_reducible show wpSeq _ _ _ _ _ _ _); first | ((with_reducible refine wpSeq_nil ?_); refine hKr.out _ _ ?_; clear hKr Kr) | ((first | (refine St.copy (v := ?_) (by first | exact .inl rfl | exact .inr rfl) rfl rfl ?_ ?_; rotate_left; (focus ((try simp only [Act.eval, getD_lit, qGz, qGs]); with_reducible rfl))) | (refine St.pure (v := ?_) rfl rfl rfl (fun w => ?_) ?_; rotate_left; (focus (go_simp; all_goals with_reducible rfl)))); (try simp only [Act.put, qSa, qSz, qSs]))) | (first | (refine wp_seq_shut (fun K hK => ?_)) | (refine wp_text hM (fun Kr hKr => ?_); simp only [List.append_eq, List.cons_append, List.nil_append, inText]) | refine wp_skip ?_ | (first | refine wp_cond_true rfl ?_ | refine wp_cond_false rfl ?_) | ((refine hK.out _ _ ?_); clear hK K))))
                ((refine St.call3 rfl rfl (by kernel_rfl) (fun R hR => ?_); simp only [List.map_toArray, List.map_cons, List.map_nil, Act.eval, getD_lit, qGz, qGs]); refine (HGU2.out _ (hM.part (by repeat (first | exact Part.all | apply Part.skip)))).mono ?_; (rintro e w' ⟨rfl, hb⟩; refine hR.out _ _ ?_; clear hR R; replace hM := hM.below hb; clear hb; (try simp only [Act.put, qSa, qSz, qSs])))
                (repeat (first | ((with_reducible show wpSeq _ _ _ _ _ _ _); first | ((with_reducible refine wpSeq_nil ?_); refine hKr.out _ _ ?_; clear hKr Kr) | ((first | (refine St.copy (v := ?_) (by first | exact .inl rfl | exact .inr rfl) rfl rfl ?_ ?_; rotate_left; (focus ((try simp only [Act.eval, getD_lit, qGz, qGs]); with_reducible rfl))) | (refine St.pure (v := ?_) rfl rfl rfl (fun w => ?_) ?_; rotate_left; (focus (go_simp; all_goals with_reducible rfl))) | refine St.load rfl hM rfl rfl rfl rfl (by repeat constructor) (by rfl) (by kernel_rfl) ?_ | ((((refine St.storeRow rfl hM rfl rfl rfl rfl rfl (by repeat constructor) (Nat.le_of_ble_eq_true rfl) (Nat.le_of_ble_eq_true rfl) (by kernel_rfl) rfl ?_ ?_); (focus ((intro h; cases h; done))); clear hM; intro w hM)); (try simp only [Res.put, Res.known, Act.eval, Value.cells, getD_lit, qGz, qGs, List.toList_toArray, qSz, qSs, over, Nat.reduceAdd] at hM))); (try simp only [Act.put, qSa, qSz, qSs])) | (((refine St.alloc (ty := 63) (z := .agg #[.int .i64 0, .bool false, .int .i64 0, .int .i64 0, .string ⟨#[]⟩, .slice none 0 0]) rfl hM rfl rfl (by kernel_rfl) ?_); clear hM; intro w bk hM); (try simp only [Res.put, Res.known, Act.eval, Value.cells, getD_lit, qGz, qGs, List.toList_toArray, qSz, qSs, over, Nat.reduceAdd] at hM); (try simp only [Act.put, qSa, qSz, qSs]))) | (first | (refine wp_seq_shut (fun K hK => ?_)) | (refine wp_text hM (fun Kr hKr => ?_); simp only [List.append_eq, List.cons_append, List.nil_append, inText]) | (refine wp_cond_true rfl ?_) | ((refine hK.out _ _ ?_); clear hK K))))
                (((refine wp_ret ?_; (try simp only [Exit.then, Exit.inBlock]); refine St.ret hM rfl (by repeat (first | exact Outs.nil | apply Outs.tmp rfl)) rfl ?_)); (rw [HE.out]); exact ⟨rfl, HB.out _ (hM.part (by repeat (first | exact Part.all | apply Part.skip))) hM.only⟩)
              | false =>
                have HE := Lib.hid (show In.rename t dir s tod as_ = (0, In.renameIn (In.loses t tod as_) dir s tod as_ k) by rw [In.rename_yes (by rw [In.renameE_at hU0 hc he, hfn, hi, hk, if_neg hik, if_neg (by omega)]; rw [hi] at hnu; rw [In.at_some hnu, hud]; rfl), In.renameT_at he, hfn, hi, hk, if_neg hik, if_neg (by omega)])
                rw [hud] at HGU2
                have hi1 : In.leads v.1.names as_ ≠ 0 := by rw [hi]; omega
                have hne : In.leads v.1.names as_ ≠ tod := fun e => by
                  rw [e, he] at hnu
                  rw [Option.some.inj hnu, hud] at hvd
                  cases hvd
                have hu1 := In.links_pos HI.out he hvd hi1 hnu hud
                have hu2 : u.1.links ≤ 4000000 := by
                  have h1 := HI.out.links u.1 (HH.out.mem hum)
                  have h2 := In.cnt_le t.nodes u.1.id
                  have h3 := HI.out.tot
                  unfold In.rootI at h1
                  split at h1 <;> omega
                have hw1 : IntKind.i64.wrap (u.1.links - 1) = u.1.links - 1 := wrap_in _ (by omega)
                have HID := Lib.hid (HH.out.ids HI.out)
                have HKP := Lib.hid (fun p' => rset_keep (z0 := ((v.1.setNames (In.without v.1.names as_), p') : NodV)) hum (show u.1.id ≠ v.1.id by rw [(rfind_mem hfu).2, (rfind_mem hft).2]; exact hne))
                have HNO := Lib.hid (fun p' => (show (rset (rset zs ((v.1.setNames (In.without v.1.names as_), p') : NodV)) ((u.1.setLinks (u.1.links - 1), u.2) : NodV)).map (·.1) = (In.loses t tod as_).nodes by
                  rw [rput_nodes, rput_nodes, HH.out.nodes]
                  show In.rput (In.rput t.nodes (v.1.setNames (In.without v.1.names as_))) (u.1.setLinks (u.1.links - 1)) = _
                  rw [In.rput_without HI.out he as_]
                  exact In.rput_loses HI.out he rfl hnu hne rfl (by show 0 ≤ u.1.links - 1; omega)))
                have HYC := Lib.hid (show NodV.cells (u.1.setLinks (u.1.links - 1), u.2) = [.int .i64 u.1.id, .bool false, .int .i64 (u.1.links - 1), .int .i64 u.1.holds, .string u.1.data, .slice ba u.1.names.length bc] by rw [NodV.open (z := (u.1.setLinks (u.1.links - 1), u.2)) hbv, ← hud]; rfl)
                have HM2 := Lib.hid (In.rename_mid HI.out hd hdd hl he hvd (by rw [hi, hk]; exact hik) hi1 hnu hud)
                rw [hk] at HM2
                have HKN := Lib.hid (show k ≠ 0 by rw [← hk]; exact hl)
                have HI2 := Lib.hid (In.inv_loses HI.out he hvd hi1 hnu (fun e => by rw [hud] at e; cases e))
                clear hik hc hi hk he hvd hU0 hF hd hdd hl hfn hn hnu hfu hi1 hne hu1 hu2 hbv hud
                (repeat (first | ((with_reducible show wpSeq _ _ _ _ _ _ _); first | ((with_reducible refine wpSeq_nil ?_); refine hKr.out _ _ ?_; clear hKr Kr) | ((first | (refine St.copy (v := ?_) (by first | exact .inl rfl | exact .inr rfl) rfl rfl ?_ ?_; rotate_left; (focus ((try simp only [Act.eval, getD_lit, qGz, qGs]); with_reducible rfl))) | (refine St.pure (v := ?_) rfl rfl rfl (fun w => ?_) ?_; rotate_left; (focus (go_simp; all_goals with_reducible rfl)))); (try simp only [Act.put, qSa, qSz, qSs]))) | (first | (refine wp_seq_shut (fun K hK => ?_)) | (refine wp_text hM (fun Kr hKr => ?_); simp only [List.append_eq, List.cons_append, List.nil_append, inText]) | refine wp_skip ?_ | (first | refine wp_cond_true rfl ?_ | refine wp_cond_false rfl ?_) | ((refine hK.out _ _ ?_); clear hK K))))
                ((refine St.call3 rfl rfl (by kernel_rfl) (fun R hR => ?_); simp only [List.map_toArray, List.map_cons, List.map_nil, Act.eval, getD_lit, qGz, qGs]); refine (HGU2.out _ (hM.part (by repeat (first | exact Part.all | apply Part.skip)))).mono ?_; (rintro e w' ⟨rfl, hb⟩; refine hR.out _ _ ?_; clear hR R; replace hM := hM.below hb; clear hb; (try simp only [Act.put, qSa, qSz, qSs])))
                (repeat (first | ((with_reducible show wpSeq _ _ _ _ _ _ _); first | ((with_reducible refine wpSeq_nil ?_); refine hKr.out _ _ ?_; clear hKr Kr) | ((first | (refine St.copy (v := ?_) (by first | exact .inl rfl | exact .inr rfl) rfl rfl ?_ ?_; rotate_left; (focus ((try simp only [Act.eval, getD_lit, qGz, qGs]); with_reducible rfl))) | (refine St.pure (v := ?_) rfl rfl rfl (fun w => ?_) ?_; rotate_left; (focus (go_simp; all_goals with_reducible rfl))) | refine St.load rfl hM rfl rfl rfl rfl (by repeat constructor) (by rfl) (by kernel_rfl) ?_ | ((refine St.loadRow rfl hM rfl rfl rfl rfl (by repeat constructor) (Nat.le_of_ble_eq_true rfl) (by kernel_rfl) ?_); (try simp only [Res.known, List.drop_succ_cons, List.drop_zero, List.take_succ_cons, List.take_zero])) | ((((refine St.storeRow rfl hM rfl rfl rfl rfl rfl (by repeat constructor) (Nat.le_of_ble_eq_true rfl) (Nat.le_of_ble_eq_true rfl) (by kernel_rfl) rfl ?_ ?_); (focus ((intro h; cases h; done))); clear hM; intro w hM)); (try simp only [Res.put, Res.known, Act.eval, Value.cells, getD_lit, qGz, qGs, List.toList_toArray, qSz, qSs, over, Nat.reduceAdd] at hM))); (try simp only [Act.put, qSa, qSz, qSs])) | (((refine St.alloc (ty := 63) (z := .agg #[.int .i64 0, .bool false, .int .i64 0, .int .i64 0, .string ⟨#[]⟩, .slice none 0 0]) rfl hM rfl rfl (by kernel_rfl) ?_); clear hM; intro w bk hM); (try simp only [Res.put, Res.known, Act.eval, Value.cells, getD_lit, qGz, qGs, List.toList_toArray, qSz, qSs, over, Nat.reduceAdd] at hM); (try simp only [Act.put, qSa, qSz, qSs]))) | (first | (refine wp_seq_shut (fun K hK => ?_)) | (refine wp_text hM (fun Kr hKr => ?_); simp only [List.append_eq, List.cons_append, List.nil_append, inText]) | refine wp_skip ?_ | (refine wp_cond_false rfl ?_) | ((refine hK.out _ _ ?_); clear hK K))))
                (refine St.call3 rfl rfl (by kernel_rfl) (fun R hR => ?_); simp only [List.map_toArray, List.map_cons, List.map_nil, Act.eval, getD_lit, qGz, qGs])
                refine (HWO.out _ (hM.part (by repeat (first | exact Part.all | apply Part.skip)))).mono ?_
                rintro e w' ⟨p', rfl, hok, hst⟩; refine hR.out _ _ ?_; clear hR R
                replace hM := hM.madeM hst (slL_flag _ _ _ _)
                clear hst
                rw [← HOP.out] at hM
                replace hM := (St.rot hM).rot2.rot3
                (try simp only [Act.put, qSa, qSz, qSs])
                (repeat (fail))
                (refine St.call3 rfl rfl (by kernel_rfl) (fun R hR => ?_); simp only [List.map_toArray, List.map_cons, List.map_nil, Act.eval, getD_lit, qGz, qGs])
                refine (rputX_any HRP.out hM (by intro s'; repeat (first | exact Swap.all | apply Swap.skip)) HID.out hok).mono ?_
                rintro e w' ⟨rfl, s1, hM1, hp1⟩; refine hR.out _ _ ?_; clear hR R hM
                have hM := St.unF hM1 (by repeat (first | exact Swap.all | apply Swap.skip))
                clear hM1
                (try simp only [Act.put, qSa, qSz, qSs])
                (repeat (first | ((with_reducible show wpSeq _ _ _ _ _ _ _); first | ((with_reducible refine wpSeq_nil ?_); refine hKr.out _ _ ?_; clear hKr Kr) | ((first | (refine St.copy (v := ?_) (by exact .inl rfl) rfl rfl ?_ ?_; rotate_left; (focus ((try simp only [Act.eval, getD_lit, qGz, qGs]); with_reducible rfl))) | (refine St.pure (v := ?_) rfl rfl rfl (fun w => ?_) ?_; rotate_left; (focus (go_simp; all_goals with_reducible rfl))) | refine St.load rfl hM rfl rfl rfl rfl (by repeat constructor) (by rfl) (by kernel_rfl) ?_ | ((refine St.loadRow rfl hM rfl rfl rfl rfl (by repeat constructor) (Nat.le_of_ble_eq_true rfl) (by kernel_rfl) ?_); (try simp only [Res.known, List.drop_succ_cons, List.drop_zero, List.take_succ_cons, List.take_zero])) | ((((refine St.store rfl hM rfl rfl rfl rfl rfl (by repeat constructor) (Nat.le_of_ble_eq_true rfl) (by kernel_rfl) rfl ?_ ?_); (focus ((intro h; cases h; done))); clear hM; intro w hM)); (try simp only [Res.put, Res.known, Act.eval, Value.cells, getD_lit, qGz, qGs, List.toList_toArray, qSz, qSs, over, Nat.reduceAdd] at hM))); (try simp only [Act.put, qSa, qSz, qSs]))) | (first | (refine wp_seq_shut (fun K hK => ?_)) | (refine wp_text hM (fun Kr hKr => ?_); simp only [List.append_eq, List.cons_append, List.nil_append, inText]) | ((refine hK.out _ _ ?_); clear hK K))))
                (refine St.call3 rfl rfl (by kernel_rfl) (fun R hR => ?_); simp only [List.map_toArray, List.map_cons, List.map_nil, Act.eval, getD_lit, qGz, qGs])
                have C := rputY_any hp1 hM (by intro s'; repeat (first | exact Swap.all | apply Swap.skip)) (ids_rset _ HID.out) (HKP.out p') (n := u.1.setLinks (u.1.links - 1)) rfl rfl
                rw [HYC.out] at C
                refine C.mono ?_
                clear C
                rintro e w' ⟨rfl, s2, hM1, hp2⟩; refine hR.out _ _ ?_; clear hR R hM
                have hM := St.unF hM1 (by repeat (first | exact Swap.all | apply Swap.skip))
                clear hM1
                replace hM := (St.forget hM).forget2
                have HN2 := Lib.hid (HNO.out p')
                have HID2' := Lib.hid (ids_rset ((u.1.setLinks (u.1.links - 1), u.2) : NodV) (ids_rset ((v.1.setNames (In.without v.1.names as_), p') : NodV) HID.out))
                generalize rset (rset zs ((v.1.setNames (In.without v.1.names as_), p') : NodV)) ((u.1.setLinks (u.1.links - 1), u.2) : NodV) = zs2 at *
                clear HKP HNO hw1
                (try simp only [Act.put, qSa, qSz, qSs])
                obtain ⟨d2, e2, hd2, hdd2, hl2, he2, hw2⟩ := HM2.out
                obtain ⟨e3, h3, hlen3, hno3⟩ := In.rename_end HI2.out hd2 hdd2 (by rw [hl2]; exact HKN.out) he2 hw2 k
                obtain ⟨z2, hfz2, hz2e⟩ : ∃ z2, rfind zs2 dir = some z2 ∧ z2.1 = d2 := by
                  have h1 := hd2
                  rw [← HN2.out, rfind_map] at h1
                  cases h2 : rfind zs2 dir with
                  | none => rw [h2] at h1; cases h1
                  | some z2 => rw [h2] at h1; exact ⟨z2, rfl, Option.some.inj h1⟩
                have hz2l : z2.1.names.length ≤ 1000000 := by
                  have h1 := names_le (In.find_some hd2).1
                  have h2 := HI2.out.tot
                  rw [hz2e]
                  omega
                have HG2 := Lib.hid (fun (W : World) (hA : At (rL ⟨g, s2⟩ t.quota (t.last + 1) zs2) W) => rget_some (hp2.raw hA) hfz2)
                have HW2 := Lib.hid (fun (W : World) (hA : At (rL ⟨g, s2⟩ t.quota (t.last + 1) zs2) W) => rwithout_any z2 ⟨hp2.names _ (rfind_mem hfz2).1, fun y hy => (hp2.raw hA).ents.has y (List.mem_flatMap.2 ⟨z2, (rfind_mem hfz2).1, hy⟩), hz2l⟩ s)
                obtain ⟨ca, cc, hcv, -⟩ := slV_open (hp2.names z2 (rfind_mem hfz2).1)
                rw [NodV.open hcv] at HG2 HW2
                have HNO3 := Lib.hid (fun p' => (show (rset zs2 ((z2.1.setNames (In.without z2.1.names s), p') : NodV)).map (·.1) = (In.nameOut (In.loses t tod as_) dir s).nodes by rw [rput_nodes, HN2.out, hz2e]; exact In.rput_without HI2.out hd2 s))
                have HI3 := Lib.hid h3
                have HL3 := Lib.hid hlen3
                have HN3 := Lib.hid hno3
                have HF2 := Lib.hid hfz2
                have HID2 := Lib.hid (HID2'.out)
                clear h3 hlen3 hno3 hfz2 hcv hd2 hdd2 hl2 he2 hw2 hz2e hz2l
                (repeat (first | ((with_reducible show wpSeq _ _ _ _ _ _ _); first | ((with_reducible refine wpSeq_nil ?_); refine hKr.out _ _ ?_; clear hKr Kr) | (((refine St.copy (v := ?_) (by exact .inl rfl) rfl rfl ?_ ?_; rotate_left; (focus ((try simp only [Act.eval, getD_lit, qGz, qGs]); with_reducible rfl)))); (try simp only [Act.put, qSa, qSz, qSs]))) | (first | (refine wp_seq_shut (fun K hK => ?_)) | (refine wp_text hM (fun Kr hKr => ?_); simp only [List.append_eq, List.cons_append, List.nil_append, inText]) | ((refine hK.out _ _ ?_); clear hK K))))
                (refine St.call3 rfl rfl (by kernel_rfl) (fun R hR => ?_); simp only [List.map_toArray, List.map_cons, List.map_nil, Act.eval, getD_lit, qGz, qGs])
                refine (HG2.out _ (hM.part (by repeat (first | exact Part.all | apply Part.skip)))).mono ?_
                (rintro e w' ⟨rfl, hb⟩; refine hR.out _ _ ?_; clear hR R; replace hM := hM.below hb; clear hb; (try simp only [Act.put, qSa, qSz, qSs]))
                (repeat (first | ((with_reducible show wpSeq _ _ _ _ _ _ _); first | ((with_reducible refine wpSeq_nil ?_); refine hKr.out _ _ ?_; clear hKr Kr) | ((first | (refine St.copy (v := ?_) (by first | exact .inl rfl | exact .inr rfl) rfl rfl ?_ ?_; rotate_left; (focus ((try simp only [Act.eval, getD_lit, qGz, qGs]); with_reducible rfl))) | (refine St.pure (v := ?_) rfl rfl rfl (fun w => ?_) ?_; rotate_left; (focus (go_simp; all_goals with_reducible rfl))) | ((refine St.loadRow rfl hM rfl rfl rfl rfl (by repeat constructor) (Nat.le_of_ble_eq_true rfl) (by kernel_rfl) ?_); (try simp only [Res.known, List.drop_succ_cons, List.drop_zero, List.take_succ_cons, List.take_zero])) | ((((refine St.storeRow rfl hM rfl rfl rfl rfl rfl (by repeat constructor) (Nat.le_of_ble_eq_true rfl) (Nat.le_of_ble_eq_true rfl) (by kernel_rfl) rfl ?_ ?_); (focus ((intro h; cases h; done))); clear hM; intro w hM)); (try simp only [Res.put, Res.known, Act.eval, Value.cells, getD_lit, qGz, qGs, List.toList_toArray, qSz, qSs, over, Nat.reduceAdd] at hM))); (try simp only [Act.put, qSa, qSz, qSs])) | (((refine St.alloc (ty := 63) (z := .agg #[.int .i64 0, .bool false, .int .i64 0, .int .i64 0, .string ⟨#[]⟩, .slice none 0 0]) rfl hM rfl rfl (by kernel_rfl) ?_); clear hM; intro w bk hM); (try simp only [Res.put, Res.known, Act.eval, Value.cells, getD_lit, qGz, qGs, List.toList_toArray, qSz, qSs, over, Nat.reduceAdd] at hM); (try simp only [Act.put, qSa, qSz, qSs]))) | (first | (refine wp_seq_shut (fun K hK => ?_)) | (refine wp_text hM (fun Kr hKr => ?_); simp only [List.append_eq, List.cons_append, List.nil_append, inText]) | ((refine hK.out _ _ ?_); clear hK K))))
                (refine St.call3 rfl rfl (by kernel_rfl) (fun R hR => ?_); simp only [List.map_toArray, List.map_cons, List.map_nil, Act.eval, getD_lit, qGz, qGs])
                refine (HW2.out _ (hM.part (by repeat (first | exact Part.all | apply Part.skip)))).mono ?_
                rintro e w' ⟨p', rfl, hok, hst⟩; refine hR.out _ _ ?_; clear hR R
                replace hM := hM.madeM hst (slL_flag _ _ _ _)
                clear hst
                replace hM := (St.rot hM).forget
                replace hM := St.rot hM
                (try simp only [Act.put, qSa, qSz, qSs])
                (repeat (fail))
                (refine St.call3 rfl rfl (by kernel_rfl) (fun R hR => ?_); simp only [List.map_toArray, List.map_cons, List.map_nil, Act.eval, getD_lit, qGz, qGs])
                refine (rputX_any hp2 hM (by intro s'; repeat (first | exact Swap.all | apply Swap.skip)) HID2.out hok).mono ?_
                rintro e w' ⟨rfl, s3, hM1, hp3⟩; refine hR.out _ _ ?_; clear hR R hM
                have hM := St.unF hM1 (by repeat (first | exact Swap.all | apply Swap.skip))
                clear hM1
                (try simp only [Act.put, qSa, qSz, qSs])
                (repeat (first | ((with_reducible show wpSeq _ _ _ _ _ _ _); first | ((with_reducible refine wpSeq_nil ?_); refine hKr.out _ _ ?_; clear hKr Kr) | (((refine St.copy (v := ?_) (by exact .inl rfl) rfl rfl ?_ ?_; rotate_left; (focus ((try simp only [Act.eval, getD_lit, qGz, qGs]); with_reducible rfl)))); (try simp only [Act.put, qSa, qSz, qSs]))) | (first | (refine wp_seq_shut (fun K hK => ?_)) | (refine wp_text hM (fun Kr hKr => ?_); simp only [List.append_eq, List.cons_append, List.nil_append, inText]) | ((refine hK.out _ _ ?_); clear hK K))))
                have hno3p := HNO3.out p'
                generalize hzs3 : rset zs2 ((z2.1.setNames (In.without z2.1.names s), p') : NodV) = zs3 at *
                obtain ⟨v3, hfv3, hv3e⟩ : ∃ v3, rfind zs3 tod = some v3 ∧ v3.1 = e3 := by
                  have h1 := HI3.out
                  rw [← hno3p, rfind_map] at h1
                  cases h2 : rfind zs3 tod with
                  | none => rw [h2] at h1; cases h1
                  | some v3 => rw [h2] at h1; exact ⟨v3, rfl, Option.some.inj h1⟩
                have hv3l : v3.1.names.length ≤ 1000000 := by
                  have h1 := HL3.out
                  rw [hv3e]
                  omega
                have hp3' := hp3
                have HG3 := Lib.hid (fun (W : World) (hA : At (rL ⟨g, s3⟩ t.quota (t.last + 1) zs3) W) => rget_some (hp3'.raw hA) hfv3)
                have HW3 := Lib.hid (fun (W : World) (hA : At (rL ⟨g, s3⟩ t.quota (t.last + 1) zs3) W) => rwith_any v3 ⟨hp3'.names _ (rfind_mem hfv3).1, fun y hy => (hp3'.raw hA).ents.has y (List.mem_flatMap.2 ⟨v3, (rfind_mem hfv3).1, hy⟩), hv3l⟩ as_ k)
                obtain ⟨da, dc, hdv, -⟩ := slV_open (hp3'.names v3 (rfind_mem hfv3).1)
                rw [NodV.open hdv] at HG3 HW3
                have HNO4 := Lib.hid (fun p' => (show (rset zs3 ((v3.1.setNames (ins (as_, k) v3.1.names), p') : NodV)).map (·.1) = (In.renameIn (In.loses t tod as_) dir s tod as_ k).nodes by rw [rput_nodes, hno3p, hv3e]; exact HN3.out))
                have HID3 := Lib.hid (show Ids zs3 from hzs3 ▸ ids_rset _ HID2.out)
                clear hfv3 hdv hzs3 hno3p hv3e hv3l
                (refine St.call3 rfl rfl (by kernel_rfl) (fun R hR => ?_); simp only [List.map_toArray, List.map_cons, List.map_nil, Act.eval, getD_lit, qGz, qGs])
                refine (HG3.out _ (hM.part (by repeat (first | exact Part.all | apply Part.skip)))).mono ?_
                (rintro e w' ⟨rfl, hb⟩; refine hR.out _ _ ?_; clear hR R; replace hM := hM.below hb; clear hb; (try simp only [Act.put, qSa, qSz, qSs]))
                (repeat (first | ((with_reducible show wpSeq _ _ _ _ _ _ _); first | ((with_reducible refine wpSeq_nil ?_); refine hKr.out _ _ ?_; clear hKr Kr) | ((first | (refine St.copy (v := ?_) (by exact .inl rfl) rfl rfl ?_ ?_; rotate_left; (focus ((try simp only [Act.eval, getD_lit, qGz, qGs]); with_reducible rfl))) | (refine St.pure (v := ?_) rfl rfl rfl (fun w => ?_) ?_; rotate_left; (focus (go_simp; all_goals with_reducible rfl))) | ((refine St.loadRow rfl hM rfl rfl rfl rfl (by repeat constructor) (Nat.le_of_ble_eq_true rfl) (by kernel_rfl) ?_); (try simp only [Res.known, List.drop_succ_cons, List.drop_zero, List.take_succ_cons, List.take_zero])) | ((((refine St.storeRow rfl hM rfl rfl rfl rfl rfl (by repeat constructor) (Nat.le_of_ble_eq_true rfl) (Nat.le_of_ble_eq_true rfl) (by kernel_rfl) rfl ?_ ?_); (focus ((intro h; cases h; done))); clear hM; intro w hM)); (try simp only [Res.put, Res.known, Act.eval, Value.cells, getD_lit, qGz, qGs, List.toList_toArray, qSz, qSs, over, Nat.reduceAdd] at hM))); (try simp only [Act.put, qSa, qSz, qSs]))) | (first | (refine wp_seq_shut (fun K hK => ?_)) | (refine wp_text hM (fun Kr hKr => ?_); simp only [List.append_eq, List.cons_append, List.nil_append, inText]) | ((refine hK.out _ _ ?_); clear hK K))))
                (refine St.call3 rfl rfl (by kernel_rfl) (fun R hR => ?_); simp only [List.map_toArray, List.map_cons, List.map_nil, Act.eval, getD_lit, qGz, qGs])
                refine (HW3.out _ (hM.part (by repeat (first | exact Part.all | apply Part.skip)))).mono ?_
                rintro e w' ⟨p', rfl, hok, hst⟩; refine hR.out _ _ ?_; clear hR R
                replace hM := hM.madeM hst (slL_flag _ _ _ _)
                clear hst
                replace hM := St.rot hM
                (try simp only [Act.put, qSa, qSz, qSs])
                (repeat (fail))
                (refine St.call3 rfl rfl (by kernel_rfl) (fun R hR => ?_); simp only [List.map_toArray, List.map_cons, List.map_nil, Act.eval, getD_lit, qGz, qGs])
                refine (rputX_any hp3' hM (by intro s'; repeat (first | exact Swap.all | apply Swap.skip)) HID3.out hok).mono ?_
                rintro e w' ⟨rfl, s4, hM1, hp4⟩; refine hR.out _ _ ?_; clear hR R hM
                have hM := St.unF hM1 (by repeat (first | exact Swap.all | apply Swap.skip))
                clear hM1
                (try simp only [Act.put, qSa, qSz, qSs])
                (repeat (first | ((with_reducible show wpSeq _ _ _ _ _ _ _); first | ((with_reducible refine wpSeq_nil ?_); refine hKr.out _ _ ?_; clear hKr Kr) | (((refine St.copy (v := ?_) (by exact .inr rfl) rfl rfl ?_ ?_; rotate_left; (focus ((try simp only [Act.eval, getD_lit, qGz, qGs]); with_reducible rfl)))); (try simp only [Act.put, qSa, qSz, qSs]))) | (first | (refine wp_seq_shut (fun K hK => ?_)) | (refine wp_text hM (fun Kr hKr => ?_); simp only [List.append_eq, List.cons_append, List.nil_append, inText]) | ((refine hK.out _ _ ?_); clear hK K))))
                ((refine wp_ret ?_; (try simp only [Exit.then, Exit.inBlock]); refine St.ret hM rfl (by repeat (first | exact Outs.nil | apply Outs.tmp rfl)) rfl ?_))
                rw [HE.out]
                refine ⟨rfl, s4, _, HNO4.out p', ?_⟩
                rw [show (In.renameIn (In.loses t tod as_) dir s tod as_ k).quota = t.quota from (In.loses_q tod as_).1, show (In.renameIn (In.loses t tod as_) dir s tod as_ k).last = t.last from (In.loses_q tod as_).2]
                exact hp4.to (hM.part (by repeat (first | exact Part.all | apply Part.skip))) hM.only
        · have q1 : (c != 0) = true := bne_iff_ne.2 hc0
          have HE := Lib.hid (In.rename_bad (t := t) (dir := dir) (s := s) (tod := tod) (as_ := as_) (e := c) hc0 (by rw [In.renameE_place hU0 (by rw [hc]; exact hc0), hc]))
          clear hc hc0 hi hk he hU0 hF hd hdd hl hfn hn
          rw [q1]
          (repeat (first | ((with_reducible show wpSeq _ _ _ _ _ _ _); first | ((with_reducible refine wpSeq_nil ?_); refine hKr.out _ _ ?_; clear hKr Kr) | (((refine St.copy (v := ?_) (by first | exact .inl rfl | exact .inr rfl) rfl rfl ?_ ?_; rotate_left; (focus ((try simp only [Act.eval, getD_lit, qGz, qGs]); with_reducible rfl)))); (try simp only [Act.put, qSa, qSz, qSs]))) | (first | (refine wp_seq_shut (fun K hK => ?_)) | (refine wp_text hM (fun Kr hKr => ?_); simp only [List.append_eq, List.cons_append, List.nil_append, inText]) | (refine wp_cond_true rfl ?_) | ((refine hK.out _ _ ?_); clear hK K))))
          (((refine wp_ret ?_; (try simp only [Exit.then, Exit.inBlock]); refine St.ret hM rfl (by repeat (first | exact Outs.nil | apply Outs.tmp rfl)) rfl ?_)); (rw [HE.out]); exact ⟨rfl, HB.out _ (hM.part (by repeat (first | exact Part.all | apply Part.skip))) hM.only⟩)
  · (obtain ⟨g, xs⟩ := x; obtain ⟨va, vc, hv, -⟩ := slV_open h.raw.sl; have hM : St w0 [g] w0 (rL ⟨g, xs⟩ t.quota (t.last + 1) zs) := h.raw.st; have HRP := Lib.hid (RP.start h.raw); have HOP := Lib.hid (fun nx => rL_open (x := ⟨g, xs⟩) (zs := zs) hv t.quota nx); obtain ⟨U, hU⟩ : ∃ U, (nodL xs zs ++ zs.flatMap NodV.ents).map unflag = U := ⟨_, rfl⟩; simp only [hU] at HOP; rw [HOP.out] at hM; have HAT := Lib.hid (fun (W : World) (hA : At ((g, true, Res.cells [.int .i64 t.quota, .int .i64 (t.last + 1), .slice va zs.length vc] 43) :: U) W) => (show RIs ⟨g, xs⟩ t zs W from ⟨RRaw.of (by rw [HOP.out]; exact hA) h.raw.sl h.raw.names h.raw.len, h.nodes⟩)); have HB := Lib.hid (fun (W : World) (hA : At ((g, true, Res.cells [.int .i64 t.quota, .int .i64 (t.last + 1), .slice va zs.length vc] 43) :: U) W) (ho : Only [g] w0 W) => (show RDid ⟨g, xs⟩ t zs t w0 W from ⟨xs, zs, h.nodes, HRP.out.to (by rw [HOP.out]; exact hA) ho⟩)))
    have HFI := Lib.hid (fun (W : World) (hA : At ((g, true, Res.cells [.int .i64 t.quota, .int .i64 (t.last + 1), .slice va zs.length vc] 43) :: U) W) => rFindE_any (HAT.out W hA) I hN dir s hs)
    have HE := Lib.hid (show In.rename t dir s tod as_ = (In.findE t dir s, t) from In.rename_bad hF (by rw [In.renameE_un (by rw [unlinkE_bad hF]; exact hF), unlinkE_bad hF]))
    generalize In.findE t dir s = c at *
    generalize In.findN t dir s = k at *
    have q1 : (c != 0) = true := bne_iff_ne.2 hF
    (have HH := Lib.hid h; have HI := Lib.hid I; clear h I hv hU)
    clear hF
    go_enter Tryz.func34, Tryz.ntmps34
    (repeat (first | ((with_reducible show wpSeq _ _ _ _ _ _ _); first | ((with_reducible refine wpSeq_nil ?_); refine hKr.out _ _ ?_; clear hKr Kr) | (((refine St.copy (v := ?_) (by first | exact .inl rfl | exact .inr rfl) rfl rfl ?_ ?_; rotate_left; (focus ((try simp only [Act.eval, getD_lit, qGz, qGs]); with_reducible rfl)))); (try simp only [Act.put, qSa, qSz, qSs]))) | (first | (refine wp_seq_shut (fun K hK => ?_)) | (refine wp_text hM (fun Kr hKr => ?_); simp only [List.append_eq, List.cons_append, List.nil_append, inText]) | ((refine hK.out _ _ ?_); clear hK K))))
    ((refine St.call3 rfl rfl (by kernel_rfl) (fun R hR => ?_); simp only [List.map_toArray, List.map_cons, List.map_nil, Act.eval, getD_lit, qGz, qGs]); refine (HFI.out _ (hM.part (by repeat (exact Part.all)))).mono ?_; (rintro e w' ⟨rfl, hb⟩; refine hR.out _ _ ?_; clear hR R; replace hM := hM.below hb; clear hb; (try simp only [Act.put, qSa, qSz, qSs])))
    (repeat (first | ((with_reducible show wpSeq _ _ _ _ _ _ _); first | ((with_reducible refine wpSeq_nil ?_); refine hKr.out _ _ ?_; clear hKr Kr) | ((first | (refine St.copy (v := ?_) (by first | exact .inl rfl | exact .inr rfl) rfl rfl ?_ ?_; rotate_left; (focus ((try simp only [Act.eval, getD_lit, qGz, qGs]); with_reducible rfl))) | (refine St.pure (v := ?_) rfl rfl rfl (fun w => ?_) ?_; rotate_left; (focus (go_simp; all_goals with_reducible rfl)))); (try simp only [Act.put, qSa, qSz, qSs]))) | (first | (refine wp_seq_shut (fun K hK => ?_)) | (refine wp_text hM (fun Kr hKr => ?_); simp only [List.append_eq, List.cons_append, List.nil_append, inText]) | (refine wp_cond_true rfl ?_) | ((refine hK.out _ _ ?_); clear hK K))))
    (((refine wp_ret ?_; (try simp only [Exit.then, Exit.inBlock]); refine St.ret hM rfl (by repeat (first | exact Outs.nil | apply Outs.tmp rfl)) rfl ?_)); (rw [HE.out]); exact ⟨rfl, HB.out _ (hM.part (by repeat (exact Part.all))) hM.only⟩)
end
end Go.Proofs.YtcicjklhbnipcaaGreat
namespace Go.Proofs.YtcicjklhbnipcaaGreat
set_option linter.unusedVariables false
set_option linter.unusedSimpArgs false
open Go.RowKit Go.Maps

namespace In
theorem textL_snoc (l : List ByteArray) (x : ByteArray) : textL (l ++ [x]) = textL l ++ x ++ ⟨#[47]⟩ := by simp [textL, List.foldl_append]
theorem textL_len (l : List ByteArray) (h : ∀ s ∈ l, s.size ≤ 32) : (textL l).size ≤ 33 * l.length := by
  have key : ∀ (l : List ByteArray) (a : ByteArray), (∀ s ∈ l, s.size ≤ 32) → (l.foldl (fun s x => s ++ x ++ (⟨#[47]⟩ : ByteArray)) a).size ≤ a.size + 33 * l.length := by
    intro l
    induction l with
    | nil => intro a _; simp
    | cons y r ih =>
      intro a h
      rw [List.foldl_cons]
      have := ih (a ++ y ++ ⟨#[47]⟩) fun s hs => h s (by simp [hs])
      have hy := h y (by simp)
      have e : (a ++ y ++ (⟨#[47]⟩ : ByteArray)).size = a.size + y.size + 1 := by rw [ByteArray.size_append, ByteArray.size_append]; rfl
      rw [e] at this
      rw [List.length_cons]
      omega
  have := key l ByteArray.empty h
  simpa [textL] using this
end In
/-- Texts: at an index. -/
theorem strs_at {w : World} {B : Nat} {a : Option Addr} {n cap : Nat} {xs : List ByteArray} (h : RSlice 1 RStr w B [.slice a n cap] xs) :
    n = xs.length ∧ n ≤ cap ∧ cap ≤ maxLen ∧ (0 < n → ∃ b off, a = some ⟨b, off, none⟩ ∧ b < B ∧ ∀ k s, xs[k]? = some s → s.size ≤ maxLen ∧ w.cell? ⟨b, off + k, none⟩ = some (.string s)) := by
  obtain ⟨a', cap', h1, h2, h3, h5, h4⟩ := h
  simp only [List.cons.injEq, Value.slice.injEq, and_true] at h1
  obtain ⟨rfl, rfl, rfl⟩ := h1
  refine ⟨rfl, h2, h3, fun hp => ?_⟩
  obtain ⟨b, off, rfl, hb, hx⟩ := h4 hp
  refine ⟨b, off, rfl, hb, fun k s hk => ?_⟩
  obtain ⟨es, hl, hc, rfl, hs⟩ := hx k s hk
  exact ⟨hs, by simpa using hc 0 (by omega)⟩
theorem take_at' {α : Type} {xs : List α} {k : Nat} {x : α} (h : xs[k]? = some x) : xs.take (k + 1) = xs.take k ++ [x] := by
  rw [List.take_add_one, h]; rfl
section
variable {w : World} {g mb : Nat} {β : Int → Nat × Nat} {t : TabD} {N : Nat}
set_option maxRecDepth 100000 in
set_option maxHeartbeats 2000000 in
theorem do_list (h : TblAt w g mb β t) (I : In.Inv N t) (hN : N ≤ 1000000000) (a : ActD) (ha : a.Ok) (h1 : a.kind ≠ 1) (h2 : a.kind ≠ 2) (h3 : a.kind ≠ 3) (h4 : a.kind ≠ 4) (h5 : a.kind ≠ 5) (h6 : a.kind ≠ 6) (h7 : a.kind ≠ 7) (h8 : a.kind ≠ 8) (h9 : a.kind ≠ 9) (h10 : a.kind ≠ 10) (h11 : a.kind ≠ 11) :
    Calls Tryz.prog 9 #[.pointer (some ⟨g, 0, none⟩), .agg a.cells.toArray] w (RDo w g mb β t (In.do_ t a)) := by
  have F := fit_inv I hN
  have hb := (Below.refl w.heap.size w).alloc (Nat.le_refl _) (.cells a.cells.toArray 36)
  have HT := Lib.hid (h.below hb)
  have HB := Lib.hid hb
  have C := List_any HT.out F.q0 ha.dir (names_inv I hN)
  obtain ⟨R, hR⟩ : ∃ R, In.do_ t a = R := ⟨_, rfl⟩
  rw [hR]
  unfold In.do_ at hR
  rw [if_neg h1, if_neg h2, if_neg h3, if_neg h4, if_neg h5, if_neg h6, if_neg h7, if_neg h8, if_neg h9, if_neg h10, if_neg h11] at hR
  have HR := Lib.hid hR
  have hsm : ∀ s ∈ In.list t a.dir, s.size ≤ 32 := fun s hs => by
    unfold In.list at hs
    split at hs
    · rename_i he
      obtain ⟨p, hp, rfl⟩ := List.mem_map.1 hs
      obtain ⟨d, hd, _⟩ := In.getE_ok (t := t) (id := a.dir) (dir := true) (by simpa [In.listE] using he)
      rw [at_find hd] at hp
      exact I.short d (find_mem hd).1 p hp
    · cases hs
  have hll : (In.list t a.dir).length ≤ 1000000000 := by
    unfold In.list
    split
    · rename_i he
      obtain ⟨d, hd, _⟩ := In.getE_ok (t := t) (id := a.dir) (dir := true) (by simpa [In.listE] using he)
      rw [at_find hd, List.length_map]
      have h3 := I.tot
      have h4 : d.names.length ≤ In.tot t.nodes := In.le_sum (f := fun n => n.names.length) (find_mem hd).1
      omega
    · simp
  unfold ActD.cells at C hb HT HB ⊢
  obtain ⟨kind, id, dir, at_, n, name, as_, flag⟩ := a
  simp only at h1 h2 h3 h4 h5 h6 h7 h8 h9 h10 h11 C HT HB HR hsm hll ⊢
  have b1 := beq_eq_false_iff_ne.2 h1
  have b2 := beq_eq_false_iff_ne.2 h2
  have b3 := beq_eq_false_iff_ne.2 h3
  have b4 := beq_eq_false_iff_ne.2 h4
  have b5 := beq_eq_false_iff_ne.2 h5
  have b6 := beq_eq_false_iff_ne.2 h6
  have b7 := beq_eq_false_iff_ne.2 h7
  have b8 := beq_eq_false_iff_ne.2 h8
  have b9 := beq_eq_false_iff_ne.2 h9
  have b10 := beq_eq_false_iff_ne.2 h10
  have b11 := beq_eq_false_iff_ne.2 h11
  generalize hL : In.list t dir = L at C HR hsm hll
  have HS := Lib.hid hsm
  clear h hb hR I ha F h1 h2 h3 h4 h5 h6 h7 h8 h9 h10 h11 hsm
  go_enter Tryz.func9, Tryz.ntmps9
  go_wp2_with (go_at_call 20; refine C.mono ?_; rintro e w2 ⟨sa, sc, rfl, hsl, hb2⟩; rw [hL] at hsl; have HSL := Lib.hid hsl; have HB2 := Lib.hid hb2; clear hsl hb2)
  have hop := strs_at HSL.out
  obtain ⟨hlen, hcap, hmax, hx⟩ := hop
  rw [maxLen_val] at hmax
  have HX := Lib.hid hx
  clear hx hlen hL
  go_loop [15, 16] (fun s i => ∃ k : Nat, k ≤ L.length ∧ i = .int .i64 k ∧ s = .string (In.textL (L.take k))) (fun _ i => L.length - (intOf i).toNat)
  case atStart => exact ⟨0, by omega, rfl, rfl⟩
  case round =>
    obtain ⟨k, hk, rfl, rfl⟩ := hrel
    by_cases hlt : k < L.length
    · obtain ⟨x, hxk⟩ := get_at hlt
      obtain ⟨b, off, rfl, hbb, hc⟩ := HX.out (by omega)
      obtain ⟨hxs, hcell⟩ := hc k x hxk
      have hx32 := HS.out x (List.mem_of_getElem? hxk)
      have htl := In.textL_len (L.take k) fun s hs => HS.out s (List.mem_of_mem_take hs)
      have htk : (L.take k).length ≤ k := List.length_take_le _ _
      have g1 : ¬ (9223372036854775807 < (In.textL (L.take k)).size + x.size) := by omega
      have g2 : ¬ (9223372036854775807 < (In.textL (L.take k)).size + x.size + 1) := by omega
      have HK := Lib.hid (show In.textL (L.take (k + 1)) = In.textL (L.take k) ++ x ++ ⟨#[47]⟩ by rw [take_at' hxk, In.textL_snoc])
      clear hc hxk htl htk
      go_wp2_with fail
      go_round
      case rel => exact ⟨k + 1, by omega, by go_num, by rw [HK.out]⟩
      case measure => simp [intOf]; omega
    · have he : k = L.length := by omega
      subst he
      go_wp2_with fail
      go_ret3
      rw [← HR.out]
      exact ⟨rfl, Goes.pre HB.out (Step.below HT.out HB2.out).goes⟩
theorem do_any (h : TblAt w g mb β t) (I : In.Inv N t) (hN : N ≤ 1000000000) (a : ActD) (ha : a.Ok) : Calls Tryz.prog 9 #[.pointer (some ⟨g, 0, none⟩), .agg a.cells.toArray] w (RDo w g mb β t (In.do_ t a)) := by
  by_cases h1 : a.kind = 1
  · exact do_1 h I hN a ha h1
  by_cases h2 : a.kind = 2
  · exact do_2 h I hN a ha h2
  by_cases h3 : a.kind = 3
  · exact do_3 h I hN a ha h3
  by_cases h4 : a.kind = 4
  · exact do_4 h I hN a ha h4
  by_cases h5 : a.kind = 5
  · exact do_5 h I hN a ha h5
  by_cases h6 : a.kind = 6
  · exact do_6 h I hN a ha h6
  by_cases h7 : a.kind = 7
  · exact do_7 h I hN a ha h7
  by_cases h8 : a.kind = 8
  · exact do_8 h I hN a ha h8
  by_cases h9 : a.kind = 9
  · exact do_9 h I hN a ha h9
  by_cases h10 : a.kind = 10
  · exact do_10 h I hN a ha h10
  by_cases h11 : a.kind = 11
  · exact do_11 h I hN a ha h11
  exact do_list h I hN a ha h1 h2 h3 h4 h5 h6 h7 h8 h9 h10 h11
end
end Go.Proofs.YtcicjklhbnipcaaGreat
namespace Go.Proofs.YtcicjklhbnipcaaGreat
set_option linter.unusedVariables false
set_option linter.unusedSimpArgs false
open Go.RowKit Go.Maps
section
variable {w w' w0 : World} {F : List Nat} {L M : List Ent} {zs : List NodV} {x : RX} {t t' : TabD} {N : Nat} {q nx : Int}
theorem RDid.pre (h : RIs x t zs w0) (hb : Below w0.heap.size w0 w) (hd : RDid x t zs t' w w') : RDid x t zs t' w0 w' := by
  obtain ⟨s', zs', h1, h2⟩ := hd
  exact ⟨s', zs', h1, (RTo.same h.raw hb).trans h2⟩
theorem RDid.below (hd : RDid x t zs t' w0 w) (hb : Below w.heap.size w w') : RDid x t zs t' w0 w' := by
  obtain ⟨s', zs', h1, h2⟩ := hd
  exact ⟨s', zs', h1, h2.below hb⟩
/-- What Do answers, and makes of the table. -/
def RRes (x : RX) (t : TabD) (zs : List NodV) (w : World) (r : Int × ByteArray × Int × TabD) (e : Ending) (w' : World) : Prop := e = .returned (.tuple #[.int .i64 r.1, .string r.2.1, .int .i64 r.2.2.1]) ∧ RDid x t zs r.2.2.2 w w'
set_option maxHeartbeats 8000000 in
set_option maxRecDepth 100000 in
theorem rdo_1 (h : RIs x t zs w0) (I : In.Inv N t) (hN : N ≤ 900000) (a : ActD) (hn : a.name.size ≤ 1000000000) (has : a.as_.size ≤ 1000000000) (hk : a.kind = 1) : Calls Tryz.prog 10 #[.pointer (some ⟨x.g, 0, none⟩), .agg a.cells.toArray] w0 (RRes x t zs w0 (In.do_ t a)) := by
  have hM := St.start w0 []
  obtain ⟨kind, id, dir, at_, n, name, as_, flag⟩ := a
  simp only at hn has hk ⊢
  subst hk
  unfold ActD.cells
  simp only
  have HC := Lib.hid (fun (W : World) (hb : Below w0.heap.size w0 W) => rMake_any (h.below hb) I hN dir name flag hn)
  have HP := Lib.hid (fun (W w' : World) (t' : TabD) (hb : Below w0.heap.size w0 W) (hd : RDid x t zs t' W w') => RDid.pre h hb hd)
  clear h I hn has
  go_enter Tryz.func10, Tryz.ntmps10
  (repeat (first | ((with_reducible show wpSeq _ _ _ _ _ _ _); first | ((with_reducible refine wpSeq_nil ?_); refine hKr.out _ _ ?_; clear hKr Kr) | ((first | (refine St.copy (v := ?_) (by first | exact .inl rfl | exact .inr rfl) rfl rfl ?_ ?_; rotate_left; (focus ((try simp only [Act.eval, getD_lit, qGz, qGs]); with_reducible rfl))) | (refine St.pure (v := ?_) rfl rfl rfl (fun w => ?_) ?_; rotate_left; (focus (go_simp; all_goals with_reducible rfl))) | refine St.load rfl hM rfl rfl rfl rfl (by repeat constructor) (by rfl) (by kernel_rfl) ?_ | ((((refine St.box rfl hM rfl rfl rfl ?_); clear hM; intro w bk hM)); (try simp only [Res.put, Res.known, Act.eval, Value.cells, getD_lit, qGz, qGs, List.toList_toArray, qSz, qSs, over, Nat.reduceAdd] at hM))); (try simp only [Act.put, qSa, qSz, qSs]))) | (first | (refine wp_seq_shut (fun K hK => ?_)) | (refine wp_text hM (fun Kr hKr => ?_); simp only [List.append_eq, List.cons_append, List.nil_append, inText]) | refine wp_block ?_ | (refine wp_cond_true rfl ?_) | ((refine hK.out _ _ ?_); clear hK K))))
  (refine St.call3 rfl rfl (by kernel_rfl) (fun R hR => ?_); simp only [List.map_toArray, List.map_cons, List.map_nil, Act.eval, getD_lit, qGz, qGs])
  refine (HC.out _ hM.to_below).mono ?_
  rintro e w' ⟨rfl, hd⟩; refine hR.out _ _ ?_; clear hR R
  have HD := Lib.hid (HP.out _ _ _ hM.to_below hd)
  clear hd HP HC hM
  have hM := St.start w' []
  (try simp only [Act.put, qSa, qSz, qSs])
  (repeat (first | ((with_reducible show wpSeq _ _ _ _ _ _ _); first | ((with_reducible refine wpSeq_nil ?_); refine hKr.out _ _ ?_; clear hKr Kr) | ((first | (refine St.copy (v := ?_) (by first | exact .inl rfl | exact .inr rfl) rfl rfl ?_ ?_; rotate_left; (focus ((try simp only [Act.eval, getD_lit, qGz, qGs]); with_reducible rfl))) | (refine St.pure (v := ?_) rfl rfl rfl (fun w => ?_) ?_; rotate_left; (focus (go_simp; all_goals with_reducible rfl)))); (try simp only [Act.put, qSa, qSz, qSs]))) | (first | (refine wp_seq_shut (fun K hK => ?_)) | (refine wp_text hM (fun Kr hKr => ?_); simp only [List.append_eq, List.cons_append, List.nil_append, inText]) | ((refine hK.out _ _ ?_); clear hK K))))
  ((refine wp_ret ?_; (try simp only [Exit.then, Exit.inBlock]); refine St.ret hM rfl (by repeat (first | exact Outs.nil | apply Outs.tmp rfl)) rfl ?_))
  exact ⟨rfl, HD.out.below hM.to_below⟩
set_option maxHeartbeats 8000000 in
set_option maxRecDepth 100000 in
theorem rdo_2 (h : RIs x t zs w0) (I : In.Inv N t) (hN : N ≤ 900000) (a : ActD) (hn : a.name.size ≤ 1000000000) (has : a.as_.size ≤ 1000000000) (hk : a.kind = 2) : Calls Tryz.prog 10 #[.pointer (some ⟨x.g, 0, none⟩), .agg a.cells.toArray] w0 (RRes x t zs w0 (In.do_ t a)) := by
  have hM := St.start w0 []
  obtain ⟨kind, id, dir, at_, n, name, as_, flag⟩ := a
  simp only at hn has hk ⊢
  subst hk
  unfold ActD.cells
  simp only
  have HC := Lib.hid (fun (W : World) (hb : Below w0.heap.size w0 W) => rFindE_any (h.below hb) I hN dir name hn)
  have HS := Lib.hid (fun (W : World) (hb : Below w0.heap.size w0 W) => RDid.same h hb)
  clear h I hn has
  go_enter Tryz.func10, Tryz.ntmps10
  (repeat (first | ((with_reducible show wpSeq _ _ _ _ _ _ _); first | ((with_reducible refine wpSeq_nil ?_); refine hKr.out _ _ ?_; clear hKr Kr) | ((first | (refine St.copy (v := ?_) (by first | exact .inl rfl | exact .inr rfl) rfl rfl ?_ ?_; rotate_left; (focus ((try simp only [Act.eval, getD_lit, qGz, qGs]); with_reducible rfl))) | (refine St.pure (v := ?_) rfl rfl rfl (fun w => ?_) ?_; rotate_left; (focus (go_simp; all_goals with_reducible rfl))) | refine St.load rfl hM rfl rfl rfl rfl (by repeat constructor) (by rfl) (by kernel_rfl) ?_ | ((((refine St.box rfl hM rfl rfl rfl ?_); clear hM; intro w bk hM)); (try simp only [Res.put, Res.known, Act.eval, Value.cells, getD_lit, qGz, qGs, List.toList_toArray, qSz, qSs, over, Nat.reduceAdd] at hM))); (try simp only [Act.put, qSa, qSz, qSs]))) | (first | (refine wp_seq_shut (fun K hK => ?_)) | (refine wp_text hM (fun Kr hKr => ?_); simp only [List.append_eq, List.cons_append, List.nil_append, inText]) | refine wp_block ?_ | (first | refine wp_cond_true rfl ?_ | refine wp_cond_false rfl ?_) | ((refine hK.out _ _ ?_); clear hK K))))
  (refine St.call3 rfl rfl (by kernel_rfl) (fun R hR => ?_); simp only [List.map_toArray, List.map_cons, List.map_nil, Act.eval, getD_lit, qGz, qGs])
  refine (HC.out _ hM.to_below).mono ?_
  (rintro e w' ⟨rfl, hb⟩; refine hR.out _ _ ?_; clear hR R; replace hM := hM.below hb; clear hb; (try simp only [Act.put, qSa, qSz, qSs]))
  (repeat (first | ((with_reducible show wpSeq _ _ _ _ _ _ _); first | ((with_reducible refine wpSeq_nil ?_); refine hKr.out _ _ ?_; clear hKr Kr) | ((first | (refine St.copy (v := ?_) (by first | exact .inl rfl | exact .inr rfl) rfl rfl ?_ ?_; rotate_left; (focus ((try simp only [Act.eval, getD_lit, qGz, qGs]); with_reducible rfl))) | (refine St.pure (v := ?_) rfl rfl rfl (fun w => ?_) ?_; rotate_left; (focus (go_simp; all_goals with_reducible rfl)))); (try simp only [Act.put, qSa, qSz, qSs]))) | (first | (refine wp_seq_shut (fun K hK => ?_)) | (refine wp_text hM (fun Kr hKr => ?_); simp only [List.append_eq, List.cons_append, List.nil_append, inText]) | ((refine hK.out _ _ ?_); clear hK K))))
  ((refine wp_ret ?_; (try simp only [Exit.then, Exit.inBlock]); refine St.ret hM rfl (by repeat (first | exact Outs.nil | apply Outs.tmp rfl)) rfl ?_))
  exact ⟨rfl, HS.out _ hM.to_below⟩
set_option maxHeartbeats 8000000 in
set_option maxRecDepth 100000 in
theorem rdo_3 (h : RIs x t zs w0) (I : In.Inv N t) (hN : N ≤ 900000) (a : ActD) (hn : a.name.size ≤ 1000000000) (has : a.as_.size ≤ 1000000000) (hk : a.kind = 3) : Calls Tryz.prog 10 #[.pointer (some ⟨x.g, 0, none⟩), .agg a.cells.toArray] w0 (RRes x t zs w0 (In.do_ t a)) := by
  have hM := St.start w0 []
  obtain ⟨kind, id, dir, at_, n, name, as_, flag⟩ := a
  simp only at hn has hk ⊢
  subst hk
  unfold ActD.cells
  simp only
  have HC := Lib.hid (fun (W : World) (hb : Below w0.heap.size w0 W) => rLink_any (h.below hb) I hN id dir name hn)
  have HP := Lib.hid (fun (W w' : World) (t' : TabD) (hb : Below w0.heap.size w0 W) (hd : RDid x t zs t' W w') => RDid.pre h hb hd)
  clear h I hn has
  go_enter Tryz.func10, Tryz.ntmps10
  (repeat (first | ((with_reducible show wpSeq _ _ _ _ _ _ _); first | ((with_reducible refine wpSeq_nil ?_); refine hKr.out _ _ ?_; clear hKr Kr) | ((first | (refine St.copy (v := ?_) (by first | exact .inl rfl | exact .inr rfl) rfl rfl ?_ ?_; rotate_left; (focus ((try simp only [Act.eval, getD_lit, qGz, qGs]); with_reducible rfl))) | (refine St.pure (v := ?_) rfl rfl rfl (fun w => ?_) ?_; rotate_left; (focus (go_simp; all_goals with_reducible rfl))) | refine St.load rfl hM rfl rfl rfl rfl (by repeat constructor) (by rfl) (by kernel_rfl) ?_ | ((((refine St.box rfl hM rfl rfl rfl ?_); clear hM; intro w bk hM)); (try simp only [Res.put, Res.known, Act.eval, Value.cells, getD_lit, qGz, qGs, List.toList_toArray, qSz, qSs, over, Nat.reduceAdd] at hM))); (try simp only [Act.put, qSa, qSz, qSs]))) | (first | (refine wp_seq_shut (fun K hK => ?_)) | (refine wp_text hM (fun Kr hKr => ?_); simp only [List.append_eq, List.cons_append, List.nil_append, inText]) | refine wp_block ?_ | (first | refine wp_cond_true rfl ?_ | refine wp_cond_false rfl ?_) | ((refine hK.out _ _ ?_); clear hK K))))
  (refine St.call3 rfl rfl (by kernel_rfl) (fun R hR => ?_); simp only [List.map_toArray, List.map_cons, List.map_nil, Act.eval, getD_lit, qGz, qGs])
  refine (HC.out _ hM.to_below).mono ?_
  rintro e w' ⟨rfl, hd⟩; refine hR.out _ _ ?_; clear hR R
  have HD := Lib.hid (HP.out _ _ _ hM.to_below hd)
  clear hd HP HC hM
  have hM := St.start w' []
  (try simp only [Act.put, qSa, qSz, qSs])
  (repeat (first | ((with_reducible show wpSeq _ _ _ _ _ _ _); first | ((with_reducible refine wpSeq_nil ?_); refine hKr.out _ _ ?_; clear hKr Kr) | (((refine St.copy (v := ?_) (by exact .inr rfl) rfl rfl ?_ ?_; rotate_left; (focus ((try simp only [Act.eval, getD_lit, qGz, qGs]); with_reducible rfl)))); (try simp only [Act.put, qSa, qSz, qSs]))) | (((refine hK.out _ _ ?_); clear hK K))))
  ((refine wp_ret ?_; (try simp only [Exit.then, Exit.inBlock]); refine St.ret hM rfl (by repeat (first | exact Outs.nil | apply Outs.tmp rfl)) rfl ?_))
  exact ⟨rfl, HD.out.below hM.to_below⟩
set_option maxHeartbeats 8000000 in
set_option maxRecDepth 100000 in
theorem rdo_4 (h : RIs x t zs w0) (I : In.Inv N t) (hN : N ≤ 900000) (a : ActD) (hn : a.name.size ≤ 1000000000) (has : a.as_.size ≤ 1000000000) (hk : a.kind = 4) : Calls Tryz.prog 10 #[.pointer (some ⟨x.g, 0, none⟩), .agg a.cells.toArray] w0 (RRes x t zs w0 (In.do_ t a)) := by
  have hM := St.start w0 []
  obtain ⟨kind, id, dir, at_, n, name, as_, flag⟩ := a
  simp only at hn has hk ⊢
  subst hk
  unfold ActD.cells
  simp only
  have HC := Lib.hid (fun (W : World) (hb : Below w0.heap.size w0 W) => rUnlink_any (h.below hb) I hN dir name hn)
  have HP := Lib.hid (fun (W w' : World) (t' : TabD) (hb : Below w0.heap.size w0 W) (hd : RDid x t zs t' W w') => RDid.pre h hb hd)
  clear h I hn has
  go_enter Tryz.func10, Tryz.ntmps10
  (repeat (first | ((with_reducible show wpSeq _ _ _ _ _ _ _); first | ((with_reducible refine wpSeq_nil ?_); refine hKr.out _ _ ?_; clear hKr Kr) | ((first | (refine St.copy (v := ?_) (by first | exact .inl rfl | exact .inr rfl) rfl rfl ?_ ?_; rotate_left; (focus ((try simp only [Act.eval, getD_lit, qGz, qGs]); with_reducible rfl))) | (refine St.pure (v := ?_) rfl rfl rfl (fun w => ?_) ?_; rotate_left; (focus (go_simp; all_goals with_reducible rfl))) | refine St.load rfl hM rfl rfl rfl rfl (by repeat constructor) (by rfl) (by kernel_rfl) ?_ | ((((refine St.box rfl hM rfl rfl rfl ?_); clear hM; intro w bk hM)); (try simp only [Res.put, Res.known, Act.eval, Value.cells, getD_lit, qGz, qGs, List.toList_toArray, qSz, qSs, over, Nat.reduceAdd] at hM))); (try simp only [Act.put, qSa, qSz, qSs]))) | (first | (refine wp_seq_shut (fun K hK => ?_)) | (refine wp_text hM (fun Kr hKr => ?_); simp only [List.append_eq, List.cons_append, List.nil_append, inText]) | refine wp_block ?_ | (first | refine wp_cond_true rfl ?_ | refine wp_cond_false rfl ?_) | ((refine hK.out _ _ ?_); clear hK K))))
  (refine St.call3 rfl rfl (by kernel_rfl) (fun R hR => ?_); simp only [List.map_toArray, List.map_cons, List.map_nil, Act.eval, getD_lit, qGz, qGs])
  refine (HC.out _ hM.to_below).mono ?_
  rintro e w' ⟨rfl, hd⟩; refine hR.out _ _ ?_; clear hR R
  have HD := Lib.hid (HP.out _ _ _ hM.to_below hd)
  clear hd HP HC hM
  have hM := St.start w' []
  (try simp only [Act.put, qSa, qSz, qSs])
  (repeat (first | ((with_reducible show wpSeq _ _ _ _ _ _ _); first | ((with_reducible refine wpSeq_nil ?_); refine hKr.out _ _ ?_; clear hKr Kr) | (((refine St.copy (v := ?_) (by exact .inr rfl) rfl rfl ?_ ?_; rotate_left; (focus ((try simp only [Act.eval, getD_lit, qGz, qGs]); with_reducible rfl)))); (try simp only [Act.put, qSa, qSz, qSs]))) | (((refine hK.out _ _ ?_); clear hK K))))
  ((refine wp_ret ?_; (try simp only [Exit.then, Exit.inBlock]); refine St.ret hM rfl (by repeat (first | exact Outs.nil | apply Outs.tmp rfl)) rfl ?_))
  exact ⟨rfl, HD.out.below hM.to_below⟩
set_option maxHeartbeats 8000000 in
set_option maxRecDepth 100000 in
theorem rdo_5 (h : RIs x t zs w0) (I : In.Inv N t) (hN : N ≤ 900000) (a : ActD) (hn : a.name.size ≤ 1000000000) (has : a.as_.size ≤ 1000000000) (hk : a.kind = 5) : Calls Tryz.prog 10 #[.pointer (some ⟨x.g, 0, none⟩), .agg a.cells.toArray] w0 (RRes x t zs w0 (In.do_ t a)) := by
  have hM := St.start w0 []
  obtain ⟨kind, id, dir, at_, n, name, as_, flag⟩ := a
  simp only at hn has hk ⊢
  subst hk
  unfold ActD.cells
  simp only
  have HC := Lib.hid (fun (W : World) (hb : Below w0.heap.size w0 W) => rRemove_any (h.below hb) I hN dir name hn)
  have HP := Lib.hid (fun (W w' : World) (t' : TabD) (hb : Below w0.heap.size w0 W) (hd : RDid x t zs t' W w') => RDid.pre h hb hd)
  clear h I hn has
  go_enter Tryz.func10, Tryz.ntmps10
  (repeat (first | ((with_reducible show wpSeq _ _ _ _ _ _ _); first | ((with_reducible refine wpSeq_nil ?_); refine hKr.out _ _ ?_; clear hKr Kr) | ((first | (refine St.copy (v := ?_) (by first | exact .inl rfl | exact .inr rfl) rfl rfl ?_ ?_; rotate_left; (focus ((try simp only [Act.eval, getD_lit, qGz, qGs]); with_reducible rfl))) | (refine St.pure (v := ?_) rfl rfl rfl (fun w => ?_) ?_; rotate_left; (focus (go_simp; all_goals with_reducible rfl))) | refine St.load rfl hM rfl rfl rfl rfl (by repeat constructor) (by rfl) (by kernel_rfl) ?_ | ((((refine St.box rfl hM rfl rfl rfl ?_); clear hM; intro w bk hM)); (try simp only [Res.put, Res.known, Act.eval, Value.cells, getD_lit, qGz, qGs, List.toList_toArray, qSz, qSs, over, Nat.reduceAdd] at hM))); (try simp only [Act.put, qSa, qSz, qSs]))) | (first | (refine wp_seq_shut (fun K hK => ?_)) | (refine wp_text hM (fun Kr hKr => ?_); simp only [List.append_eq, List.cons_append, List.nil_append, inText]) | refine wp_block ?_ | (first | refine wp_cond_true rfl ?_ | refine wp_cond_false rfl ?_) | ((refine hK.out _ _ ?_); clear hK K))))
  (refine St.call3 rfl rfl (by kernel_rfl) (fun R hR => ?_); simp only [List.map_toArray, List.map_cons, List.map_nil, Act.eval, getD_lit, qGz, qGs])
  refine (HC.out _ hM.to_below).mono ?_
  rintro e w' ⟨rfl, hd⟩; refine hR.out _ _ ?_; clear hR R
  have HD := Lib.hid (HP.out _ _ _ hM.to_below hd)
  clear hd HP HC hM
  have hM := St.start w' []
  (try simp only [Act.put, qSa, qSz, qSs])
  (repeat (first | ((with_reducible show wpSeq _ _ _ _ _ _ _); first | ((with_reducible refine wpSeq_nil ?_); refine hKr.out _ _ ?_; clear hKr Kr) | (((refine St.copy (v := ?_) (by exact .inr rfl) rfl rfl ?_ ?_; rotate_left; (focus ((try simp only [Act.eval, getD_lit, qGz, qGs]); with_reducible rfl)))); (try simp only [Act.put, qSa, qSz, qSs]))) | (((refine hK.out _ _ ?_); clear hK K))))
  ((refine wp_ret ?_; (try simp only [Exit.then, Exit.inBlock]); refine St.ret hM rfl (by repeat (first | exact Outs.nil | apply Outs.tmp rfl)) rfl ?_))
  exact ⟨rfl, HD.out.below hM.to_below⟩
set_option maxHeartbeats 8000000 in
set_option maxRecDepth 100000 in
theorem rdo_6 (h : RIs x t zs w0) (I : In.Inv N t) (hN : N ≤ 900000) (a : ActD) (hn : a.name.size ≤ 1000000000) (has : a.as_.size ≤ 1000000000) (hk : a.kind = 6) : Calls Tryz.prog 10 #[.pointer (some ⟨x.g, 0, none⟩), .agg a.cells.toArray] w0 (RRes x t zs w0 (In.do_ t a)) := by
  have hM := St.start w0 []
  obtain ⟨kind, id, dir, at_, n, name, as_, flag⟩ := a
  simp only at hn has hk ⊢
  subst hk
  unfold ActD.cells
  simp only
  have HC := Lib.hid (fun (W : World) (hb : Below w0.heap.size w0 W) => rRename_any (h.below hb) I hN dir name n as_ hn has)
  have HP := Lib.hid (fun (W w' : World) (t' : TabD) (hb : Below w0.heap.size w0 W) (hd : RDid x t zs t' W w') => RDid.pre h hb hd)
  clear h I hn has
  go_enter Tryz.func10, Tryz.ntmps10
  (repeat (first | ((with_reducible show wpSeq _ _ _ _ _ _ _); first | ((with_reducible refine wpSeq_nil ?_); refine hKr.out _ _ ?_; clear hKr Kr) | ((first | (refine St.copy (v := ?_) (by first | exact .inl rfl | exact .inr rfl) rfl rfl ?_ ?_; rotate_left; (focus ((try simp only [Act.eval, getD_lit, qGz, qGs]); with_reducible rfl))) | (refine St.pure (v := ?_) rfl rfl rfl (fun w => ?_) ?_; rotate_left; (focus (go_simp; all_goals with_reducible rfl))) | refine St.load rfl hM rfl rfl rfl rfl (by repeat constructor) (by rfl) (by kernel_rfl) ?_ | ((((refine St.box rfl hM rfl rfl rfl ?_); clear hM; intro w bk hM)); (try simp only [Res.put, Res.known, Act.eval, Value.cells, getD_lit, qGz, qGs, List.toList_toArray, qSz, qSs, over, Nat.reduceAdd] at hM))); (try simp only [Act.put, qSa, qSz, qSs]))) | (first | (refine wp_seq_shut (fun K hK => ?_)) | (refine wp_text hM (fun Kr hKr => ?_); simp only [List.append_eq, List.cons_append, List.nil_append, inText]) | refine wp_block ?_ | (first | refine wp_cond_true rfl ?_ | refine wp_cond_false rfl ?_) | ((refine hK.out _ _ ?_); clear hK K))))
  (refine St.call3 rfl rfl (by kernel_rfl) (fun R hR => ?_); simp only [List.map_toArray, List.map_cons, List.map_nil, Act.eval, getD_lit, qGz, qGs])
  refine (HC.out _ hM.to_below).mono ?_
  rintro e w' ⟨rfl, hd⟩; refine hR.out _ _ ?_; clear hR R
  have HD := Lib.hid (HP.out _ _ _ hM.to_below hd)
  clear hd HP HC hM
  have hM := St.start w' []
  (try simp only [Act.put, qSa, qSz, qSs])
  (repeat (first | ((with_reducible show wpSeq _ _ _ _ _ _ _); first | ((with_reducible refine wpSeq_nil ?_); refine hKr.out _ _ ?_; clear hKr Kr) | (((refine St.copy (v := ?_) (by exact .inr rfl) rfl rfl ?_ ?_; rotate_left; (focus ((try simp only [Act.eval, getD_lit, qGz, qGs]); with_reducible rfl)))); (try simp only [Act.put, qSa, qSz, qSs]))) | (((refine hK.out _ _ ?_); clear hK K))))
  ((refine wp_ret ?_; (try simp only [Exit.then, Exit.inBlock]); refine St.ret hM rfl (by repeat (first | exact Outs.nil | apply Outs.tmp rfl)) rfl ?_))
  exact ⟨rfl, HD.out.below hM.to_below⟩
set_option maxHeartbeats 8000000 in
set_option maxRecDepth 100000 in
theorem rdo_7 (h : RIs x t zs w0) (I : In.Inv N t) (hN : N ≤ 900000) (a : ActD) (hn : a.name.size ≤ 1000000000) (has : a.as_.size ≤ 1000000000) (hk : a.kind = 7) : Calls Tryz.prog 10 #[.pointer (some ⟨x.g, 0, none⟩), .agg a.cells.toArray] w0 (RRes x t zs w0 (In.do_ t a)) := by
  have hM := St.start w0 []
  obtain ⟨kind, id, dir, at_, n, name, as_, flag⟩ := a
  simp only at hn has hk ⊢
  subst hk
  unfold ActD.cells
  simp only
  have HC := Lib.hid (fun (W : World) (hb : Below w0.heap.size w0 W) => rRead_any (h.below hb) I id at_ n)
  have HS := Lib.hid (fun (W : World) (hb : Below w0.heap.size w0 W) => RDid.same h hb)
  clear h I hn has
  go_enter Tryz.func10, Tryz.ntmps10
  (repeat (first | ((with_reducible show wpSeq _ _ _ _ _ _ _); first | ((with_reducible refine wpSeq_nil ?_); refine hKr.out _ _ ?_; clear hKr Kr) | ((first | (refine St.copy (v := ?_) (by first | exact .inl rfl | exact .inr rfl) rfl rfl ?_ ?_; rotate_left; (focus ((try simp only [Act.eval, getD_lit, qGz, qGs]); with_reducible rfl))) | (refine St.pure (v := ?_) rfl rfl rfl (fun w => ?_) ?_; rotate_left; (focus (go_simp; all_goals with_reducible rfl))) | refine St.load rfl hM rfl rfl rfl rfl (by repeat constructor) (by rfl) (by kernel_rfl) ?_ | ((((refine St.box rfl hM rfl rfl rfl ?_); clear hM; intro w bk hM)); (try simp only [Res.put, Res.known, Act.eval, Value.cells, getD_lit, qGz, qGs, List.toList_toArray, qSz, qSs, over, Nat.reduceAdd] at hM))); (try simp only [Act.put, qSa, qSz, qSs]))) | (first | (refine wp_seq_shut (fun K hK => ?_)) | (refine wp_text hM (fun Kr hKr => ?_); simp only [List.append_eq, List.cons_append, List.nil_append, inText]) | refine wp_block ?_ | (first | refine wp_cond_true rfl ?_ | refine wp_cond_false rfl ?_) | ((refine hK.out _ _ ?_); clear hK K))))
  (refine St.call3 rfl rfl (by kernel_rfl) (fun R hR => ?_); simp only [List.map_toArray, List.map_cons, List.map_nil, Act.eval, getD_lit, qGz, qGs])
  refine (HC.out _ hM.to_below).mono ?_
  (rintro e w' ⟨rfl, hb⟩; refine hR.out _ _ ?_; clear hR R; replace hM := hM.below hb; clear hb; (try simp only [Act.put, qSa, qSz, qSs]))
  (repeat (first | ((with_reducible show wpSeq _ _ _ _ _ _ _); first | ((with_reducible refine wpSeq_nil ?_); refine hKr.out _ _ ?_; clear hKr Kr) | ((first | (refine St.copy (v := ?_) (by first | exact .inl rfl | exact .inr rfl) rfl rfl ?_ ?_; rotate_left; (focus ((try simp only [Act.eval, getD_lit, qGz, qGs]); with_reducible rfl))) | (refine St.pure (v := ?_) rfl rfl rfl (fun w => ?_) ?_; rotate_left; (focus (go_simp; all_goals with_reducible rfl)))); (try simp only [Act.put, qSa, qSz, qSs]))) | (first | (refine wp_seq_shut (fun K hK => ?_)) | (refine wp_text hM (fun Kr hKr => ?_); simp only [List.append_eq, List.cons_append, List.nil_append, inText]) | ((refine hK.out _ _ ?_); clear hK K))))
  ((refine wp_ret ?_; (try simp only [Exit.then, Exit.inBlock]); refine St.ret hM rfl (by repeat (first | exact Outs.nil | apply Outs.tmp rfl)) rfl ?_))
  exact ⟨rfl, HS.out _ hM.to_below⟩
set_option maxHeartbeats 8000000 in
set_option maxRecDepth 100000 in
theorem rdo_8 (h : RIs x t zs w0) (I : In.Inv N t) (hN : N ≤ 900000) (a : ActD) (hn : a.name.size ≤ 1000000000) (has : a.as_.size ≤ 1000000000) (hk : a.kind = 8) : Calls Tryz.prog 10 #[.pointer (some ⟨x.g, 0, none⟩), .agg a.cells.toArray] w0 (RRes x t zs w0 (In.do_ t a)) := by
  have hM := St.start w0 []
  obtain ⟨kind, id, dir, at_, n, name, as_, flag⟩ := a
  simp only at hn has hk ⊢
  subst hk
  unfold ActD.cells
  simp only
  have HC := Lib.hid (fun (W : World) (hb : Below w0.heap.size w0 W) => rWrite_any (h.below hb) I hN id at_ as_ has)
  have HP := Lib.hid (fun (W w' : World) (t' : TabD) (hb : Below w0.heap.size w0 W) (hd : RDid x t zs t' W w') => RDid.pre h hb hd)
  clear h I hn has
  go_enter Tryz.func10, Tryz.ntmps10
  (repeat (first | ((with_reducible show wpSeq _ _ _ _ _ _ _); first | ((with_reducible refine wpSeq_nil ?_); refine hKr.out _ _ ?_; clear hKr Kr) | ((first | (refine St.copy (v := ?_) (by first | exact .inl rfl | exact .inr rfl) rfl rfl ?_ ?_; rotate_left; (focus ((try simp only [Act.eval, getD_lit, qGz, qGs]); with_reducible rfl))) | (refine St.pure (v := ?_) rfl rfl rfl (fun w => ?_) ?_; rotate_left; (focus (go_simp; all_goals with_reducible rfl))) | refine St.load rfl hM rfl rfl rfl rfl (by repeat constructor) (by rfl) (by kernel_rfl) ?_ | ((((refine St.box rfl hM rfl rfl rfl ?_); clear hM; intro w bk hM)); (try simp only [Res.put, Res.known, Act.eval, Value.cells, getD_lit, qGz, qGs, List.toList_toArray, qSz, qSs, over, Nat.reduceAdd] at hM))); (try simp only [Act.put, qSa, qSz, qSs]))) | (first | (refine wp_seq_shut (fun K hK => ?_)) | (refine wp_text hM (fun Kr hKr => ?_); simp only [List.append_eq, List.cons_append, List.nil_append, inText]) | refine wp_block ?_ | (first | refine wp_cond_true rfl ?_ | refine wp_cond_false rfl ?_) | ((refine hK.out _ _ ?_); clear hK K))))
  (refine St.call3 rfl rfl (by kernel_rfl) (fun R hR => ?_); simp only [List.map_toArray, List.map_cons, List.map_nil, Act.eval, getD_lit, qGz, qGs])
  refine (HC.out _ hM.to_below).mono ?_
  rintro e w' ⟨rfl, hd⟩; refine hR.out _ _ ?_; clear hR R
  have HD := Lib.hid (HP.out _ _ _ hM.to_below hd)
  clear hd HP HC hM
  have hM := St.start w' []
  (try simp only [Act.put, qSa, qSz, qSs])
  (repeat (first | ((with_reducible show wpSeq _ _ _ _ _ _ _); first | ((with_reducible refine wpSeq_nil ?_); refine hKr.out _ _ ?_; clear hKr Kr) | (((refine St.copy (v := ?_) (by exact .inr rfl) rfl rfl ?_ ?_; rotate_left; (focus ((try simp only [Act.eval, getD_lit, qGz, qGs]); with_reducible rfl)))); (try simp only [Act.put, qSa, qSz, qSs]))) | (((refine hK.out _ _ ?_); clear hK K))))
  ((refine wp_ret ?_; (try simp only [Exit.then, Exit.inBlock]); refine St.ret hM rfl (by repeat (first | exact Outs.nil | apply Outs.tmp rfl)) rfl ?_))
  exact ⟨rfl, HD.out.below hM.to_below⟩
set_option maxHeartbeats 8000000 in
set_option maxRecDepth 100000 in
theorem rdo_9 (h : RIs x t zs w0) (I : In.Inv N t) (hN : N ≤ 900000) (a : ActD) (hn : a.name.size ≤ 1000000000) (has : a.as_.size ≤ 1000000000) (hk : a.kind = 9) : Calls Tryz.prog 10 #[.pointer (some ⟨x.g, 0, none⟩), .agg a.cells.toArray] w0 (RRes x t zs w0 (In.do_ t a)) := by
  have hM := St.start w0 []
  obtain ⟨kind, id, dir, at_, n, name, as_, flag⟩ := a
  simp only at hn has hk ⊢
  subst hk
  unfold ActD.cells
  simp only
  have HC := Lib.hid (fun (W : World) (hb : Below w0.heap.size w0 W) => rTrunc_any (h.below hb) I hN id n)
  have HP := Lib.hid (fun (W w' : World) (t' : TabD) (hb : Below w0.heap.size w0 W) (hd : RDid x t zs t' W w') => RDid.pre h hb hd)
  clear h I hn has
  go_enter Tryz.func10, Tryz.ntmps10
  (repeat (first | ((with_reducible show wpSeq _ _ _ _ _ _ _); first | ((with_reducible refine wpSeq_nil ?_); refine hKr.out _ _ ?_; clear hKr Kr) | ((first | (refine St.copy (v := ?_) (by first | exact .inl rfl | exact .inr rfl) rfl rfl ?_ ?_; rotate_left; (focus ((try simp only [Act.eval, getD_lit, qGz, qGs]); with_reducible rfl))) | (refine St.pure (v := ?_) rfl rfl rfl (fun w => ?_) ?_; rotate_left; (focus (go_simp; all_goals with_reducible rfl))) | refine St.load rfl hM rfl rfl rfl rfl (by repeat constructor) (by rfl) (by kernel_rfl) ?_ | ((((refine St.box rfl hM rfl rfl rfl ?_); clear hM; intro w bk hM)); (try simp only [Res.put, Res.known, Act.eval, Value.cells, getD_lit, qGz, qGs, List.toList_toArray, qSz, qSs, over, Nat.reduceAdd] at hM))); (try simp only [Act.put, qSa, qSz, qSs]))) | (first | (refine wp_seq_shut (fun K hK => ?_)) | (refine wp_text hM (fun Kr hKr => ?_); simp only [List.append_eq, List.cons_append, List.nil_append, inText]) | refine wp_block ?_ | (first | refine wp_cond_true rfl ?_ | refine wp_cond_false rfl ?_) | ((refine hK.out _ _ ?_); clear hK K))))
  (refine St.call3 rfl rfl (by kernel_rfl) (fun R hR => ?_); simp only [List.map_toArray, List.map_cons, List.map_nil, Act.eval, getD_lit, qGz, qGs])
  refine (HC.out _ hM.to_below).mono ?_
  rintro e w' ⟨rfl, hd⟩; refine hR.out _ _ ?_; clear hR R
  have HD := Lib.hid (HP.out _ _ _ hM.to_below hd)
  clear hd HP HC hM
  have hM := St.start w' []
  (try simp only [Act.put, qSa, qSz, qSs])
  (repeat (first | ((with_reducible show wpSeq _ _ _ _ _ _ _); first | ((with_reducible refine wpSeq_nil ?_); refine hKr.out _ _ ?_; clear hKr Kr) | (((refine St.copy (v := ?_) (by exact .inr rfl) rfl rfl ?_ ?_; rotate_left; (focus ((try simp only [Act.eval, getD_lit, qGz, qGs]); with_reducible rfl)))); (try simp only [Act.put, qSa, qSz, qSs]))) | (((refine hK.out _ _ ?_); clear hK K))))
  ((refine wp_ret ?_; (try simp only [Exit.then, Exit.inBlock]); refine St.ret hM rfl (by repeat (first | exact Outs.nil | apply Outs.tmp rfl)) rfl ?_))
  exact ⟨rfl, HD.out.below hM.to_below⟩
set_option maxHeartbeats 8000000 in
set_option maxRecDepth 100000 in
theorem rdo_10 (h : RIs x t zs w0) (I : In.Inv N t) (hN : N ≤ 900000) (a : ActD) (hn : a.name.size ≤ 1000000000) (has : a.as_.size ≤ 1000000000) (hk : a.kind = 10) : Calls Tryz.prog 10 #[.pointer (some ⟨x.g, 0, none⟩), .agg a.cells.toArray] w0 (RRes x t zs w0 (In.do_ t a)) := by
  have hM := St.start w0 []
  obtain ⟨kind, id, dir, at_, n, name, as_, flag⟩ := a
  simp only at hn has hk ⊢
  subst hk
  unfold ActD.cells
  simp only
  have HC := Lib.hid (fun (W : World) (hb : Below w0.heap.size w0 W) => rHold_any (h.below hb) I hN id)
  have HP := Lib.hid (fun (W w' : World) (t' : TabD) (hb : Below w0.heap.size w0 W) (hd : RDid x t zs t' W w') => RDid.pre h hb hd)
  clear h I hn has
  go_enter Tryz.func10, Tryz.ntmps10
  (repeat (first | ((with_reducible show wpSeq _ _ _ _ _ _ _); first | ((with_reducible refine wpSeq_nil ?_); refine hKr.out _ _ ?_; clear hKr Kr) | ((first | (refine St.copy (v := ?_) (by first | exact .inl rfl | exact .inr rfl) rfl rfl ?_ ?_; rotate_left; (focus ((try simp only [Act.eval, getD_lit, qGz, qGs]); with_reducible rfl))) | (refine St.pure (v := ?_) rfl rfl rfl (fun w => ?_) ?_; rotate_left; (focus (go_simp; all_goals with_reducible rfl))) | refine St.load rfl hM rfl rfl rfl rfl (by repeat constructor) (by rfl) (by kernel_rfl) ?_ | ((((refine St.box rfl hM rfl rfl rfl ?_); clear hM; intro w bk hM)); (try simp only [Res.put, Res.known, Act.eval, Value.cells, getD_lit, qGz, qGs, List.toList_toArray, qSz, qSs, over, Nat.reduceAdd] at hM))); (try simp only [Act.put, qSa, qSz, qSs]))) | (first | (refine wp_seq_shut (fun K hK => ?_)) | (refine wp_text hM (fun Kr hKr => ?_); simp only [List.append_eq, List.cons_append, List.nil_append, inText]) | refine wp_block ?_ | (first | refine wp_cond_true rfl ?_ | refine wp_cond_false rfl ?_) | ((refine hK.out _ _ ?_); clear hK K))))
  (refine St.call3 rfl rfl (by kernel_rfl) (fun R hR => ?_); simp only [List.map_toArray, List.map_cons, List.map_nil, Act.eval, getD_lit, qGz, qGs])
  refine (HC.out _ hM.to_below).mono ?_
  rintro e w' ⟨rfl, hd⟩; refine hR.out _ _ ?_; clear hR R
  have HD := Lib.hid (HP.out _ _ _ hM.to_below hd)
  clear hd HP HC hM
  have hM := St.start w' []
  (try simp only [Act.put, qSa, qSz, qSs])
  (repeat (first | ((with_reducible show wpSeq _ _ _ _ _ _ _); first | ((with_reducible refine wpSeq_nil ?_); refine hKr.out _ _ ?_; clear hKr Kr) | (((refine St.copy (v := ?_) (by exact .inr rfl) rfl rfl ?_ ?_; rotate_left; (focus ((try simp only [Act.eval, getD_lit, qGz, qGs]); with_reducible rfl)))); (try simp only [Act.put, qSa, qSz, qSs]))) | (((refine hK.out _ _ ?_); clear hK K))))
  ((refine wp_ret ?_; (try simp only [Exit.then, Exit.inBlock]); refine St.ret hM rfl (by repeat (first | exact Outs.nil | apply Outs.tmp rfl)) rfl ?_))
  exact ⟨rfl, HD.out.below hM.to_below⟩
set_option maxHeartbeats 8000000 in
set_option maxRecDepth 100000 in
theorem rdo_11 (h : RIs x t zs w0) (I : In.Inv N t) (hN : N ≤ 900000) (a : ActD) (hn : a.name.size ≤ 1000000000) (has : a.as_.size ≤ 1000000000) (hk : a.kind = 11) : Calls Tryz.prog 10 #[.pointer (some ⟨x.g, 0, none⟩), .agg a.cells.toArray] w0 (RRes x t zs w0 (In.do_ t a)) := by
  have hM := St.start w0 []
  obtain ⟨kind, id, dir, at_, n, name, as_, flag⟩ := a
  simp only at hn has hk ⊢
  subst hk
  unfold ActD.cells
  simp only
  have HC := Lib.hid (fun (W : World) (hb : Below w0.heap.size w0 W) => rDrop_any (h.below hb) I hN id)
  have HP := Lib.hid (fun (W w' : World) (t' : TabD) (hb : Below w0.heap.size w0 W) (hd : RDid x t zs t' W w') => RDid.pre h hb hd)
  clear h I hn has
  go_enter Tryz.func10, Tryz.ntmps10
  (repeat (first | ((with_reducible show wpSeq _ _ _ _ _ _ _); first | ((with_reducible refine wpSeq_nil ?_); refine hKr.out _ _ ?_; clear hKr Kr) | ((first | (refine St.copy (v := ?_) (by first | exact .inl rfl | exact .inr rfl) rfl rfl ?_ ?_; rotate_left; (focus ((try simp only [Act.eval, getD_lit, qGz, qGs]); with_reducible rfl))) | (refine St.pure (v := ?_) rfl rfl rfl (fun w => ?_) ?_; rotate_left; (focus (go_simp; all_goals with_reducible rfl))) | refine St.load rfl hM rfl rfl rfl rfl (by repeat constructor) (by rfl) (by kernel_rfl) ?_ | ((((refine St.box rfl hM rfl rfl rfl ?_); clear hM; intro w bk hM)); (try simp only [Res.put, Res.known, Act.eval, Value.cells, getD_lit, qGz, qGs, List.toList_toArray, qSz, qSs, over, Nat.reduceAdd] at hM))); (try simp only [Act.put, qSa, qSz, qSs]))) | (first | (refine wp_seq_shut (fun K hK => ?_)) | (refine wp_text hM (fun Kr hKr => ?_); simp only [List.append_eq, List.cons_append, List.nil_append, inText]) | refine wp_block ?_ | (first | refine wp_cond_true rfl ?_ | refine wp_cond_false rfl ?_) | ((refine hK.out _ _ ?_); clear hK K))))
  (refine St.call3 rfl rfl (by kernel_rfl) (fun R hR => ?_); simp only [List.map_toArray, List.map_cons, List.map_nil, Act.eval, getD_lit, qGz, qGs])
  refine (HC.out _ hM.to_below).mono ?_
  rintro e w' ⟨rfl, hd⟩; refine hR.out _ _ ?_; clear hR R
  have HD := Lib.hid (HP.out _ _ _ hM.to_below hd)
  clear hd HP HC hM
  have hM := St.start w' []
  (try simp only [Act.put, qSa, qSz, qSs])
  (repeat (first | ((with_reducible show wpSeq _ _ _ _ _ _ _); first | ((with_reducible refine wpSeq_nil ?_); refine hKr.out _ _ ?_; clear hKr Kr) | (((refine St.copy (v := ?_) (by exact .inr rfl) rfl rfl ?_ ?_; rotate_left; (focus ((try simp only [Act.eval, getD_lit, qGz, qGs]); with_reducible rfl)))); (try simp only [Act.put, qSa, qSz, qSs]))) | (((refine hK.out _ _ ?_); clear hK K))))
  ((refine wp_ret ?_; (try simp only [Exit.then, Exit.inBlock]); refine St.ret hM rfl (by repeat (first | exact Outs.nil | apply Outs.tmp rfl)) rfl ?_))
  exact ⟨rfl, HD.out.below hM.to_below⟩
set_option maxHeartbeats 8000000 in
set_option maxRecDepth 100000 in
theorem rdo_list (h : RIs x t zs w0) (I : In.Inv N t) (hN : N ≤ 900000) (a : ActD) (h1 : a.kind ≠ 1) (h2 : a.kind ≠ 2) (h3 : a.kind ≠ 3) (h4 : a.kind ≠ 4) (h5 : a.kind ≠ 5) (h6 : a.kind ≠ 6) (h7 : a.kind ≠ 7) (h8 : a.kind ≠ 8) (h9 : a.kind ≠ 9) (h10 : a.kind ≠ 10) (h11 : a.kind ≠ 11) : Calls Tryz.prog 10 #[.pointer (some ⟨x.g, 0, none⟩), .agg a.cells.toArray] w0 (RRes x t zs w0 (In.do_ t a)) := by
  have hM := St.start w0 []
  have HC := Lib.hid (fun (W : World) (hb : Below w0.heap.size w0 W) => rList_any (h.below hb) I hN a.dir)
  have HS := Lib.hid (fun (W : World) (hb : Below w0.heap.size w0 W) => RDid.same h hb)
  obtain ⟨R, hR⟩ : ∃ R, In.do_ t a = R := ⟨_, rfl⟩
  rw [hR]
  unfold In.do_ at hR
  rw [if_neg h1, if_neg h2, if_neg h3, if_neg h4, if_neg h5, if_neg h6, if_neg h7, if_neg h8, if_neg h9, if_neg h10, if_neg h11] at hR
  have HR := Lib.hid hR
  have hsm : ∀ s ∈ In.list t a.dir, s.size ≤ 32 := fun s hs => by
    unfold In.list at hs
    split at hs
    · rename_i he
      obtain ⟨p, hp, rfl⟩ := List.mem_map.1 hs
      obtain ⟨d, hd, _⟩ := In.getE_ok (t := t) (id := a.dir) (dir := true) (by simpa [In.listE] using he)
      rw [In.at_some hd] at hp
      exact I.short d (In.find_some hd).1 p hp
    · cases hs
  have hll : (In.list t a.dir).length ≤ 1000000 := by
    unfold In.list
    split
    · rename_i he
      obtain ⟨d, hd, _⟩ := In.getE_ok (t := t) (id := a.dir) (dir := true) (by simpa [In.listE] using he)
      rw [In.at_some hd, List.length_map]
      have h3 := I.tot
      have h4 := names_le (In.find_some hd).1
      omega
    · simp
  obtain ⟨kind, id, dir, at_, n, name, as_, flag⟩ := a
  simp only at h1 h2 h3 h4 h5 h6 h7 h8 h9 h10 h11 HC HR hsm hll ⊢
  unfold ActD.cells
  simp only
  have b1 := beq_eq_false_iff_ne.2 h1
  have b2 := beq_eq_false_iff_ne.2 h2
  have b3 := beq_eq_false_iff_ne.2 h3
  have b4 := beq_eq_false_iff_ne.2 h4
  have b5 := beq_eq_false_iff_ne.2 h5
  have b6 := beq_eq_false_iff_ne.2 h6
  have b7 := beq_eq_false_iff_ne.2 h7
  have b8 := beq_eq_false_iff_ne.2 h8
  have b9 := beq_eq_false_iff_ne.2 h9
  have b10 := beq_eq_false_iff_ne.2 h10
  have b11 := beq_eq_false_iff_ne.2 h11
  unfold RLst at HC
  generalize hL : In.list t dir = L at HC HR hsm hll
  generalize hE : In.listE t dir = E at HC HR
  have HSM := Lib.hid hsm
  clear h hR I h1 h2 h3 h4 h5 h6 h7 h8 h9 h10 h11 hsm hL hE
  go_enter Tryz.func10, Tryz.ntmps10
  (repeat (first | ((with_reducible show wpSeq _ _ _ _ _ _ _); first | ((with_reducible refine wpSeq_nil ?_); refine hKr.out _ _ ?_; clear hKr Kr) | ((first | (refine St.copy (v := ?_) (by first | exact .inl rfl | exact .inr rfl) rfl rfl ?_ ?_; rotate_left; (focus ((try simp only [Act.eval, getD_lit, qGz, qGs]); with_reducible rfl))) | (refine St.pure (v := ?_) rfl rfl rfl (fun w => ?_) ?_; rotate_left; (focus (go_simp; all_goals with_reducible rfl))) | refine St.load rfl hM rfl rfl rfl rfl (by repeat constructor) (by rfl) (by kernel_rfl) ?_ | ((((refine St.box rfl hM rfl rfl rfl ?_); clear hM; intro w bk hM)); (try simp only [Res.put, Res.known, Act.eval, Value.cells, getD_lit, qGz, qGs, List.toList_toArray, qSz, qSs, over, Nat.reduceAdd] at hM))); (try simp only [Act.put, qSa, qSz, qSs]))) | (first | (refine wp_seq_shut (fun K hK => ?_)) | (refine wp_text hM (fun Kr hKr => ?_); simp only [List.append_eq, List.cons_append, List.nil_append, inText]) | refine wp_block ?_ | refine wp_skip ?_ | (refine wp_cond_false rfl ?_) | ((refine hK.out _ _ ?_); clear hK K))))
  (refine St.call3 rfl rfl (by kernel_rfl) (fun R hR => ?_); simp only [List.map_toArray, List.map_cons, List.map_nil, Act.eval, getD_lit, qGz, qGs])
  refine (HC.out _ hM.to_below).mono ?_
  rintro e w' ⟨s, rfl, hok, hst⟩; refine hR.out _ _ ?_; clear hR R
  replace hM := hM.madeM hst (slL_flag _ _ _ _)
  clear hst
  have HOK := Lib.hid hok
  obtain ⟨ua, uc, hu, hua⟩ := slV_open hok
  rw [hu]
  clear hok
  (try simp only [Act.put, qSa, qSz, qSs])
  (repeat (first | ((with_reducible show wpSeq _ _ _ _ _ _ _); first | ((with_reducible refine wpSeq_nil ?_); refine hKr.out _ _ ?_; clear hKr Kr) | ((first | (refine St.copy (v := ?_) (by first | exact .inl rfl | exact .inr rfl) rfl rfl ?_ ?_; rotate_left; (focus ((try simp only [Act.eval, getD_lit, qGz, qGs]); with_reducible rfl))) | (refine St.pure (v := ?_) rfl rfl rfl (fun w => ?_) ?_; rotate_left; (focus (go_simp; all_goals with_reducible rfl)))); (try simp only [Act.put, qSa, qSz, qSs]))) | (first | (refine wp_seq_shut (fun K hK => ?_)) | (refine wp_text hM (fun Kr hKr => ?_); simp only [List.append_eq, List.cons_append, List.nil_append, inText]) | refine wp_block ?_ | ((refine hK.out _ _ ?_); clear hK K))))
  go_loopw [15, 16] (fun v i wr => ∃ k : Nat, k ≤ L.length ∧ i = .int .i64 k ∧ v = .string (In.textL (L.take k)) ∧ St w0 [] wr (txL s L)) (fun _ i _ => L.length - (intOf i).toNat)
  case atStart => exact ⟨0, by omega, rfl, rfl, hM.drop (fun _ hx => List.mem_append_left _ hx) (slL_nd _ _ _ _)⟩
  case round =>
    clear hM
    obtain ⟨k, hk, rfl, rfl, hM⟩ := hrel
    by_cases hlt : k < L.length
    · obtain ⟨y, hy⟩ := get_at hlt
      have k1 : (k : Int) < (L.length : Int) := by omega
      rcases s with _ | ⟨g1, cap1⟩
      · exact absurd HOK.out.2 (by omega)
      obtain ⟨rfl, rfl⟩ := hua g1 cap1 rfl
      have hy32 := HSM.out y (List.mem_of_getElem? hy)
      have htl := In.textL_len (L.take k) fun s hs => HSM.out s (List.mem_of_mem_take hs)
      have htk : (L.take k).length ≤ k := List.length_take_le _ _
      have hts : (In.textL (L.take k)).size ≤ 40000000 := by omega
      have HK := Lib.hid (show In.textL (L.take (k + 1)) = In.textL (L.take k) ++ y ++ ⟨#[47]⟩ by rw [take_at' hy, In.textL_snoc])
      have hv : (L.map Value.string)[k]? = some (.string y) := by rw [List.getElem?_map, hy]; rfl
      clear hy htl htk
      generalize In.textL (L.take k) = T at *
      (repeat (first | ((with_reducible show wpSeq _ _ _ _ _ _ _); first | ((with_reducible refine wpSeq_nil ?_); refine hKr.out _ _ ?_; clear hKr Kr) | ((first | (refine St.copy (v := ?_) (by first | exact .inl rfl | exact .inr rfl) rfl rfl ?_ ?_; rotate_left; (focus ((try simp only [Act.eval, getD_lit, qGz, qGs]); with_reducible rfl))) | refine St.cat rfl rfl rfl rfl rfl (by first | omega | (simp only [ByteArray.size_append, ba_size, List.size_toArray, List.length_cons, List.length_nil, Nat.reduceAdd]; omega)) ?_ | refine St.inc rfl rfl rfl rfl rfl (by omega) ?_ | (refine St.pure (v := ?_) rfl rfl rfl (fun w => ?_) ?_; rotate_left; (focus (go_simp; all_goals with_reducible rfl))) | refine St.load rfl hM rfl rfl rfl rfl (by repeat constructor) (by assumption) (by kernel_rfl) ?_); (try simp only [Act.put, qSa, qSz, qSs]))) | (first | (refine wp_seq_shut (fun K hK => ?_)) | (refine wp_text hM (fun Kr hKr => ?_); simp only [List.append_eq, List.cons_append, List.nil_append, inText]) | refine wp_block ?_ | refine wp_skip ?_ | (refine wp_cond_true rfl ?_) | ((refine hK.out _ _ ?_); clear hK K))))
      (try simp only [Exit.then])
      (refine ⟨?_, ?_⟩; (focus (repeat (first | exact ⟨⟨k + 1, by omega, rfl, by rw [HK.out], hM⟩, rfl⟩ | apply Exists.intro))); (simp only [getD_lit, qGz, qGs, intOf]; omega))
    · have k0 : ¬ ((k : Int) < (L.length : Int)) := by omega
      obtain rfl : k = L.length := by omega
      rw [List.take_length]
      clear hlt hk
      (repeat (first | ((with_reducible show wpSeq _ _ _ _ _ _ _); first | ((with_reducible refine wpSeq_nil ?_); refine hKr.out _ _ ?_; clear hKr Kr) | ((first | (refine St.copy (v := ?_) (by first | exact .inl rfl | exact .inr rfl) rfl rfl ?_ ?_; rotate_left; (focus ((try simp only [Act.eval, getD_lit, qGz, qGs]); with_reducible rfl))) | (refine St.pure (v := ?_) rfl rfl rfl (fun w => ?_) ?_; rotate_left; (focus (go_simp; all_goals with_reducible rfl)))); (try simp only [Act.put, qSa, qSz, qSs]))) | (first | (refine wp_seq_shut (fun K hK => ?_)) | (refine wp_text hM (fun Kr hKr => ?_); simp only [List.append_eq, List.cons_append, List.nil_append, inText]) | (refine wp_cond_false rfl ?_) | (refine wp_exit ?_; simp only [Exit.then, Exit.inBlock, if_true, if_false, reduceCtorEq, Nat.reduceEqDiff, Nat.succ_ne_zero]) | ((first | refine hK.out _ _ ?_ | (clear hK K; refine hK.out _ _ ?_)); clear hK K))))
      ((refine wp_ret ?_; (try simp only [Exit.then, Exit.inBlock]); refine St.ret hM rfl (by repeat (first | exact Outs.nil | apply Outs.tmp rfl)) rfl ?_))
      rw [← HR.out]
      exact ⟨rfl, HS.out _ hM.to_below⟩
theorem rDo_any (h : RIs x t zs w0) (I : In.Inv N t) (hN : N ≤ 900000) (a : ActD) (hn : a.name.size ≤ 1000000000) (has : a.as_.size ≤ 1000000000) : Calls Tryz.prog 10 #[.pointer (some ⟨x.g, 0, none⟩), .agg a.cells.toArray] w0 (RRes x t zs w0 (In.do_ t a)) := by
  by_cases h1 : a.kind = 1
  · exact rdo_1 h I hN a hn has h1
  by_cases h2 : a.kind = 2
  · exact rdo_2 h I hN a hn has h2
  by_cases h3 : a.kind = 3
  · exact rdo_3 h I hN a hn has h3
  by_cases h4 : a.kind = 4
  · exact rdo_4 h I hN a hn has h4
  by_cases h5 : a.kind = 5
  · exact rdo_5 h I hN a hn has h5
  by_cases h6 : a.kind = 6
  · exact rdo_6 h I hN a hn has h6
  by_cases h7 : a.kind = 7
  · exact rdo_7 h I hN a hn has h7
  by_cases h8 : a.kind = 8
  · exact rdo_8 h I hN a hn has h8
  by_cases h9 : a.kind = 9
  · exact rdo_9 h I hN a hn has h9
  by_cases h10 : a.kind = 10
  · exact rdo_10 h I hN a hn has h10
  by_cases h11 : a.kind = 11
  · exact rdo_11 h I hN a hn has h11
  exact rdo_list h I hN a h1 h2 h3 h4 h5 h6 h7 h8 h9 h10 h11
end
end Go.Proofs.YtcicjklhbnipcaaGreat
namespace Go.Proofs.YtcicjklhbnipcaaGreat
set_option linter.unusedVariables false
set_option linter.unusedSimpArgs false
open Go.RowKit Go.Maps Go.Sort Go.Shelf

theorem sort_ints {ss ks : List Int} (h : ss.Perm ks) (hs : ks.Pairwise fun a b => a < b) : ss.mergeSort leI = ks := by
  rw [mergeSort_of_perm_i h]
  refine List.mergeSort_of_pairwise (hs.imp fun {a b} hab => ?_)
  simp only [leI, decide_eq_true_eq]
  omega
theorem keys_nodes (β : Int → Nat × Nat) (l : List NodeD) : intKeys (heldD (nodesL β l)) = l.map fun n => n.id := by
  simp [heldD, nodesL, intKeys, Go.intOf]
theorem sortsI (m : Nat) : AnyZI.SortsIn Tryz.prog Tryz.sortedI_ren Fence.wide m :=
  ⟨fun blk off cap ss W hH hblk hsz => callsIn_wide.2 (AnyM.slices_Sort_int Tryz.sortI blk off cap ss W hH hblk hsz), fun p cap W => callsIn_wide.2 (AnyM.slices_Sort_int_none Tryz.sortI p cap W)⟩
theorem keysI_any (mb : Option Nat) (W : World) : Calls Tryz.prog 42 #[.map mb] W fun e w' => e = .returned (.func (.func 64) #[] #[.pointer (some ⟨W.heap.size, 0, none⟩)]) ∧ w' = W.alloc (.cells #[.map mb] 54) :=
  (callsIn_wide (n := 5)).1 (AnyZI.keys_in Tryz.keysI Fence.wide 5 trivial rfl mb W)
/-- The inodes' numbers, in order, in a new slice. -/
theorem sortedI_any {m : Nat} {β : Int → Nat × Nat} {l : List NodeD} (w : World) (h : NodesAt w m β l) (hl : l.length ≤ 4611686018427) :
    Calls Tryz.prog 41 #[.func (.func 64) #[] #[.pointer (some ⟨w.heap.size, 0, none⟩)]] (w.alloc (.cells #[.map (some m)] 54)) fun e w' => ∃ v : Value, e = .returned v ∧
      w'.ownsRow (w.heap.size + 1) 3 1 v l.length (l.map fun n => .int .i64 n.id) ∧ Below w.heap.size w w' := by
  have hbl := MapAt.lt h
  have hsz : Maps.size (heldD (nodesL β l)) = l.length := by rw [size_held]; simp [nodesL]
  have hown : w.ownsMap Tryz.prog 3 anyElem m (nodesL β l).length (heldD (nodesL β l)) := h
  have hseq : SeqGives Fence.wide 2 Tryz.prog 64 #[.pointer (some ⟨w.heap.size, 0, none⟩)] encZ (fun ss => ss.Perm (intKeys (heldD (nodesL β l)))) (Maps.size (heldD (nodesL β l))) (w.alloc (.cells #[.map (some m)] 54)) :=
    AnyZI.keys_gives (ρ := Tryz.keysI_ren) { Tryz.keysI with } Fence.wide _ trivial rfl (by omega) w.heap.size m _ _ _ (by simp) (by simp) (by
      obtain ⟨es, clock, hb, Ft, hs, hD⟩ := hown
      exact ⟨es, clock, (Below.heap_alloc _ _ m hbl).trans hb, Ft, hs, hD⟩)
  have key := AnyZI.sorted_in Tryz.sortedI Fence.wide 5 trivial trivial trivial trivial rfl (by omega) (sortsI _) (enters_of Tryz.func63 (by kernel_rfl) rfl) 64 #[.pointer (some ⟨w.heap.size, 0, none⟩)] trivial (enters_of Tryz.func64 (by kernel_rfl) rfl) _ _ (by rw [hsz, maxLen_val]; omega) (by rw [hsz]; omega) _ hseq
  refine ((callsIn_wide (n := 5)).1 key).mono fun e w' hx => ?_
  obtain ⟨v, ss, he, hp, hrow, _, hb⟩ := hx
  refine ⟨v, he, ?_, ((Below.refl _ w).alloc (Nat.le_refl _) _).trans (hb.mono (by simp))⟩
  rw [keys_nodes] at hp
  have hs : (l.map fun n => n.id).Pairwise fun a b => a < b := by
    have := MapAt.sorted h key_int
    unfold nodesL at this
    rw [List.pairwise_map] at this ⊢
    exact this.imp fun h => by simpa [Lit.before] using h
  have e := sort_ints hp hs
  have hlen : ss.length = l.length := by rw [hp.length_eq]; simp
  rw [show (fun x y : Int => decide (x ≤ y)) = leI from rfl, e, hlen, List.map_map] at hrow
  rw [size_alloc] at hrow
  exact hrow
end Go.Proofs.YtcicjklhbnipcaaGreat
namespace Go.Proofs.YtcicjklhbnipcaaGreat
set_option linter.unusedVariables false
set_option linter.unusedSimpArgs false
open Go.RowKit Go.Maps

/-- Cells that read as a list, element by element. -/
def CellsRead (size : Nat) {α : Type} (R : Rep α) (w : World) (B : Nat) (cells : List Value) (xs : List α) : Prop :=
  cells.length = xs.length * size ∧ ∀ i x, xs[i]? = some x → R w B ((cells.drop (i * size)).take size) x
theorem CellsRead.nil {size : Nat} {α : Type} {R : Rep α} {w : World} {B : Nat} : CellsRead size R w B [] ([] : List α) := ⟨by simp, fun i x h => by simp at h⟩
theorem CellsRead.go {size : Nat} {α : Type} {R : Rep α} (hR : Kept R) {w w' : World} {B B' : Nat} {cells : List Value} {xs : List α} (hs : Same B w w') (hB : B ≤ B') (h : CellsRead size R w B cells xs) : CellsRead size R w' B' cells xs :=
  ⟨h.1, fun i x hx => hR.go hs hB (h.2 i x hx)⟩
theorem CellsRead.append {size : Nat} {α : Type} {R : Rep α} {w : World} {B : Nat} {c1 c2 : List Value} {xs ys : List α} (h1 : CellsRead size R w B c1 xs) (h2 : CellsRead size R w B c2 ys) : CellsRead size R w B (c1 ++ c2) (xs ++ ys) := by
  refine ⟨by rw [List.length_append, List.length_append, h1.1, h2.1, Nat.add_mul], fun i x hx => ?_⟩
  by_cases hi : i < xs.length
  · rw [List.getElem?_append_left hi] at hx
    have := h1.2 i x hx
    have hle : (i + 1) * size ≤ c1.length := by rw [h1.1]; exact Nat.mul_le_mul_right _ hi
    rw [Nat.add_mul] at hle
    rw [List.drop_append_of_le_length (by omega), List.take_append_of_le_length (by rw [List.length_drop]; omega)]
    exact this
  · rw [List.getElem?_append_right (by omega)] at hx
    have := h2.2 (i - xs.length) x hx
    have hm : i * size = c1.length + (i - xs.length) * size := by
      rw [h1.1, ← Nat.add_mul]; congr 1; omega
    rw [hm, ← List.drop_drop, List.drop_left]
    exact this
/-- An own row that reads as a list. -/
theorem own_slice {size : Nat} {α : Type} {R : Rep α} {w : World} {base : Nat} {e : TypeId} {v : Value} {n : Nat} {cells : List Value} {xs : List α} (hsz : 0 < size) (h : w.ownsRow base e size v n cells) (hr : CellsRead size R w w.heap.size cells xs) :
    n = xs.length ∧ ∃ a cap, v = .slice a xs.length cap ∧ RSlice size R w w.heap.size [.slice a xs.length cap] xs := by
  have hn : n = xs.length := Nat.eq_of_mul_eq_mul_right hsz (by rw [← h.1, hr.1])
  subst hn
  refine ⟨rfl, ?_⟩
  rcases h.2 with ⟨rfl, h0⟩ | ⟨g, cap, cur, rfl, -, hg, h1, h2, h3, h4⟩
  · have : xs = [] := List.length_eq_zero_iff.1 h0
    subst this
    exact ⟨none, 0, rfl, slice_nil⟩
  · refine ⟨_, cap, rfl, slice_of_block hg ((Array.getElem?_eq_some_iff.1 hg).1) h1 h2 fun i x hx => ⟨_, ?_, fun j hj => ?_, hr.2 i x hx⟩⟩
    · have hi : i < xs.length := (List.getElem?_eq_some_iff.1 hx).1
      have hle : (i + 1) * size ≤ cells.length := by rw [hr.1]; exact Nat.mul_le_mul_right _ hi
      rw [Nat.add_mul] at hle
      rw [List.length_take, List.length_drop]; omega
    · have hi : i < xs.length := (List.getElem?_eq_some_iff.1 hx).1
      have hle : (i + 1) * size ≤ xs.length * size := Nat.mul_le_mul_right _ hi
      rw [Nat.add_mul] at hle
      rw [List.getElem?_take_of_lt hj, List.getElem?_drop, ← h4, List.getElem?_take_of_lt (by omega), Array.getElem?_toList]
theorem own_block {w : World} {base : Nat} {e : TypeId} {size : Nat} {v : Value} {n : Nat} {xs : List Value} (h : w.ownsRow base e size v n xs) : ∀ k, v.ownBlock = some k → base ≤ k ∧ k < w.heap.size := by
  intro k hk
  rcases h.2 with ⟨rfl, _⟩ | ⟨g, cap, cur, rfl, hg, hb, _⟩
  · simp [Value.ownBlock] at hk
  · simp [Value.ownBlock] at hk; subst hk; exact ⟨hg, (Array.getElem?_eq_some_iff.1 hb).1⟩
theorem own_on {w w' : World} {base : Nat} {e : TypeId} {size : Nat} {v : Value} {n : Nat} {xs : List Value} (h : w.ownsRow base e size v n xs) (hb : ∀ k, v.ownBlock = some k → w'.heap[k]? = w.heap[k]?) : w'.ownsRow base e size v n xs := by
  obtain ⟨h1, h2⟩ := h
  refine ⟨h1, ?_⟩
  rcases h2 with h2 | ⟨g, cap, cur, rfl, hg, hgb, r⟩
  · exact .inl h2
  · exact .inr ⟨g, cap, cur, rfl, hg, (hb g rfl).trans hgb, r⟩
theorem own_below {w w' : World} {base : Nat} {e : TypeId} {size : Nat} {v : Value} {n : Nat} {xs : List Value} (h : w.ownsRow base e size v n xs) (hb : Below w.heap.size w w') : w'.ownsRow base e size v n xs :=
  own_on h fun k hk => hb.block k (own_block h k hk).2
theorem own_form {w : World} {base : Nat} {e : TypeId} {size : Nat} {v : Value} {n : Nat} {xs : List Value} (h : w.ownsRow base e size v n xs) : ∃ a c, v = .slice a n c := by
  rcases h.2 with ⟨rfl, rfl⟩ | ⟨g, cap, cur, rfl, _⟩
  · exact ⟨_, _, rfl⟩
  · exact ⟨_, _, rfl⟩

/-! ### names -/
def entryCells (d : List (ByteArray × Int)) : List Value := d.flatMap fun p => [.string p.1, .int .i64 p.2]
def REntry : Rep (ByteArray × Int) := fun _ _ cs p => cs = [.string p.1, .int .i64 p.2]
theorem kept_entry : Kept REntry := ⟨fun _ _ h => h⟩
theorem entries_read (w : World) (B : Nat) : ∀ d : List (ByteArray × Int), CellsRead 2 REntry w B (entryCells d) d
  | [] => CellsRead.nil
  | p :: r => by
    have h1 : CellsRead 2 REntry w B [.string p.1, .int .i64 p.2] [p] := ⟨rfl, fun i x hx => by
      match i, hx with
      | 0, hx => simp at hx; subst hx; rfl⟩
    exact h1.append (entries_read w B r)
theorem entry_take {d : List (ByteArray × Int)} {j : Nat} {p : ByteArray × Int} (h : d[j]? = some p) : entryCells (d.take (j + 1)) = entryCells (d.take j) ++ [.string p.1, .int .i64 p.2] := by
  unfold entryCells
  rw [List.take_add_one, h, List.flatMap_append]
  rfl

/-! ### inodes -/
def RNode : Rep NodeD := fun w B cs n => ∃ v, cs = [.int .i64 n.id, .bool n.dir, .int .i64 n.links, .int .i64 n.holds, .string n.data, v] ∧ RSlice 2 REntry w B [v] n.names
theorem kept_node : Kept RNode := ⟨fun hs hB h => by
  obtain ⟨v, h1, h2⟩ := h
  exact ⟨v, h1, (kept_slice kept_entry).go hs hB h2⟩⟩
def RNodes : Rep (List NodeD) := RSlice 6 RNode
theorem kept_nodes : Kept RNodes := kept_slice kept_node
/-- An inode's cells; its names lie in a row of their own, not in 'vb'. -/
def NodeRow (base : Nat) (vb : Option Nat) : Rep NodeD := fun w _ cs n => ∃ nv, cs = [.int .i64 n.id, .bool n.dir, .int .i64 n.links, .int .i64 n.holds, .string n.data, nv] ∧ w.ownsRow base 70 2 nv n.names.length (entryCells n.names) ∧ ∀ k, nv.ownBlock = some k → vb ≠ some k
theorem NodeRow.on {base : Nat} {vb vb' : Option Nat} {w w' : World} {B B' : Nat} {cs : List Value} {n : NodeD} (h : NodeRow base vb w B cs n) (hb : ∀ k, base ≤ k → k < w.heap.size → some k ≠ vb → w'.heap[k]? = w.heap[k]?) (hv : vb' = vb ∨ ∃ k, vb' = some k ∧ w.heap.size ≤ k) : NodeRow base vb' w' B' cs n := by
  obtain ⟨nv, h1, h2, h3⟩ := h
  refine ⟨nv, h1, own_on h2 fun k hk => hb k (own_block h2 k hk).1 (own_block h2 k hk).2 (fun e => h3 k hk e.symm), fun k hk => ?_⟩
  rcases hv with rfl | ⟨j, rfl, hj⟩
  · exact h3 k hk
  · have := (own_block h2 k hk).2
    intro e
    injection e with e
    omega
theorem NodeRow.reads {base : Nat} {vb : Option Nat} {w : World} {B : Nat} {cs : List Value} {n : NodeD} (h : NodeRow base vb w B cs n) : RNode w w.heap.size cs n := by
  obtain ⟨nv, h1, h2, _⟩ := h
  obtain ⟨_, a, c, rfl, hs⟩ := own_slice (by decide) h2 (entries_read w w.heap.size n.names)
  exact ⟨_, h1, hs⟩
/-- A list of inodes in a row of its own. -/
def OutAt (w : World) (base : Nat) (v : Value) (l : List NodeD) : Prop :=
  base ≤ w.heap.size ∧ ∃ cells, w.ownsRow base 63 6 v l.length cells ∧ CellsRead 6 (NodeRow base v.ownBlock) w 0 cells l
theorem OutAt.nil (w : World) : OutAt w w.heap.size (.slice none 0 0) [] := ⟨Nat.le_refl _, [], World.ownsRow_nil _ _ _ _, CellsRead.nil⟩
theorem OutAt.on {w w' : World} {base : Nat} {v : Value} {l : List NodeD} (h : OutAt w base v l) (hb : Below w.heap.size w w') : OutAt w' base v l := by
  obtain ⟨h0, cells, h1, h2, h3⟩ := h
  exact ⟨Nat.le_trans h0 hb.size, cells, own_below h1 hb, h2, fun i x hx => (h3 i x hx).on (fun k _ hk _ => hb.block k hk) (.inl rfl)⟩
/-- Blocks below its base may turn. -/
theorem OutAt.only {w w' : World} {base : Nat} {v : Value} {l : List NodeD} {F : List Nat} (h : OutAt w base v l) (hb : Only F w w') (hF : ∀ k ∈ F, k < base) : OutAt w' base v l := by
  obtain ⟨h0, cells, h1, h2, h3⟩ := h
  have hk : ∀ k, base ≤ k → k < w.heap.size → w'.heap[k]? = w.heap[k]? := fun k h1 h2 => hb.block k h2 fun hm => by have := hF k hm; omega
  exact ⟨Nat.le_trans h0 hb.size, cells, own_on h1 (fun k e => hk k (own_block h1 k e).1 (own_block h1 k e).2), h2, fun i x hx => (h3 i x hx).on (fun k a b _ => hk k a b) (.inl rfl)⟩
theorem OutAt.form {w : World} {base : Nat} {v : Value} {l : List NodeD} (h : OutAt w base v l) : ∃ a c, v = .slice a l.length c := by
  obtain ⟨_, cells, h1, _⟩ := h
  exact own_form h1
theorem OutAt.reads {w : World} {base : Nat} {v : Value} {l : List NodeD} (h : OutAt w base v l) : ∃ a c, v = .slice a l.length c ∧ RNodes w w.heap.size [.slice a l.length c] l := by
  obtain ⟨_, cells, h1, h2, h3⟩ := h
  exact (own_slice (by decide) h1 ⟨h2, fun i x hx => (h3 i x hx).reads⟩).2
theorem row_one {base : Nat} {vb : Option Nat} {w : World} {B : Nat} {cs : List Value} {n : NodeD} (h : NodeRow base vb w B cs n) : CellsRead 6 (NodeRow base vb) w 0 cs [n] := by
  obtain ⟨nv, h1, h2, h3⟩ := h
  subst h1
  exact ⟨rfl, fun i x hx => by
    match i, hx with
    | 0, hx => simp at hx; subst hx; exact ⟨nv, rfl, h2, h3⟩⟩
/-- One more. -/
theorem OutAt.add {w w' : World} {base : Nat} {v : Value} {l : List NodeD} {cells cs : List Value} {n : NodeD} {g cap : Nat} {H : Nat} (hcr : CellsRead 6 (NodeRow base v.ownBlock) w 0 cells l) (hn : NodeRow base v.ownBlock w 0 cs n) (hbase : base ≤ w.heap.size)
    (hown : w'.ownsRow base 63 6 (.slice (some ⟨g, 0, none⟩) (l.length + 1) cap) (l.length + 1) (cells ++ cs)) (hg : w.grownBy w' v.ownBlock) (hat : v.ownBlock = some g ∨ g = H) (hH : w.heap.size = H) : OutAt w' base (.slice (some ⟨g, 0, none⟩) (l.length + 1) cap) (l ++ [n]) := by
  have hv : (Value.slice (some ⟨g, 0, none⟩) (l.length + 1) cap).ownBlock = v.ownBlock ∨ ∃ k, (Value.slice (some ⟨g, 0, none⟩) (l.length + 1) cap).ownBlock = some k ∧ w.heap.size ≤ k := by
    rcases hat with h | h
    · exact .inl h.symm
    · exact .inr ⟨g, rfl, by omega⟩
  have hb : ∀ k, base ≤ k → k < w.heap.size → some k ≠ v.ownBlock → w'.heap[k]? = w.heap[k]? := fun k _ h1 h2 => hg.block k h1 h2
  refine ⟨Nat.le_trans hbase hg.size, cells ++ cs, by rw [List.length_append]; exact hown, ?_⟩
  have a1 : CellsRead 6 (NodeRow base (Value.slice (some ⟨g, 0, none⟩) (l.length + 1) cap).ownBlock) w' 0 cells l := ⟨hcr.1, fun i x hx => (hcr.2 i x hx).on hb hv⟩
  exact a1.append (row_one (B := 0) (hn.on hb hv))
/-- The struct that is being filled: block 'gb'; j of its names are in. -/
structure NodeIn (W9 : World) (gb : Nat) (n : NodeD) (j : Nat) (W : World) (v : Value) : Prop where
  only : Only [gb] W9 W
  row : W.heap[gb]? = some (.cells #[.int .i64 n.id, .bool n.dir, .int .i64 n.links, .int .i64 n.holds, .string n.data, v] 63 (0, 0))
  own : W.ownsRow W9.heap.size 70 2 v j (entryCells (n.names.take j))
  lt : gb < W9.heap.size
theorem NodeIn.add {W9 W w1 : World} {gb : Nat} {n : NodeD} {j : Nat} {v : Value} (h : NodeIn W9 gb n j W v) {p : ByteArray × Int} (hp : n.names[j]? = some p) {o : Obj} {g cap : Nat} (hown : w1.ownsRow W9.heap.size 70 2 (.slice (some ⟨g, 0, none⟩) (j + 1) cap) (j + 1) (entryCells (n.names.take j) ++ [.string p.1, .int .i64 p.2]))
    (hg : (W.drew.alloc o).grownBy w1 v.ownBlock) : NodeIn W9 gb n (j + 1) (w1.setCell ⟨gb, 5, none⟩ (.slice (some ⟨g, 0, none⟩) (j + 1) cap)) (.slice (some ⟨g, 0, none⟩) (j + 1) cap) := by
  have hb := fun k hk => (own_block h.own k hk).1
  have lt := h.lt
  have hs := h.only.size
  have o1 : Only [gb] W9 w1 := by
    have a := h.only.drew.alloc o
    have sa := a.size
    exact ⟨hg.os.trans a.os, hg.tape.trans a.tape, hg.output.trans a.output, Nat.le_trans sa hg.size, fun k hk hn => (hg.block k (by omega) (fun e => by have := hb k e.symm; omega)).trans (a.block k hk hn)⟩
  have hgg : W9.heap.size ≤ g := (own_block hown g rfl).1
  have hr : w1.heap[gb]? = W.heap[gb]? := (hg.block gb (by simp; omega) (fun e => by have := hb gb e.symm; omega)).trans (Below.heap_alloc _ _ gb (by show gb < W.heap.size; omega))
  refine ⟨o1.setCell (.inl (by simp)) _, ?_, ?_, lt⟩
  · rw [set_row (hr.trans h.row)]; rfl
  · rw [entry_take hp]
    refine own_on hown fun k hk => set_other _ _ ?_
    have hk : g = k := by simpa [Value.ownBlock] using hk
    omega
end Go.Proofs.YtcicjklhbnipcaaGreat
namespace Go.Proofs.YtcicjklhbnipcaaGreat
set_option linter.unusedVariables false
set_option linter.unusedSimpArgs false
open Go.RowKit Go.Maps

theorem node_open {w : World} {B : Nat} {a : Option Addr} {n c : Nat} {l : List NodeD} (h : RNodes w B [.slice a n c] l) : n = l.length ∧ n ≤ c ∧ c ≤ maxLen ∧ (0 < n → ∃ b off, a = some ⟨b, off, none⟩ ∧ b < B ∧ ∀ k x, l[k]? = some x → ∃ na nc, (w.cell? ⟨b, off + k * 6, none⟩ = some (.int .i64 x.id) ∧ w.cell? ⟨b, off + k * 6 + 1, none⟩ = some (.bool x.dir) ∧ w.cell? ⟨b, off + k * 6 + 2, none⟩ = some (.int .i64 x.links) ∧ w.cell? ⟨b, off + k * 6 + 3, none⟩ = some (.int .i64 x.holds) ∧ w.cell? ⟨b, off + k * 6 + 4, none⟩ = some (.string x.data) ∧ w.cell? ⟨b, off + k * 6 + 5, none⟩ = some (.slice na x.names.length nc)) ∧ RSlice 2 REntry w B [.slice na x.names.length nc] x.names) := by
  obtain ⟨h1, h2, h3, _, h5⟩ := slice_open h
  refine ⟨h1, h2, h3, fun h0 => ?_⟩
  obtain ⟨b, off, rfl, hb, hx⟩ := h5 h0
  refine ⟨b, off, rfl, hb, fun k x hk => ?_⟩
  obtain ⟨es, hl, hc, v, rfl, hs⟩ := hx k x hk
  obtain ⟨na, nc, rfl⟩ := slice_form hs
  exact ⟨na, nc, ⟨hc 0 (by omega), hc 1 (by omega), hc 2 (by omega), hc 3 (by omega), hc 4 (by omega), hc 5 (by omega)⟩, hs⟩
theorem entry_open {w : World} {B : Nat} {a : Option Addr} {n c : Nat} {l : List (ByteArray × Int)} (h : RSlice 2 REntry w B [.slice a n c] l) : n = l.length ∧ n ≤ c ∧ c ≤ maxLen ∧ (0 < n → ∃ b off, a = some ⟨b, off, none⟩ ∧ b < B ∧ ∀ k x, l[k]? = some x → w.cell? ⟨b, off + k * 2, none⟩ = some (.string x.1) ∧ w.cell? ⟨b, off + k * 2 + 1, none⟩ = some (.int .i64 x.2)) := by
  obtain ⟨h1, h2, h3, _, h5⟩ := slice_open h
  refine ⟨h1, h2, h3, fun h0 => ?_⟩
  obtain ⟨b, off, rfl, hb, hx⟩ := h5 h0
  refine ⟨b, off, rfl, hb, fun k x hk => ?_⟩
  obtain ⟨es, hl, hc, rfl⟩ := hx k x hk
  exact ⟨hc 0 (by omega), hc 1 (by omega)⟩
theorem two_below (w : World) (A B : Obj) : Below w.heap.size w ((w.alloc A).alloc B).drew := ((((Below.refl _ w).alloc (Nat.le_refl _) A).alloc (by simp) B)).drew
theorem two_rows (w : World) (A B : Array Value) (T : TypeId) : ((w.alloc (.cells A T)).alloc (.cells B T)).drew.heap[w.heap.size]? = some (.cells A T (0, 0)) ∧ ((w.alloc (.cells A T)).alloc (.cells B T)).drew.heap[w.heap.size + 1]? = some (.cells B T (0, 0)) := by
  constructor
  · exact (Below.heap_alloc _ _ w.heap.size (by simp)).trans (heap_alloc_new w _)
  · have := heap_alloc_new (w.alloc (.cells A T)) (.cells B T)
    rw [size_alloc] at this
    exact this
theorem below_drewN (w : World) (n : Nat) : Below w.heap.size w (w.drewN n) := ⟨rfl, rfl, rfl, Nat.le_refl _, fun _ _ => rfl⟩
set_option maxHeartbeats 4000000 in
set_option maxRecDepth 100000 in
theorem Same_yes {w : World} {a1 a2 : Option Addr} {n1 n2 c1 c2 : Nat} {l : List NodeD} (h1 : RNodes w w.heap.size [.slice a1 n1 c1] l) (h2 : RNodes w w.heap.size [.slice a2 n2 c2] l) :
    Calls Tryz.prog 13 #[.slice a1 n1 c1, .slice a2 n2 c2] w fun e w' => e = .returned (.bool true) ∧ Below w.heap.size w w' := by
  obtain ⟨q1, q2, q3, -⟩ := node_open h1
  obtain ⟨p1, p2, p3, -⟩ := node_open h2
  obtain ⟨L, hL⟩ : ∃ L, l.length = L := ⟨_, rfl⟩
  rw [hL] at q1 p1
  have q1 := q1.symm
  have p1 := p1.symm
  subst q1
  subst p1
  rw [maxLen_val] at q3 p3
  have H1 := Lib.hid h1
  have H2 := Lib.hid h2
  have HL := Lib.hid hL
  clear h1 h2 hL
  go_enter Tryz.func13, Tryz.ntmps13
  go_wp2_with fail
  go_loopw [5] (fun i W => ∃ k, k ≤ L ∧ i = .int .i64 k ∧ Below w.heap.size w W) (fun i _ => L - (intOf i).toNat)
  case atStart => exact ⟨0, by omega, rfl, Below.refl _ _⟩
  case round =>
    obtain ⟨k, hk, rfl, hbW⟩ := hrel
    by_cases hlt : k < L
    · obtain ⟨x, hx⟩ := get_at (show k < l.length by rw [HL.out]; omega)
      obtain ⟨-, -, -, g1⟩ := node_open (kept_nodes.out (Same.of_below hbW (Nat.le_refl _)) H1.out)
      obtain ⟨-, -, -, g2⟩ := node_open (kept_nodes.out (Same.of_below hbW (Nat.le_refl _)) H2.out)
      obtain ⟨b1, o1, rfl, hb1, G1⟩ := g1 (by omega)
      obtain ⟨b2, o2, rfl, hb2, G2⟩ := g2 (by omega)
      obtain ⟨na1, nc1, ⟨d0, d1, d2, d3, d4, d5⟩, D⟩ := G1 k x hx
      obtain ⟨na2, nc2, ⟨e0, e1, e2, e3, e4, e5⟩, E⟩ := G2 k x hx
      have HD := Lib.hid D
      have HE := Lib.hid E
      have HB := Lib.hid hbW
      have hkz : (k : Int) < L := by omega
      have sz := hbW.size
      have l1 : b1 < wr.heap.size := by omega
      have l2 : b2 < wr.heap.size := by omega
      clear D E G1 G2 g1 g2 hx hbW
      go_upto_region 6 with fail
      go_region
      · have HB6 := Lib.hid (two_below wr (.cells #[.int .i64 x.id, .bool x.dir, .int .i64 x.links, .int .i64 x.holds, .string x.data, .slice na1 x.names.length nc1] 63) (.cells #[.int .i64 x.id, .bool x.dir, .int .i64 x.links, .int .i64 x.holds, .string x.data, .slice na2 x.names.length nc2] 63))
        have R := Lib.hid (two_rows wr #[.int .i64 x.id, .bool x.dir, .int .i64 x.links, .int .i64 x.holds, .string x.data, .slice na1 x.names.length nc1] #[.int .i64 x.id, .bool x.dir, .int .i64 x.links, .int .i64 x.holds, .string x.data, .slice na2 x.names.length nc2] 63)
        generalize ((wr.alloc _).alloc _).drew = w6 at HB6 R ⊢
        obtain ⟨p1, hp1⟩ : ∃ p1, wr.heap.size = p1 := ⟨_, rfl⟩
        obtain ⟨p2, hp2⟩ : ∃ p2, wr.heap.size + 1 = p2 := ⟨_, rfl⟩
        rw [hp2, hp1] at R ⊢
        clear d0 d1 d2 d3 d4 d5 e0 e1 e2 e3 e4 e5
        obtain ⟨M, hM⟩ : ∃ M, x.names.length = M := ⟨_, rfl⟩
        have hM0 : M ≤ 9223372036854775807 := by
          obtain ⟨_, z1, z2, _⟩ := entry_open HD.out
          rw [maxLen_val] at z2
          omega
        rw [hM] at R HD HE ⊢
        have HMM := Lib.hid hM
        have K1 := Lib.hid ((kept_slice kept_entry).go (Same.of_below HB6.out sz) (Nat.le_trans sz HB6.out.size) HD.out)
        have K2 := Lib.hid ((kept_slice kept_entry).go (Same.of_below HB6.out sz) (Nat.le_trans sz HB6.out.size) HE.out)
        have m0 := cell_row R.out.1 0
        have m1 := cell_row R.out.1 1
        have m2 := cell_row R.out.1 2
        have m3 := cell_row R.out.1 3
        have m4 := cell_row R.out.1 4
        have m5 := cell_row R.out.1 5
        have q0 := cell_row R.out.2 0
        have q1 := cell_row R.out.2 1
        have q2 := cell_row R.out.2 2
        have q3 := cell_row R.out.2 3
        have q4 := cell_row R.out.2 4
        have q5 := cell_row R.out.2 5
        simp only [List.getElem?_toArray, List.getElem?_cons_zero, List.getElem?_cons_succ] at m0 m1 m2 m3 m4 m5 q0 q1 q2 q3 q4 q5
        clear hM
        go_upto_region 10 with fail
        go_loopw [8] (fun i W => ∃ j, j ≤ M ∧ i = .int .i64 j ∧ Below w6.heap.size w6 W) (fun i _ => M - (intOf i).toNat)
        case atStart => exact ⟨0, by omega, rfl, Below.refl _ _⟩
        case round =>
          obtain ⟨j, hj, rfl, hbi⟩ := hrel
          rename World => wi
          have lt1 := lt_of_get R.out.1
          have lt2 := lt_of_get R.out.2
          have m5 := (hbi.cell (p := ⟨p1, 5, none⟩) lt1).trans m5
          have q5 := (hbi.cell (p := ⟨p2, 5, none⟩) lt2).trans q5
          by_cases hlj : j < M
          · obtain ⟨y, hy⟩ := get_at (show j < x.names.length by rw [HMM.out]; omega)
            obtain ⟨-, -, -, k1⟩ := entry_open ((kept_slice kept_entry).out (Same.of_below hbi (Nat.le_refl _)) K1.out)
            obtain ⟨-, -, -, k2⟩ := entry_open ((kept_slice kept_entry).out (Same.of_below hbi (Nat.le_refl _)) K2.out)
            obtain ⟨z1, o3, rfl, hz1, Z1⟩ := k1 (by omega)
            obtain ⟨z2, o4, rfl, hz2, Z2⟩ := k2 (by omega)
            obtain ⟨x0, x1⟩ := Z1 j y hy
            obtain ⟨y0, y1⟩ := Z2 j y hy
            have HBI := Lib.hid hbi
            have hjz : (j : Int) < M := by omega
            clear Z1 Z2 k1 k2 hy hbi m0 m1 m2 m3 m4 q0 q1 q2 q3 q4
            go_upto_region 12 with fail
            go_quiet (fail)
            go_wp2_with fail
            go_roundw
            case rel => exact ⟨j + 1, by omega, by go_num, HBI.out.trans ((below_drewN _ _).mono HBI.out.size)⟩
            case measure => simp [intOf]; omega
          · obtain rfl : j = M := by omega
            have HBI := Lib.hid hbi
            clear m0 m1 m2 m3 m4 q0 q1 q2 q3 q4 hbi
            go_wp2_with fail
            go_roundw
            case rel => exact ⟨k + 1, by omega, by go_num, HB.out.trans ((HB6.out.mono sz).trans (HBI.out.mono (Nat.le_trans sz HB6.out.size)))⟩
            case measure => simp [intOf]; omega
      · have HB6 := Lib.hid (two_below wr (.cells #[.int .i64 x.id, .bool x.dir, .int .i64 x.links, .int .i64 x.holds, .string x.data, .slice na2 x.names.length nc2] 63) (.cells #[.int .i64 x.id, .bool x.dir, .int .i64 x.links, .int .i64 x.holds, .string x.data, .slice na1 x.names.length nc1] 63))
        have R := Lib.hid (two_rows wr #[.int .i64 x.id, .bool x.dir, .int .i64 x.links, .int .i64 x.holds, .string x.data, .slice na2 x.names.length nc2] #[.int .i64 x.id, .bool x.dir, .int .i64 x.links, .int .i64 x.holds, .string x.data, .slice na1 x.names.length nc1] 63)
        generalize ((wr.alloc _).alloc _).drew = w6 at HB6 R ⊢
        obtain ⟨p1, hp1⟩ : ∃ p1, wr.heap.size = p1 := ⟨_, rfl⟩
        obtain ⟨p2, hp2⟩ : ∃ p2, wr.heap.size + 1 = p2 := ⟨_, rfl⟩
        rw [hp2, hp1] at R ⊢
        clear d0 d1 d2 d3 d4 d5 e0 e1 e2 e3 e4 e5
        obtain ⟨M, hM⟩ : ∃ M, x.names.length = M := ⟨_, rfl⟩
        have hM0 : M ≤ 9223372036854775807 := by
          obtain ⟨_, z1, z2, _⟩ := entry_open HD.out
          rw [maxLen_val] at z2
          omega
        rw [hM] at R HD HE ⊢
        have HMM := Lib.hid hM
        have K1 := Lib.hid ((kept_slice kept_entry).go (Same.of_below HB6.out sz) (Nat.le_trans sz HB6.out.size) HD.out)
        have K2 := Lib.hid ((kept_slice kept_entry).go (Same.of_below HB6.out sz) (Nat.le_trans sz HB6.out.size) HE.out)
        have m0 := cell_row R.out.1 0
        have m1 := cell_row R.out.1 1
        have m2 := cell_row R.out.1 2
        have m3 := cell_row R.out.1 3
        have m4 := cell_row R.out.1 4
        have m5 := cell_row R.out.1 5
        have q0 := cell_row R.out.2 0
        have q1 := cell_row R.out.2 1
        have q2 := cell_row R.out.2 2
        have q3 := cell_row R.out.2 3
        have q4 := cell_row R.out.2 4
        have q5 := cell_row R.out.2 5
        simp only [List.getElem?_toArray, List.getElem?_cons_zero, List.getElem?_cons_succ] at m0 m1 m2 m3 m4 m5 q0 q1 q2 q3 q4 q5
        clear hM
        go_upto_region 10 with fail
        go_loopw [8] (fun i W => ∃ j, j ≤ M ∧ i = .int .i64 j ∧ Below w6.heap.size w6 W) (fun i _ => M - (intOf i).toNat)
        case atStart => exact ⟨0, by omega, rfl, Below.refl _ _⟩
        case round =>
          obtain ⟨j, hj, rfl, hbi⟩ := hrel
          rename World => wi
          have lt1 := lt_of_get R.out.1
          have lt2 := lt_of_get R.out.2
          have m5 := (hbi.cell (p := ⟨p1, 5, none⟩) lt1).trans m5
          have q5 := (hbi.cell (p := ⟨p2, 5, none⟩) lt2).trans q5
          by_cases hlj : j < M
          · obtain ⟨y, hy⟩ := get_at (show j < x.names.length by rw [HMM.out]; omega)
            obtain ⟨-, -, -, k1⟩ := entry_open ((kept_slice kept_entry).out (Same.of_below hbi (Nat.le_refl _)) K1.out)
            obtain ⟨-, -, -, k2⟩ := entry_open ((kept_slice kept_entry).out (Same.of_below hbi (Nat.le_refl _)) K2.out)
            obtain ⟨z1, o3, rfl, hz1, Z1⟩ := k1 (by omega)
            obtain ⟨z2, o4, rfl, hz2, Z2⟩ := k2 (by omega)
            obtain ⟨x0, x1⟩ := Z1 j y hy
            obtain ⟨y0, y1⟩ := Z2 j y hy
            have HBI := Lib.hid hbi
            have hjz : (j : Int) < M := by omega
            clear Z1 Z2 k1 k2 hy hbi m0 m1 m2 m3 m4 q0 q1 q2 q3 q4
            go_upto_region 12 with fail
            go_quiet (fail)
            go_wp2_with fail
            go_roundw
            case rel => exact ⟨j + 1, by omega, by go_num, HBI.out.trans ((below_drewN _ _).mono HBI.out.size)⟩
            case measure => simp [intOf]; omega
          · obtain rfl : j = M := by omega
            have HBI := Lib.hid hbi
            clear m0 m1 m2 m3 m4 q0 q1 q2 q3 q4 hbi
            go_wp2_with fail
            go_roundw
            case rel => exact ⟨k + 1, by omega, by go_num, HB.out.trans ((HB6.out.mono sz).trans (HBI.out.mono (Nat.le_trans sz HB6.out.size)))⟩
            case measure => simp [intOf]; omega
    · obtain rfl : k = L := by omega
      go_wp2_with fail
      go_ret
      exact ⟨rfl, hbW⟩
end Go.Proofs.YtcicjklhbnipcaaGreat
namespace Go.Proofs.YtcicjklhbnipcaaGreat
set_option linter.unusedVariables false
set_option linter.unusedSimpArgs false
open Go.RowKit Go.Maps
/-- What Small answers: how many there are, and how long their names, if it says yes. -/
def SomeSmall8 (w : World) (xs : List ActD) (most : Int) (e : Ending) (w' : World) : Prop := ∃ b : Bool, e = .returned (.bool b) ∧ (b = true → (xs.length : Int) ≤ most ∧ ∀ x ∈ xs, x.name.size ≤ 60 ∧ x.as_.size ≤ 200) ∧ w = w'
set_option maxHeartbeats 4000000 in
set_option maxRecDepth 100000 in
theorem small8_any (a : Option Addr) (n c : Nat) (xs : List ActD) (w : World) (most : Int) (hm0 : 0 ≤ most) (hm1 : most ≤ 1000) (h : RActs w w.heap.size [.slice a n c] xs) :
    Calls Tryz.prog 4 #[.slice a n c, .int .i64 most] w (SomeSmall8 w xs most) := by
  obtain ⟨rfl, h1, h2, hx⟩ := acts_open h
  rw [maxLen_val] at h2
  have HX := Lib.hid hx
  clear h hx
  go_enter Tryz.func4, Tryz.ntmps4
  go_wp2_with fail
  go_loop [5] (fun i => ∃ k : Nat, k ≤ xs.length ∧ i = .int .i64 k ∧ Hid (∀ x ∈ xs.take k, x.name.size ≤ 60 ∧ x.as_.size ≤ 200)) (fun i => xs.length - (intOf i).toNat)
  case atStart => exact ⟨0, by omega, rfl, Lib.hid (by simp)⟩
  case round =>
    obtain ⟨k, hk, rfl, HF⟩ := hrel
    by_cases hlt : k < xs.length
    · by_cases hmo : (k : Int) < most
      · obtain ⟨x, hxk⟩ := get_at hlt
        obtain ⟨b, off, rfl, hb, hc⟩ := HX.out (by omega)
        obtain ⟨hok, hcell⟩ := hc k x hxk
        obtain ⟨-, -, -, c3, c4, c5, c6, -⟩ := act_cells hcell
        have s5 := hok.name
        have s6 := hok.as_
        rw [maxLen_val] at s5 s6
        have HT := Lib.hid (show x.name.size ≤ 60 → x.as_.size ≤ 200 → ∀ y ∈ xs.take (k + 1), y.name.size ≤ 60 ∧ y.as_.size ≤ 200 from fun h1 h2 y hy => by
          rw [List.take_add_one, hxk, Option.toList_some] at hy
          rcases List.mem_append.1 hy with hy | hy
          · exact HF.out y hy
          · rcases List.mem_singleton.1 hy with rfl
            exact ⟨h1, h2⟩)
        clear hc hcell hxk hok
        by_cases t1 : (60 : Int) < x.name.size
        · go_wp2_with fail
          go_ret
          exact ⟨false, rfl, (fun h => by cases h), rfl⟩
        by_cases t2 : (200 : Int) < x.as_.size
        · have f1 : decide ((60 : Int) < x.name.size) = false := decide_eq_false t1
          go_wp2_with fail
          go_ret
          exact ⟨false, rfl, (fun h => by cases h), rfl⟩
        have f1 : decide ((60 : Int) < x.name.size) = false := decide_eq_false t1
        have f2 : decide ((200 : Int) < x.as_.size) = false := decide_eq_false t2
        by_cases t3 : (4096 : Int) < x.at_
        · by_cases t4 : x.at_ ≤ 1048576
          · go_wp2_with fail
            go_ret
            exact ⟨false, rfl, (fun h => by cases h), rfl⟩
          · have f4 : decide (x.at_ ≤ 1048576) = false := decide_eq_false t4
            by_cases t5 : (4096 : Int) < x.n
            · by_cases t6 : x.n ≤ 1048576
              · go_wp2_with fail
                go_ret
                exact ⟨false, rfl, (fun h => by cases h), rfl⟩
              · have f6 : decide (x.n ≤ 1048576) = false := decide_eq_false t6
                go_wp2_with fail
                go_round
                case rel => exact ⟨k + 1, by omega, by go_num, Lib.hid (HT.out (by omega) (by omega))⟩
                case measure => simp [intOf]; omega
            · have f5 : decide ((4096 : Int) < x.n) = false := decide_eq_false t5
              go_wp2_with fail
              go_round
              case rel => exact ⟨k + 1, by omega, by go_num, Lib.hid (HT.out (by omega) (by omega))⟩
              case measure => simp [intOf]; omega
        · have f3 : decide ((4096 : Int) < x.at_) = false := decide_eq_false t3
          by_cases t5 : (4096 : Int) < x.n
          · by_cases t6 : x.n ≤ 1048576
            · go_wp2_with fail
              go_ret
              exact ⟨false, rfl, (fun h => by cases h), rfl⟩
            · have f6 : decide (x.n ≤ 1048576) = false := decide_eq_false t6
              go_wp2_with fail
              go_round
              case rel => exact ⟨k + 1, by omega, by go_num, Lib.hid (HT.out (by omega) (by omega))⟩
              case measure => simp [intOf]; omega
          · have f5 : decide ((4096 : Int) < x.n) = false := decide_eq_false t5
            go_wp2_with fail
            go_round
            case rel => exact ⟨k + 1, by omega, by go_num, Lib.hid (HT.out (by omega) (by omega))⟩
            case measure => simp [intOf]; omega
      · have hmf : decide ((k : Int) < most) = false := decide_eq_false hmo
        go_wp2_with fail
        go_ret
        refine ⟨_, rfl, (fun h => ?_), rfl⟩
        have h9 : (xs.length : Int) ≤ most := by simpa using h
        exact absurd hlt (by omega)
    · obtain rfl : k = xs.length := by omega
      go_wp2_with fail
      go_ret
      exact ⟨_, rfl, (fun h => ⟨by simpa using h, fun y hy => HF.out y (by rw [List.take_length]; exact hy)⟩), rfl⟩
theorem ents_read {w : World} {s : Option (Nat × Nat)} {d : List (ByteArray × Int)} (hA : Has (slL s (entC d) 70 2) w) (hk : SlOK s d.length (entC d) 2) : RSlice 2 REntry w w.heap.size [slV s d.length] d := by
  rcases s with _ | ⟨g, cap⟩
  · have h0 : d.length = 0 := hk.2
    obtain rfl := List.length_eq_zero_iff.1 h0
    exact ⟨none, 0, rfl, Nat.le_refl _, Nat.zero_le _, fun _ => rfl, fun h => absurd h (by simp)⟩
  · refine ⟨some ⟨g, 0, none⟩, cap, rfl, hk.2.1, hk.2.2, nofun, fun _ => ⟨g, 0, rfl, hA.lt (x := (g, true, .pre (entC d) 70 (cap * 2))) (.head _), fun i x hx => ⟨[.string x.1, .int .i64 x.2], rfl, fun j hj => ?_, rfl⟩⟩⟩
    have r := ent_row hA hx
    obtain ⟨v, hv⟩ : ∃ v, ([.string x.1, .int .i64 x.2] : List Value)[j]? = some v := ⟨_, List.getElem?_eq_getElem hj⟩
    rw [hv, Nat.zero_add]
    exact r j v hv
theorem nodes_read {w : World} {s : Option (Nat × Nat)} {zs : List NodV} (hA : At (nodL s zs) w) (hk : NodOK s zs) (hn : ∀ z ∈ zs, SlOK z.2 z.1.names.length (entC z.1.names) 2 ∧ Has z.ents w) : RNodes w w.heap.size [slV s zs.length] (zs.map (·.1)) := by
  rcases s with _ | ⟨g, cap⟩
  · have h0 : zs.length = 0 := hk.2
    obtain rfl := List.length_eq_zero_iff.1 h0
    exact ⟨none, 0, rfl, Nat.le_refl _, Nat.zero_le _, fun _ => rfl, fun h => absurd h (by simp)⟩
  · refine ⟨some ⟨g, 0, none⟩, cap, by rw [List.length_map]; rfl, by rw [List.length_map]; exact hk.2.1, hk.2.2, nofun, fun _ => ⟨g, 0, rfl, hA.has.lt (x := (g, true, .pre (zs.flatMap NodV.cells) 63 (cap * 6))) (.head _), fun i x hx => ?_⟩⟩
    rw [List.getElem?_map] at hx
    cases hz : zs[i]? with
    | none => rw [hz] at hx; cases hx
    | some z =>
      rw [hz] at hx
      cases hx
      have r := node_row hA hz
      obtain ⟨h1, h2⟩ := hn z (List.mem_of_getElem? hz)
      refine ⟨z.cells, rfl, fun j hj => ?_, slV z.2 z.1.names.length, rfl, ents_read h2 h1⟩
      obtain ⟨v, hv⟩ : ∃ v, z.cells[j]? = some v := ⟨_, List.getElem?_eq_getElem (by rw [NodV.len]; exact hj)⟩
      rw [hv, Nat.zero_add]
      exact r j v hv
end Go.Proofs.YtcicjklhbnipcaaGreat
namespace Go.Proofs.YtcicjklhbnipcaaGreat
set_option linter.unusedVariables false
set_option linter.unusedSimpArgs false
open Go.RowKit Go.Maps

/-- A table that the call itself made. -/
structure OwnT (w w' : World) (g mb : Nat) (β : Int → Nat × Nat) (t : TabD) : Prop where
  tbl : TblAt w' g mb β t
  below : Below w.heap.size w w'
  new : ∀ k ∈ foot g mb β t.nodes, w.heap.size ≤ k
theorem OwnT.goes {w w1 w2 : World} {g mb : Nat} {β : Int → Nat × Nat} {t t2 : TabD} (h : OwnT w w1 g mb β t) (G : Goes w1 g mb β t w2 t2) : ∃ β2, OwnT w w2 g mb β2 t2 := by
  obtain ⟨β2, h1, h2, h3⟩ := G
  exact ⟨β2, h1, h.below.trans (h2.to_below h.below.size h.new), fun k hk => by rcases h3 k hk with h4 | h4; exact h.new k h4; exact Nat.le_trans h.below.size h4⟩
theorem OwnT.on {w w1 w2 : World} {g mb : Nat} {β : Int → Nat × Nat} {t : TabD} (h : OwnT w w1 g mb β t) (hb : Below w1.heap.size w1 w2) : OwnT w w2 g mb β t :=
  ⟨h.tbl.below hb, h.below.trans (hb.mono h.below.size), h.new⟩
theorem new_own {q : Int} {w : World} (hq : In.newE q = 0) : Calls Tryz.prog 6 #[.int .i64 q] w fun e w' => ∃ g mb β, e = .returned (.tuple #[.pointer (some ⟨g, 0, none⟩), .int .i64 0]) ∧ OwnT w w' g mb β (In.new q) :=
  (New_yes q w hq).mono fun e w' ⟨h1, h2, h3⟩ => ⟨_, _, _, h1, h2, h3, fun k hk => by
    rcases mem_foot.1 hk with rfl | rfl | ⟨n, _, rfl | rfl⟩
    · omega
    · omega
    · show _ ≤ w.heap.size + 3; omega
    · show _ ≤ w.heap.size + 2; omega⟩
namespace In
abbrev na : ByteArray := ⟨#[97]⟩
abbrev nb : ByteArray := ⟨#[98]⟩
def a0 : TabD := new 1000
def a1 : TabD := (make a0 1 na false).2.2
def a2 : TabD := (write a1 2 2 ⟨#[120, 121]⟩).2
def a3 : TabD := (link a2 2 1 nb).2
def a4 : TabD := (unlink a3 1 na).2
def a5 : TabD := (unlink a4 1 nb).2
theorem a1_eq : make a0 1 na false = (2, 0, a1) := by kernel_rfl
theorem a2_eq : write a1 2 2 ⟨#[120, 121]⟩ = (0, a2) := by kernel_rfl
theorem a3_eq : link a2 2 1 nb = (0, a3) := by kernel_rfl
theorem a4_eq : unlink a3 1 na = (0, a4) := by kernel_rfl
theorem a4_read : read a4 2 1 9 = ⟨#[0, 120, 121]⟩ ∧ readE a4 2 1 9 = 0 := ⟨by kernel_rfl, by kernel_rfl⟩
theorem a4_list : list a4 1 = [nb] ∧ listE a4 1 = 0 := ⟨by kernel_rfl, by kernel_rfl⟩
theorem a4_used : a4.used = 132 := by kernel_rfl
theorem a5_eq : unlink a4 1 nb = (0, a5) := by kernel_rfl
theorem a5_used : a5.used = 64 := by kernel_rfl
theorem i0 : Inv 1 a0 := inv_new (by decide) (by decide)
theorem i1 : Inv 3 a1 := inv_make i0 _ _ _
theorem i2 : Inv 3 a2 := inv_write i1 _ _ _
theorem i3 : Inv 4 a3 := inv_link i2 _ _ _
theorem i4 : Inv 4 a4 := inv_unlink i3 _ _
theorem i5 : Inv 4 a5 := inv_unlink i4 _ _
end In
section
variable {w w1 : World} {g mb : Nat} {β : Int → Nat × Nat}
theorem aw0 : Calls Tryz.prog 6 #[.int .i64 1000] w fun e w' => ∃ g mb β, e = .returned (.tuple #[.pointer (some ⟨g, 0, none⟩), .int .i64 0]) ∧ OwnT w w' g mb β In.a0 := new_own (by decide)
theorem aw1 (h : OwnT w w1 g mb β In.a0) : Calls Tryz.prog 15 #[.pointer (some ⟨g, 0, none⟩), .int .i64 1, .string ⟨#[97]⟩, .bool false] w1 fun e w' => e = .returned (.tuple #[.int .i64 2, .int .i64 0]) ∧ ∃ β', OwnT w w' g mb β' In.a1 := by
  have C := Make_any h.tbl In.i0 (by omega) (dir := 1) (by decide) (s := In.na) (by decide) false
  rw [In.a1_eq] at C
  exact C.mono fun e w' ⟨h1, h2⟩ => ⟨h1, h.goes h2⟩
theorem aw2 (h : OwnT w w1 g mb β In.a1) : Calls Tryz.prog 16 #[.pointer (some ⟨g, 0, none⟩), .int .i64 2, .int .i64 2, .string ⟨#[120, 121]⟩] w1 fun e w' => e = .returned (.int .i64 0) ∧ ∃ β', OwnT w w' g mb β' In.a2 := by
  have C := Write_any h.tbl (fit_inv In.i1 (by omega)) (id := 2) (by decide) (a := 2) (by decide) (s := ⟨#[120, 121]⟩) (by decide)
  rw [In.a2_eq] at C
  exact C.mono fun e w' ⟨h1, h2⟩ => ⟨h1, h.goes h2.goes⟩
theorem aw3 (h : OwnT w w1 g mb β In.a2) : Calls Tryz.prog 17 #[.pointer (some ⟨g, 0, none⟩), .int .i64 2, .int .i64 1, .string ⟨#[98]⟩] w1 fun e w' => e = .returned (.int .i64 0) ∧ ∃ β', OwnT w w' g mb β' In.a3 := by
  have C := Link_any h.tbl (fit_inv In.i2 (by omega)).q0 (id := 2) (dir := 1) (by decide) (by decide) (s := In.nb) (by decide) (fit_inv In.i2 (by omega)).node
  rw [In.a3_eq] at C
  exact C.mono fun e w' ⟨h1, h2⟩ => ⟨h1, h.goes h2.goes⟩
theorem aw4 (h : OwnT w w1 g mb β In.a3) : Calls Tryz.prog 18 #[.pointer (some ⟨g, 0, none⟩), .int .i64 1, .string ⟨#[97]⟩] w1 fun e w' => e = .returned (.int .i64 0) ∧ ∃ β', OwnT w w' g mb β' In.a4 := by
  have C := Unlink_any h.tbl (fit_inv In.i3 (by omega)) (dir := 1) (by decide) (s := In.na) (by decide)
  rw [In.a4_eq] at C
  exact C.mono fun e w' ⟨h1, h2⟩ => ⟨h1, h.goes h2.goes⟩
theorem aw4r (h : OwnT w w1 g mb β In.a4) : Calls Tryz.prog 19 #[.pointer (some ⟨g, 0, none⟩), .int .i64 2, .int .i64 1, .int .i64 9] w1 fun e w' => e = .returned (.tuple #[.string ⟨#[0, 120, 121]⟩, .int .i64 0]) ∧ OwnT w w' g mb β In.a4 := by
  have C := Read_any h.tbl (fit_inv In.i4 (by omega)) (id := 2) (by decide) 1 9
  rw [In.a4_read.1, In.a4_read.2] at C
  exact C.mono fun e w' ⟨h1, h2⟩ => ⟨h1, h.on h2⟩
theorem aw4l (h : OwnT w w1 g mb β In.a4) : Calls Tryz.prog 20 #[.pointer (some ⟨g, 0, none⟩), .int .i64 1] w1 fun e w' => ∃ b off c, e = .returned (.tuple #[.slice (some ⟨b, off, none⟩) 1 c, .int .i64 0]) ∧ 1 ≤ c ∧ c ≤ 9223372036854775807 ∧ b < w'.heap.size ∧ w'.cell? ⟨b, off, none⟩ = some (.string ⟨#[98]⟩) ∧ OwnT w w' g mb β In.a4 := by
  refine (List_any h.tbl (fit_inv In.i4 (by omega)).q0 (dir := 1) (by decide) (names_inv In.i4 (by omega))).mono fun e w' hR => ?_
  obtain ⟨a, c, he, hr, hb⟩ := hR
  rw [In.a4_list.1, In.a4_list.2] at he
  rw [In.a4_list.1] at hr
  obtain ⟨h1, h2, h3, h4⟩ := strs_at hr
  obtain ⟨b, off, rfl, hbb, hc⟩ := h4 (by decide)
  exact ⟨b, off, c, he, h2, by rw [maxLen_val] at h3; exact h3, hbb, (hc 0 _ rfl).2, h.on hb⟩
theorem aw4u (h : OwnT w w1 g mb β In.a4) : Calls Tryz.prog 11 #[.pointer (some ⟨g, 0, none⟩)] w1 fun e w' => e = .returned (.int .i64 132) ∧ w1 = w' := by
  have C := Used_any h.tbl (fit_inv In.i4 (by omega)).q0
  rw [In.a4_used] at C
  exact C
theorem aw5 (h : OwnT w w1 g mb β In.a4) : Calls Tryz.prog 18 #[.pointer (some ⟨g, 0, none⟩), .int .i64 1, .string ⟨#[98]⟩] w1 fun e w' => e = .returned (.int .i64 0) ∧ ∃ β', OwnT w w' g mb β' In.a5 := by
  have C := Unlink_any h.tbl (fit_inv In.i4 (by omega)) (dir := 1) (by decide) (s := In.nb) (by decide)
  rw [In.a5_eq] at C
  exact C.mono fun e w' ⟨h1, h2⟩ => ⟨h1, h.goes h2.goes⟩
theorem aw5u (h : OwnT w w1 g mb β In.a5) : Calls Tryz.prog 11 #[.pointer (some ⟨g, 0, none⟩)] w1 fun e w' => e = .returned (.int .i64 64) ∧ w1 = w' := by
  have C := Used_any h.tbl (fit_inv In.i5 (by omega)).q0
  rw [In.a5_used] at C
  exact C
end
set_option maxHeartbeats 4000000 in
set_option maxRecDepth 100000 in
theorem law08_awake_any (w : World) : Calls Tryz.prog 5 #[] w fun e w' => e = .returned (.bool true) ∧ Below w.heap.size w w' := by
  have C0 := aw0 (w := w)
  go_enter Tryz.func5, Tryz.ntmps5
  go_wp2_with (first
    | (go_at_call 6; refine C0.mono ?_; rintro e w1 ⟨g, mb, β, rfl, hO⟩; have H0 := Lib.hid hO; clear hO)
    | (go_at_call 15; refine (aw1 H0.out).mono ?_; rintro e w2 ⟨rfl, β1, hO⟩; have H1 := Lib.hid hO; clear hO)
    | (go_at_call 16; refine (aw2 H1.out).mono ?_; rintro e w3 ⟨rfl, β2, hO⟩; have H2 := Lib.hid hO; clear hO)
    | (go_at_call 17; refine (aw3 H2.out).mono ?_; rintro e w4 ⟨rfl, β3, hO⟩; have H3 := Lib.hid hO; clear hO)
    | (go_at_call 19; refine (aw4r H4.out).mono ?_; rintro e w6 ⟨rfl, hO⟩; have H6 := Lib.hid hO; clear hO)
    | (go_at_call 20; refine (aw4l H6.out).mono ?_; rintro e w7 ⟨b, off, c, rfl, hc1, hc2, hbl, hcell, hO⟩; have H7 := Lib.hid hO; clear hO)
    | (go_at_call 11; (first | (with_reducible refine (aw4u H7.out).mono ?_) | (with_reducible refine (aw5u H8.out).mono ?_)); rintro e w8 ⟨rfl, rfl⟩)
    | (go_at_call 18; (first | (with_reducible refine (aw5 H7.out).mono ?_; rintro e w9 ⟨rfl, β5, hO⟩; have H8 := Lib.hid hO; clear hO hcell) | (with_reducible refine (aw4 H3.out).mono ?_; rintro e w5 ⟨rfl, β4, hO⟩; have H4 := Lib.hid hO; clear hO))))
  go_ret
  exact ⟨rfl, H8.out.below⟩
end Go.Proofs.YtcicjklhbnipcaaGreat
namespace Go.Proofs.YtcicjklhbnipcaaGreat
set_option linter.unusedVariables false
set_option linter.unusedSimpArgs false
open Go.RowKit Go.Maps Go.WideElems Go.ChangeShapes Go.WideShapes Go.ChangeMaps Go.MapKept
/-- Block b is a map of just these entries; block r is an iterator over it. -/
abbrev mapX (es : Array MapEntry) (clock : Nat) : Res := .obj fun o => o = .map es clock
abbrev itX (b since : Nat) (seen : Array Nat) (c0 : Nat) : Res := .obj fun o => o = .mapIter (some b) since seen c0
/-- The loop is under way: the map reads as l; which keys are still to come, and how many. -/
structure Rng (P : Program) (k : TypeId) (l : List (Lit × Value)) (es : Array MapEntry) (clock since : Nat) (seen : Array Nat) (c0 : Nat) (left : Lit → Bool) (cnt : Nat) : Prop where
  fit : Go.WideElems.Fit P k anyElem es clock
  size : es.size ≤ l.length
  eq : heldD l = .map ((es.toList.map (rg P k anyElem)).foldr DataW.insert [])
  old : ∀ x ∈ es.toList, x.born < since
  cnt : (leftOf es seen).size = cnt
  left1 : ∀ x ∈ es.toList, left (rg P k anyElem x).1 = !seen.contains x.born
  left2 : ∀ kl, left kl = true → ∃ x ∈ es.toList, (rg P k anyElem x).1 = kl
  s0 : since ≤ c0
  s1 : since ≤ clock
section
variable {P : Program} {K : Act → World → Prop} {a : Act} {w w0 : World} {ops : Array Oper} {l : List (Oper × Nat)} {c : Nat} {o : Oper} {F : List Nat} {L L' Lr : List Ent} {b r : Nat} {ty kt et : TypeId} {x y : Operand} {ow : Bool} {S : World → Prop} {m : List (Lit × Value)} {es : Array MapEntry} {clock since c0 cnt : Nat} {seen : Array Nat} {left : Lit → Bool}
theorem Rng.to (h : Rng P kt m es clock since seen c0 left cnt) (hb : (mapX es clock).holds w.heap[b]?) (hr : (itX b since seen c0).holds w.heap[r]?) : w.ranges P kt anyElem b r m.length (heldD m) left cnt := by
  obtain ⟨o, ho, rfl⟩ := hb
  obtain ⟨q, hq, rfl⟩ := hr
  exact ⟨es, clock, since, seen, c0, ho, h.fit, h.size, h.eq, hq, h.old, h.cnt, h.left1, h.left2, h.s0, h.s1⟩
/-- 'range m'. -/
theorem St.range (hx : o.op = .range ty x) (hM : St w0 F w L) (hc : (c == 2 || c == 3) = true) (hw : Region.wanted o (yielded ops a.tmps) = true) (hev : a.eval x = .map (some b)) (hK : Keyed P kt) (ht : P.underlying ty = some (.map kt et)) {L' : Array MapEntry → Nat → List Ent} (hu : ∀ es clock, Upd L (b, ow, mapR P kt m) (b, ow, mapX es clock) (L' es clock))
    (h : ∀ w' r es clock since, Rng P kt m es clock since #[] since (Maps.has (heldD m)) m.length → St w0 F w' ((r, true, itX b since #[] since) :: L' es clock) → wpSeq P ops K (Held w0 F []) l (a.put o.dst (.pointer (some ⟨r, 0, none⟩))) w') : wpSeq P ops K (Held w0 F []) ((o, c) :: l) a w := by
  have hb0 := mapR_at (hM.holds _ (hu #[] 0).mem)
  obtain ⟨es, clock, hb, Ft, hs, hD⟩ := hb0
  have hM' : St w0 F w (L' es clock) := hM.weaken (hu es clock) (fun _ => ⟨_, hb, rfl⟩)
  have hrun : (execOp a.eval o).run P w = .ok (.value (.pointer (some ⟨w.heap.size, 0, none⟩))) (w.alloc (.mapIter (some b) clock #[] clock)) := by
    unfold execOp
    simp only [hx, hev, Sem.run_bind, Sem.run_pure, run_range_map w ty kt et b es clock ht hb, Result.andThen_ok]
  have hown : w.ownsMap P kt anyElem b m.length (heldD m) := ⟨es, clock, hb, Ft, hs, hD⟩
  have hR : Rng P kt m es clock clock #[] clock (Maps.has (heldD m)) m.length := by
    obtain ⟨w', hrun', hrg, hg, -⟩ := hown.range hK ht
    rw [run_range_map w ty kt et b es clock ht hb] at hrun'
    injection hrun' with e1 e2
    subst e2
    obtain ⟨es', clock', since', seen', c0', hb', F', hs', hD', hr', hold, hc', hl1, hl2, h0, h1⟩ := hrg
    rw [(MapKept.heap_alloc w _).1] at hr'
    rw [(MapKept.heap_alloc w _).2 b (MapAt.lt (mapR_at (hM.holds _ (hu #[] 0).mem))), hb] at hb'
    injection hb' with hb'
    injection hb' with e3 e4
    injection hr' with hr'
    injection hr' with e5 e6 e7 e8
    subst e3 e4 e6 e7 e8
    exact ⟨F', hs', hD', hold, by rw [hc', size_held], hl1, hl2, h0, h1⟩
  exact wpSeq_turns hc hw hrun (.inl rfl) (fun _ hh => ⟨hh.only.alloc _, nofun⟩) (h _ _ es clock clock hR (hM'.push _ ⟨_, rfl, rfl⟩))
/-- The step: nothing is left, or an entry that is left comes. -/
theorem St.next (hx : o.op = .next x false) (hM : St w0 F w L) (hc : (c == 2 || c == 3) = true) (hw : Region.wanted o (yielded ops a.tmps) = true) (hev : a.eval x = .pointer (some ⟨r, 0, none⟩)) (hK : Keyed P kt) (hm : (b, ow, mapX es clock) ∈ L) {L' : Array Nat → Nat → List Ent} (hu : ∀ s q, Upd L (r, true, itX b since seen c0) (r, true, itX b since s q) (L' s q)) (hR : Rng P kt m es clock since seen c0 left cnt)
    (h0 : cnt = 0 → (∀ kl, left kl = false) → wpSeq P ops K (Held w0 F []) l (a.put o.dst (.tuple #[.bool false])) w)
    (h : ∀ w' e kl cnt', e ∈ es.toList → keyOf P kt e.key = some kl → left kl = true → (∀ z, lookL m kl z = e.val) → Rng P kt m es clock since (seen.push e.born) clock (fun x => left x && !x.sameKey kl) cnt' → cnt' < cnt → St w0 F w' (L' (seen.push e.born) clock) →
      wpSeq P ops K (Held w0 F []) l (a.put o.dst (.tuple #[.bool true, e.key, e.val])) w') : wpSeq P ops K (Held w0 F []) ((o, c) :: l) a w := by
  obtain ⟨_, hb, rfl⟩ := hM.holds _ hm
  obtain ⟨_, hr, rfl⟩ := hM.holds _ (hu #[] 0).mem
  have hne : r ≠ b := fun e => by
    simp only at hb hr
    rw [e, hb] at hr
    cases hr
  rcases run_next_at (P := P) w o.type r b since c0 seen es clock hr hb hR.old hR.s0 with ⟨hz, hrun⟩ | ⟨e, he, w1, hal, hrun⟩
  · have hrun' : (execOp a.eval o).run P w = .ok (.value (.tuple #[.bool false])) w := by
      unfold execOp
      simp only [hx, hev, Sem.run_bind, Sem.run_pure, hrun, Result.andThen_ok]
    refine wpSeq_yields hc hw hrun' (h0 (hR.cnt ▸ hz) fun kl => ?_)
    cases hk : left kl
    · rfl
    · obtain ⟨x, hxm, rfl⟩ := hR.left2 kl hk
      rw [hR.left1 x hxm, all_seen es seen hz x hxm] at hk
      cases hk
  · obtain ⟨hem, hes⟩ := mem_left he
    obtain ⟨y0, hy0⟩ := hR.fit.reads e hem
    obtain ⟨z, hz, hzd⟩ := rd_val hy0
    have hkey := rd_key hy0
    have hrg : (rg P kt anyElem e).1 = y0.1 := by rw [rg_of hy0]
    have hr1 : w1.heap[r]? = some (.mapIter (some b) since seen c0) := by rcases hal with rfl | rfl <;> exact hr
    have hset := heap_set (o' := .mapIter (some b) since (seen.push e.born) clock) hr1
    have hO : Only [r] w (setBlock w1 r (.mapIter (some b) since (seen.push e.born) clock)) := by
      rcases hal with rfl | rfl
      · exact ⟨rfl, rfl, rfl, by simp [setBlock], fun i _ hi => hset.2 i (by simpa using hi)⟩
      · exact ⟨rfl, rfl, rfl, by simp [setBlock], fun i _ hi => hset.2 i (by simpa using hi)⟩
    have hrun' : (execOp a.eval o).run P w = .ok (.value (.tuple #[.bool true, e.key, e.val])) (setBlock w1 r (.mapIter (some b) since (seen.push e.born) clock)) := by
      unfold execOp
      simp only [hx, hev, Sem.run_bind, Sem.run_pure, hrun, Result.andThen_ok]
    have hz' : z = (.held e.val, []) := (Option.some.inj hz).symm
    have hlook : ∀ q, lookL m y0.1 q = e.val := fun q => by
      have h1 : (heldD m).atKey y0.1 (.held q) = y0.2 := by
        rw [hR.eq, (atKey_sorted (es.toList.map (rg P kt anyElem)) (Maps.fit_rising hK hR.fit) y0.1 (hK.key hkey)).2 (rg P kt anyElem e) (List.mem_map.2 ⟨e, hem, rfl⟩) hrg, rg_of hy0]
      rw [atKey_held] at h1
      have h2 : DataW.held (lookL m y0.1 q) = (z.1 : DataW Value) := h1.trans hzd
      rw [hz'] at h2
      injection h2
    refine wpSeq_turns hc hw hrun' (.inl rfl) (fun _ hh => ⟨hh.only.then hO (fun q hq => by
      have e1 : q = r := by simpa using hq
      rw [e1]; exact hM.own _ (hu #[] 0).mem rfl), nofun⟩) (h _ e y0.1 _ hem hkey ?_ hlook ⟨hR.fit, hR.size, hR.eq, hR.old, rfl, fun q hq => ?_, fun kl hkl => hR.left2 kl (by simp at hkl; exact hkl.1), hR.s1, hR.s1⟩ ?_ (hM.turn (hu _ _) hO ⟨_, hset.1, rfl⟩))
    · rw [← hrg, hR.left1 e hem, hes]; rfl
    · show (left (rg P kt anyElem q).1 && !(rg P kt anyElem q).1.sameKey y0.1) = _
      rw [hR.left1 q hq, ← hrg, same_iff_born hK hR.fit hq hem, contains_push]
      cases seen.contains q.born <;> cases (q.born == e.born) <;> rfl
    · rw [← hR.cnt]; exact left_shrinks es seen e he
/-- The entry that has come. -/
theorem St.entry (hx : o.op = .entry x) (hM : St w0 F w L) (hc : (c == 2 || c == 3) = true) (hw : Region.wanted o (yielded ops a.tmps) = true) (hev : a.eval x = .pointer (some ⟨r, 0, none⟩)) (hm : (b, ow, mapX es clock) ∈ L) {e : MapEntry} {ow' : Bool} (hi : (r, ow', itX b since (seen.push e.born) clock) ∈ L) (he : e ∈ es.toList) {seen' : Array Nat} (hR : Rng P kt m es clock since seen' clock left cnt)
    (h : wpSeq P ops K S l (a.put o.dst (.tuple #[e.key, e.val])) w) : wpSeq P ops K S ((o, c) :: l) a w := by
  obtain ⟨_, hb, rfl⟩ := hM.holds _ hm
  obtain ⟨_, hr, rfl⟩ := hM.holds _ hi
  have hrun : (execOp a.eval o).run P w = .ok (.value (.tuple #[e.key, e.val])) w := by
    unfold execOp
    simp only [hx, hev, Sem.run_bind, Sem.run_pure, run_entry_at w r b since seen es clock e hr hb he ((stamped_iff es clock).1 hR.fit.stamped).2.1, Result.andThen_ok]
  exact wpSeq_yields hc hw hrun h
end
end Go.Proofs.YtcicjklhbnipcaaGreat
namespace Go.Proofs.YtcicjklhbnipcaaGreat
set_option linter.unusedVariables false
set_option linter.unusedSimpArgs false
open Go.RowKit Go.Maps

def nodeL (β : Int → Nat × Nat) (n : NodeD) : List Ent :=
  [((β n.id).1, true, .cells [.bool n.dir, .int .i64 n.links, .int .i64 n.holds, .string n.data, .map (some (β n.id).2)] 60), ((β n.id).2, true, mapR Tryz.prog 9 (namesL n.names))]
def tblE (g mb : Nat) (t : TabD) : Ent := (g, true, .cells [.int .i64 t.quota, .int .i64 t.used, .int .i64 t.last, .map (some mb)] 56)
/-- A table's blocks. -/
def tblL (g mb : Nat) (β : Int → Nat × Nat) (t : TabD) : List Ent := tblE g mb t :: (mb, true, mapR Tryz.prog 3 (nodesL β t.nodes)) :: t.nodes.flatMap (nodeL β)
section
variable {w w' : World} {g mb : Nat} {β : Int → Nat × Nat} {t t' : TabD}
theorem tblL_keys : keysOf (tblL g mb β t) = foot g mb β t.nodes := by
  unfold keysOf tblL foot tblE
  simp only [List.map_cons, List.cons.injEq, true_and]
  rw [List.map_flatMap]
  rfl
theorem tblL_flag : flagged (tblL g mb β t) := fun x hx => by
  unfold tblL at hx
  rcases List.mem_cons.1 hx with rfl | hx
  · rfl
  rcases List.mem_cons.1 hx with rfl | hx
  · rfl
  obtain ⟨n, hn, hx⟩ := List.mem_flatMap.1 hx
  unfold nodeL at hx
  simp only [List.mem_cons, List.not_mem_nil, or_false] at hx
  rcases hx with rfl | rfl <;> rfl
theorem TblAt.at_ (h : TblAt w g mb β t) : At (tblL g mb β t) w := by
  refine ⟨fun x hx => ?_, by rw [tblL_keys]; exact h.apart⟩
  unfold tblL at hx
  rcases List.mem_cons.1 hx with rfl | hx
  · exact h.row
  rcases List.mem_cons.1 hx with rfl | hx
  · exact mapR_of h.map
  obtain ⟨n, hn, hx⟩ := List.mem_flatMap.1 hx
  unfold nodeL at hx
  simp only [List.mem_cons, List.not_mem_nil, or_false] at hx
  rcases hx with rfl | rfl
  · exact (h.node n hn).row
  · exact mapR_of (h.node n hn).names
theorem At.tbl (h : At (tblL g mb β t) w) : TblAt w g mb β t where
  row := h.has (tblE g mb t) (by unfold tblL; exact .head _)
  map := mapR_at (k := 3) (P := Tryz.prog) (h.has (mb, true, mapR Tryz.prog 3 (nodesL β t.nodes)) (by unfold tblL; exact .tail _ (.head _)))
  node := fun n hn => by
    have h1 := h.has ((β n.id).1, true, .cells [.bool n.dir, .int .i64 n.links, .int .i64 n.holds, .string n.data, .map (some (β n.id).2)] 60) (by
      unfold tblL; refine .tail _ (.tail _ (List.mem_flatMap.2 ⟨n, hn, ?_⟩)); unfold nodeL; exact .head _)
    have h2 := h.has ((β n.id).2, true, mapR Tryz.prog 9 (namesL n.names)) (by
      unfold tblL; refine .tail _ (.tail _ (List.mem_flatMap.2 ⟨n, hn, ?_⟩)); unfold nodeL; exact .tail _ (.head _))
    exact ⟨h1, mapR_at h2⟩
  apart := by have := h.nd; rwa [tblL_keys] at this
theorem Goes.st (h : Goes w g mb β t w' t') : ∃ β', St w (keysOf (tblL g mb β t)) w' (tblL g mb β' t') := by
  obtain ⟨β', h1, h2, h3⟩ := h
  refine ⟨β', by rw [tblL_keys]; exact h2, h1.at_.has, h1.at_.nd, fun x hx _ => ?_⟩
  rw [tblL_keys]
  refine h3 x.1 ?_
  rw [← tblL_keys]
  exact List.mem_map_of_mem hx
theorem Step.st (h : Step w w' g mb β t t') : ∃ β', St w (keysOf (tblL g mb β t)) w' (tblL g mb β' t') := h.goes.st
end
end Go.Proofs.YtcicjklhbnipcaaGreat
namespace Go.Proofs.YtcicjklhbnipcaaGreat
set_option linter.unusedVariables false
set_option linter.unusedSimpArgs false
open Go.RowKit Go.Maps Go.Shelf
section
variable {w w0 : World} {b : Nat} {F : List Nat} {L : List Ent} {l : List (Lit × Value)}
/-- A map cloned: a new one with the same entries. -/
theorem st_clone {P : Program} {k : TypeId} {es : Array MapEntry} {clock : Nat} (hb : w.heap[b]? = some (.map es clock)) (h : MapAt P k w b l) : St w [] (w.alloc (.map es clock)) [(w.heap.size, true, mapR P k l)] :=
  (St.start w []).push (.map es clock) ⟨_, rfl, w, b, hb, h⟩
theorem cloneM_any (h : (mapR Tryz.prog 9 l).holds w.heap[b]?) : Calls Tryz.prog 22 #[.map (some b)] w fun e w' => ∃ c, e = .returned (.map (some c)) ∧ St w [] w' [(c, true, mapR Tryz.prog 9 l)] := by
  have hm := mapR_at h
  have hm0 := hm
  obtain ⟨es, clock, hb, -⟩ := hm0
  refine (AnyW.maps_Clone Tryz.cloneM b es clock w hb).mono ?_
  rintro e w' ⟨rfl, rfl⟩
  exact ⟨_, rfl, st_clone hb hm⟩
end
/-! ### nodes, some of them -/
def someN (p : Int → Bool) (l : List NodeD) : List NodeD := l.filter fun n => p n.id
theorem someN_cons (p : Int → Bool) (y : NodeD) (r : List NodeD) : someN p (y :: r) = if p y.id then y :: someN p r else someN p r := by
  unfold someN
  rw [List.filter_cons]
theorem someN_congr {p q : Int → Bool} {l : List NodeD} (h : ∀ n ∈ l, p n.id = q n.id) : someN p l = someN q l := List.filter_congr h
theorem nodesL_congr {β γ : Int → Nat × Nat} {l : List NodeD} (h : ∀ n ∈ l, β n.id = γ n.id) : nodesL β l = nodesL γ l := by
  unfold nodesL
  exact List.map_congr_left fun n hn => by rw [h n hn]
/-- One more node is there. -/
theorem put_some (β γ : Int → Nat × Nat) (p q : Int → Bool) (n : NodeD) (hp : p n.id = false) (hq : ∀ i, q i = (p i || i == n.id)) (hg : ∀ i, i ≠ n.id → γ i = β i) :
    ∀ l : List NodeD, (l.Pairwise fun a b => a.id < b.id) → n ∈ l → putL (.int .i64 n.id) (.pointer (some ⟨(γ n.id).1, 0, none⟩)) (nodesL β (someN p l)) = nodesL γ (someN q l) ∧ ((someN q l).Perm (n :: someN p l)) := by
  have hdel : ∀ l : List NodeD, delL (.int .i64 n.id) (nodesL β (someN p l)) = nodesL β (someN p l) := fun l => by
    unfold delL nodesL someN
    rw [List.filter_eq_self]
    intro x hx
    obtain ⟨m, hm, rfl⟩ := List.mem_map.1 hx
    have h1 : p m.id = true := by simpa using (List.mem_filter.1 hm).2
    show (!decide (IntKind.i64 = IntKind.i64 ∧ m.id = n.id)) = true
    have : m.id ≠ n.id := fun e => by rw [e, hp] at h1; cases h1
    simp [this]
  have hsame : ∀ l : List NodeD, (∀ m ∈ l, m.id ≠ n.id) → nodesL γ (someN q l) = nodesL β (someN p l) ∧ someN q l = someN p l := fun l hl => by
    have e : someN q l = someN p l := someN_congr fun m hm => by rw [hq]; simp [hl m hm]
    refine ⟨?_, e⟩
    rw [e]
    exact nodesL_congr fun m hm => hg m.id (hl m (List.mem_filter.1 hm).1)
  have hins : ∀ l : List NodeD, (∀ m ∈ l, n.id < m.id) → ∀ v, insL (.int .i64 n.id, v) (nodesL β (someN p l)) = (.int .i64 n.id, v) :: nodesL β (someN p l) := fun l hl v => by
    cases hs : someN p l with
    | nil => rfl
    | cons y r =>
      have hy : y ∈ someN p l := by rw [hs]; exact .head _
      have := hl y (List.mem_filter.1 hy).1
      unfold nodesL
      rw [List.map_cons]
      unfold insL
      rw [if_pos (show (Lit.int .i64 n.id).before (.int .i64 y.id) = true by simpa [Lit.before] using this)]
  intro l hl hn
  unfold putL
  rw [hdel]
  induction l with
  | nil => cases hn
  | cons y r ih =>
    obtain ⟨hy, hr⟩ := List.pairwise_cons.1 hl
    rw [someN_cons, someN_cons]
    rcases List.mem_cons.1 hn with rfl | hn'
    · have hne : ∀ m ∈ r, m.id ≠ n.id := fun m hm => by have := hy m hm; omega
      obtain ⟨s1, s2⟩ := hsame r hne
      rw [if_neg (by rw [hp]; decide), if_pos (by rw [hq]; simp), hins r hy, s2]
      refine ⟨?_, List.Perm.refl _⟩
      show _ = (Lit.int .i64 n.id, _) :: nodesL γ (someN p r)
      rw [s2] at s1
      rw [s1]
    · have hlt := hy n hn'
      have hne : y.id ≠ n.id := by omega
      obtain ⟨i1, i2⟩ := ih hr hn'
      have hqy : q y.id = p y.id := by rw [hq]; simp [hne]
      rw [hqy]
      by_cases hpy : p y.id = true
      · rw [if_pos hpy, if_pos hpy]
        refine ⟨?_, (i2.cons y).trans (List.Perm.swap n y _)⟩
        show insL _ ((Lit.int .i64 y.id, Value.pointer (some ⟨(β y.id).1, 0, none⟩)) :: nodesL β (someN p r)) = (Lit.int .i64 y.id, Value.pointer (some ⟨(γ y.id).1, 0, none⟩)) :: nodesL γ (someN q r)
        unfold insL
        rw [if_neg (show ¬ (Lit.int .i64 n.id).before (.int .i64 y.id) = true by simp [Lit.before]; omega), i1, hg y.id hne]
      · rw [if_neg hpy, if_neg hpy]
        exact ⟨i1, i2⟩
theorem flat_some (γ δ : Int → Nat × Nat) (n : NodeD) (p : Int → Bool) (hp : p n.id = false) (hd : ∀ i, i ≠ n.id → δ i = γ i) {l l' : List NodeD} (h : l'.Perm (n :: someN p l)) : (l'.flatMap (nodeL δ)).Perm (nodeL δ n ++ (someN p l).flatMap (nodeL γ)) := by
  refine (h.flatMap_right (nodeL δ)).trans (List.Perm.of_eq ?_)
  rw [List.flatMap_cons]
  congr 1
  have : ∀ m ∈ someN p l, nodeL δ m = nodeL γ m := fun m hm => by
    have h1 : p m.id = true := by simpa using (List.mem_filter.1 hm).2
    have : m.id ≠ n.id := fun e => by rw [e, hp] at h1; cases h1
    unfold nodeL
    rw [hd m.id this]
  rw [List.flatMap_def, List.flatMap_def, List.map_congr_left this]
/-- What comes is one of the nodes. -/
theorem node_came {β : Int → Nat × Nat} {l : List NodeD} {x : Int} {v : Value} (h : ∀ z, lookL (nodesL β l) (.int .i64 x) z = v) : ∃ n ∈ l, n.id = x ∧ v = .pointer (some ⟨(β n.id).1, 0, none⟩) := by
  have h1 := h (.pointer none)
  have h2 := h (.bool true)
  unfold lookL at h1 h2
  cases hf : (nodesL β l).find? fun p => p.1.sameKey (.int .i64 x) with
  | none =>
    rw [hf] at h1 h2
    rw [← h2] at h1
    cases h1
  | some p =>
    rw [hf] at h1
    obtain ⟨n, hn, rfl⟩ := List.mem_map.1 (List.mem_of_find?_eq_some hf)
    have := List.find?_some hf
    have hx : n.id = x := by
      have h3 : decide (IntKind.i64 = IntKind.i64 ∧ n.id = x) = true := this
      simpa using h3
    exact ⟨n, hn, hx, h1.symm⟩
theorem row_in {w : World} {b : Nat} {cs : List Value} {t : TypeId} {fr : Nat × Nat} (h : w.heap[b]? = some (.cells cs.toArray t fr)) : w.rangeAt b 0 cs := fun j v hj => by
  unfold World.cell?
  simp [h, hj]
theorem Only.holds {w0 w : World} {b : Nat} {r : Res} (h : Only [] w0 w) (hr : r.holds w0.heap[b]?) : r.holds w.heap[b]? := by
  rw [h.block b (Res.lt hr) (by simp)]; exact hr
theorem flag_1 (b : Nat) (r : Res) : flagged [(b, true, r)] := fun y hy => by rcases List.mem_singleton.1 hy with rfl; rfl
theorem perm_last {α : Type} (c k a b e m : α) (R : List α) : (c :: k :: a :: b :: e :: m :: R).Perm (a :: b :: e :: m :: k :: c :: R) :=
  ((List.perm_middle (l₁ := [a, b, e, m]) (a := k) (l₂ := R)).symm.cons c).trans (List.perm_middle (l₁ := [a, b, e, m, k]) (a := c) (l₂ := R)).symm
theorem has_node {β : Int → Nat × Nat} {l : List NodeD} {n : NodeD} (hn : n ∈ l) : Maps.has (heldD (nodesL β l)) (.int .i64 n.id) = true := by
  refine List.any_eq_true.2 ⟨(.int .i64 n.id, .held (.pointer (some ⟨(β n.id).1, 0, none⟩))), ?_, by show decide (IntKind.i64 = IntKind.i64 ∧ n.id = n.id) = true; simp⟩
  exact List.mem_map.2 ⟨(.int .i64 n.id, .pointer (some ⟨(β n.id).1, 0, none⟩)), List.mem_map.2 ⟨n, hn, rfl⟩, rfl⟩
section
variable {g mb : Nat} {β : Int → Nat × Nat} {t : TabD}
set_option maxHeartbeats 8000000 in
set_option maxRecDepth 100000 in
theorem Clone_any {ws : World} (h : TblAt ws g mb β t) (hq : 0 < t.quota) (hlen : t.nodes.length ≤ 4611686018427) : Calls Tryz.prog 8 #[.pointer (some ⟨g, 0, none⟩)] ws fun e w' => ∃ g' mb' γ, e = .returned (.pointer (some ⟨g', 0, none⟩)) ∧ St ws [] w' (tblL g' mb' γ t) := by
  have hM : St ws [] ws [(mb, false, mapR Tryz.prog 3 (nodesL β t.nodes))] := (St.start ws []).learn (mapR_of h.map) nofun nofun
  have HT := Lib.hid h
  have CG := Lib.hid (given_yes h hq)
  have HA : Hid (t.nodes.Pairwise fun a b => a.id < b.id) := Lib.hid (by
    have := MapAt.sorted h.map key_int
    unfold nodesL at this
    rw [List.pairwise_map] at this
    exact this.imp fun h => by simpa [Lit.before] using h)
  obtain ⟨c0, c1, c2, c3⟩ := tbl_cells h
  clear h hq
  go_enter Tryz.func8, Tryz.ntmps8
  (repeat (first | ((with_reducible show wpSeq _ _ _ _ _ _ _); first | ((with_reducible refine wpSeq_nil ?_); refine hKr.out _ _ ?_; clear hKr Kr) | (((refine St.copy (v := ?_) (by first | exact .inl rfl | exact .inr rfl) rfl rfl ?_ ?_; rotate_left; (focus ((try simp only [Act.eval, getD_lit, qGz, qGs]); with_reducible rfl)))); (try simp only [Act.put, qSa, qSz, qSs]))) | (first | (refine wp_seq_shut (fun K hK => ?_)) | (refine wp_text hM (fun Kr hKr => ?_); simp only [inText]) | ((refine hK.out _ _ ?_); clear hK K))))
  (refine St.call rfl rfl rfl (by kernel_rfl) (fun R hR => ?_); simp only [List.map_toArray, List.map_cons, List.map_nil, Act.eval, getD_lit, qGz, qGs])
  refine CG.out.mono ?_
  (rintro e w' ⟨rfl, rfl⟩; refine hR.out _ _ (fun h => h) ?_; clear hR R; (try simp only [Act.put, qSa, qSz, qSs]))
  (repeat (first | ((with_reducible show wpSeq _ _ _ _ _ _ _); first | ((with_reducible refine wpSeq_nil ?_); refine hKr.out _ _ ?_; clear hKr Kr) | ((first | (refine St.copy (v := ?_) (by exact .inl rfl) rfl rfl ?_ ?_; rotate_left; (focus ((try simp only [Act.eval, getD_lit, qGz, qGs]); with_reducible rfl))) | (refine St.pure (v := ?_) rfl rfl rfl (fun w => ?_) ?_; rotate_left; (focus (go_simp; all_goals with_reducible rfl))) | refine St.loadF1 rfl rfl rfl rfl (fun w' hS => hS.old (by assumption)) (by kernel_rfl) ?_); (try simp only [Act.put, qSa, qSz, qSs]))) | (first | (refine wp_seq_shut (fun K hK => ?_)) | refine wp_skip ?_ | (refine wp_cond_false rfl ?_) | ((refine hK.out _ _ ?_); clear hK K)) | ((refine wp_drawn (id := 3) hM (Sub.all _) [3, 7, 11] [(0, 0), (1, 0), (2, 0), (3, 1), (4, 0), (5, 0), (6, 0), (7, 1), (8, 0), (9, 0), (10, 0), (11, 1), (12, 2), (13, 3), (14, 2), (15, 3)] (by kernel_rfl) (by kernel_rfl) ?_); (clear hM; intro w hM Kr hKr); simp only [opsOf, qGz, qGs])))
  refine St.makeMap (kt := 3) rfl hM rfl rfl (fun w => ?_) ?_
  · go_simp
    simp [Instr.makeMap, newObj, Sem.run]
  clear hM; intro w mb2 hM
  (try simp only [Act.put, qSa, qSz, qSs])
  (repeat (first | ((with_reducible show wpSeq _ _ _ _ _ _ _); first | ((with_reducible refine wpSeq_nil ?_); refine hKr.out _ _ ?_; clear hKr Kr) | ((first | (refine St.copy (v := ?_) (by first | exact .inl rfl | exact .inr rfl) rfl rfl ?_ ?_; rotate_left; (focus ((try simp only [Act.eval, getD_lit, qGz, qGs]); with_reducible rfl))) | (refine St.pure (v := ?_) rfl rfl rfl (fun w => ?_) ?_; rotate_left; (focus (go_simp; all_goals with_reducible rfl))) | refine St.loadF rfl rfl rfl rfl rfl (hM.old (by assumption)) (by kernel_rfl) ?_ | ((((refine St.box rfl hM rfl rfl rfl ?_); clear hM; intro w bk hM)); (try simp only [Res.put, Res.known, Act.eval, Value.cells, getD_lit, qGz, qGs, List.toList_toArray, qSz, qSs, over, Nat.reduceAdd] at hM))); (try simp only [Act.put, qSa, qSz, qSs]))) | (first | (refine wp_seq_shut (fun K hK => ?_)) | (refine wp_text hM (fun Kr hKr => ?_); simp only [inText]) | ((refine hK.out _ _ ?_); clear hK K))))
  obtain ⟨g2, eg⟩ : ∃ b, b = bk := ⟨_, rfl⟩
  subst eg
  refine St.range (kt := 3) rfl hM rfl rfl rfl key_int Tryz.underlying54 (fun _ _ => by repeat constructor) ?_
  clear hM; intro w r es clock since hR0 hM
  (try simp only [Act.put, qSa, qSz, qSs])
  (repeat (first | ((with_reducible show wpSeq _ _ _ _ _ _ _); ((with_reducible refine wpSeq_nil ?_); refine hKr.out _ _ ?_; clear hKr Kr)) | (first | refine wp_block ?_ | ((refine hK.out _ _ ?_); clear hK K))))
  have HR0 := Lib.hid hR0
  clear hR0
  replace hM : St ws [] w ((r, true, itX mb since #[] since) :: (mb, false, mapX es clock) :: tblL g2 mb2 β ⟨t.quota, t.used, t.last, someN (fun _ => false) t.nodes⟩) := by
    have e : someN (fun _ => false) t.nodes = [] := by unfold someN; simp
    rw [e]
    exact hM.perm ((List.perm_middle (l₁ := [_, _]) (l₂ := [])).cons _)
  go_loopw [4] (fun _ wr => ∃ (seen : Array Nat) (s0 : Nat) (left : Lit → Bool) (cnt : Nat) (γ : Int → Nat × Nat), Hid (Rng Tryz.prog 3 (nodesL β t.nodes) es clock since seen s0 left cnt) ∧ St ws [] wr ((r, true, itX mb since seen s0) :: (mb, false, mapX es clock) :: tblL g2 mb2 γ ⟨t.quota, t.used, t.last, someN (fun i => !left (.int .i64 i)) t.nodes⟩)) (fun _ wr => wr.rangeLeft mb r)
  case atStart =>
    refine ⟨_, _, _, _, β, HR0, ?_⟩
    rw [someN_congr (q := fun _ => false) fun n hn => by rw [has_node hn]; rfl]
    exact hM
  case round =>
    clear hM
    obtain ⟨seen, s0, left, cnt, γ, HR, hM⟩ := hrel
    have HCNT := Lib.hid ((HR.out.to (hM.holds _ (.tail _ (.head _))) (hM.holds _ (.head _))).left_eq)
    (repeat ((first | (refine wp_seq_shut (fun K hK => ?_)) | (refine wp_text hM (fun Kr hKr => ?_); simp only [inText]))))
    refine St.next (kt := 3) rfl hM rfl rfl rfl key_int (.tail _ (.head _)) (fun _ _ => Upd.head) HR.out ?_ ?_
    · intro hz hl
      have e : someN (fun i => !left (.int .i64 i)) t.nodes = t.nodes := by
        unfold someN
        rw [List.filter_eq_self]
        intro n _
        show (!left (.int .i64 n.id)) = true
        rw [hl]; rfl
      rw [e] at hM
      clear hl e hz HR
      (try simp only [Act.put, qSa, qSz, qSs])
      (repeat (first | ((with_reducible show wpSeq _ _ _ _ _ _ _); first | ((with_reducible refine wpSeq_nil ?_); refine hKr.out _ _ ?_; clear hKr Kr) | ((first | (refine St.copy (v := ?_) (by first | exact .inl rfl | exact .inr rfl) rfl rfl ?_ ?_; rotate_left; (focus ((try simp only [Act.eval, getD_lit, qGz, qGs]); with_reducible rfl))) | (refine St.pure (v := ?_) rfl rfl rfl (fun w => ?_) ?_; rotate_left; (focus (go_simp; all_goals with_reducible rfl)))); (try simp only [Act.put, qSa, qSz, qSs]))) | (first | (refine wp_seq_shut (fun K hK => ?_)) | (refine wp_text hM (fun Kr hKr => ?_); simp only [inText]) | (refine wp_cond_false rfl ?_) | (refine wp_exit ?_; simp only [Exit.then, Exit.inBlock, if_true, if_false, reduceCtorEq, Nat.reduceEqDiff, Nat.succ_ne_zero]) | ((first | refine hK.out _ _ ?_ | (clear hK K; refine hK.out _ _ ?_)); clear hK K))))
      ((refine wp_ret ?_; (try simp only [Exit.then, Exit.inBlock]); refine St.ret hM rfl (by repeat (first | exact Outs.nil | apply Outs.tmp rfl)) rfl ?_))
      exact ⟨g2, mb2, γ, rfl, hM.drop (fun z hz => .tail _ (.tail _ hz)) (by have := hM.nd; simp only [List.map_cons, List.nodup_cons] at this; exact this.2.2)⟩
    · clear hM
      intro w e kl cnt' he hkey hlk hlook hR' hlt hM
      obtain ⟨x, hek, rfl, -⟩ := Maps.keyOf_int_inv Tryz.underlying3 hkey
      obtain ⟨n, hn, rfl, hev⟩ := node_came hlook
      have hrow := row_in (HT.out.node n hn).row
      have c4 := hrow 4 _ rfl
      have HNM := Lib.hid (mapR_of (HT.out.node n hn).names)
      have HR' := Lib.hid hR'
      have HE := Lib.hid he
      have HN := Lib.hid hn
      have HLK := Lib.hid hlk
      have HKEY' := hkey
      rw [hek] at HKEY'
      have HLT := Lib.hid hlt
      clear hR' he hn hlk hkey hlt hlook HR
      simp only [hek, hev]
      (try simp only [Act.put, qSa, qSz, qSs])
      (repeat (first | ((with_reducible show wpSeq _ _ _ _ _ _ _); first | ((with_reducible refine wpSeq_nil ?_); refine hKr.out _ _ ?_; clear hKr Kr) | (((refine St.pure (v := ?_) rfl rfl rfl (fun w => ?_) ?_; rotate_left; (focus (go_simp; all_goals with_reducible rfl)))); (try simp only [Act.put, qSa, qSz, qSs]))) | (first | (refine wp_seq_shut (fun K hK => ?_)) | (refine wp_text hM (fun Kr hKr => ?_); simp only [inText]) | refine wp_block ?_ | refine wp_skip ?_ | (refine wp_cond_true rfl ?_) | ((refine hK.out _ _ ?_); clear hK K))))
      refine St.entry (kt := 3) rfl hM rfl rfl rfl (.tail _ (.head _)) (.head _) HE.out HR'.out ?_
      simp only [hek, hev]
      (try simp only [Act.put, qSa, qSz, qSs])
      (repeat (first | ((with_reducible show wpSeq _ _ _ _ _ _ _); first | ((with_reducible refine wpSeq_nil ?_); refine hKr.out _ _ ?_; clear hKr Kr) | ((first | (refine St.copy (v := ?_) (by first | exact .inl rfl | exact .inr rfl) rfl rfl ?_ ?_; rotate_left; (focus ((try simp only [Act.eval, getD_lit, qGz, qGs]); with_reducible rfl))) | (refine St.pure (v := ?_) rfl rfl rfl (fun w => ?_) ?_; rotate_left; (focus (go_simp; all_goals with_reducible rfl))) | refine St.loadF rfl rfl rfl rfl rfl (hM.old (by assumption)) (by kernel_rfl) ?_ | refine St.loadRowF rfl rfl rfl rfl rfl (hM.oldRow (by assumption)) (by kernel_rfl) ?_ | ((((refine St.storeRow rfl hM rfl rfl rfl rfl rfl (by repeat constructor) (Nat.le_of_ble_eq_true rfl) (Nat.le_of_ble_eq_true rfl) (by kernel_rfl) rfl ?_ ?_); (focus ((intro h; cases h; done))); clear hM; intro w hM)); (try simp only [Res.put, Res.known, Act.eval, Value.cells, getD_lit, qGz, qGs, List.toList_toArray, qSz, qSs, over, Nat.reduceAdd] at hM))); (try simp only [Act.put, qSa, qSz, qSs])) | (((refine St.alloc (ty := 60) (z := .agg #[.bool false, .int .i64 0, .int .i64 0, .string ⟨#[]⟩, .map none]) rfl hM rfl rfl (by kernel_rfl) ?_); clear hM; intro w bk hM); (try simp only [Res.put, Res.known, Act.eval, Value.cells, getD_lit, qGz, qGs, List.toList_toArray, qSz, qSs, over, Nat.reduceAdd] at hM); (try simp only [Act.put, qSa, qSz, qSs]))) | (first | (refine wp_seq_shut (fun K hK => ?_)) | (refine wp_text hM (fun Kr hKr => ?_); simp only [inText]) | ((refine hK.out _ _ ?_); clear hK K))))
      ((refine St.call rfl rfl rfl (by kernel_rfl) (fun R hR => ?_); simp only [List.map_toArray, List.map_cons, List.map_nil, Act.eval, getD_lit, qGz, qGs]))
      refine (cloneM_any (hM.only.holds HNM.out)).mono ?_
      rintro e' w' ⟨c, rfl, hN⟩
      replace hM := hM.madeM hN (flag_1 _ _)
      (refine hR.out _ _ (fun _ => ⟨hM.only, nofun⟩) ?_); clear hR R hN; (try simp only [Act.put, qSa, qSz, qSs])
      simp only [List.cons_append, List.nil_append] at hM
      unfold tblL tblE at hM
      (repeat (first | ((with_reducible show wpSeq _ _ _ _ _ _ _); first | ((with_reducible refine wpSeq_nil ?_); refine hKr.out _ _ ?_; clear hKr Kr) | ((first | (refine St.copy (v := ?_) (by exact .inl rfl) rfl rfl ?_ ?_; rotate_left; (focus ((try simp only [Act.eval, getD_lit, qGz, qGs]); with_reducible rfl))) | (refine St.pure (v := ?_) rfl rfl rfl (fun w => ?_) ?_; rotate_left; (focus (go_simp; all_goals with_reducible rfl))) | refine St.load rfl hM rfl rfl rfl rfl (by repeat constructor) (by rfl) (by kernel_rfl) ?_ | ((((refine St.store rfl hM rfl rfl rfl rfl rfl (by repeat constructor) (Nat.le_of_ble_eq_true rfl) (by kernel_rfl) rfl ?_ ?_); (focus ((intro h; cases h; done))); clear hM; intro w hM)); (try simp only [Res.put, Res.known, Act.eval, Value.cells, getD_lit, qGz, qGs, List.toList_toArray, qSz, qSs, over, Nat.reduceAdd] at hM))); (try simp only [Act.put, qSa, qSz, qSs]))) | (first | (refine wp_text hM (fun Kr hKr => ?_); simp only [inText]) | ((refine hK.out _ _ ?_); clear hK K))))
      obtain ⟨δ, d1, d2⟩ : ∃ δ : Int → Nat × Nat, δ n.id = (bk, c) ∧ ∀ i, i ≠ n.id → δ i = γ i := ⟨fun i => if i = n.id then (bk, c) else γ i, if_pos rfl, fun i hi => if_neg hi⟩
      obtain ⟨hput, hperm⟩ := put_some γ δ (fun i => !left (.int .i64 i)) (fun i => !(left (.int .i64 i) && !(Lit.int .i64 i).sameKey (.int .i64 n.id))) n (by show (!left (.int .i64 n.id)) = false; rw [HLK.out]; rfl) (fun i => by
        show (!(left (.int .i64 i) && !(decide (IntKind.i64 = IntKind.i64 ∧ i = n.id)))) = (!left (.int .i64 i) || i == n.id)
        by_cases hi : i = n.id
        · simp [hi]
        · simp [hi]) d2 t.nodes HT.out.ids HN.out
      rw [d1] at hput
      refine St.mapUpdate (kl := .int .i64 n.id) rfl hM rfl rfl rfl rfl rfl (by repeat constructor) hput key_int Tryz.underlying54 ?_ HKEY' (fun h => by cases h) ?_
      · have h1 : (nodesL γ (someN (fun i => !left (.int .i64 i)) t.nodes)).length ≤ t.nodes.length := by
          unfold nodesL someN
          rw [List.length_map]
          exact List.length_filter_le _ _
        unfold maxLen
        omega
      have hfl := flat_some γ δ n (fun i => !left (.int .i64 i)) (by show (!left (.int .i64 n.id)) = false; rw [HLK.out]; rfl) d2 hperm
      clear hM; intro w hM
      (try simp only [Act.put, qSa, qSz, qSs])
      replace hM := hM.perm (perm_last _ _ _ _ _ _ _)
      have e2 : nodeL δ n = [(bk, true, .cells [.bool n.dir, .int .i64 n.links, .int .i64 n.holds, .string n.data, .map (some c)] 60), (c, true, mapR Tryz.prog 9 (namesL n.names))] := by unfold nodeL; rw [d1]
      rw [e2] at hfl
      replace hM := hM.perm ((((hfl.symm.cons _).cons _).cons _).cons _)
      clear hfl hperm hput
      (repeat (((with_reducible show wpSeq _ _ _ _ _ _ _); ((with_reducible refine wpSeq_nil ?_); refine hKr.out _ _ ?_; clear hKr Kr))))
      refine ⟨?_, ?_⟩
      · repeat (first | exact ⟨⟨_, _, _, cnt', _, HR', hM⟩, rfl⟩ | apply Exists.intro)
      · rw [HCNT.out, (HR'.out.to (hM.holds _ (.tail _ (.head _))) (hM.holds _ (.head _))).left_eq]
        exact HLT.out
end
end Go.Proofs.YtcicjklhbnipcaaGreat
namespace Go.Proofs.YtcicjklhbnipcaaGreat
set_option linter.unusedVariables false
set_option linter.unusedSimpArgs false
open Go.RowKit Go.Maps
section
variable {w : World} {g mb : Nat} {β : Int → Nat × Nat} {t : TabD}
theorem st_of_own {w w' : World} {base n : Nat} {v : Value} {xs : List Value} {e : TypeId} (h : w'.ownsRow base e 1 v n xs) (hb : Below w.heap.size w w') (hB : w.heap.size ≤ base) : ∃ s, v = slV s n ∧ SlOK s n xs 1 ∧ St w [] w' (slL s xs e 1) := by
  obtain ⟨hl, h⟩ := h
  rcases h with ⟨rfl, rfl⟩ | ⟨g, cap, cur, rfl, hg, hc, h1, h2, h3, h4⟩
  · exact ⟨none, rfl, ⟨hl, rfl⟩, ⟨Only.of_below hb, nofun, List.nodup_nil, nofun⟩⟩
  · refine ⟨some (g, cap), rfl, ⟨hl, h1, h2⟩, ⟨Only.of_below hb, fun z hz => ?_, by simp [slL], fun z hz _ => ?_⟩⟩
    · obtain rfl := List.mem_singleton.1 hz
      refine ⟨cur.toList.drop (n * 1), ?_, ?_⟩
      · rw [← h4, List.take_append_drop]; simpa using hc
      · rw [← h4, List.take_append_drop]; simpa using h3
    · obtain rfl := List.mem_singleton.1 hz
      exact .inr (Nat.le_trans hB hg)
end
end Go.Proofs.YtcicjklhbnipcaaGreat
namespace Go.Proofs.YtcicjklhbnipcaaGreat
set_option linter.unusedVariables false
set_option linter.unusedSimpArgs false
open Go.RowKit
section
variable {P : Program} {K : Act → World → Prop} {a : Act} {w w0 : World} {ops : Array Oper} {l : List (Oper × Nat)} {c : Nat} {o : Oper} {F : List Nat} {L Lr : List Ent} {t e : TypeId} {x y : Operand}
/-- What an append makes of what is known. -/
theorem St.appendCore2 (hM : St w0 F w L) (hc : (c == 2 || c == 3) = true) (hw : Region.wanted o (yielded ops a.tmps) = true) {s : Option (Nat × Nat)} {n m size : Nat} {xs news : List Value} {L' : Option (Nat × Nat) → List Ent} (hL : ∀ s', Swap L (slL s xs e size) (slL s' (xs ++ news) e size) (L' s')) {v' : Value} {w' : World}
    (hrun0 : (execOp a.eval o).run P w = .ok (.value v') w') (ho' : w'.ownsRow 0 e size v' (n + m) (xs ++ news)) (hg : w.grownBy w' (slV s n).ownBlock) (hat : v'.ownBlock = (slV s n).ownBlock ∨ v'.ownBlock = some w.heap.size)
    (hS : c = 2 → ∀ z ∈ Lr, ∀ k, s.map (·.1) = some k → z.1 ≠ k) (h : ∀ w' s', St w0 F w' (L' s') → SlOK s' (n + m) (xs ++ news) size → (0 < n + m → s' ≠ none) → (s ≠ none → s' ≠ none) → wpSeq P ops K (Held w0 F Lr) l (a.put o.dst (slV s' (n + m))) w') : wpSeq P ops K (Held w0 F Lr) ((o, c) :: l) a w := by
  obtain ⟨s', rfl, hk', hh', hb'⟩ := of_ownsRow ho'
  have hrun : (execOp a.eval o).run P w = .ok (.value (slV s' (n + m))) w' := hrun0
  have hob : (slV s n).ownBlock = s.map (·.1) := by cases s <;> rfl
  have hO : Only ((s.map (·.1)).toList) w w' := ⟨hg.os, hg.tape, hg.output, hg.size, fun k hk hn => hg.block k hk (fun e => by rw [hob] at e; exact hn (by rw [← e]; simp))⟩
  obtain ⟨A', B', hA', hL'⟩ := (hL s').split
  have hM' : St w0 F w' (L' s') := by
    have hnd := hM.nd
    rw [hA'] at hnd
    have hsown : ∀ k, s.map (·.1) = some k → (k ∈ F ∨ w0.heap.size ≤ k) ∧ k < w.heap.size := fun k hk => by
      match s with
      | none => cases hk
      | some (g, cp) =>
        obtain rfl : g = k := by simpa using hk
        have hm : (g, true, Res.pre xs e (cp * size)) ∈ L := by rw [hA']; simp [slL]
        exact ⟨hM.own _ hm rfl, hM.lt hm⟩
    have hsnew : ∀ k, s'.map (·.1) = some k → (k ∈ F ∨ w0.heap.size ≤ k) ∧ (s.map (·.1) = some k ∨ k = w.heap.size) := fun k hk => by
      rw [hb', hob] at hat
      rcases hat with h1 | h1
      · rw [h1] at hk; exact ⟨(hsown k hk).1, .inl hk⟩
      · rw [h1] at hk; obtain rfl : w.heap.size = k := by simpa using hk
        exact ⟨.inr hM.only.size, .inr rfl⟩
    have hrestne : ∀ z, z ∈ A' ∨ z ∈ B' → (∀ k, s.map (·.1) = some k → z.1 ≠ k) ∧ z ∈ L := fun z hz => by
      refine ⟨fun k hk => ?_, by rw [hA']; rcases hz with h | h <;> simp [h]⟩
      match s with
      | none => cases hk
      | some (g, cp) =>
        obtain rfl : g = k := by simpa using hk
        simp only [slL, List.map_append, List.map_cons, List.map_nil, List.nodup_append, List.mem_append, List.mem_cons, List.mem_map] at hnd
        obtain ⟨-, ⟨-, -, h2⟩, h3⟩ := hnd
        rcases hz with h | h
        · exact fun e => h3 z.1 ⟨z, h, rfl⟩ g (.inl (.inl rfl)) e
        · exact fun e => h2 g (.inl rfl) z.1 ⟨z, h, rfl⟩ e.symm
    refine ⟨hM.only.then hO (fun k hk => (hsown k (by simpa using hk)).1), fun z hz => ?_, ?_, fun z hz h1 => ?_⟩
    · rw [hL'] at hz
      rcases List.mem_append.1 hz with hz | hz
      · obtain ⟨hne, hzL⟩ := hrestne z (.inl hz)
        rw [hO.block z.1 (hM.lt hzL) (fun hm => hne z.1 (by simpa using hm) rfl)]
        exact hM.holds z hzL
      · rcases List.mem_append.1 hz with hz | hz
        · exact hh' z hz
        · obtain ⟨hne, hzL⟩ := hrestne z (.inr hz)
          rw [hO.block z.1 (hM.lt hzL) (fun hm => hne z.1 (by simpa using hm) rfl)]
          exact hM.holds z hzL
    · rw [hL']
      cases hse : s' with
      | none =>
        simp only [slL, List.nil_append]
        have : (A' ++ B').Sublist (A' ++ (slL s xs e size ++ B')) := List.Sublist.append_left (List.sublist_append_right _ _) _
        exact List.Sublist.nodup (this.map _) hnd
      | some gc =>
        obtain ⟨g', cp'⟩ := gc
        have hn := hsnew g' (by rw [hse]; rfl)
        have hfree : ∀ z, z ∈ A' ∨ z ∈ B' → z.1 ≠ g' := fun z hz e => by
          obtain ⟨hne, hzL⟩ := hrestne z hz
          rcases hn.2 with h2 | h2
          · exact hne g' h2 e
          · have := hM.lt hzL
            omega
        have hAB : ((A' ++ B').map (·.1)).Nodup := by
          have : (A' ++ B').Sublist (A' ++ (slL s xs e size ++ B')) := List.Sublist.append_left (List.sublist_append_right _ _) _
          exact List.Sublist.nodup (this.map _) hnd
        simp only [List.map_append, List.nodup_append, List.mem_map] at hAB
        simp only [slL, List.map_append, List.map_cons, List.map_nil, List.nodup_append, List.mem_append, List.mem_cons, List.mem_map, List.cons_append, List.nil_append, List.nodup_cons]
        refine ⟨hAB.1, ⟨fun ⟨z, hz, e⟩ => hfree z (.inr hz) e, hAB.2.1⟩, fun k hk u hu => ?_⟩
        obtain ⟨z, hz, rfl⟩ := hk
        rcases hu with rfl | hu
        · exact hfree z (.inl hz)
        · exact hAB.2.2 z.1 ⟨z, hz, rfl⟩ u hu
    · rw [hL'] at hz
      rcases List.mem_append.1 hz with hz | hz
      · exact hM.own z (hrestne z (.inl hz)).2 h1
      · rcases List.mem_append.1 hz with hz | hz
        · cases hse : s' with
          | none => rw [hse] at hz; cases hz
          | some gc =>
            obtain ⟨g', cp'⟩ := gc
            rw [hse] at hz
            obtain rfl := List.mem_singleton.1 hz
            exact (hsnew g' (by rw [hse]; rfl)).1
        · exact hM.own z (hrestne z (.inr hz)).2 h1
  refine wpSeq_turns hc hw hrun (.inl rfl) (fun h2 hh => ?_) (h w' s' hM' hk' (fun hp e => ?_) fun hs0 e => ?_)
  · refine ⟨hM'.only, ?_⟩
    exact fun z hz => by
      rw [hO.block z.1 (hh.has.lt hz) (fun hm => hS h2 z hz z.1 (by simpa using hm) rfl)]
      exact hh.has z hz
  · subst e
    have := hk'.2
    simp only at this
    omega
  · subst e
    rw [hb', hob] at hat
    rcases hat with h1 | h1
    · cases s with
      | none => exact hs0 rfl
      | some _ => cases h1
    · cases h1
theorem St.append2 (hx : o.op = .call { callee := .builtin .append, args := #[x, y], argTypes := #[t, t] }) (hM : St w0 F w L) (hc : (c == 2 || c == 3) = true) (hw : Region.wanted o (yielded ops a.tmps) = true) {s : Option (Nat × Nat)} {n : Nat} (hs : a.eval x = slV s n) {ad : Addr} {m cap : Nat} (hy : a.eval y = .slice (some ad) m cap) {size bytes : Nat} (hE : elemIn elemTab t = some (e, size, bytes)) (hB : appB P t e size bytes = true)
    {xs news : List Value} {L' : Option (Nat × Nat) → List Ent} (hL : ∀ s', Swap L (slL s xs e size) (slL s' (xs ++ news) e size) (L' s')) (hk : SlOK s n xs size) (hl : news.length = m * size) (hnews : ∀ j u, news[j]? = some u → w.cell? (ad.add j) = some u) (h1 : news.all (·.oneCell') = true) (h63 : n + m ≤ maxLen) (hby : (n + m) * bytes ≤ 140737488355328)
    (hS : c = 2 → ∀ z ∈ Lr, ∀ k, s.map (·.1) = some k → z.1 ≠ k) (h : ∀ w' s', St w0 F w' (L' s') → SlOK s' (n + m) (xs ++ news) size → (0 < n + m → s' ≠ none) → wpSeq P ops K (Held w0 F Lr) l (a.put o.dst (slV s' (n + m))) w') : wpSeq P ops K (Held w0 F Lr) ((o, c) :: l) a w := by
  obtain ⟨i, z, e1, e2, e3, e4, e5, e6, e7⟩ := appB_spec hB
  obtain ⟨A, B, hA, -⟩ := (hL none).split
  have hown : w.ownsRow 0 e size (slV s n) n xs := ownsRow_of (fun z hz => hM.holds z (by rw [hA]; simp [hz])) hk
  obtain ⟨v', w', hr, ho', hg, -, hat⟩ := run_append_own_at (P := P) w 0 t o.type e i z size bytes e1 e2 e3 e4 e5 e6 e7 (slV s n) n xs hown ad m cap news hl hnews (by simpa using h1) h63 hby (Nat.zero_le _)
  refine St.appendCore2 (v' := v') (w' := w') hM hc hw hL ?_ ho' hg hat hS fun w' s' a1 a2 a3 _ => h w' s' a1 a2 a3
  unfold execOp
  simp only [hx, resolve, invoke, builtin, Sem.run_bind, Sem.run_pure, Result.andThen_ok, List.map_toArray, List.map_cons, List.map_nil, hs, hy, hr]
end
end Go.Proofs.YtcicjklhbnipcaaGreat
