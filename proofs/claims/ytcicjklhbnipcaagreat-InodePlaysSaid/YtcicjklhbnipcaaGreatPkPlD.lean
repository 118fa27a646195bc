/-
  Texts laid one behind the other: what RgS asks for.
-/
import Derived.Test.YtcicjklhbnipcaaGreatPkPlC
import Derived.ArgAppend
import Derived.Lib.ConvBytes
namespace Go.Proofs.YtcicjklhbnipcaaGreat
set_option linter.unusedVariables false
set_option linter.unusedSimpArgs false
open Go.RowKit Go.Maps
section
variable {w w' w0 : World} {F : List Nat} {L M : List Ent} {zs : List NodV} {x : RX} {t : TabD} {N : Nat} {q nx : Int}
set_option maxHeartbeats 8000000 in
set_option maxRecDepth 100000 in
theorem rRemove_any (h : RIs x t zs w0) (I : In.Inv N t) (hN : N ≤ 900000) (dir : Int) (s : ByteArray) (hs : s.size ≤ 1000000000) :
    Calls Tryz.prog 33 #[.pointer (some ⟨x.g, 0, none⟩), .int .i64 dir, .string s] w0 fun e w' => e = .returned (.int .i64 (In.remove t dir s).1) ∧ RDid x t zs (In.remove t dir s).2 w0 w' := by
  by_cases hF : In.findE t dir s = 0
  · obtain ⟨d, hd, hdd, hl, hfn⟩ := In.findE_ok hF
    obtain ⟨n, hn⟩ := I.leads d (In.find_some hd).1 _ (In.leads_some hl)
    simp only at hn
    obtain ⟨z, hfz, hzd⟩ := h.some hd
    obtain ⟨y, hfy, hyn⟩ := h.some hn
    subst hzd hyn
    have hy := (rfind_mem hfy).1
    have hz := (rfind_mem hfz).1
    (obtain ⟨g, xs⟩ := x; obtain ⟨va, vc, hv, -⟩ := slV_open h.raw.sl; have hM : St w0 [g] w0 (rL ⟨g, xs⟩ t.quota (t.last + 1) zs) := h.raw.st; have HRP := Lib.hid (RP.start h.raw); have HOP := Lib.hid (fun nx => rL_open (x := ⟨g, xs⟩) (zs := zs) hv t.quota nx); obtain ⟨U, hU⟩ : ∃ U, (nodL xs zs ++ zs.flatMap NodV.ents).map unflag = U := ⟨_, rfl⟩; simp only [hU] at HOP; rw [HOP.out] at hM; have HAT := Lib.hid (fun (W : World) (hA : At ((g, true, Res.cells [.int .i64 t.quota, .int .i64 (t.last + 1), .slice va zs.length vc] 43) :: U) W) => (show RIs ⟨g, xs⟩ t zs W from ⟨RRaw.of (by rw [HOP.out]; exact hA) h.raw.sl h.raw.names h.raw.len, h.nodes⟩)); have HB := Lib.hid (fun (W : World) (hA : At ((g, true, Res.cells [.int .i64 t.quota, .int .i64 (t.last + 1), .slice va zs.length vc] 43) :: U) W) (ho : Only [g] w0 W) => (show RDid ⟨g, xs⟩ t zs t w0 W from ⟨xs, zs, h.nodes, HRP.out.to (by rw [HOP.out]; exact hA) ho⟩)))
    obtain ⟨ya, yc, hyv, -⟩ := slV_open (h.raw.names y hy)
    obtain ⟨wa, wc, hwv, -⟩ := slV_open (h.raw.names z hz)
    have HFI := Lib.hid (fun (W : World) (hA : At ((g, true, Res.cells [.int .i64 t.quota, .int .i64 (t.last + 1), .slice va zs.length vc] 43) :: U) W) => rFindE_any (HAT.out W hA) I hN dir s hs)
    have HG := Lib.hid (fun (W : World) (hA : At ((g, true, Res.cells [.int .i64 t.quota, .int .i64 (t.last + 1), .slice va zs.length vc] 43) :: U) W) => rget_some (HAT.out W hA).raw hfy)
    rw [hF, hfn] at HFI
    rw [NodV.open hyv] at HG
    cases hyd : y.1.dir with
    | false =>
      have HE := Lib.hid (remove_bad (t := t) (dir := dir) (s := s) (e := 12) (by decide) (by rw [removeE_find hF (by rw [hfn]; exact hn), hyd]; rfl))
      rw [hyd] at HG
      generalize In.leads z.1.names s = k at *
      (have HH := Lib.hid h; have HI := Lib.hid I; clear h I hv hU)
      clear hF hd hdd hl hfn hn
      go_enter Tryz.func33, Tryz.ntmps33
      (repeat (first | ((with_reducible show wpSeq _ _ _ _ _ _ _); first | ((with_reducible refine wpSeq_nil ?_); refine hKr.out _ _ ?_; clear hKr Kr) | (((refine St.copy (v := ?_) (by first | exact .inl rfl | exact .inr rfl) rfl rfl ?_ ?_; rotate_left; (focus ((try simp only [Act.eval, getD_lit, qGz, qGs]); with_reducible rfl)))); (try simp only [Act.put, qSa, qSz, qSs]))) | (first | (refine wp_seq_shut (fun K hK => ?_)) | (refine wp_text hM (fun Kr hKr => ?_); simp only [List.append_eq, List.cons_append, List.nil_append, inText]) | ((refine hK.out _ _ ?_); clear hK K))))
      ((refine St.call3 rfl rfl (by kernel_rfl) (fun R hR => ?_); simp only [List.map_toArray, List.map_cons, List.map_nil, Act.eval, getD_lit, qGz, qGs]); refine (HFI.out _ (hM.part (by repeat (exact Part.all)))).mono ?_; (rintro e w' ⟨rfl, hb⟩; refine hR.out _ _ ?_; clear hR R; replace hM := hM.below hb; clear hb; (try simp only [Act.put, qSa, qSz, qSs])))
      (repeat (first | ((with_reducible show wpSeq _ _ _ _ _ _ _); first | ((with_reducible refine wpSeq_nil ?_); refine hKr.out _ _ ?_; clear hKr Kr) | ((first | (refine St.copy (v := ?_) (by first | exact .inl rfl | exact .inr rfl) rfl rfl ?_ ?_; rotate_left; (focus ((try simp only [Act.eval, getD_lit, qGz, qGs]); with_reducible rfl))) | (refine St.pure (v := ?_) rfl rfl rfl (fun w => ?_) ?_; rotate_left; (focus (go_simp; all_goals with_reducible rfl)))); (try simp only [Act.put, qSa, qSz, qSs]))) | (first | (refine wp_seq_shut (fun K hK => ?_)) | (refine wp_text hM (fun Kr hKr => ?_); simp only [List.append_eq, List.cons_append, List.nil_append, inText]) | refine wp_skip ?_ | (refine wp_cond_false rfl ?_) | ((refine hK.out _ _ ?_); clear hK K))))
      ((refine St.call3 rfl rfl (by kernel_rfl) (fun R hR => ?_); simp only [List.map_toArray, List.map_cons, List.map_nil, Act.eval, getD_lit, qGz, qGs]); refine (HG.out _ (hM.part (by repeat (exact Part.all)))).mono ?_; (rintro e w' ⟨rfl, hb⟩; refine hR.out _ _ ?_; clear hR R; replace hM := hM.below hb; clear hb; (try simp only [Act.put, qSa, qSz, qSs])))
      (repeat (first | ((with_reducible show wpSeq _ _ _ _ _ _ _); first | ((with_reducible refine wpSeq_nil ?_); refine hKr.out _ _ ?_; clear hKr Kr) | ((first | (refine St.copy (v := ?_) (by first | exact .inl rfl | exact .inr rfl) rfl rfl ?_ ?_; rotate_left; (focus ((try simp only [Act.eval, getD_lit, qGz, qGs]); with_reducible rfl))) | (refine St.pure (v := ?_) rfl rfl rfl (fun w => ?_) ?_; rotate_left; (focus (go_simp; all_goals with_reducible rfl))) | refine St.load rfl hM rfl rfl rfl rfl (by repeat constructor) (by rfl) (by kernel_rfl) ?_ | ((((refine St.storeRow rfl hM rfl rfl rfl rfl rfl (by repeat constructor) (Nat.le_of_ble_eq_true rfl) (Nat.le_of_ble_eq_true rfl) (by kernel_rfl) rfl ?_ ?_); (focus ((intro h; cases h; done))); clear hM; intro w hM)); (try simp only [Res.put, Res.known, Act.eval, Value.cells, getD_lit, qGz, qGs, List.toList_toArray, qSz, qSs, over, Nat.reduceAdd] at hM))); (try simp only [Act.put, qSa, qSz, qSs])) | (((refine St.alloc (ty := 63) (z := .agg #[.int .i64 0, .bool false, .int .i64 0, .int .i64 0, .string ⟨#[]⟩, .slice none 0 0]) rfl hM rfl rfl (by kernel_rfl) ?_); clear hM; intro w bk hM); (try simp only [Res.put, Res.known, Act.eval, Value.cells, getD_lit, qGz, qGs, List.toList_toArray, qSz, qSs, over, Nat.reduceAdd] at hM); (try simp only [Act.put, qSa, qSz, qSs]))) | (first | (refine wp_seq_shut (fun K hK => ?_)) | (refine wp_text hM (fun Kr hKr => ?_); simp only [List.append_eq, List.cons_append, List.nil_append, inText]) | (refine wp_cond_true rfl ?_) | ((refine hK.out _ _ ?_); clear hK K))))
      (((refine wp_ret ?_; (try simp only [Exit.then, Exit.inBlock]); refine St.ret hM rfl (by repeat (first | exact Outs.nil | apply Outs.tmp rfl)) rfl ?_)); (rw [HE.out]); exact ⟨rfl, HB.out _ (hM.part (by repeat (first | exact Part.all | apply Part.skip))) hM.only⟩)
    | true =>
      rw [hyd] at HG
      by_cases hl0 : 0 < y.1.names.length
      · have HE := Lib.hid (remove_bad (t := t) (dir := dir) (s := s) (e := 7) (by decide) (by rw [removeE_find hF (by rw [hfn]; exact hn), hyd, if_pos rfl, if_pos hl0]))
        have k7 : 0 < y.1.names.length := hl0
        generalize In.leads z.1.names s = k at *
        (have HH := Lib.hid h; have HI := Lib.hid I; clear h I hv hU)
        clear hF hd hdd hl hfn hn hl0
        go_enter Tryz.func33, Tryz.ntmps33
        (repeat (first | ((with_reducible show wpSeq _ _ _ _ _ _ _); first | ((with_reducible refine wpSeq_nil ?_); refine hKr.out _ _ ?_; clear hKr Kr) | (((refine St.copy (v := ?_) (by first | exact .inl rfl | exact .inr rfl) rfl rfl ?_ ?_; rotate_left; (focus ((try simp only [Act.eval, getD_lit, qGz, qGs]); with_reducible rfl)))); (try simp only [Act.put, qSa, qSz, qSs]))) | (first | (refine wp_seq_shut (fun K hK => ?_)) | (refine wp_text hM (fun Kr hKr => ?_); simp only [List.append_eq, List.cons_append, List.nil_append, inText]) | ((refine hK.out _ _ ?_); clear hK K))))
        ((refine St.call3 rfl rfl (by kernel_rfl) (fun R hR => ?_); simp only [List.map_toArray, List.map_cons, List.map_nil, Act.eval, getD_lit, qGz, qGs]); refine (HFI.out _ (hM.part (by repeat (exact Part.all)))).mono ?_; (rintro e w' ⟨rfl, hb⟩; refine hR.out _ _ ?_; clear hR R; replace hM := hM.below hb; clear hb; (try simp only [Act.put, qSa, qSz, qSs])))
        (repeat (first | ((with_reducible show wpSeq _ _ _ _ _ _ _); first | ((with_reducible refine wpSeq_nil ?_); refine hKr.out _ _ ?_; clear hKr Kr) | ((first | (refine St.copy (v := ?_) (by first | exact .inl rfl | exact .inr rfl) rfl rfl ?_ ?_; rotate_left; (focus ((try simp only [Act.eval, getD_lit, qGz, qGs]); with_reducible rfl))) | (refine St.pure (v := ?_) rfl rfl rfl (fun w => ?_) ?_; rotate_left; (focus (go_simp; all_goals with_reducible rfl)))); (try simp only [Act.put, qSa, qSz, qSs]))) | (first | (refine wp_seq_shut (fun K hK => ?_)) | (refine wp_text hM (fun Kr hKr => ?_); simp only [List.append_eq, List.cons_append, List.nil_append, inText]) | refine wp_skip ?_ | (refine wp_cond_false rfl ?_) | ((refine hK.out _ _ ?_); clear hK K))))
        ((refine St.call3 rfl rfl (by kernel_rfl) (fun R hR => ?_); simp only [List.map_toArray, List.map_cons, List.map_nil, Act.eval, getD_lit, qGz, qGs]); refine (HG.out _ (hM.part (by repeat (exact Part.all)))).mono ?_; (rintro e w' ⟨rfl, hb⟩; refine hR.out _ _ ?_; clear hR R; replace hM := hM.below hb; clear hb; (try simp only [Act.put, qSa, qSz, qSs])))
        (repeat (first | ((with_reducible show wpSeq _ _ _ _ _ _ _); first | ((with_reducible refine wpSeq_nil ?_); refine hKr.out _ _ ?_; clear hKr Kr) | ((first | (refine St.copy (v := ?_) (by first | exact .inl rfl | exact .inr rfl) rfl rfl ?_ ?_; rotate_left; (focus ((try simp only [Act.eval, getD_lit, qGz, qGs]); with_reducible rfl))) | (refine St.pure (v := ?_) rfl rfl rfl (fun w => ?_) ?_; rotate_left; (focus (go_simp; all_goals with_reducible rfl))) | refine St.load rfl hM rfl rfl rfl rfl (by repeat constructor) (by rfl) (by kernel_rfl) ?_ | ((((refine St.storeRow rfl hM rfl rfl rfl rfl rfl (by repeat constructor) (Nat.le_of_ble_eq_true rfl) (Nat.le_of_ble_eq_true rfl) (by kernel_rfl) rfl ?_ ?_); (focus ((intro h; cases h; done))); clear hM; intro w hM)); (try simp only [Res.put, Res.known, Act.eval, Value.cells, getD_lit, qGz, qGs, List.toList_toArray, qSz, qSs, over, Nat.reduceAdd] at hM))); (try simp only [Act.put, qSa, qSz, qSs])) | (((refine St.alloc (ty := 63) (z := .agg #[.int .i64 0, .bool false, .int .i64 0, .int .i64 0, .string ⟨#[]⟩, .slice none 0 0]) rfl hM rfl rfl (by kernel_rfl) ?_); clear hM; intro w bk hM); (try simp only [Res.put, Res.known, Act.eval, Value.cells, getD_lit, qGz, qGs, List.toList_toArray, qSz, qSs, over, Nat.reduceAdd] at hM); (try simp only [Act.put, qSa, qSz, qSs]))) | (first | (refine wp_seq_shut (fun K hK => ?_)) | (refine wp_text hM (fun Kr hKr => ?_); simp only [List.append_eq, List.cons_append, List.nil_append, inText]) | refine wp_skip ?_ | (first | refine wp_cond_true rfl ?_ | refine wp_cond_false rfl ?_) | ((refine hK.out _ _ ?_); clear hK K))))
        (((refine wp_ret ?_; (try simp only [Exit.then, Exit.inBlock]); refine St.ret hM rfl (by repeat (first | exact Outs.nil | apply Outs.tmp rfl)) rfl ?_)); (rw [HE.out]); exact ⟨rfl, HB.out _ (hM.part (by repeat (first | exact Part.all | apply Part.skip))) hM.only⟩)
      · have HE := Lib.hid (remove_yes (t := t) (dir := dir) (s := s) (by rw [removeE_find hF (by rw [hfn]; exact hn), hyd, if_pos rfl, if_neg hl0]))
        have k7 : decide (0 < y.1.names.length) = false := decide_eq_false (by omega)
        have hne : In.leads z.1.names s ≠ dir := fun e => by
          rw [e, hd] at hn
          have h1 := In.leads_some hl
          rw [Option.some.inj hn] at h1
          have := List.length_pos_of_mem h1
          omega
        have hy1 : y.1.links = 1 := (I.alive y.1 (h.mem hy) (by have := (I.pos y.1 (h.mem hy)).1; omega)).2 hyd
        have HD := Lib.hid (fun (W : World) (hA : At ((g, true, Res.cells [.int .i64 t.quota, .int .i64 (t.last + 1), .slice va zs.length vc] 43) :: U) W) => rget_some (HAT.out W hA).raw hfz)
        have HWO := Lib.hid (fun (W : World) (hA : At ((g, true, Res.cells [.int .i64 t.quota, .int .i64 (t.last + 1), .slice va zs.length vc] 43) :: U) W) => rwithout_any z ((HAT.out W hA).raw.nm (h.nl I hN) hz) s)
        rw [NodV.open hwv] at HD HWO
        have HID := Lib.hid (h.ids I)
        have HKP := Lib.hid (fun p' => rset_keep (z0 := ((z.1.setNames (In.without z.1.names s), p') : NodV)) hy (show y.1.id ≠ z.1.id by rw [(rfind_mem hfy).2, (rfind_mem hfz).2]; exact hne))
        have HNO := Lib.hid (fun p' => (show (rset (rset zs ((z.1.setNames (In.without z.1.names s), p') : NodV)) ((y.1.setLinks 0, y.2) : NodV)).map (·.1) = (In.loses t dir s).nodes by
          rw [rput_nodes, rput_nodes, h.nodes]
          show In.rput (In.rput t.nodes (z.1.setNames (In.without z.1.names s))) (y.1.setLinks 0) = _
          rw [In.rput_without I hd s]
          exact In.rput_loses I hd rfl hn hne (by rw [hy1]; rfl) (by show (0 : Int) ≤ 0; omega)))
        have HYC := Lib.hid (show NodV.cells (y.1.setLinks 0, y.2) = [.int .i64 y.1.id, .bool true, .int .i64 0, .int .i64 y.1.holds, .string y.1.data, .slice ya y.1.names.length yc] by rw [NodV.open (z := (y.1.setLinks 0, y.2)) hyv, ← hyd]; rfl)
        (have HH := Lib.hid h; have HI := Lib.hid I; clear h I hv hU)
        generalize hk : In.leads z.1.names s = k at HFI HG
        clear hF hd hdd hl hfn hn hyd hne hy1 hyv hk hl0
        go_enter Tryz.func33, Tryz.ntmps33
        (repeat (first | ((with_reducible show wpSeq _ _ _ _ _ _ _); first | ((with_reducible refine wpSeq_nil ?_); refine hKr.out _ _ ?_; clear hKr Kr) | (((refine St.copy (v := ?_) (by first | exact .inl rfl | exact .inr rfl) rfl rfl ?_ ?_; rotate_left; (focus ((try simp only [Act.eval, getD_lit, qGz, qGs]); with_reducible rfl)))); (try simp only [Act.put, qSa, qSz, qSs]))) | (first | (refine wp_seq_shut (fun K hK => ?_)) | (refine wp_text hM (fun Kr hKr => ?_); simp only [List.append_eq, List.cons_append, List.nil_append, inText]) | ((refine hK.out _ _ ?_); clear hK K))))
        ((refine St.call3 rfl rfl (by kernel_rfl) (fun R hR => ?_); simp only [List.map_toArray, List.map_cons, List.map_nil, Act.eval, getD_lit, qGz, qGs]); refine (HFI.out _ (hM.part (by repeat (exact Part.all)))).mono ?_; (rintro e w' ⟨rfl, hb⟩; refine hR.out _ _ ?_; clear hR R; replace hM := hM.below hb; clear hb; (try simp only [Act.put, qSa, qSz, qSs])))
        (repeat (first | ((with_reducible show wpSeq _ _ _ _ _ _ _); first | ((with_reducible refine wpSeq_nil ?_); refine hKr.out _ _ ?_; clear hKr Kr) | ((first | (refine St.copy (v := ?_) (by first | exact .inl rfl | exact .inr rfl) rfl rfl ?_ ?_; rotate_left; (focus ((try simp only [Act.eval, getD_lit, qGz, qGs]); with_reducible rfl))) | (refine St.pure (v := ?_) rfl rfl rfl (fun w => ?_) ?_; rotate_left; (focus (go_simp; all_goals with_reducible rfl)))); (try simp only [Act.put, qSa, qSz, qSs]))) | (first | (refine wp_seq_shut (fun K hK => ?_)) | (refine wp_text hM (fun Kr hKr => ?_); simp only [List.append_eq, List.cons_append, List.nil_append, inText]) | refine wp_skip ?_ | (refine wp_cond_false rfl ?_) | ((refine hK.out _ _ ?_); clear hK K))))
        ((refine St.call3 rfl rfl (by kernel_rfl) (fun R hR => ?_); simp only [List.map_toArray, List.map_cons, List.map_nil, Act.eval, getD_lit, qGz, qGs]); refine (HG.out _ (hM.part (by repeat (exact Part.all)))).mono ?_; (rintro e w' ⟨rfl, hb⟩; refine hR.out _ _ ?_; clear hR R; replace hM := hM.below hb; clear hb; (try simp only [Act.put, qSa, qSz, qSs])))
        (repeat (first | ((with_reducible show wpSeq _ _ _ _ _ _ _); first | ((with_reducible refine wpSeq_nil ?_); refine hKr.out _ _ ?_; clear hKr Kr) | ((first | (refine St.copy (v := ?_) (by first | exact .inl rfl | exact .inr rfl) rfl rfl ?_ ?_; rotate_left; (focus ((try simp only [Act.eval, getD_lit, qGz, qGs]); with_reducible rfl))) | (refine St.pure (v := ?_) rfl rfl rfl (fun w => ?_) ?_; rotate_left; (focus (go_simp; all_goals with_reducible rfl))) | refine St.load rfl hM rfl rfl rfl rfl (by repeat constructor) (by rfl) (by kernel_rfl) ?_ | ((((refine St.storeRow rfl hM rfl rfl rfl rfl rfl (by repeat constructor) (Nat.le_of_ble_eq_true rfl) (Nat.le_of_ble_eq_true rfl) (by kernel_rfl) rfl ?_ ?_); (focus ((intro h; cases h; done))); clear hM; intro w hM)); (try simp only [Res.put, Res.known, Act.eval, Value.cells, getD_lit, qGz, qGs, List.toList_toArray, qSz, qSs, over, Nat.reduceAdd] at hM))); (try simp only [Act.put, qSa, qSz, qSs])) | (((refine St.alloc (ty := 63) (z := .agg #[.int .i64 0, .bool false, .int .i64 0, .int .i64 0, .string ⟨#[]⟩, .slice none 0 0]) rfl hM rfl rfl (by kernel_rfl) ?_); clear hM; intro w bk hM); (try simp only [Res.put, Res.known, Act.eval, Value.cells, getD_lit, qGz, qGs, List.toList_toArray, qSz, qSs, over, Nat.reduceAdd] at hM); (try simp only [Act.put, qSa, qSz, qSs]))) | (first | (refine wp_seq_shut (fun K hK => ?_)) | (refine wp_text hM (fun Kr hKr => ?_); simp only [List.append_eq, List.cons_append, List.nil_append, inText]) | refine wp_skip ?_ | (refine wp_cond_false rfl ?_) | ((refine hK.out _ _ ?_); clear hK K))))
        ((refine St.call3 rfl rfl (by kernel_rfl) (fun R hR => ?_); simp only [List.map_toArray, List.map_cons, List.map_nil, Act.eval, getD_lit, qGz, qGs]); refine (HD.out _ (hM.part (by repeat (first | exact Part.all | apply Part.skip)))).mono ?_; (rintro e w' ⟨rfl, hb⟩; refine hR.out _ _ ?_; clear hR R; replace hM := hM.below hb; clear hb; (try simp only [Act.put, qSa, qSz, qSs])))
        (repeat (first | ((with_reducible show wpSeq _ _ _ _ _ _ _); first | ((with_reducible refine wpSeq_nil ?_); refine hKr.out _ _ ?_; clear hKr Kr) | ((first | (refine St.copy (v := ?_) (by first | exact .inl rfl | exact .inr rfl) rfl rfl ?_ ?_; rotate_left; (focus ((try simp only [Act.eval, getD_lit, qGz, qGs]); with_reducible rfl))) | (refine St.pure (v := ?_) rfl rfl rfl (fun w => ?_) ?_; rotate_left; (focus (go_simp; all_goals with_reducible rfl))) | ((refine St.loadRow rfl hM rfl rfl rfl rfl (by repeat constructor) (Nat.le_of_ble_eq_true rfl) (by kernel_rfl) ?_); (try simp only [Res.known, List.drop_succ_cons, List.drop_zero, List.take_succ_cons, List.take_zero])) | ((((refine St.storeRow rfl hM rfl rfl rfl rfl rfl (by repeat constructor) (Nat.le_of_ble_eq_true rfl) (Nat.le_of_ble_eq_true rfl) (by kernel_rfl) rfl ?_ ?_); (focus ((intro h; cases h; done))); clear hM; intro w hM)); (try simp only [Res.put, Res.known, Act.eval, Value.cells, getD_lit, qGz, qGs, List.toList_toArray, qSz, qSs, over, Nat.reduceAdd] at hM))); (try simp only [Act.put, qSa, qSz, qSs])) | (((refine St.alloc (ty := 63) (z := .agg #[.int .i64 0, .bool false, .int .i64 0, .int .i64 0, .string ⟨#[]⟩, .slice none 0 0]) rfl hM rfl rfl (by kernel_rfl) ?_); clear hM; intro w bk hM); (try simp only [Res.put, Res.known, Act.eval, Value.cells, getD_lit, qGz, qGs, List.toList_toArray, qSz, qSs, over, Nat.reduceAdd] at hM); (try simp only [Act.put, qSa, qSz, qSs]))) | (first | (refine wp_seq_shut (fun K hK => ?_)) | (refine wp_text hM (fun Kr hKr => ?_); simp only [List.append_eq, List.cons_append, List.nil_append, inText]) | ((refine hK.out _ _ ?_); clear hK K))))
        (refine St.call3 rfl rfl (by kernel_rfl) (fun R hR => ?_); simp only [List.map_toArray, List.map_cons, List.map_nil, Act.eval, getD_lit, qGz, qGs])
        refine (HWO.out _ (hM.part (by repeat (first | exact Part.all | apply Part.skip)))).mono ?_
        rintro e w' ⟨p', rfl, hok, hst⟩; refine hR.out _ _ ?_; clear hR R
        replace hM := hM.madeM hst (slL_flag _ _ _ _)
        clear hst
        rw [← HOP.out] at hM
        replace hM := (St.rot hM).forget.rot
        (try simp only [Act.put, qSa, qSz, qSs])
        (repeat (fail))
        (refine St.call3 rfl rfl (by kernel_rfl) (fun R hR => ?_); simp only [List.map_toArray, List.map_cons, List.map_nil, Act.eval, getD_lit, qGz, qGs])
        refine (rputX_any HRP.out hM (by intro s'; repeat (first | exact Swap.all | apply Swap.skip)) HID.out hok).mono ?_
        rintro e w' ⟨rfl, s1, hM1, hp1⟩; refine hR.out _ _ ?_; clear hR R hM
        have hM := St.unF hM1 (by repeat (first | exact Swap.all | apply Swap.skip))
        clear hM1
        (try simp only [Act.put, qSa, qSz, qSs])
        (repeat (first | ((with_reducible show wpSeq _ _ _ _ _ _ _); first | ((with_reducible refine wpSeq_nil ?_); refine hKr.out _ _ ?_; clear hKr Kr) | ((first | (refine St.copy (v := ?_) (by exact .inl rfl) rfl rfl ?_ ?_; rotate_left; (focus ((try simp only [Act.eval, getD_lit, qGz, qGs]); with_reducible rfl))) | (refine St.pure (v := ?_) rfl rfl rfl (fun w => ?_) ?_; rotate_left; (focus (go_simp; all_goals with_reducible rfl))) | ((refine St.loadRow rfl hM rfl rfl rfl rfl (by repeat constructor) (Nat.le_of_ble_eq_true rfl) (by kernel_rfl) ?_); (try simp only [Res.known, List.drop_succ_cons, List.drop_zero, List.take_succ_cons, List.take_zero])) | ((((refine St.store rfl hM rfl rfl rfl rfl rfl (by repeat constructor) (Nat.le_of_ble_eq_true rfl) (by kernel_rfl) rfl ?_ ?_); (focus ((intro h; cases h; done))); clear hM; intro w hM)); (try simp only [Res.put, Res.known, Act.eval, Value.cells, getD_lit, qGz, qGs, List.toList_toArray, qSz, qSs, over, Nat.reduceAdd] at hM))); (try simp only [Act.put, qSa, qSz, qSs]))) | (first | (refine wp_seq_shut (fun K hK => ?_)) | (refine wp_text hM (fun Kr hKr => ?_); simp only [List.append_eq, List.cons_append, List.nil_append, inText]) | ((refine hK.out _ _ ?_); clear hK K))))
        (refine St.call3 rfl rfl (by kernel_rfl) (fun R hR => ?_); simp only [List.map_toArray, List.map_cons, List.map_nil, Act.eval, getD_lit, qGz, qGs])
        have C := rputY_any hp1 hM (by intro s'; repeat (first | exact Swap.all | apply Swap.skip)) (ids_rset _ HID.out) (HKP.out p') (n := y.1.setLinks 0) rfl rfl
        rw [HYC.out] at C
        refine C.mono ?_
        clear C
        rintro e w' ⟨rfl, s2, hM1, hp2⟩; refine hR.out _ _ ?_; clear hR R hM
        have hM := hM1
        clear hM1
        (try simp only [Act.put, qSa, qSz, qSs])
        (repeat (first | ((with_reducible show wpSeq _ _ _ _ _ _ _); first | ((with_reducible refine wpSeq_nil ?_); refine hKr.out _ _ ?_; clear hKr Kr) | (((refine St.copy (v := ?_) (by exact .inr rfl) rfl rfl ?_ ?_; rotate_left; (focus ((try simp only [Act.eval, getD_lit, qGz, qGs]); with_reducible rfl)))); (try simp only [Act.put, qSa, qSz, qSs]))) | (first | (refine wp_seq_shut (fun K hK => ?_)) | (refine wp_text hM (fun Kr hKr => ?_); simp only [List.append_eq, List.cons_append, List.nil_append, inText]) | ((refine hK.out _ _ ?_); clear hK K))))
        ((refine wp_ret ?_; (try simp only [Exit.then, Exit.inBlock]); refine St.ret hM rfl (by repeat (first | exact Outs.nil | apply Outs.tmp rfl)) rfl ?_))
        rw [HE.out]
        refine ⟨rfl, s2, _, HNO.out p', ?_⟩
        rw [(In.loses_q dir s).1, (In.loses_q dir s).2]
        exact hp2.to (At.unF (hM.part (by repeat (first | exact Part.all | apply Part.skip)))) hM.only
  · (obtain ⟨g, xs⟩ := x; obtain ⟨va, vc, hv, -⟩ := slV_open h.raw.sl; have hM : St w0 [g] w0 (rL ⟨g, xs⟩ t.quota (t.last + 1) zs) := h.raw.st; have HRP := Lib.hid (RP.start h.raw); have HOP := Lib.hid (fun nx => rL_open (x := ⟨g, xs⟩) (zs := zs) hv t.quota nx); obtain ⟨U, hU⟩ : ∃ U, (nodL xs zs ++ zs.flatMap NodV.ents).map unflag = U := ⟨_, rfl⟩; simp only [hU] at HOP; rw [HOP.out] at hM; have HAT := Lib.hid (fun (W : World) (hA : At ((g, true, Res.cells [.int .i64 t.quota, .int .i64 (t.last + 1), .slice va zs.length vc] 43) :: U) W) => (show RIs ⟨g, xs⟩ t zs W from ⟨RRaw.of (by rw [HOP.out]; exact hA) h.raw.sl h.raw.names h.raw.len, h.nodes⟩)); have HB := Lib.hid (fun (W : World) (hA : At ((g, true, Res.cells [.int .i64 t.quota, .int .i64 (t.last + 1), .slice va zs.length vc] 43) :: U) W) (ho : Only [g] w0 W) => (show RDid ⟨g, xs⟩ t zs t w0 W from ⟨xs, zs, h.nodes, HRP.out.to (by rw [HOP.out]; exact hA) ho⟩)))
    have HFI := Lib.hid (fun (W : World) (hA : At ((g, true, Res.cells [.int .i64 t.quota, .int .i64 (t.last + 1), .slice va zs.length vc] 43) :: U) W) => rFindE_any (HAT.out W hA) I hN dir s hs)
    have HE := Lib.hid (remove_bad hF (removeE_bad hF))
    generalize In.findE t dir s = c at *
    generalize In.findN t dir s = k at *
    have q1 : (c != 0) = true := bne_iff_ne.2 hF
    (have HH := Lib.hid h; have HI := Lib.hid I; clear h I hv hU)
    clear hF
    go_enter Tryz.func33, Tryz.ntmps33
    (repeat (first | ((with_reducible show wpSeq _ _ _ _ _ _ _); first | ((with_reducible refine wpSeq_nil ?_); refine hKr.out _ _ ?_; clear hKr Kr) | (((refine St.copy (v := ?_) (by first | exact .inl rfl | exact .inr rfl) rfl rfl ?_ ?_; rotate_left; (focus ((try simp only [Act.eval, getD_lit, qGz, qGs]); with_reducible rfl)))); (try simp only [Act.put, qSa, qSz, qSs]))) | (first | (refine wp_seq_shut (fun K hK => ?_)) | (refine wp_text hM (fun Kr hKr => ?_); simp only [List.append_eq, List.cons_append, List.nil_append, inText]) | ((refine hK.out _ _ ?_); clear hK K))))
    ((refine St.call3 rfl rfl (by kernel_rfl) (fun R hR => ?_); simp only [List.map_toArray, List.map_cons, List.map_nil, Act.eval, getD_lit, qGz, qGs]); refine (HFI.out _ (hM.part (by repeat (exact Part.all)))).mono ?_; (rintro e w' ⟨rfl, hb⟩; refine hR.out _ _ ?_; clear hR R; replace hM := hM.below hb; clear hb; (try simp only [Act.put, qSa, qSz, qSs])))
    (repeat (first | ((with_reducible show wpSeq _ _ _ _ _ _ _); first | ((with_reducible refine wpSeq_nil ?_); refine hKr.out _ _ ?_; clear hKr Kr) | ((first | (refine St.copy (v := ?_) (by first | exact .inl rfl | exact .inr rfl) rfl rfl ?_ ?_; rotate_left; (focus ((try simp only [Act.eval, getD_lit, qGz, qGs]); with_reducible rfl))) | (refine St.pure (v := ?_) rfl rfl rfl (fun w => ?_) ?_; rotate_left; (focus (go_simp; all_goals with_reducible rfl)))); (try simp only [Act.put, qSa, qSz, qSs]))) | (first | (refine wp_seq_shut (fun K hK => ?_)) | (refine wp_text hM (fun Kr hKr => ?_); simp only [List.append_eq, List.cons_append, List.nil_append, inText]) | (refine wp_cond_true rfl ?_) | ((refine hK.out _ _ ?_); clear hK K))))
    (((refine wp_ret ?_; (try simp only [Exit.then, Exit.inBlock]); refine St.ret hM rfl (by repeat (first | exact Outs.nil | apply Outs.tmp rfl)) rfl ?_)); (rw [HE.out]); exact ⟨rfl, HB.out _ (hM.part (by repeat (exact Part.all))) hM.only⟩)
end
end Go.Proofs.YtcicjklhbnipcaaGreat
namespace Go.Proofs.YtcicjklhbnipcaaGreat
set_option linter.unusedVariables false
set_option linter.unusedSimpArgs false
open Go.RowKit Go.Maps
theorem St.forget2 {w0 w : World} {F : List Nat} {L : List Ent} {e f : Ent} (h : St w0 F w (e :: f :: L)) : St w0 F w (e :: L) := (h.perm (List.Perm.swap f e L)).forget
namespace In
section
variable {t : TabD} {N : Nat}
theorem rput_withD {δ : Int → Int} (I : InvD δ 0 N t) {dir : Int} {d : NodeD} (hd : find t.nodes dir = some d) {s : ByteArray} (hl : leads d.names s = 0) (id : Int) : rput t.nodes (d.setNames (ins (s, id) d.names)) = (nameIn t dir s id).nodes := by
  rw [ins_with I (find_some hd).1 hl]
  have ha := (I.alive d (find_some hd).1 (by have := (I.pos d (find_some hd).1).1; omega)).1
  unfold nameIn
  rw [at_some hd]
  exact rput_alive ha
theorem rename_end (I : Inv N t) {dir tod : Int} {s as_ : ByteArray} {d e : NodeD} (hd : find t.nodes dir = some d) (hdd : d.dir = true) (hl : leads d.names s ≠ 0) (he : find t.nodes tod = some e) (hw : leads e.names as_ = 0) (k : Int) : ∃ e3, find (nameOut t dir s).nodes tod = some e3 ∧ e3.names.length ≤ N ∧ rput (nameOut t dir s).nodes (e3.setNames (ins (as_, k) e3.names)) = (renameIn t dir s tod as_ k).nodes := by
  have I3 := inv_nameOut I hd hdd hl (by have := (I.pos d (find_some hd).1).1; omega)
  have hf := find_nameOut hd s tod
  obtain ⟨e3, h3, hl3⟩ : ∃ e3, find (nameOut t dir s).nodes tod = some e3 ∧ leads e3.names as_ = 0 := by
    by_cases hdt : tod = dir
    · rw [if_pos hdt] at hf
      refine ⟨_, hf, ?_⟩
      rw [hdt, hd] at he
      have hed := Option.some.inj he
      have hsr : as_ ≠ s := fun e => hl (by rw [← e, hed]; exact hw)
      show leads (without d.names s) as_ = 0
      rw [leads_without_ne hsr, hed]
      exact hw
    · rw [if_neg hdt] at hf
      exact ⟨e, hf.trans he, hw⟩
  refine ⟨e3, h3, ?_, rput_withD I3 h3 hl3 k⟩
  have := names_le (find_some h3).1
  have := I3.tot
  omega
theorem rename_mid (I : Inv N t) {dir tod : Int} {s as_ : ByteArray} {d e u : NodeD} (hd : find t.nodes dir = some d) (hdd : d.dir = true) (hl : leads d.names s ≠ 0) (he : find t.nodes tod = some e) (hed : e.dir = true) (hne : leads e.names as_ ≠ leads d.names s) (hwz : leads e.names as_ ≠ 0) (hu : find t.nodes (leads e.names as_) = some u) (hud : u.dir = false) :
    ∃ d2 e2, find (loses t tod as_).nodes dir = some d2 ∧ d2.dir = true ∧ leads d2.names s = leads d.names s ∧ find (loses t tod as_).nodes tod = some e2 ∧ leads e2.names as_ = 0 := by
  have ndw : ∀ {x : Int} {m : NodeD}, find t.nodes x = some m → m.dir = true → x ≠ leads e.names as_ := fun {x m} hm hmd hx => by
    rw [hx, hu] at hm; rw [← Option.some.inj hm, hud] at hmd; cases hmd
  have fd := find_loses he hu (ndw hd hdd)
  have fe := find_loses he hu (ndw he hed)
  rw [if_pos rfl] at fe
  by_cases hdt : dir = tod
  · rw [if_pos hdt] at fd
    refine ⟨_, _, fd, hed, ?_, fe, leads_none (has_without _ _)⟩
    rw [hdt, he] at hd
    have hde := Option.some.inj hd
    have hsr : s ≠ as_ := fun e => hne (by rw [← e, hde])
    show leads (without e.names as_) s = _
    rw [leads_without_ne hsr, hde]
  · rw [if_neg hdt] at fd
    exact ⟨d, _, fd.trans hd, hdd, rfl, fe, leads_none (has_without _ _)⟩
theorem rename_bad {dir tod : Int} {s as_ : ByteArray} {e : Int} (he : e ≠ 0) (h : renameE t dir s tod as_ = e) : rename t dir s tod as_ = (e, t) := by
  unfold rename
  rw [h, beq_eq_false_iff_ne.2 he]
  rfl
theorem rename_yes {dir tod : Int} {s as_ : ByteArray} (h : renameE t dir s tod as_ = 0) : rename t dir s tod as_ = (0, renameT t dir s tod as_) := by
  unfold rename
  rw [h]
  rfl
theorem renameE_un {dir tod : Int} {s as_ : ByteArray} (h : unlinkE t dir s ≠ 0) : renameE t dir s tod as_ = unlinkE t dir s := by
  unfold renameE
  rw [beq_eq_false_iff_ne.2 h]
  rfl
theorem renameE_place {dir tod : Int} {s as_ : ByteArray} (h : unlinkE t dir s = 0) (hp : placeE t tod as_ ≠ 0) : renameE t dir s tod as_ = placeE t tod as_ := by
  unfold renameE
  rw [h, beq_eq_false_iff_ne.2 hp]
  rfl
theorem renameE_at {dir tod : Int} {s as_ : ByteArray} {e : NodeD} (h : unlinkE t dir s = 0) (hp : placeE t tod as_ = 0) (he : find t.nodes tod = some e) : renameE t dir s tod as_ = if leads e.names as_ = findN t dir s then 0 else if leads e.names as_ = 0 then 0 else if (at_ t (leads e.names as_)).dir then 12 else 0 := by
  unfold renameE
  rw [h, hp, at_some he]
  by_cases h1 : leads e.names as_ = findN t dir s
  · simp [h1]
  · by_cases h2 : leads e.names as_ = 0
    · simp [h2]
    · simp [h1, h2]
theorem renameT_at {dir tod : Int} {s as_ : ByteArray} {e : NodeD} (he : find t.nodes tod = some e) : renameT t dir s tod as_ = if leads e.names as_ = findN t dir s then t else if leads e.names as_ = 0 then renameIn t dir s tod as_ (findN t dir s) else renameIn (loses t tod as_) dir s tod as_ (findN t dir s) := by
  unfold renameT
  rw [at_some he]
  by_cases h1 : leads e.names as_ = findN t dir s
  · simp [h1]
  · by_cases h2 : leads e.names as_ = 0
    · simp [h2]
    · simp [h1, h2]
end
end In
end Go.Proofs.YtcicjklhbnipcaaGreat
namespace Go.Proofs.YtcicjklhbnipcaaGreat
set_option linter.unusedVariables false
set_option linter.unusedSimpArgs false
open Go.RowKit Go.Maps
section
variable {w w' w0 : World} {F : List Nat} {L M : List Ent} {zs : List NodV} {x : RX} {t : TabD} {N : Nat} {q nx : Int}
set_option maxHeartbeats 8000000 in
set_option maxRecDepth 100000 in
theorem rfile_none (h : RRaw x q nx zs w0) {id : Int} (a b : Int) (hf : rfind zs id = none) : Calls Tryz.prog 59 #[.pointer (some ⟨x.g, 0, none⟩), .int .i64 id, .int .i64 a, .int .i64 b] w0 fun e w' => e = .returned (.tuple #[nodZ, .int .i64 3]) ∧ Below w0.heap.size w0 w' := by
  have hM := St.start w0 []
  have HC := Lib.hid (fun (W : World) (hb : Below w0.heap.size w0 W) => rget_none (h.below hb) hf)
  unfold nodZ at HC
  clear h hf
  go_enter Tryz.func59, Tryz.ntmps59
  (repeat (first | ((with_reducible show wpSeq _ _ _ _ _ _ _); first | ((with_reducible refine wpSeq_nil ?_); refine hKr.out _ _ ?_; clear hKr Kr) | (((refine St.copy (v := ?_) (by first | exact .inl rfl | exact .inr rfl) rfl rfl ?_ ?_; rotate_left; (focus ((try simp only [Act.eval, getD_lit, qGz, qGs]); with_reducible rfl)))); (try simp only [Act.put, qSa, qSz, qSs])) | (((refine St.alloc (ty := 63) (z := .agg #[.int .i64 0, .bool false, .int .i64 0, .int .i64 0, .string ⟨#[]⟩, .slice none 0 0]) rfl hM rfl rfl (by kernel_rfl) ?_); clear hM; intro w bk hM); (try simp only [Res.put, Res.known, Act.eval, Value.cells, getD_lit, qGz, qGs, List.toList_toArray, qSz, qSs, over, Nat.reduceAdd] at hM); (try simp only [Act.put, qSa, qSz, qSs]))) | (first | (refine wp_seq_shut (fun K hK => ?_)) | (refine wp_text hM (fun Kr hKr => ?_); simp only [List.append_eq, List.cons_append, List.nil_append, inText]) | ((refine hK.out _ _ ?_); clear hK K))))
  (refine St.call3 rfl rfl (by kernel_rfl) (fun R hR => ?_); simp only [List.map_toArray, List.map_cons, List.map_nil, Act.eval, getD_lit, qGz, qGs])
  refine (HC.out _ hM.to_below).mono ?_
  (rintro e w' ⟨rfl, hb⟩; refine hR.out _ _ ?_; clear hR R; replace hM := hM.below hb; clear hb; (try simp only [Act.put, qSa, qSz, qSs]))
  (repeat (first | ((with_reducible show wpSeq _ _ _ _ _ _ _); first | ((with_reducible refine wpSeq_nil ?_); refine hKr.out _ _ ?_; clear hKr Kr) | ((first | (refine St.copy (v := ?_) (by first | exact .inl rfl | exact .inr rfl) rfl rfl ?_ ?_; rotate_left; (focus ((try simp only [Act.eval, getD_lit, qGz, qGs]); with_reducible rfl))) | (refine St.pure (v := ?_) rfl rfl rfl (fun w => ?_) ?_; rotate_left; (focus (go_simp; all_goals with_reducible rfl))) | ((refine St.loadRow rfl hM rfl rfl rfl rfl (by repeat constructor) (Nat.le_of_ble_eq_true rfl) (by kernel_rfl) ?_); (try simp only [Res.known, List.drop_succ_cons, List.drop_zero, List.take_succ_cons, List.take_zero])) | ((((refine St.storeRow rfl hM rfl rfl rfl rfl rfl (by repeat constructor) (Nat.le_of_ble_eq_true rfl) (Nat.le_of_ble_eq_true rfl) (by kernel_rfl) rfl ?_ ?_); (focus ((intro h; cases h; done))); clear hM; intro w hM)); (try simp only [Res.put, Res.known, Act.eval, Value.cells, getD_lit, qGz, qGs, List.toList_toArray, qSz, qSs, over, Nat.reduceAdd] at hM))); (try simp only [Act.put, qSa, qSz, qSs])) | (((refine St.alloc (ty := 63) (z := .agg #[.int .i64 0, .bool false, .int .i64 0, .int .i64 0, .string ⟨#[]⟩, .slice none 0 0]) rfl hM rfl rfl (by kernel_rfl) ?_); clear hM; intro w bk hM); (try simp only [Res.put, Res.known, Act.eval, Value.cells, getD_lit, qGz, qGs, List.toList_toArray, qSz, qSs, over, Nat.reduceAdd] at hM); (try simp only [Act.put, qSa, qSz, qSs]))) | (first | (refine wp_seq_shut (fun K hK => ?_)) | (refine wp_text hM (fun Kr hKr => ?_); simp only [List.append_eq, List.cons_append, List.nil_append, inText]) | (refine wp_cond_true rfl ?_) | ((refine hK.out _ _ ?_); clear hK K))))
  ((refine wp_ret ?_; (try simp only [Exit.then, Exit.inBlock]); refine St.ret hM rfl (by repeat (first | exact Outs.nil | apply Outs.tmp rfl | (apply Outs.row rfl rfl (by repeat constructor) (by kernel_rfl)))) rfl ?_))
  exact ⟨rfl, hM.to_below⟩
/-- What a file answers. -/
def fileN (z : NodV) (a b : Int) : Int := if z.1.dir then 12 else if a < 0 ∨ b < 0 then 1 else 0
set_option maxHeartbeats 8000000 in
set_option maxRecDepth 100000 in
theorem rfile_some (h : RRaw x q nx zs w0) {id : Int} (a b : Int) {z : NodV} (hf : rfind zs id = some z) : Calls Tryz.prog 59 #[.pointer (some ⟨x.g, 0, none⟩), .int .i64 id, .int .i64 a, .int .i64 b] w0 fun e w' => e = .returned (.tuple #[.agg z.cells.toArray, .int .i64 (fileN z a b)]) ∧ Below w0.heap.size w0 w' := by
  have hM := St.start w0 []
  have HC := Lib.hid (fun (W : World) (hb : Below w0.heap.size w0 W) => rget_some (h.below hb) hf)
  obtain ⟨va, vc, hv, -⟩ := slV_open (h.names z (rfind_mem hf).1)
  clear h hf
  obtain ⟨⟨zi, zd, zl, zh, zb, zn⟩, zp⟩ := z
  unfold NodV.cells at HC ⊢
  simp only at hv HC ⊢
  rw [hv] at HC ⊢
  clear hv
  unfold fileN
  simp only
  cases zd with
  | true =>
    go_enter Tryz.func59, Tryz.ntmps59
    (repeat (first | ((with_reducible show wpSeq _ _ _ _ _ _ _); first | ((with_reducible refine wpSeq_nil ?_); refine hKr.out _ _ ?_; clear hKr Kr) | (((refine St.copy (v := ?_) (by first | exact .inl rfl | exact .inr rfl) rfl rfl ?_ ?_; rotate_left; (focus ((try simp only [Act.eval, getD_lit, qGz, qGs]); with_reducible rfl)))); (try simp only [Act.put, qSa, qSz, qSs])) | (((refine St.alloc (ty := 63) (z := .agg #[.int .i64 0, .bool false, .int .i64 0, .int .i64 0, .string ⟨#[]⟩, .slice none 0 0]) rfl hM rfl rfl (by kernel_rfl) ?_); clear hM; intro w bk hM); (try simp only [Res.put, Res.known, Act.eval, Value.cells, getD_lit, qGz, qGs, List.toList_toArray, qSz, qSs, over, Nat.reduceAdd] at hM); (try simp only [Act.put, qSa, qSz, qSs]))) | (first | (refine wp_seq_shut (fun K hK => ?_)) | (refine wp_text hM (fun Kr hKr => ?_); simp only [List.append_eq, List.cons_append, List.nil_append, inText]) | ((refine hK.out _ _ ?_); clear hK K))))
    (refine St.call3 rfl rfl (by kernel_rfl) (fun R hR => ?_); simp only [List.map_toArray, List.map_cons, List.map_nil, Act.eval, getD_lit, qGz, qGs])
    refine (HC.out _ hM.to_below).mono ?_
    (rintro e w' ⟨rfl, hb⟩; refine hR.out _ _ ?_; clear hR R; replace hM := hM.below hb; clear hb; (try simp only [Act.put, qSa, qSz, qSs]))
    (repeat (first | ((with_reducible show wpSeq _ _ _ _ _ _ _); first | ((with_reducible refine wpSeq_nil ?_); refine hKr.out _ _ ?_; clear hKr Kr) | ((first | (refine St.copy (v := ?_) (by first | exact .inl rfl | exact .inr rfl) rfl rfl ?_ ?_; rotate_left; (focus ((try simp only [Act.eval, getD_lit, qGz, qGs]); with_reducible rfl))) | (refine St.pure (v := ?_) rfl rfl rfl (fun w => ?_) ?_; rotate_left; (focus (go_simp; all_goals with_reducible rfl))) | refine St.load rfl hM rfl rfl rfl rfl (by repeat constructor) (by rfl) (by kernel_rfl) ?_ | ((refine St.loadRow rfl hM rfl rfl rfl rfl (by repeat constructor) (Nat.le_of_ble_eq_true rfl) (by kernel_rfl) ?_); (try simp only [Res.known, List.drop_succ_cons, List.drop_zero, List.take_succ_cons, List.take_zero])) | ((((refine St.storeRow rfl hM rfl rfl rfl rfl rfl (by repeat constructor) (Nat.le_of_ble_eq_true rfl) (Nat.le_of_ble_eq_true rfl) (by kernel_rfl) rfl ?_ ?_); (focus ((intro h; cases h; done))); clear hM; intro w hM)); (try simp only [Res.put, Res.known, Act.eval, Value.cells, getD_lit, qGz, qGs, List.toList_toArray, qSz, qSs, over, Nat.reduceAdd] at hM))); (try simp only [Act.put, qSa, qSz, qSs])) | (((refine St.alloc (ty := 63) (z := .agg #[.int .i64 0, .bool false, .int .i64 0, .int .i64 0, .string ⟨#[]⟩, .slice none 0 0]) rfl hM rfl rfl (by kernel_rfl) ?_); clear hM; intro w bk hM); (try simp only [Res.put, Res.known, Act.eval, Value.cells, getD_lit, qGz, qGs, List.toList_toArray, qSz, qSs, over, Nat.reduceAdd] at hM); (try simp only [Act.put, qSa, qSz, qSs]))) | (first | (refine wp_seq_shut (fun K hK => ?_)) | (refine wp_text hM (fun Kr hKr => ?_); simp only [List.append_eq, List.cons_append, List.nil_append, inText]) | refine wp_skip ?_ | (first | refine wp_cond_true rfl ?_ | refine wp_cond_false rfl ?_) | ((refine hK.out _ _ ?_); clear hK K))))
    ((refine wp_ret ?_; (try simp only [Exit.then, Exit.inBlock]); refine St.ret hM rfl (by repeat (first | exact Outs.nil | apply Outs.tmp rfl | (apply Outs.row rfl rfl (by repeat constructor) (by kernel_rfl)))) rfl ?_))
    exact ⟨rfl, hM.to_below⟩
  | false =>
    by_cases h1 : a < 0
    · rw [if_neg nofun, if_pos (.inl h1)]
      go_enter Tryz.func59, Tryz.ntmps59
      (repeat (first | ((with_reducible show wpSeq _ _ _ _ _ _ _); first | ((with_reducible refine wpSeq_nil ?_); refine hKr.out _ _ ?_; clear hKr Kr) | (((refine St.copy (v := ?_) (by first | exact .inl rfl | exact .inr rfl) rfl rfl ?_ ?_; rotate_left; (focus ((try simp only [Act.eval, getD_lit, qGz, qGs]); with_reducible rfl)))); (try simp only [Act.put, qSa, qSz, qSs])) | (((refine St.alloc (ty := 63) (z := .agg #[.int .i64 0, .bool false, .int .i64 0, .int .i64 0, .string ⟨#[]⟩, .slice none 0 0]) rfl hM rfl rfl (by kernel_rfl) ?_); clear hM; intro w bk hM); (try simp only [Res.put, Res.known, Act.eval, Value.cells, getD_lit, qGz, qGs, List.toList_toArray, qSz, qSs, over, Nat.reduceAdd] at hM); (try simp only [Act.put, qSa, qSz, qSs]))) | (first | (refine wp_seq_shut (fun K hK => ?_)) | (refine wp_text hM (fun Kr hKr => ?_); simp only [List.append_eq, List.cons_append, List.nil_append, inText]) | ((refine hK.out _ _ ?_); clear hK K))))
      (refine St.call3 rfl rfl (by kernel_rfl) (fun R hR => ?_); simp only [List.map_toArray, List.map_cons, List.map_nil, Act.eval, getD_lit, qGz, qGs])
      refine (HC.out _ hM.to_below).mono ?_
      (rintro e w' ⟨rfl, hb⟩; refine hR.out _ _ ?_; clear hR R; replace hM := hM.below hb; clear hb; (try simp only [Act.put, qSa, qSz, qSs]))
      (repeat (first | ((with_reducible show wpSeq _ _ _ _ _ _ _); first | ((with_reducible refine wpSeq_nil ?_); refine hKr.out _ _ ?_; clear hKr Kr) | ((first | (refine St.copy (v := ?_) (by first | exact .inl rfl | exact .inr rfl) rfl rfl ?_ ?_; rotate_left; (focus ((try simp only [Act.eval, getD_lit, qGz, qGs]); with_reducible rfl))) | (refine St.pure (v := ?_) rfl rfl rfl (fun w => ?_) ?_; rotate_left; (focus (go_simp; all_goals with_reducible rfl))) | refine St.load rfl hM rfl rfl rfl rfl (by repeat constructor) (by rfl) (by kernel_rfl) ?_ | ((refine St.loadRow rfl hM rfl rfl rfl rfl (by repeat constructor) (Nat.le_of_ble_eq_true rfl) (by kernel_rfl) ?_); (try simp only [Res.known, List.drop_succ_cons, List.drop_zero, List.take_succ_cons, List.take_zero])) | refine wpSeq_off rfl rfl ?_ | ((((refine St.storeRow rfl hM rfl rfl rfl rfl rfl (by repeat constructor) (Nat.le_of_ble_eq_true rfl) (Nat.le_of_ble_eq_true rfl) (by kernel_rfl) rfl ?_ ?_); (focus ((intro h; cases h; done))); clear hM; intro w hM)); (try simp only [Res.put, Res.known, Act.eval, Value.cells, getD_lit, qGz, qGs, List.toList_toArray, qSz, qSs, over, Nat.reduceAdd] at hM))); (try simp only [Act.put, qSa, qSz, qSs])) | (((refine St.alloc (ty := 63) (z := .agg #[.int .i64 0, .bool false, .int .i64 0, .int .i64 0, .string ⟨#[]⟩, .slice none 0 0]) rfl hM rfl rfl (by kernel_rfl) ?_); clear hM; intro w bk hM); (try simp only [Res.put, Res.known, Act.eval, Value.cells, getD_lit, qGz, qGs, List.toList_toArray, qSz, qSs, over, Nat.reduceAdd] at hM); (try simp only [Act.put, qSa, qSz, qSs]))) | (first | (refine wp_seq_shut (fun K hK => ?_)) | (refine wp_text hM (fun Kr hKr => ?_); simp only [List.append_eq, List.cons_append, List.nil_append, inText]) | refine wp_skip ?_ | (first | refine wp_cond_true rfl ?_ | refine wp_cond_false rfl ?_) | ((refine hK.out _ _ ?_); clear hK K))))
      ((refine wp_ret ?_; (try simp only [Exit.then, Exit.inBlock]); refine St.ret hM rfl (by repeat (first | exact Outs.nil | apply Outs.tmp rfl | (apply Outs.row rfl rfl (by repeat constructor) (by kernel_rfl)))) rfl ?_))
      exact ⟨rfl, hM.to_below⟩
    · have q1 : decide (a < 0) = false := decide_eq_false h1
      by_cases h2 : b < 0
      · rw [if_neg nofun, if_pos (.inr h2)]
        clear h1
        go_enter Tryz.func59, Tryz.ntmps59
        (repeat (first | ((with_reducible show wpSeq _ _ _ _ _ _ _); first | ((with_reducible refine wpSeq_nil ?_); refine hKr.out _ _ ?_; clear hKr Kr) | (((refine St.copy (v := ?_) (by first | exact .inl rfl | exact .inr rfl) rfl rfl ?_ ?_; rotate_left; (focus ((try simp only [Act.eval, getD_lit, qGz, qGs]); with_reducible rfl)))); (try simp only [Act.put, qSa, qSz, qSs])) | (((refine St.alloc (ty := 63) (z := .agg #[.int .i64 0, .bool false, .int .i64 0, .int .i64 0, .string ⟨#[]⟩, .slice none 0 0]) rfl hM rfl rfl (by kernel_rfl) ?_); clear hM; intro w bk hM); (try simp only [Res.put, Res.known, Act.eval, Value.cells, getD_lit, qGz, qGs, List.toList_toArray, qSz, qSs, over, Nat.reduceAdd] at hM); (try simp only [Act.put, qSa, qSz, qSs]))) | (first | (refine wp_seq_shut (fun K hK => ?_)) | (refine wp_text hM (fun Kr hKr => ?_); simp only [List.append_eq, List.cons_append, List.nil_append, inText]) | ((refine hK.out _ _ ?_); clear hK K))))
        (refine St.call3 rfl rfl (by kernel_rfl) (fun R hR => ?_); simp only [List.map_toArray, List.map_cons, List.map_nil, Act.eval, getD_lit, qGz, qGs])
        refine (HC.out _ hM.to_below).mono ?_
        (rintro e w' ⟨rfl, hb⟩; refine hR.out _ _ ?_; clear hR R; replace hM := hM.below hb; clear hb; (try simp only [Act.put, qSa, qSz, qSs]))
        (repeat (first | ((with_reducible show wpSeq _ _ _ _ _ _ _); first | ((with_reducible refine wpSeq_nil ?_); refine hKr.out _ _ ?_; clear hKr Kr) | ((first | (refine St.copy (v := ?_) (by first | exact .inl rfl | exact .inr rfl) rfl rfl ?_ ?_; rotate_left; (focus ((try simp only [Act.eval, getD_lit, qGz, qGs]); with_reducible rfl))) | (refine St.pure (v := ?_) rfl rfl rfl (fun w => ?_) ?_; rotate_left; (focus (go_simp; all_goals with_reducible rfl))) | refine St.load rfl hM rfl rfl rfl rfl (by repeat constructor) (by rfl) (by kernel_rfl) ?_ | ((refine St.loadRow rfl hM rfl rfl rfl rfl (by repeat constructor) (Nat.le_of_ble_eq_true rfl) (by kernel_rfl) ?_); (try simp only [Res.known, List.drop_succ_cons, List.drop_zero, List.take_succ_cons, List.take_zero])) | ((((refine St.storeRow rfl hM rfl rfl rfl rfl rfl (by repeat constructor) (Nat.le_of_ble_eq_true rfl) (Nat.le_of_ble_eq_true rfl) (by kernel_rfl) rfl ?_ ?_); (focus ((intro h; cases h; done))); clear hM; intro w hM)); (try simp only [Res.put, Res.known, Act.eval, Value.cells, getD_lit, qGz, qGs, List.toList_toArray, qSz, qSs, over, Nat.reduceAdd] at hM))); (try simp only [Act.put, qSa, qSz, qSs])) | (((refine St.alloc (ty := 63) (z := .agg #[.int .i64 0, .bool false, .int .i64 0, .int .i64 0, .string ⟨#[]⟩, .slice none 0 0]) rfl hM rfl rfl (by kernel_rfl) ?_); clear hM; intro w bk hM); (try simp only [Res.put, Res.known, Act.eval, Value.cells, getD_lit, qGz, qGs, List.toList_toArray, qSz, qSs, over, Nat.reduceAdd] at hM); (try simp only [Act.put, qSa, qSz, qSs]))) | (first | (refine wp_seq_shut (fun K hK => ?_)) | (refine wp_text hM (fun Kr hKr => ?_); simp only [List.append_eq, List.cons_append, List.nil_append, inText]) | refine wp_skip ?_ | (first | refine wp_cond_true rfl ?_ | refine wp_cond_false rfl ?_) | ((refine hK.out _ _ ?_); clear hK K))))
        ((refine wp_ret ?_; (try simp only [Exit.then, Exit.inBlock]); refine St.ret hM rfl (by repeat (first | exact Outs.nil | apply Outs.tmp rfl | (apply Outs.row rfl rfl (by repeat constructor) (by kernel_rfl)))) rfl ?_))
        exact ⟨rfl, hM.to_below⟩
      · have q2 : decide (b < 0) = false := decide_eq_false h2
        rw [if_neg nofun, if_neg (fun h => h.elim h1 h2)]
        clear h1 h2
        go_enter Tryz.func59, Tryz.ntmps59
        (repeat (first | ((with_reducible show wpSeq _ _ _ _ _ _ _); first | ((with_reducible refine wpSeq_nil ?_); refine hKr.out _ _ ?_; clear hKr Kr) | (((refine St.copy (v := ?_) (by first | exact .inl rfl | exact .inr rfl) rfl rfl ?_ ?_; rotate_left; (focus ((try simp only [Act.eval, getD_lit, qGz, qGs]); with_reducible rfl)))); (try simp only [Act.put, qSa, qSz, qSs])) | (((refine St.alloc (ty := 63) (z := .agg #[.int .i64 0, .bool false, .int .i64 0, .int .i64 0, .string ⟨#[]⟩, .slice none 0 0]) rfl hM rfl rfl (by kernel_rfl) ?_); clear hM; intro w bk hM); (try simp only [Res.put, Res.known, Act.eval, Value.cells, getD_lit, qGz, qGs, List.toList_toArray, qSz, qSs, over, Nat.reduceAdd] at hM); (try simp only [Act.put, qSa, qSz, qSs]))) | (first | (refine wp_seq_shut (fun K hK => ?_)) | (refine wp_text hM (fun Kr hKr => ?_); simp only [List.append_eq, List.cons_append, List.nil_append, inText]) | ((refine hK.out _ _ ?_); clear hK K))))
        (refine St.call3 rfl rfl (by kernel_rfl) (fun R hR => ?_); simp only [List.map_toArray, List.map_cons, List.map_nil, Act.eval, getD_lit, qGz, qGs])
        refine (HC.out _ hM.to_below).mono ?_
        (rintro e w' ⟨rfl, hb⟩; refine hR.out _ _ ?_; clear hR R; replace hM := hM.below hb; clear hb; (try simp only [Act.put, qSa, qSz, qSs]))
        (repeat (first | ((with_reducible show wpSeq _ _ _ _ _ _ _); first | ((with_reducible refine wpSeq_nil ?_); refine hKr.out _ _ ?_; clear hKr Kr) | ((first | (refine St.copy (v := ?_) (by first | exact .inl rfl | exact .inr rfl) rfl rfl ?_ ?_; rotate_left; (focus ((try simp only [Act.eval, getD_lit, qGz, qGs]); with_reducible rfl))) | (refine St.pure (v := ?_) rfl rfl rfl (fun w => ?_) ?_; rotate_left; (focus (go_simp; all_goals with_reducible rfl))) | refine St.load rfl hM rfl rfl rfl rfl (by repeat constructor) (by rfl) (by kernel_rfl) ?_ | ((refine St.loadRow rfl hM rfl rfl rfl rfl (by repeat constructor) (Nat.le_of_ble_eq_true rfl) (by kernel_rfl) ?_); (try simp only [Res.known, List.drop_succ_cons, List.drop_zero, List.take_succ_cons, List.take_zero])) | ((((refine St.storeRow rfl hM rfl rfl rfl rfl rfl (by repeat constructor) (Nat.le_of_ble_eq_true rfl) (Nat.le_of_ble_eq_true rfl) (by kernel_rfl) rfl ?_ ?_); (focus ((intro h; cases h; done))); clear hM; intro w hM)); (try simp only [Res.put, Res.known, Act.eval, Value.cells, getD_lit, qGz, qGs, List.toList_toArray, qSz, qSs, over, Nat.reduceAdd] at hM))); (try simp only [Act.put, qSa, qSz, qSs])) | (((refine St.alloc (ty := 63) (z := .agg #[.int .i64 0, .bool false, .int .i64 0, .int .i64 0, .string ⟨#[]⟩, .slice none 0 0]) rfl hM rfl rfl (by kernel_rfl) ?_); clear hM; intro w bk hM); (try simp only [Res.put, Res.known, Act.eval, Value.cells, getD_lit, qGz, qGs, List.toList_toArray, qSz, qSs, over, Nat.reduceAdd] at hM); (try simp only [Act.put, qSa, qSz, qSs]))) | (first | (refine wp_seq_shut (fun K hK => ?_)) | (refine wp_text hM (fun Kr hKr => ?_); simp only [List.append_eq, List.cons_append, List.nil_append, inText]) | refine wp_skip ?_ | (refine wp_cond_false rfl ?_) | ((refine hK.out _ _ ?_); clear hK K))))
        ((refine wp_ret ?_; (try simp only [Exit.then, Exit.inBlock]); refine St.ret hM rfl (by repeat (first | exact Outs.nil | apply Outs.tmp rfl | (apply Outs.row rfl rfl (by repeat constructor) (by kernel_rfl)))) rfl ?_))
        exact ⟨rfl, hM.to_below⟩
theorem hold_bad {id : Int} {e : Int} (he : e ≠ 0) (h : In.holdE t id = e) : In.hold t id = (e, t) := by
  unfold In.hold
  rw [h, beq_eq_false_iff_ne.2 he]
  rfl
theorem hold_yes {id : Int} (h : In.holdE t id = 0) : In.hold t id = (0, In.holdsUp t id) := by
  unfold In.hold
  rw [h]
  rfl
theorem holdE_at {id : Int} {n : NodeD} (hn : In.find t.nodes id = some n) : In.holdE t id = if n.dir then 12 else if 1048576 ≤ n.holds then 5 else 0 := by
  unfold In.holdE
  rw [In.getE_some hn, In.at_some hn]
  cases n.dir
  · by_cases h : 1048576 ≤ n.holds
    · simp [h]
    · simp [h]
  · rfl
set_option maxHeartbeats 8000000 in
set_option maxRecDepth 100000 in
theorem rHold_any (h : RIs x t zs w0) (I : In.Inv N t) (hN : N ≤ 900000) (id : Int) :
    Calls Tryz.prog 38 #[.pointer (some ⟨x.g, 0, none⟩), .int .i64 id] w0 fun e w' => e = .returned (.int .i64 (In.hold t id).1) ∧ RDid x t zs (In.hold t id).2 w0 w' := by
  cases hf : rfind zs id with
  | none =>
    have hM := St.start w0 []
    have HC := Lib.hid (fun (W : World) (hb : Below w0.heap.size w0 W) => rfile_none (h.raw.below hb) 0 0 hf)
    unfold nodZ at HC
    have HR := Lib.hid (fun (W : World) (hb : Below w0.heap.size w0 W) => RDid.same h hb)
    rw [hold_bad (e := 3) (by decide) (by unfold In.holdE; rw [In.getE_none (by rw [h.find id, hf]; rfl)]; rfl)]
    clear h hf I
    simp only
    go_enter Tryz.func38, Tryz.ntmps38
    (repeat (first | ((with_reducible show wpSeq _ _ _ _ _ _ _); first | ((with_reducible refine wpSeq_nil ?_); refine hKr.out _ _ ?_; clear hKr Kr) | (((refine St.copy (v := ?_) (by first | exact .inl rfl | exact .inr rfl) rfl rfl ?_ ?_; rotate_left; (focus ((try simp only [Act.eval, getD_lit, qGz, qGs]); with_reducible rfl)))); (try simp only [Act.put, qSa, qSz, qSs]))) | (first | (refine wp_seq_shut (fun K hK => ?_)) | (refine wp_text hM (fun Kr hKr => ?_); simp only [List.append_eq, List.cons_append, List.nil_append, inText]) | ((refine hK.out _ _ ?_); clear hK K))))
    (refine St.call3 rfl rfl (by kernel_rfl) (fun R hR => ?_); simp only [List.map_toArray, List.map_cons, List.map_nil, Act.eval, getD_lit, qGz, qGs])
    refine (HC.out _ hM.to_below).mono ?_
    (rintro e w' ⟨rfl, hb⟩; refine hR.out _ _ ?_; clear hR R; replace hM := hM.below hb; clear hb; (try simp only [Act.put, qSa, qSz, qSs]))
    (repeat (first | ((with_reducible show wpSeq _ _ _ _ _ _ _); first | ((with_reducible refine wpSeq_nil ?_); refine hKr.out _ _ ?_; clear hKr Kr) | ((first | (refine St.copy (v := ?_) (by first | exact .inl rfl | exact .inr rfl) rfl rfl ?_ ?_; rotate_left; (focus ((try simp only [Act.eval, getD_lit, qGz, qGs]); with_reducible rfl))) | (refine St.pure (v := ?_) rfl rfl rfl (fun w => ?_) ?_; rotate_left; (focus (go_simp; all_goals with_reducible rfl))) | ((((refine St.storeRow rfl hM rfl rfl rfl rfl rfl (by repeat constructor) (Nat.le_of_ble_eq_true rfl) (Nat.le_of_ble_eq_true rfl) (by kernel_rfl) rfl ?_ ?_); (focus ((intro h; cases h; done))); clear hM; intro w hM)); (try simp only [Res.put, Res.known, Act.eval, Value.cells, getD_lit, qGz, qGs, List.toList_toArray, qSz, qSs, over, Nat.reduceAdd] at hM))); (try simp only [Act.put, qSa, qSz, qSs])) | (((refine St.alloc (ty := 63) (z := .agg #[.int .i64 0, .bool false, .int .i64 0, .int .i64 0, .string ⟨#[]⟩, .slice none 0 0]) rfl hM rfl rfl (by kernel_rfl) ?_); clear hM; intro w bk hM); (try simp only [Res.put, Res.known, Act.eval, Value.cells, getD_lit, qGz, qGs, List.toList_toArray, qSz, qSs, over, Nat.reduceAdd] at hM); (try simp only [Act.put, qSa, qSz, qSs]))) | (first | (refine wp_seq_shut (fun K hK => ?_)) | (refine wp_text hM (fun Kr hKr => ?_); simp only [List.append_eq, List.cons_append, List.nil_append, inText]) | (refine wp_cond_true rfl ?_) | ((refine hK.out _ _ ?_); clear hK K))))
    ((refine wp_ret ?_; (try simp only [Exit.then, Exit.inBlock]); refine St.ret hM rfl (by repeat (first | exact Outs.nil | apply Outs.tmp rfl)) rfl ?_))
    exact ⟨rfl, HR.out _ hM.to_below⟩
  | some y =>
    have hy := (rfind_mem hf).1
    have hn : In.find t.nodes id = some y.1 := by rw [h.find id, hf]; rfl
    (obtain ⟨g, xs⟩ := x; obtain ⟨va, vc, hv, -⟩ := slV_open h.raw.sl; have hM : St w0 [g] w0 (rL ⟨g, xs⟩ t.quota (t.last + 1) zs) := h.raw.st; have HRP := Lib.hid (RP.start h.raw); have HOP := Lib.hid (fun nx => rL_open (x := ⟨g, xs⟩) (zs := zs) hv t.quota nx); obtain ⟨U, hU⟩ : ∃ U, (nodL xs zs ++ zs.flatMap NodV.ents).map unflag = U := ⟨_, rfl⟩; simp only [hU] at HOP; rw [HOP.out] at hM; have HAT := Lib.hid (fun (W : World) (hA : At ((g, true, Res.cells [.int .i64 t.quota, .int .i64 (t.last + 1), .slice va zs.length vc] 43) :: U) W) => (show RIs ⟨g, xs⟩ t zs W from ⟨RRaw.of (by rw [HOP.out]; exact hA) h.raw.sl h.raw.names h.raw.len, h.nodes⟩)); have HB := Lib.hid (fun (W : World) (hA : At ((g, true, Res.cells [.int .i64 t.quota, .int .i64 (t.last + 1), .slice va zs.length vc] 43) :: U) W) (ho : Only [g] w0 W) => (show RDid ⟨g, xs⟩ t zs t w0 W from ⟨xs, zs, h.nodes, HRP.out.to (by rw [HOP.out]; exact hA) ho⟩)))
    obtain ⟨ya, yc, hyv, -⟩ := slV_open (h.raw.names y hy)
    have HG := Lib.hid (fun (W : World) (hA : At ((g, true, Res.cells [.int .i64 t.quota, .int .i64 (t.last + 1), .slice va zs.length vc] 43) :: U) W) => rfile_some (HAT.out W hA).raw 0 0 hf)
    rw [NodV.open hyv] at HG
    unfold fileN at HG
    cases hyd : y.1.dir with
    | true =>
      have HE := Lib.hid (hold_bad (t := t) (id := id) (e := 12) (by decide) (by rw [holdE_at hn, hyd]; rfl))
      rw [hyd, if_pos rfl] at HG
      (have HH := Lib.hid h; have HI := Lib.hid I; clear h I hv hU)
      go_enter Tryz.func38, Tryz.ntmps38
      (repeat (first | ((with_reducible show wpSeq _ _ _ _ _ _ _); first | ((with_reducible refine wpSeq_nil ?_); refine hKr.out _ _ ?_; clear hKr Kr) | (((refine St.copy (v := ?_) (by first | exact .inl rfl | exact .inr rfl) rfl rfl ?_ ?_; rotate_left; (focus ((try simp only [Act.eval, getD_lit, qGz, qGs]); with_reducible rfl)))); (try simp only [Act.put, qSa, qSz, qSs]))) | (first | (refine wp_seq_shut (fun K hK => ?_)) | (refine wp_text hM (fun Kr hKr => ?_); simp only [List.append_eq, List.cons_append, List.nil_append, inText]) | ((refine hK.out _ _ ?_); clear hK K))))
      ((refine St.call3 rfl rfl (by kernel_rfl) (fun R hR => ?_); simp only [List.map_toArray, List.map_cons, List.map_nil, Act.eval, getD_lit, qGz, qGs]); refine (HG.out _ (hM.part (by repeat (exact Part.all)))).mono ?_; (rintro e w' ⟨rfl, hb⟩; refine hR.out _ _ ?_; clear hR R; replace hM := hM.below hb; clear hb; (try simp only [Act.put, qSa, qSz, qSs])))
      (repeat (first | ((with_reducible show wpSeq _ _ _ _ _ _ _); first | ((with_reducible refine wpSeq_nil ?_); refine hKr.out _ _ ?_; clear hKr Kr) | ((first | (refine St.copy (v := ?_) (by first | exact .inl rfl | exact .inr rfl) rfl rfl ?_ ?_; rotate_left; (focus ((try simp only [Act.eval, getD_lit, qGz, qGs]); with_reducible rfl))) | (refine St.pure (v := ?_) rfl rfl rfl (fun w => ?_) ?_; rotate_left; (focus (go_simp; all_goals with_reducible rfl))) | ((((refine St.storeRow rfl hM rfl rfl rfl rfl rfl (by repeat constructor) (Nat.le_of_ble_eq_true rfl) (Nat.le_of_ble_eq_true rfl) (by kernel_rfl) rfl ?_ ?_); (focus ((intro h; cases h; done))); clear hM; intro w hM)); (try simp only [Res.put, Res.known, Act.eval, Value.cells, getD_lit, qGz, qGs, List.toList_toArray, qSz, qSs, over, Nat.reduceAdd] at hM))); (try simp only [Act.put, qSa, qSz, qSs])) | (((refine St.alloc (ty := 63) (z := .agg #[.int .i64 0, .bool false, .int .i64 0, .int .i64 0, .string ⟨#[]⟩, .slice none 0 0]) rfl hM rfl rfl (by kernel_rfl) ?_); clear hM; intro w bk hM); (try simp only [Res.put, Res.known, Act.eval, Value.cells, getD_lit, qGz, qGs, List.toList_toArray, qSz, qSs, over, Nat.reduceAdd] at hM); (try simp only [Act.put, qSa, qSz, qSs]))) | (first | (refine wp_seq_shut (fun K hK => ?_)) | (refine wp_text hM (fun Kr hKr => ?_); simp only [List.append_eq, List.cons_append, List.nil_append, inText]) | (refine wp_cond_true rfl ?_) | ((refine hK.out _ _ ?_); clear hK K))))
      (((refine wp_ret ?_; (try simp only [Exit.then, Exit.inBlock]); refine St.ret hM rfl (by repeat (first | exact Outs.nil | apply Outs.tmp rfl)) rfl ?_)); (rw [HE.out]); exact ⟨rfl, HB.out _ (hM.part (by repeat (first | exact Part.all | apply Part.skip))) hM.only⟩)
    | false =>
      rw [hyd, if_neg nofun, if_neg (by omega)] at HG
      have hh := I.holds y.1 (h.mem hy)
      by_cases h5 : 1048576 ≤ y.1.holds
      · have HE := Lib.hid (hold_bad (t := t) (id := id) (e := 5) (by decide) (by rw [holdE_at hn, hyd, if_neg nofun, if_pos h5]))
        (have HH := Lib.hid h; have HI := Lib.hid I; clear h I hv hU)
        go_enter Tryz.func38, Tryz.ntmps38
        (repeat (first | ((with_reducible show wpSeq _ _ _ _ _ _ _); first | ((with_reducible refine wpSeq_nil ?_); refine hKr.out _ _ ?_; clear hKr Kr) | (((refine St.copy (v := ?_) (by first | exact .inl rfl | exact .inr rfl) rfl rfl ?_ ?_; rotate_left; (focus ((try simp only [Act.eval, getD_lit, qGz, qGs]); with_reducible rfl)))); (try simp only [Act.put, qSa, qSz, qSs]))) | (first | (refine wp_seq_shut (fun K hK => ?_)) | (refine wp_text hM (fun Kr hKr => ?_); simp only [List.append_eq, List.cons_append, List.nil_append, inText]) | ((refine hK.out _ _ ?_); clear hK K))))
        ((refine St.call3 rfl rfl (by kernel_rfl) (fun R hR => ?_); simp only [List.map_toArray, List.map_cons, List.map_nil, Act.eval, getD_lit, qGz, qGs]); refine (HG.out _ (hM.part (by repeat (exact Part.all)))).mono ?_; (rintro e w' ⟨rfl, hb⟩; refine hR.out _ _ ?_; clear hR R; replace hM := hM.below hb; clear hb; (try simp only [Act.put, qSa, qSz, qSs])))
        (repeat (first | ((with_reducible show wpSeq _ _ _ _ _ _ _); first | ((with_reducible refine wpSeq_nil ?_); refine hKr.out _ _ ?_; clear hKr Kr) | ((first | (refine St.copy (v := ?_) (by first | exact .inl rfl | exact .inr rfl) rfl rfl ?_ ?_; rotate_left; (focus ((try simp only [Act.eval, getD_lit, qGz, qGs]); with_reducible rfl))) | (refine St.pure (v := ?_) rfl rfl rfl (fun w => ?_) ?_; rotate_left; (focus (go_simp; all_goals with_reducible rfl))) | refine St.load rfl hM rfl rfl rfl rfl (by repeat constructor) (by rfl) (by kernel_rfl) ?_ | ((((refine St.storeRow rfl hM rfl rfl rfl rfl rfl (by repeat constructor) (Nat.le_of_ble_eq_true rfl) (Nat.le_of_ble_eq_true rfl) (by kernel_rfl) rfl ?_ ?_); (focus ((intro h; cases h; done))); clear hM; intro w hM)); (try simp only [Res.put, Res.known, Act.eval, Value.cells, getD_lit, qGz, qGs, List.toList_toArray, qSz, qSs, over, Nat.reduceAdd] at hM))); (try simp only [Act.put, qSa, qSz, qSs])) | (((refine St.alloc (ty := 63) (z := .agg #[.int .i64 0, .bool false, .int .i64 0, .int .i64 0, .string ⟨#[]⟩, .slice none 0 0]) rfl hM rfl rfl (by kernel_rfl) ?_); clear hM; intro w bk hM); (try simp only [Res.put, Res.known, Act.eval, Value.cells, getD_lit, qGz, qGs, List.toList_toArray, qSz, qSs, over, Nat.reduceAdd] at hM); (try simp only [Act.put, qSa, qSz, qSs]))) | (first | (refine wp_seq_shut (fun K hK => ?_)) | (refine wp_text hM (fun Kr hKr => ?_); simp only [List.append_eq, List.cons_append, List.nil_append, inText]) | refine wp_skip ?_ | (first | refine wp_cond_true rfl ?_ | refine wp_cond_false rfl ?_) | ((refine hK.out _ _ ?_); clear hK K))))
        (((refine wp_ret ?_; (try simp only [Exit.then, Exit.inBlock]); refine St.ret hM rfl (by repeat (first | exact Outs.nil | apply Outs.tmp rfl)) rfl ?_)); (rw [HE.out]); exact ⟨rfl, HB.out _ (hM.part (by repeat (first | exact Part.all | apply Part.skip))) hM.only⟩)
      · have HE := Lib.hid (hold_yes (t := t) (id := id) (by rw [holdE_at hn, hyd, if_neg nofun, if_neg h5]))
        have k5 : decide (1048576 ≤ y.1.holds) = false := decide_eq_false h5
        have hw1 : IntKind.i64.wrap (y.1.holds + 1) = y.1.holds + 1 := wrap_in _ (by omega)
        have HID := Lib.hid (h.ids I)
        have HNO := Lib.hid (show (rset zs ((y.1.setHolds (y.1.holds + 1), y.2) : NodV)).map (·.1) = (In.holdsUp t id).nodes by
          rw [rput_nodes, h.nodes]
          exact In.rput_holds hn hh.1)
        have HYC := Lib.hid (show NodV.cells (y.1.setHolds (y.1.holds + 1), y.2) = [.int .i64 y.1.id, .bool false, .int .i64 y.1.links, .int .i64 (y.1.holds + 1), .string y.1.data, .slice ya y.1.names.length yc] by rw [NodV.open (z := (y.1.setHolds (y.1.holds + 1), y.2)) hyv, ← hyd]; rfl)
        (have HH := Lib.hid h; have HI := Lib.hid I; clear h I hv hU)
        clear hyd hh h5 hyv
        go_enter Tryz.func38, Tryz.ntmps38
        (repeat (first | ((with_reducible show wpSeq _ _ _ _ _ _ _); first | ((with_reducible refine wpSeq_nil ?_); refine hKr.out _ _ ?_; clear hKr Kr) | (((refine St.copy (v := ?_) (by first | exact .inl rfl | exact .inr rfl) rfl rfl ?_ ?_; rotate_left; (focus ((try simp only [Act.eval, getD_lit, qGz, qGs]); with_reducible rfl)))); (try simp only [Act.put, qSa, qSz, qSs]))) | (first | (refine wp_seq_shut (fun K hK => ?_)) | (refine wp_text hM (fun Kr hKr => ?_); simp only [List.append_eq, List.cons_append, List.nil_append, inText]) | ((refine hK.out _ _ ?_); clear hK K))))
        ((refine St.call3 rfl rfl (by kernel_rfl) (fun R hR => ?_); simp only [List.map_toArray, List.map_cons, List.map_nil, Act.eval, getD_lit, qGz, qGs]); refine (HG.out _ (hM.part (by repeat (exact Part.all)))).mono ?_; (rintro e w' ⟨rfl, hb⟩; refine hR.out _ _ ?_; clear hR R; replace hM := hM.below hb; clear hb; (try simp only [Act.put, qSa, qSz, qSs])))
        (repeat (first | ((with_reducible show wpSeq _ _ _ _ _ _ _); first | ((with_reducible refine wpSeq_nil ?_); refine hKr.out _ _ ?_; clear hKr Kr) | ((first | (refine St.copy (v := ?_) (by first | exact .inl rfl | exact .inr rfl) rfl rfl ?_ ?_; rotate_left; (focus ((try simp only [Act.eval, getD_lit, qGz, qGs]); with_reducible rfl))) | (refine St.pure (v := ?_) rfl rfl rfl (fun w => ?_) ?_; rotate_left; (focus (go_simp; all_goals with_reducible rfl))) | refine St.load rfl hM rfl rfl rfl rfl (by repeat constructor) (by rfl) (by kernel_rfl) ?_ | ((refine St.loadRow rfl hM rfl rfl rfl rfl (by repeat constructor) (Nat.le_of_ble_eq_true rfl) (by kernel_rfl) ?_); (try simp only [Res.known, List.drop_succ_cons, List.drop_zero, List.take_succ_cons, List.take_zero])) | ((((first | refine St.store rfl hM rfl rfl rfl rfl rfl (by repeat constructor) (Nat.le_of_ble_eq_true rfl) (by kernel_rfl) rfl ?_ ?_ | refine St.storeRow rfl hM rfl rfl rfl rfl rfl (by repeat constructor) (Nat.le_of_ble_eq_true rfl) (Nat.le_of_ble_eq_true rfl) (by kernel_rfl) rfl ?_ ?_); (focus ((intro h; cases h; done))); clear hM; intro w hM)); (try simp only [Res.put, Res.known, Act.eval, Value.cells, getD_lit, qGz, qGs, List.toList_toArray, qSz, qSs, over, Nat.reduceAdd] at hM))); (try simp only [Act.put, qSa, qSz, qSs])) | (((refine St.alloc (ty := 63) (z := .agg #[.int .i64 0, .bool false, .int .i64 0, .int .i64 0, .string ⟨#[]⟩, .slice none 0 0]) rfl hM rfl rfl (by kernel_rfl) ?_); clear hM; intro w bk hM); (try simp only [Res.put, Res.known, Act.eval, Value.cells, getD_lit, qGz, qGs, List.toList_toArray, qSz, qSs, over, Nat.reduceAdd] at hM); (try simp only [Act.put, qSa, qSz, qSs]))) | (first | (refine wp_seq_shut (fun K hK => ?_)) | (refine wp_text hM (fun Kr hKr => ?_); simp only [List.append_eq, List.cons_append, List.nil_append, inText]) | refine wp_skip ?_ | (refine wp_cond_false rfl ?_) | ((refine hK.out _ _ ?_); clear hK K))))
        (refine St.call3 rfl rfl (by kernel_rfl) (fun R hR => ?_); simp only [List.map_toArray, List.map_cons, List.map_nil, Act.eval, getD_lit, qGz, qGs])
        rw [← HOP.out] at hM
        have C := rputY_any HRP.out hM (by intro s'; repeat (first | exact Swap.all | apply Swap.skip)) HID.out hy (n := y.1.setHolds (y.1.holds + 1)) rfl rfl
        rw [HYC.out] at C
        refine C.mono ?_
        clear C
        rintro e w' ⟨rfl, s2, hM1, hp2⟩; refine hR.out _ _ ?_; clear hR R hM
        have hM := hM1
        clear hM1
        (try simp only [Act.put, qSa, qSz, qSs])
        (repeat (first | ((with_reducible show wpSeq _ _ _ _ _ _ _); first | ((with_reducible refine wpSeq_nil ?_); refine hKr.out _ _ ?_; clear hKr Kr) | (((refine St.copy (v := ?_) (by exact .inr rfl) rfl rfl ?_ ?_; rotate_left; (focus ((try simp only [Act.eval, getD_lit, qGz, qGs]); with_reducible rfl)))); (try simp only [Act.put, qSa, qSz, qSs]))) | (first | (refine wp_seq_shut (fun K hK => ?_)) | (refine wp_text hM (fun Kr hKr => ?_); simp only [List.append_eq, List.cons_append, List.nil_append, inText]) | ((refine hK.out _ _ ?_); clear hK K))))
        ((refine wp_ret ?_; (try simp only [Exit.then, Exit.inBlock]); refine St.ret hM rfl (by repeat (first | exact Outs.nil | apply Outs.tmp rfl)) rfl ?_))
        rw [HE.out]
        exact ⟨rfl, s2, _, HNO.out, hp2.to (At.unF (hM.part (by repeat (first | exact Part.all | apply Part.skip)))) hM.only⟩
theorem drop_bad {id : Int} {e : Int} (he : e ≠ 0) (h : In.dropE t id = e) : In.drop t id = (e, t) := by
  unfold In.drop
  rw [h, beq_eq_false_iff_ne.2 he]
  rfl
theorem drop_yes {id : Int} (h : In.dropE t id = 0) : In.drop t id = (0, In.gone (In.holdsDown t id) id) := by
  unfold In.drop
  rw [h]
  rfl
theorem dropE_at {id : Int} {n : NodeD} (hn : In.find t.nodes id = some n) : In.dropE t id = if n.holds = 0 then 1 else 0 := by
  unfold In.dropE
  rw [hn]
  by_cases h : n.holds = 0
  · simp [h]
  · simp [h]
set_option maxHeartbeats 8000000 in
set_option maxRecDepth 100000 in
theorem rDrop_any (h : RIs x t zs w0) (I : In.Inv N t) (hN : N ≤ 900000) (id : Int) :
    Calls Tryz.prog 39 #[.pointer (some ⟨x.g, 0, none⟩), .int .i64 id] w0 fun e w' => e = .returned (.int .i64 (In.drop t id).1) ∧ RDid x t zs (In.drop t id).2 w0 w' := by
  cases hf : rfind zs id with
  | none =>
    have hM := St.start w0 []
    have HC := Lib.hid (fun (W : World) (hb : Below w0.heap.size w0 W) => rget_none (h.raw.below hb) hf)
    unfold nodZ at HC
    have HR := Lib.hid (fun (W : World) (hb : Below w0.heap.size w0 W) => RDid.same h hb)
    rw [drop_bad (e := 3) (by decide) (by unfold In.dropE; rw [show In.find t.nodes id = none by rw [h.find id, hf]; rfl])]
    clear h hf I
    simp only
    go_enter Tryz.func39, Tryz.ntmps39
    (repeat (first | ((with_reducible show wpSeq _ _ _ _ _ _ _); first | ((with_reducible refine wpSeq_nil ?_); refine hKr.out _ _ ?_; clear hKr Kr) | (((refine St.copy (v := ?_) (by first | exact .inl rfl | exact .inr rfl) rfl rfl ?_ ?_; rotate_left; (focus ((try simp only [Act.eval, getD_lit, qGz, qGs]); with_reducible rfl)))); (try simp only [Act.put, qSa, qSz, qSs]))) | (first | (refine wp_seq_shut (fun K hK => ?_)) | (refine wp_text hM (fun Kr hKr => ?_); simp only [List.append_eq, List.cons_append, List.nil_append, inText]) | ((refine hK.out _ _ ?_); clear hK K))))
    (refine St.call3 rfl rfl (by kernel_rfl) (fun R hR => ?_); simp only [List.map_toArray, List.map_cons, List.map_nil, Act.eval, getD_lit, qGz, qGs])
    refine (HC.out _ hM.to_below).mono ?_
    (rintro e w' ⟨rfl, hb⟩; refine hR.out _ _ ?_; clear hR R; replace hM := hM.below hb; clear hb; (try simp only [Act.put, qSa, qSz, qSs]))
    (repeat (first | ((with_reducible show wpSeq _ _ _ _ _ _ _); first | ((with_reducible refine wpSeq_nil ?_); refine hKr.out _ _ ?_; clear hKr Kr) | ((first | (refine St.copy (v := ?_) (by first | exact .inl rfl | exact .inr rfl) rfl rfl ?_ ?_; rotate_left; (focus ((try simp only [Act.eval, getD_lit, qGz, qGs]); with_reducible rfl))) | (refine St.pure (v := ?_) rfl rfl rfl (fun w => ?_) ?_; rotate_left; (focus (go_simp; all_goals with_reducible rfl))) | ((((refine St.storeRow rfl hM rfl rfl rfl rfl rfl (by repeat constructor) (Nat.le_of_ble_eq_true rfl) (Nat.le_of_ble_eq_true rfl) (by kernel_rfl) rfl ?_ ?_); (focus ((intro h; cases h; done))); clear hM; intro w hM)); (try simp only [Res.put, Res.known, Act.eval, Value.cells, getD_lit, qGz, qGs, List.toList_toArray, qSz, qSs, over, Nat.reduceAdd] at hM))); (try simp only [Act.put, qSa, qSz, qSs])) | (((refine St.alloc (ty := 63) (z := .agg #[.int .i64 0, .bool false, .int .i64 0, .int .i64 0, .string ⟨#[]⟩, .slice none 0 0]) rfl hM rfl rfl (by kernel_rfl) ?_); clear hM; intro w bk hM); (try simp only [Res.put, Res.known, Act.eval, Value.cells, getD_lit, qGz, qGs, List.toList_toArray, qSz, qSs, over, Nat.reduceAdd] at hM); (try simp only [Act.put, qSa, qSz, qSs]))) | (first | (refine wp_seq_shut (fun K hK => ?_)) | (refine wp_text hM (fun Kr hKr => ?_); simp only [List.append_eq, List.cons_append, List.nil_append, inText]) | (refine wp_cond_true rfl ?_) | ((refine hK.out _ _ ?_); clear hK K))))
    ((refine wp_ret ?_; (try simp only [Exit.then, Exit.inBlock]); refine St.ret hM rfl (by repeat (first | exact Outs.nil | apply Outs.tmp rfl)) rfl ?_))
    exact ⟨rfl, HR.out _ hM.to_below⟩
  | some y =>
    have hy := (rfind_mem hf).1
    have hn : In.find t.nodes id = some y.1 := by rw [h.find id, hf]; rfl
    (obtain ⟨g, xs⟩ := x; obtain ⟨va, vc, hv, -⟩ := slV_open h.raw.sl; have hM : St w0 [g] w0 (rL ⟨g, xs⟩ t.quota (t.last + 1) zs) := h.raw.st; have HRP := Lib.hid (RP.start h.raw); have HOP := Lib.hid (fun nx => rL_open (x := ⟨g, xs⟩) (zs := zs) hv t.quota nx); obtain ⟨U, hU⟩ : ∃ U, (nodL xs zs ++ zs.flatMap NodV.ents).map unflag = U := ⟨_, rfl⟩; simp only [hU] at HOP; rw [HOP.out] at hM; have HAT := Lib.hid (fun (W : World) (hA : At ((g, true, Res.cells [.int .i64 t.quota, .int .i64 (t.last + 1), .slice va zs.length vc] 43) :: U) W) => (show RIs ⟨g, xs⟩ t zs W from ⟨RRaw.of (by rw [HOP.out]; exact hA) h.raw.sl h.raw.names h.raw.len, h.nodes⟩)); have HB := Lib.hid (fun (W : World) (hA : At ((g, true, Res.cells [.int .i64 t.quota, .int .i64 (t.last + 1), .slice va zs.length vc] 43) :: U) W) (ho : Only [g] w0 W) => (show RDid ⟨g, xs⟩ t zs t w0 W from ⟨xs, zs, h.nodes, HRP.out.to (by rw [HOP.out]; exact hA) ho⟩)))
    obtain ⟨ya, yc, hyv, -⟩ := slV_open (h.raw.names y hy)
    have HG := Lib.hid (fun (W : World) (hA : At ((g, true, Res.cells [.int .i64 t.quota, .int .i64 (t.last + 1), .slice va zs.length vc] 43) :: U) W) => rget_some (HAT.out W hA).raw hf)
    rw [NodV.open hyv] at HG
    have hh := I.holds y.1 (h.mem hy)
    by_cases h0 : y.1.holds = 0
    · have HE := Lib.hid (drop_bad (t := t) (id := id) (e := 1) (by decide) (by rw [dropE_at hn, if_pos h0]))
      have k0 : (y.1.holds == 0) = true := beq_iff_eq.2 h0
      (have HH := Lib.hid h; have HI := Lib.hid I; clear h I hv hU)
      clear h0 hh
      go_enter Tryz.func39, Tryz.ntmps39
      (repeat (first | ((with_reducible show wpSeq _ _ _ _ _ _ _); first | ((with_reducible refine wpSeq_nil ?_); refine hKr.out _ _ ?_; clear hKr Kr) | (((refine St.copy (v := ?_) (by first | exact .inl rfl | exact .inr rfl) rfl rfl ?_ ?_; rotate_left; (focus ((try simp only [Act.eval, getD_lit, qGz, qGs]); with_reducible rfl)))); (try simp only [Act.put, qSa, qSz, qSs]))) | (first | (refine wp_seq_shut (fun K hK => ?_)) | (refine wp_text hM (fun Kr hKr => ?_); simp only [List.append_eq, List.cons_append, List.nil_append, inText]) | ((refine hK.out _ _ ?_); clear hK K))))
      ((refine St.call3 rfl rfl (by kernel_rfl) (fun R hR => ?_); simp only [List.map_toArray, List.map_cons, List.map_nil, Act.eval, getD_lit, qGz, qGs]); refine (HG.out _ (hM.part (by repeat (exact Part.all)))).mono ?_; (rintro e w' ⟨rfl, hb⟩; refine hR.out _ _ ?_; clear hR R; replace hM := hM.below hb; clear hb; (try simp only [Act.put, qSa, qSz, qSs])))
      (repeat (first | ((with_reducible show wpSeq _ _ _ _ _ _ _); first | ((with_reducible refine wpSeq_nil ?_); refine hKr.out _ _ ?_; clear hKr Kr) | ((first | (refine St.copy (v := ?_) (by first | exact .inl rfl | exact .inr rfl) rfl rfl ?_ ?_; rotate_left; (focus ((try simp only [Act.eval, getD_lit, qGz, qGs]); with_reducible rfl))) | (refine St.pure (v := ?_) rfl rfl rfl (fun w => ?_) ?_; rotate_left; (focus (go_simp; all_goals with_reducible rfl))) | refine St.load rfl hM rfl rfl rfl rfl (by repeat constructor) (by rfl) (by kernel_rfl) ?_ | ((((refine St.storeRow rfl hM rfl rfl rfl rfl rfl (by repeat constructor) (Nat.le_of_ble_eq_true rfl) (Nat.le_of_ble_eq_true rfl) (by kernel_rfl) rfl ?_ ?_); (focus ((intro h; cases h; done))); clear hM; intro w hM)); (try simp only [Res.put, Res.known, Act.eval, Value.cells, getD_lit, qGz, qGs, List.toList_toArray, qSz, qSs, over, Nat.reduceAdd] at hM))); (try simp only [Act.put, qSa, qSz, qSs])) | (((refine St.alloc (ty := 63) (z := .agg #[.int .i64 0, .bool false, .int .i64 0, .int .i64 0, .string ⟨#[]⟩, .slice none 0 0]) rfl hM rfl rfl (by kernel_rfl) ?_); clear hM; intro w bk hM); (try simp only [Res.put, Res.known, Act.eval, Value.cells, getD_lit, qGz, qGs, List.toList_toArray, qSz, qSs, over, Nat.reduceAdd] at hM); (try simp only [Act.put, qSa, qSz, qSs]))) | (first | (refine wp_seq_shut (fun K hK => ?_)) | (refine wp_text hM (fun Kr hKr => ?_); simp only [List.append_eq, List.cons_append, List.nil_append, inText]) | refine wp_skip ?_ | (first | refine wp_cond_true rfl ?_ | refine wp_cond_false rfl ?_) | ((refine hK.out _ _ ?_); clear hK K))))
      (((refine wp_ret ?_; (try simp only [Exit.then, Exit.inBlock]); refine St.ret hM rfl (by repeat (first | exact Outs.nil | apply Outs.tmp rfl)) rfl ?_)); (rw [HE.out]); exact ⟨rfl, HB.out _ (hM.part (by repeat (first | exact Part.all | apply Part.skip))) hM.only⟩)
    · have HE := Lib.hid (drop_yes (t := t) (id := id) (by rw [dropE_at hn, if_neg h0]))
      have k0 : (y.1.holds == 0) = false := beq_eq_false_iff_ne.2 h0
      have hw1 : IntKind.i64.wrap (y.1.holds - 1) = y.1.holds - 1 := wrap_in _ (by omega)
      have HID := Lib.hid (h.ids I)
      have HNO := Lib.hid (show (rset zs ((y.1.setHolds (y.1.holds - 1), y.2) : NodV)).map (·.1) = (In.gone (In.holdsDown t id) id).nodes by
        rw [rput_nodes, h.nodes]
        show In.rput t.nodes (y.1.setHolds (y.1.holds - 1)) = _
        unfold In.holdsDown
        rw [In.at_some hn]
        have hl : 0 ≤ y.1.links := by
          have h1 := I.links y.1 (h.mem hy)
          unfold In.rootI at h1
          split at h1 <;> omega
        exact In.rput_gone hn (In.find_some hn).2 hl (by show 0 ≤ y.1.holds - 1; omega))
      have HYC := Lib.hid (show NodV.cells (y.1.setHolds (y.1.holds - 1), y.2) = [.int .i64 y.1.id, .bool y.1.dir, .int .i64 y.1.links, .int .i64 (y.1.holds - 1), .string y.1.data, .slice ya y.1.names.length yc] by rw [NodV.open (z := (y.1.setHolds (y.1.holds - 1), y.2)) hyv]; rfl)
      (have HH := Lib.hid h; have HI := Lib.hid I; clear h I hv hU)
      clear hh h0 hyv
      go_enter Tryz.func39, Tryz.ntmps39
      (repeat (first | ((with_reducible show wpSeq _ _ _ _ _ _ _); first | ((with_reducible refine wpSeq_nil ?_); refine hKr.out _ _ ?_; clear hKr Kr) | (((refine St.copy (v := ?_) (by first | exact .inl rfl | exact .inr rfl) rfl rfl ?_ ?_; rotate_left; (focus ((try simp only [Act.eval, getD_lit, qGz, qGs]); with_reducible rfl)))); (try simp only [Act.put, qSa, qSz, qSs]))) | (first | (refine wp_seq_shut (fun K hK => ?_)) | (refine wp_text hM (fun Kr hKr => ?_); simp only [List.append_eq, List.cons_append, List.nil_append, inText]) | ((refine hK.out _ _ ?_); clear hK K))))
      ((refine St.call3 rfl rfl (by kernel_rfl) (fun R hR => ?_); simp only [List.map_toArray, List.map_cons, List.map_nil, Act.eval, getD_lit, qGz, qGs]); refine (HG.out _ (hM.part (by repeat (exact Part.all)))).mono ?_; (rintro e w' ⟨rfl, hb⟩; refine hR.out _ _ ?_; clear hR R; replace hM := hM.below hb; clear hb; (try simp only [Act.put, qSa, qSz, qSs])))
      (repeat (first | ((with_reducible show wpSeq _ _ _ _ _ _ _); first | ((with_reducible refine wpSeq_nil ?_); refine hKr.out _ _ ?_; clear hKr Kr) | ((first | (refine St.copy (v := ?_) (by first | exact .inl rfl | exact .inr rfl) rfl rfl ?_ ?_; rotate_left; (focus ((try simp only [Act.eval, getD_lit, qGz, qGs]); with_reducible rfl))) | (refine St.pure (v := ?_) rfl rfl rfl (fun w => ?_) ?_; rotate_left; (focus (go_simp; all_goals with_reducible rfl))) | refine St.load rfl hM rfl rfl rfl rfl (by repeat constructor) (by rfl) (by kernel_rfl) ?_ | ((refine St.loadRow rfl hM rfl rfl rfl rfl (by repeat constructor) (Nat.le_of_ble_eq_true rfl) (by kernel_rfl) ?_); (try simp only [Res.known, List.drop_succ_cons, List.drop_zero, List.take_succ_cons, List.take_zero])) | ((((first | refine St.store rfl hM rfl rfl rfl rfl rfl (by repeat constructor) (Nat.le_of_ble_eq_true rfl) (by kernel_rfl) rfl ?_ ?_ | refine St.storeRow rfl hM rfl rfl rfl rfl rfl (by repeat constructor) (Nat.le_of_ble_eq_true rfl) (Nat.le_of_ble_eq_true rfl) (by kernel_rfl) rfl ?_ ?_); (focus ((intro h; cases h; done))); clear hM; intro w hM)); (try simp only [Res.put, Res.known, Act.eval, Value.cells, getD_lit, qGz, qGs, List.toList_toArray, qSz, qSs, over, Nat.reduceAdd] at hM))); (try simp only [Act.put, qSa, qSz, qSs])) | (((refine St.alloc (ty := 63) (z := .agg #[.int .i64 0, .bool false, .int .i64 0, .int .i64 0, .string ⟨#[]⟩, .slice none 0 0]) rfl hM rfl rfl (by kernel_rfl) ?_); clear hM; intro w bk hM); (try simp only [Res.put, Res.known, Act.eval, Value.cells, getD_lit, qGz, qGs, List.toList_toArray, qSz, qSs, over, Nat.reduceAdd] at hM); (try simp only [Act.put, qSa, qSz, qSs]))) | (first | (refine wp_seq_shut (fun K hK => ?_)) | (refine wp_text hM (fun Kr hKr => ?_); simp only [List.append_eq, List.cons_append, List.nil_append, inText]) | refine wp_skip ?_ | (refine wp_cond_false rfl ?_) | ((refine hK.out _ _ ?_); clear hK K))))
      (refine St.call3 rfl rfl (by kernel_rfl) (fun R hR => ?_); simp only [List.map_toArray, List.map_cons, List.map_nil, Act.eval, getD_lit, qGz, qGs])
      rw [← HOP.out] at hM
      have C := rputY_any HRP.out hM (by intro s'; repeat (first | exact Swap.all | apply Swap.skip)) HID.out hy (n := y.1.setHolds (y.1.holds - 1)) rfl rfl
      rw [HYC.out] at C
      refine C.mono ?_
      clear C
      rintro e w' ⟨rfl, s2, hM1, hp2⟩; refine hR.out _ _ ?_; clear hR R hM
      have hM := hM1
      clear hM1
      (try simp only [Act.put, qSa, qSz, qSs])
      (repeat (first | ((with_reducible show wpSeq _ _ _ _ _ _ _); first | ((with_reducible refine wpSeq_nil ?_); refine hKr.out _ _ ?_; clear hKr Kr) | (((refine St.copy (v := ?_) (by exact .inr rfl) rfl rfl ?_ ?_; rotate_left; (focus ((try simp only [Act.eval, getD_lit, qGz, qGs]); with_reducible rfl)))); (try simp only [Act.put, qSa, qSz, qSs]))) | (first | (refine wp_seq_shut (fun K hK => ?_)) | (refine wp_text hM (fun Kr hKr => ?_); simp only [List.append_eq, List.cons_append, List.nil_append, inText]) | ((refine hK.out _ _ ?_); clear hK K))))
      ((refine wp_ret ?_; (try simp only [Exit.then, Exit.inBlock]); refine St.ret hM rfl (by repeat (first | exact Outs.nil | apply Outs.tmp rfl)) rfl ?_))
      rw [HE.out]
      refine ⟨rfl, s2, _, HNO.out, ?_⟩
      rw [(In.gone_q (t := In.holdsDown t id) id).1, (In.gone_q (t := In.holdsDown t id) id).2]
      exact hp2.to (At.unF (hM.part (by repeat (first | exact Part.all | apply Part.skip)))) hM.only
end
end Go.Proofs.YtcicjklhbnipcaaGreat
namespace Go.Proofs.YtcicjklhbnipcaaGreat
set_option linter.unusedVariables false
set_option linter.unusedSimpArgs false
open Go.RowKit Go.Maps
section
variable {w w' w0 : World} {F : List Nat} {L M : List Ent} {zs : List NodV} {x : RX} {t : TabD} {N : Nat} {q nx : Int}
theorem fileE_none {id n : Int} (h : In.find t.nodes id = none) : In.fileE t id n = 3 := by unfold In.fileE; rw [In.getE_none h]; rfl
theorem fileE_at {id n : Int} {y : NodeD} (h : In.find t.nodes id = some y) : In.fileE t id n = if y.dir then 12 else if n < 0 then 1 else 0 := by
  unfold In.fileE
  rw [In.getE_some h]
  cases y.dir
  · by_cases hn : n < 0
    · simp [hn]
    · simp [hn]
  · rfl
theorem fileN_E (h : RIs x t zs w) {id a b : Int} {y : NodV} (hf : rfind zs id = some y) : fileN y a b = In.fileE t id (min a b) := by
  rw [fileE_at (y := y.1) (by rw [h.find id, hf]; rfl)]
  unfold fileN
  have : (a < 0 ∨ b < 0) ↔ min a b < 0 := by omega
  simp only [this]
theorem fileN_E0 (h : RIs x t zs w) {id a : Int} {y : NodV} (hf : rfind zs id = some y) : fileN y a 0 = In.fileE t id a := by
  rw [fileE_at (y := y.1) (by rw [h.find id, hf]; rfl)]
  unfold fileN
  have : (a < 0 ∨ (0 : Int) < 0) ↔ a < 0 := by omega
  simp only [this]
set_option maxHeartbeats 8000000 in
set_option maxRecDepth 100000 in
theorem rRead_any (h : RIs x t zs w0) (I : In.Inv N t) (id a n : Int) :
    Calls Tryz.prog 35 #[.pointer (some ⟨x.g, 0, none⟩), .int .i64 id, .int .i64 a, .int .i64 n] w0 fun e w' => e = .returned (.tuple #[.string (In.read t id a n), .int .i64 (In.readE t id a n)]) ∧ Below w0.heap.size w0 w' := by
  have hM := St.start w0 []
  unfold In.read In.readE
  cases hf : rfind zs id with
  | none =>
    have HC := Lib.hid (fun (W : World) (hb : Below w0.heap.size w0 W) => rfile_none (h.raw.below hb) a n hf)
    unfold nodZ at HC
    rw [fileE_none (by rw [h.find id, hf]; rfl)]
    clear h hf I
    go_enter Tryz.func35, Tryz.ntmps35
    (repeat (first | ((with_reducible show wpSeq _ _ _ _ _ _ _); first | ((with_reducible refine wpSeq_nil ?_); refine hKr.out _ _ ?_; clear hKr Kr) | (((refine St.copy (v := ?_) (by first | exact .inl rfl | exact .inr rfl) rfl rfl ?_ ?_; rotate_left; (focus ((try simp only [Act.eval, getD_lit, qGz, qGs]); with_reducible rfl)))); (try simp only [Act.put, qSa, qSz, qSs]))) | (first | (refine wp_seq_shut (fun K hK => ?_)) | (refine wp_text hM (fun Kr hKr => ?_); simp only [List.append_eq, List.cons_append, List.nil_append, inText]) | ((refine hK.out _ _ ?_); clear hK K))))
    (refine St.call3 rfl rfl (by kernel_rfl) (fun R hR => ?_); simp only [List.map_toArray, List.map_cons, List.map_nil, Act.eval, getD_lit, qGz, qGs])
    refine (HC.out _ hM.to_below).mono ?_
    (rintro e w' ⟨rfl, hb⟩; refine hR.out _ _ ?_; clear hR R; replace hM := hM.below hb; clear hb; (try simp only [Act.put, qSa, qSz, qSs]))
    (repeat (first | ((with_reducible show wpSeq _ _ _ _ _ _ _); first | ((with_reducible refine wpSeq_nil ?_); refine hKr.out _ _ ?_; clear hKr Kr) | ((first | (refine St.copy (v := ?_) (by first | exact .inl rfl | exact .inr rfl) rfl rfl ?_ ?_; rotate_left; (focus ((try simp only [Act.eval, getD_lit, qGz, qGs]); with_reducible rfl))) | (refine St.pure (v := ?_) rfl rfl rfl (fun w => ?_) ?_; rotate_left; (focus (go_simp; all_goals with_reducible rfl))) | refine wpSeq_off rfl rfl ?_ | ((((refine St.storeRow rfl hM rfl rfl rfl rfl rfl (by repeat constructor) (Nat.le_of_ble_eq_true rfl) (Nat.le_of_ble_eq_true rfl) (by kernel_rfl) rfl ?_ ?_); (focus ((intro h; cases h; done))); clear hM; intro w hM)); (try simp only [Res.put, Res.known, Act.eval, Value.cells, getD_lit, qGz, qGs, List.toList_toArray, qSz, qSs, over, Nat.reduceAdd] at hM))); (try simp only [Act.put, qSa, qSz, qSs])) | (((refine St.alloc (ty := 63) (z := .agg #[.int .i64 0, .bool false, .int .i64 0, .int .i64 0, .string ⟨#[]⟩, .slice none 0 0]) rfl hM rfl rfl (by kernel_rfl) ?_); clear hM; intro w bk hM); (try simp only [Res.put, Res.known, Act.eval, Value.cells, getD_lit, qGz, qGs, List.toList_toArray, qSz, qSs, over, Nat.reduceAdd] at hM); (try simp only [Act.put, qSa, qSz, qSs]))) | (first | (refine wp_seq_shut (fun K hK => ?_)) | (refine wp_text hM (fun Kr hKr => ?_); simp only [List.append_eq, List.cons_append, List.nil_append, inText]) | (refine wp_cond_true rfl ?_) | ((refine hK.out _ _ ?_); clear hK K))))
    ((refine wp_ret ?_; (try simp only [Exit.then, Exit.inBlock]); refine St.ret hM rfl (by repeat (first | exact Outs.nil | apply Outs.tmp rfl)) rfl ?_))
    exact ⟨rfl, hM.to_below⟩
  | some y =>
    have hy := (rfind_mem hf).1
    have hn : In.find t.nodes id = some y.1 := by rw [h.find id, hf]; rfl
    have HC := Lib.hid (fun (W : World) (hb : Below w0.heap.size w0 W) => rfile_some (h.raw.below hb) a n hf)
    rw [fileN_E h hf] at HC
    obtain ⟨ya, yc, hyv, -⟩ := slV_open (h.raw.names y hy)
    rw [NodV.open hyv] at HC
    have hds := h.dl I y hy
    by_cases hc : In.fileE t id (min a n) = 0
    · rw [hc] at HC ⊢
      rw [In.at_some hn]
      have hmn : 0 ≤ min a n := by
        rw [fileE_at hn] at hc
        split at hc
        · cases hc
        · split at hc
          · cases hc
          · omega
      obtain ⟨k, rfl⟩ : ∃ k : Nat, a = k := ⟨a.toNat, by omega⟩
      obtain ⟨m, rfl⟩ : ∃ m : Nat, n = m := ⟨n.toNat, by omega⟩
      by_cases hge : y.1.data.size ≤ k
      · have k1 : y.1.data.size ≤ k := hge
        have HP := Lib.hid (show (if (0 : Int) == 0 then In.part y.1.data k m else ByteArray.empty) = ⟨#[]⟩ by
          show In.part y.1.data k m = _
          unfold In.part
          rw [show min (k : Int).toNat y.1.data.size = y.1.data.size by omega, Nat.sub_self, Nat.min_zero, Nat.add_zero]
          refine Pt.ba_ext ?_
          rw [ByteArray.data_extract]
          simp)
        rw [HP.out]
        clear h hf I hn hc hmn hge hyv hy
        go_enter Tryz.func35, Tryz.ntmps35
        (repeat (first | ((with_reducible show wpSeq _ _ _ _ _ _ _); first | ((with_reducible refine wpSeq_nil ?_); refine hKr.out _ _ ?_; clear hKr Kr) | (((refine St.copy (v := ?_) (by first | exact .inl rfl | exact .inr rfl) rfl rfl ?_ ?_; rotate_left; (focus ((try simp only [Act.eval, getD_lit, qGz, qGs]); with_reducible rfl)))); (try simp only [Act.put, qSa, qSz, qSs]))) | (first | (refine wp_seq_shut (fun K hK => ?_)) | (refine wp_text hM (fun Kr hKr => ?_); simp only [List.append_eq, List.cons_append, List.nil_append, inText]) | ((refine hK.out _ _ ?_); clear hK K))))
        (refine St.call3 rfl rfl (by kernel_rfl) (fun R hR => ?_); simp only [List.map_toArray, List.map_cons, List.map_nil, Act.eval, getD_lit, qGz, qGs])
        refine (HC.out _ hM.to_below).mono ?_
        (rintro e w' ⟨rfl, hb⟩; refine hR.out _ _ ?_; clear hR R; replace hM := hM.below hb; clear hb; (try simp only [Act.put, qSa, qSz, qSs]))
        (repeat (first | ((with_reducible show wpSeq _ _ _ _ _ _ _); first | ((with_reducible refine wpSeq_nil ?_); refine hKr.out _ _ ?_; clear hKr Kr) | ((first | (refine St.copy (v := ?_) (by first | exact .inl rfl | exact .inr rfl) rfl rfl ?_ ?_; rotate_left; (focus ((try simp only [Act.eval, getD_lit, qGz, qGs]); with_reducible rfl))) | (refine St.pure (v := ?_) rfl rfl rfl (fun w => ?_) ?_; rotate_left; (focus (go_simp; all_goals with_reducible rfl))) | refine St.load rfl hM rfl rfl rfl rfl (by repeat constructor) (by rfl) (by kernel_rfl) ?_ | ((((refine St.storeRow rfl hM rfl rfl rfl rfl rfl (by repeat constructor) (Nat.le_of_ble_eq_true rfl) (Nat.le_of_ble_eq_true rfl) (by kernel_rfl) rfl ?_ ?_); (focus ((intro h; cases h; done))); clear hM; intro w hM)); (try simp only [Res.put, Res.known, Act.eval, Value.cells, getD_lit, qGz, qGs, List.toList_toArray, qSz, qSs, over, Nat.reduceAdd] at hM))); (try simp only [Act.put, qSa, qSz, qSs])) | (((refine St.alloc (ty := 63) (z := .agg #[.int .i64 0, .bool false, .int .i64 0, .int .i64 0, .string ⟨#[]⟩, .slice none 0 0]) rfl hM rfl rfl (by kernel_rfl) ?_); clear hM; intro w bk hM); (try simp only [Res.put, Res.known, Act.eval, Value.cells, getD_lit, qGz, qGs, List.toList_toArray, qSz, qSs, over, Nat.reduceAdd] at hM); (try simp only [Act.put, qSa, qSz, qSs]))) | (first | (refine wp_seq_shut (fun K hK => ?_)) | (refine wp_text hM (fun Kr hKr => ?_); simp only [List.append_eq, List.cons_append, List.nil_append, inText]) | (refine wp_cond_true rfl ?_) | ((refine hK.out _ _ ?_); clear hK K))))
        ((refine wp_ret ?_; (try simp only [Exit.then, Exit.inBlock]); refine St.ret hM rfl (by repeat (first | exact Outs.nil | apply Outs.tmp rfl)) rfl ?_))
        exact ⟨rfl, hM.to_below⟩
      · have k1 : decide (y.1.data.size ≤ k) = false := decide_eq_false hge
        obtain ⟨l, hl⟩ : ∃ l : Nat, y.1.data.size - k = l := ⟨_, rfl⟩
        obtain ⟨r, hr⟩ : ∃ r : Nat, min m l = r := ⟨_, rfl⟩
        obtain ⟨e1, he1⟩ : ∃ e1 : Nat, k + r = e1 := ⟨_, rfl⟩
        have hw1 : IntKind.i64.wrap ((y.1.data.size : Int) - (k : Int)) = (l : Int) := by rw [wrap_in _ (by omega)]; omega
        have hw2 : (if l < m then (l : Int) else (m : Int)) = (r : Int) := by split <;> omega
        have hw3 : IntKind.i64.wrap ((k : Int) + if l < m then (l : Int) else (m : Int)) = (e1 : Int) := by rw [hw2, wrap_in _ (by omega)]; omega
        have hw4 : IntKind.i64.wrap ((k : Int) + min (m : Int) (l : Int)) = (e1 : Int) := by rw [show min (m : Int) (l : Int) = (r : Int) by omega, wrap_in _ (by omega)]; omega
        clear hw2
        have HLE := Lib.hid (show k ≤ e1 ∧ e1 ≤ y.1.data.size by omega)
        have HP := Lib.hid (show (if (0 : Int) == 0 then In.part y.1.data k m else ByteArray.empty) = y.1.data.extract k e1 by
          show In.part y.1.data k m = _
          unfold In.part
          rw [show min (k : Int).toNat y.1.data.size = k by omega, show (m : Int).toNat = m by omega, hl, hr, he1])
        rw [HP.out]
        clear h hf I hn hc hmn hge hyv hy hl hr he1
        go_enter Tryz.func35, Tryz.ntmps35
        (repeat (first | ((with_reducible show wpSeq _ _ _ _ _ _ _); first | ((with_reducible refine wpSeq_nil ?_); refine hKr.out _ _ ?_; clear hKr Kr) | (((refine St.copy (v := ?_) (by first | exact .inl rfl | exact .inr rfl) rfl rfl ?_ ?_; rotate_left; (focus ((try simp only [Act.eval, getD_lit, qGz, qGs]); with_reducible rfl)))); (try simp only [Act.put, qSa, qSz, qSs]))) | (first | (refine wp_seq_shut (fun K hK => ?_)) | (refine wp_text hM (fun Kr hKr => ?_); simp only [List.append_eq, List.cons_append, List.nil_append, inText]) | ((refine hK.out _ _ ?_); clear hK K))))
        (refine St.call3 rfl rfl (by kernel_rfl) (fun R hR => ?_); simp only [List.map_toArray, List.map_cons, List.map_nil, Act.eval, getD_lit, qGz, qGs])
        refine (HC.out _ hM.to_below).mono ?_
        (rintro e w' ⟨rfl, hb⟩; refine hR.out _ _ ?_; clear hR R; replace hM := hM.below hb; clear hb; (try simp only [Act.put, qSa, qSz, qSs]))
        (repeat (first | ((with_reducible show wpSeq _ _ _ _ _ _ _); first | ((with_reducible refine wpSeq_nil ?_); refine hKr.out _ _ ?_; clear hKr Kr) | ((first | (refine St.copy (v := ?_) (by first | exact .inl rfl | exact .inr rfl) rfl rfl ?_ ?_; rotate_left; (focus ((try simp only [Act.eval, getD_lit, qGz, qGs]); with_reducible rfl))) | (refine St.pure (v := ?_) rfl rfl rfl (fun w => ?_) ?_; rotate_left; (focus (go_simp; all_goals with_reducible rfl))) | refine St.load rfl hM rfl rfl rfl rfl (by repeat constructor) (by rfl) (by kernel_rfl) ?_ | ((((refine St.storeRow rfl hM rfl rfl rfl rfl rfl (by repeat constructor) (Nat.le_of_ble_eq_true rfl) (Nat.le_of_ble_eq_true rfl) (by kernel_rfl) rfl ?_ ?_); (focus ((intro h; cases h; done))); clear hM; intro w hM)); (try simp only [Res.put, Res.known, Act.eval, Value.cells, getD_lit, qGz, qGs, List.toList_toArray, qSz, qSs, over, Nat.reduceAdd] at hM))); (try simp only [Act.put, qSa, qSz, qSs])) | (((refine St.alloc (ty := 63) (z := .agg #[.int .i64 0, .bool false, .int .i64 0, .int .i64 0, .string ⟨#[]⟩, .slice none 0 0]) rfl hM rfl rfl (by kernel_rfl) ?_); clear hM; intro w bk hM); (try simp only [Res.put, Res.known, Act.eval, Value.cells, getD_lit, qGz, qGs, List.toList_toArray, qSz, qSs, over, Nat.reduceAdd] at hM); (try simp only [Act.put, qSa, qSz, qSs]))) | (first | (refine wp_seq_shut (fun K hK => ?_)) | (refine wp_text hM (fun Kr hKr => ?_); simp only [List.append_eq, List.cons_append, List.nil_append, inText]) | refine wp_skip ?_ | (refine wp_cond_false rfl ?_) | ((refine hK.out _ _ ?_); clear hK K))))
        refine St.strSub rfl rfl rfl rfl rfl rfl Tryz.underlying9 HLE.out.1 HLE.out.2 ?_
        (try simp only [Act.put, qSa, qSz, qSs])
        (repeat (first | ((with_reducible show wpSeq _ _ _ _ _ _ _); first | ((with_reducible refine wpSeq_nil ?_); refine hKr.out _ _ ?_; clear hKr Kr) | (((refine St.copy (v := ?_) (by exact .inr rfl) rfl rfl ?_ ?_; rotate_left; (focus ((try simp only [Act.eval, getD_lit, qGz, qGs]); with_reducible rfl)))); (try simp only [Act.put, qSa, qSz, qSs]))) | (((refine hK.out _ _ ?_); clear hK K))))
        ((refine wp_ret ?_; (try simp only [Exit.then, Exit.inBlock]); refine St.ret hM rfl (by repeat (first | exact Outs.nil | apply Outs.tmp rfl)) rfl ?_))
        exact ⟨rfl, hM.to_below⟩
    · have q1 : (In.fileE t id (min a n) != 0) = true := bne_iff_ne.2 hc
      rw [beq_eq_false_iff_ne.2 hc, if_neg nofun]
      generalize In.fileE t id (min a n) = c at *
      clear h hf I hn hc hyv hy
      go_enter Tryz.func35, Tryz.ntmps35
      (repeat (first | ((with_reducible show wpSeq _ _ _ _ _ _ _); first | ((with_reducible refine wpSeq_nil ?_); refine hKr.out _ _ ?_; clear hKr Kr) | (((refine St.copy (v := ?_) (by first | exact .inl rfl | exact .inr rfl) rfl rfl ?_ ?_; rotate_left; (focus ((try simp only [Act.eval, getD_lit, qGz, qGs]); with_reducible rfl)))); (try simp only [Act.put, qSa, qSz, qSs]))) | (first | (refine wp_seq_shut (fun K hK => ?_)) | (refine wp_text hM (fun Kr hKr => ?_); simp only [List.append_eq, List.cons_append, List.nil_append, inText]) | ((refine hK.out _ _ ?_); clear hK K))))
      (refine St.call3 rfl rfl (by kernel_rfl) (fun R hR => ?_); simp only [List.map_toArray, List.map_cons, List.map_nil, Act.eval, getD_lit, qGz, qGs])
      refine (HC.out _ hM.to_below).mono ?_
      (rintro e w' ⟨rfl, hb⟩; refine hR.out _ _ ?_; clear hR R; replace hM := hM.below hb; clear hb; (try simp only [Act.put, qSa, qSz, qSs]))
      (repeat (first | ((with_reducible show wpSeq _ _ _ _ _ _ _); first | ((with_reducible refine wpSeq_nil ?_); refine hKr.out _ _ ?_; clear hKr Kr) | ((first | (refine St.copy (v := ?_) (by first | exact .inl rfl | exact .inr rfl) rfl rfl ?_ ?_; rotate_left; (focus ((try simp only [Act.eval, getD_lit, qGz, qGs]); with_reducible rfl))) | (refine St.pure (v := ?_) rfl rfl rfl (fun w => ?_) ?_; rotate_left; (focus (go_simp; all_goals with_reducible rfl))) | refine wpSeq_off rfl rfl ?_ | ((((refine St.storeRow rfl hM rfl rfl rfl rfl rfl (by repeat constructor) (Nat.le_of_ble_eq_true rfl) (Nat.le_of_ble_eq_true rfl) (by kernel_rfl) rfl ?_ ?_); (focus ((intro h; cases h; done))); clear hM; intro w hM)); (try simp only [Res.put, Res.known, Act.eval, Value.cells, getD_lit, qGz, qGs, List.toList_toArray, qSz, qSs, over, Nat.reduceAdd] at hM))); (try simp only [Act.put, qSa, qSz, qSs])) | (((refine St.alloc (ty := 63) (z := .agg #[.int .i64 0, .bool false, .int .i64 0, .int .i64 0, .string ⟨#[]⟩, .slice none 0 0]) rfl hM rfl rfl (by kernel_rfl) ?_); clear hM; intro w bk hM); (try simp only [Res.put, Res.known, Act.eval, Value.cells, getD_lit, qGz, qGs, List.toList_toArray, qSz, qSs, over, Nat.reduceAdd] at hM); (try simp only [Act.put, qSa, qSz, qSs]))) | (first | (refine wp_seq_shut (fun K hK => ?_)) | (refine wp_text hM (fun Kr hKr => ?_); simp only [List.append_eq, List.cons_append, List.nil_append, inText]) | (refine wp_cond_true rfl ?_) | ((refine hK.out _ _ ?_); clear hK K))))
      ((refine wp_ret ?_; (try simp only [Exit.then, Exit.inBlock]); refine St.ret hM rfl (by repeat (first | exact Outs.nil | apply Outs.tmp rfl)) rfl ?_))
      exact ⟨rfl, hM.to_below⟩
theorem sizedE_at (n : Int) (y : NodeD) : In.sizedE t y n = if 1048576 < n then 5 else if t.quota - t.used < n - y.data.size then 6 else 0 := by
  unfold In.sizedE
  simp only [decide_eq_true_eq]
set_option maxHeartbeats 8000000 in
set_option maxRecDepth 100000 in
theorem rfits_any (h : RIs x t zs w0) (I : In.Inv N t) {y : NodV} (hy : y ∈ zs) (n : Int) (hn0 : 0 ≤ n) :
    Calls Tryz.prog 60 #[.pointer (some ⟨x.g, 0, none⟩), .agg y.cells.toArray, .int .i64 n] w0 fun e w' => e = .returned (.int .i64 (In.sizedE t y.1 n)) ∧ Below w0.heap.size w0 w' := by
  have hM := St.start w0 []
  have hds := h.dl I y hy
  have hrow := h.raw.row
  have hu0 : 0 ≤ t.used := by rw [I.used]; exact Int.natCast_nonneg _
  have hq1 := I.q1
  have hcap := I.cap
  have HU := Lib.hid (fun (W : World) (hb : Below w0.heap.size w0 W) => (show Calls _ _ _ _ _ from (by have C := rUsed_any (h.raw.below hb) (h.dl I); rw [h.sum I] at C; exact C)))
  obtain ⟨xg, xs⟩ := x
  simp only at hrow HU ⊢
  have c0 : w0.cell? ⟨xg, 0, none⟩ = some (.int .i64 t.quota) := hrow 0 _ rfl
  obtain ⟨ya, yc, hyv, -⟩ := slV_open (h.raw.names y hy)
  rw [NodV.open hyv, sizedE_at]
  obtain ⟨p, hp⟩ : ∃ p, t.quota - t.used = p := ⟨_, rfl⟩
  have hw1 : IntKind.i64.wrap (t.quota - t.used) = p := by rw [wrap_in _ (by omega)]; exact hp
  rw [hp]
  clear h I hrow hyv hy hp
  by_cases h5 : 1048576 < n
  · rw [if_pos h5]
    go_enter Tryz.func60, Tryz.ntmps60
    (repeat (first | ((with_reducible show wpSeq _ _ _ _ _ _ _); first | ((with_reducible refine wpSeq_nil ?_); refine hKr.out _ _ ?_; clear hKr Kr) | ((first | (refine St.copy (v := ?_) (by first | exact .inl rfl | exact .inr rfl) rfl rfl ?_ ?_; rotate_left; (focus ((try simp only [Act.eval, getD_lit, qGz, qGs]); with_reducible rfl))) | (refine St.pure (v := ?_) rfl rfl rfl (fun w => ?_) ?_; rotate_left; (focus (go_simp; all_goals with_reducible rfl))) | ((((refine St.box rfl hM rfl rfl rfl ?_); clear hM; intro w bk hM)); (try simp only [Res.put, Res.known, Act.eval, Value.cells, getD_lit, qGz, qGs, List.toList_toArray, qSz, qSs, over, Nat.reduceAdd] at hM))); (try simp only [Act.put, qSa, qSz, qSs]))) | (first | (refine wp_seq_shut (fun K hK => ?_)) | (refine wp_text hM (fun Kr hKr => ?_); simp only [List.append_eq, List.cons_append, List.nil_append, inText]) | (refine wp_cond_true rfl ?_) | ((refine hK.out _ _ ?_); clear hK K))))
    ((refine wp_ret ?_; (try simp only [Exit.then, Exit.inBlock]); refine St.ret hM rfl (by repeat (first | exact Outs.nil | apply Outs.tmp rfl)) rfl ?_))
    exact ⟨rfl, hM.to_below⟩
  · have k5 : decide (1048576 < n) = false := decide_eq_false h5
    obtain ⟨m, hm⟩ : ∃ m, n - (y.1.data.size : Int) = m := ⟨_, rfl⟩
    have hw2 : IntKind.i64.wrap (n - (y.1.data.size : Int)) = m := by rw [wrap_in _ (by omega)]; exact hm
    rw [if_neg h5, hm]
    clear hm
    by_cases h6 : p < m
    · rw [if_pos h6]
      clear h5
      go_enter Tryz.func60, Tryz.ntmps60
      (repeat (first | ((with_reducible show wpSeq _ _ _ _ _ _ _); first | ((with_reducible refine wpSeq_nil ?_); refine hKr.out _ _ ?_; clear hKr Kr) | ((first | (refine St.copy (v := ?_) (by first | exact .inl rfl | exact .inr rfl) rfl rfl ?_ ?_; rotate_left; (focus ((try simp only [Act.eval, getD_lit, qGz, qGs]); with_reducible rfl))) | (refine St.pure (v := ?_) rfl rfl rfl (fun w => ?_) ?_; rotate_left; (focus (go_simp; all_goals with_reducible rfl))) | refine St.load1 rfl rfl rfl rfl (by repeat constructor) (by rfl) (by kernel_rfl) ?_ | refine St.loadF1 rfl rfl rfl rfl (fun w' hS => only_cell hS.only (by assumption) (by exact List.not_mem_nil)) (by kernel_rfl) ?_ | ((((refine St.box rfl hM rfl rfl rfl ?_); clear hM; intro w bk hM)); (try simp only [Res.put, Res.known, Act.eval, Value.cells, getD_lit, qGz, qGs, List.toList_toArray, qSz, qSs, over, Nat.reduceAdd] at hM))); (try simp only [Act.put, qSa, qSz, qSs]))) | (first | (refine wp_seq_shut (fun K hK => ?_)) | (refine wp_text hM (fun Kr hKr => ?_); simp only [List.append_eq, List.cons_append, List.nil_append, inText]) | refine wp_skip ?_ | (refine wp_cond_false rfl ?_) | ((refine hK.out _ _ ?_); clear hK K)) | ((refine wp_drawn (id := 3) hM (Sub.all _) [2, 8] [(0, 0), (1, 0), (2, 1), (3, 0), (4, 0), (5, 0), (6, 0), (7, 0), (8, 1), (9, 2), (10, 2), (11, 2), (12, 2)] (by kernel_rfl) (by kernel_rfl) ?_); (clear hM; intro w hM Kr hKr); simp only [opsOf, qGz, qGs])))
      (refine St.call rfl rfl rfl (by kernel_rfl) (fun R hR => ?_); simp only [List.map_toArray, List.map_cons, List.map_nil, Act.eval, getD_lit, qGz, qGs])
      refine (HU.out _ hM.to_below).mono ?_
      (rintro e w' ⟨rfl, hb⟩; refine hR.out _ _ (fun h => h.below hb) ?_; clear hR R; replace hM := hM.below hb; clear hb; (try simp only [Act.put, qSa, qSz, qSs]))
      (repeat (first | ((with_reducible show wpSeq _ _ _ _ _ _ _); first | ((with_reducible refine wpSeq_nil ?_); refine hKr.out _ _ ?_; clear hKr Kr) | ((first | (refine St.copy (v := ?_) (by exact .inr rfl) rfl rfl ?_ ?_; rotate_left; (focus ((try simp only [Act.eval, getD_lit, qGz, qGs]); with_reducible rfl))) | (refine St.pure (v := ?_) rfl rfl rfl (fun w => ?_) ?_; rotate_left; (focus (go_simp; all_goals with_reducible rfl)))); (try simp only [Act.put, qSa, qSz, qSs]))) | (first | (refine wp_seq_shut (fun K hK => ?_)) | (refine wp_text hM (fun Kr hKr => ?_); simp only [List.append_eq, List.cons_append, List.nil_append, inText]) | (refine wp_cond_true rfl ?_) | ((refine hK.out _ _ ?_); clear hK K))))
      ((refine wp_ret ?_; (try simp only [Exit.then, Exit.inBlock]); refine St.ret hM rfl (by repeat (first | exact Outs.nil | apply Outs.tmp rfl)) rfl ?_))
      exact ⟨rfl, hM.to_below⟩
    · rw [if_neg h6]
      have k6 : decide (p < m) = false := decide_eq_false h6
      clear h5 h6
      go_enter Tryz.func60, Tryz.ntmps60
      (repeat (first | ((with_reducible show wpSeq _ _ _ _ _ _ _); first | ((with_reducible refine wpSeq_nil ?_); refine hKr.out _ _ ?_; clear hKr Kr) | ((first | (refine St.copy (v := ?_) (by first | exact .inl rfl | exact .inr rfl) rfl rfl ?_ ?_; rotate_left; (focus ((try simp only [Act.eval, getD_lit, qGz, qGs]); with_reducible rfl))) | (refine St.pure (v := ?_) rfl rfl rfl (fun w => ?_) ?_; rotate_left; (focus (go_simp; all_goals with_reducible rfl))) | refine St.load1 rfl rfl rfl rfl (by repeat constructor) (by rfl) (by kernel_rfl) ?_ | refine St.loadF1 rfl rfl rfl rfl (fun w' hS => only_cell hS.only (by assumption) (by exact List.not_mem_nil)) (by kernel_rfl) ?_ | ((((refine St.box rfl hM rfl rfl rfl ?_); clear hM; intro w bk hM)); (try simp only [Res.put, Res.known, Act.eval, Value.cells, getD_lit, qGz, qGs, List.toList_toArray, qSz, qSs, over, Nat.reduceAdd] at hM))); (try simp only [Act.put, qSa, qSz, qSs]))) | (first | (refine wp_seq_shut (fun K hK => ?_)) | (refine wp_text hM (fun Kr hKr => ?_); simp only [List.append_eq, List.cons_append, List.nil_append, inText]) | refine wp_skip ?_ | (refine wp_cond_false rfl ?_) | ((refine hK.out _ _ ?_); clear hK K)) | ((refine wp_drawn (id := 3) hM (Sub.all _) [2, 8] [(0, 0), (1, 0), (2, 1), (3, 0), (4, 0), (5, 0), (6, 0), (7, 0), (8, 1), (9, 2), (10, 2), (11, 2), (12, 2)] (by kernel_rfl) (by kernel_rfl) ?_); (clear hM; intro w hM Kr hKr); simp only [opsOf, qGz, qGs])))
      (refine St.call rfl rfl rfl (by kernel_rfl) (fun R hR => ?_); simp only [List.map_toArray, List.map_cons, List.map_nil, Act.eval, getD_lit, qGz, qGs])
      refine (HU.out _ hM.to_below).mono ?_
      (rintro e w' ⟨rfl, hb⟩; refine hR.out _ _ (fun h => h.below hb) ?_; clear hR R; replace hM := hM.below hb; clear hb; (try simp only [Act.put, qSa, qSz, qSs]))
      (repeat (first | ((with_reducible show wpSeq _ _ _ _ _ _ _); first | ((with_reducible refine wpSeq_nil ?_); refine hKr.out _ _ ?_; clear hKr Kr) | ((first | (refine St.copy (v := ?_) (by exact .inr rfl) rfl rfl ?_ ?_; rotate_left; (focus ((try simp only [Act.eval, getD_lit, qGz, qGs]); with_reducible rfl))) | (refine St.pure (v := ?_) rfl rfl rfl (fun w => ?_) ?_; rotate_left; (focus (go_simp; all_goals with_reducible rfl)))); (try simp only [Act.put, qSa, qSz, qSs]))) | (first | (refine wp_seq_shut (fun K hK => ?_)) | (refine wp_text hM (fun Kr hKr => ?_); simp only [List.append_eq, List.cons_append, List.nil_append, inText]) | refine wp_skip ?_ | (refine wp_cond_false rfl ?_) | ((refine hK.out _ _ ?_); clear hK K))))
      ((refine wp_ret ?_; (try simp only [Exit.then, Exit.inBlock]); refine St.ret hM rfl (by repeat (first | exact Outs.nil | apply Outs.tmp rfl)) rfl ?_))
      exact ⟨rfl, hM.to_below⟩
end
end Go.Proofs.YtcicjklhbnipcaaGreat
namespace Go.Proofs.YtcicjklhbnipcaaGreat
set_option linter.unusedVariables false
set_option linter.unusedSimpArgs false
open Go.RowKit Go.Maps
/-- A buffer's block: just these bytes at its beginning; none of its cells is frozen. -/
def BufO (e : TypeId) (cap : Nat) (l : List UInt8) (o : Obj) : Prop := ∃ cur fz, o = .cells cur e fz ∧ cur.size = cap ∧ (fz = (0, 0) ∨ cap ≤ fz.1) ∧ l.length ≤ cap ∧ cap ≤ maxLen ∧ ∀ (j : Nat) (u : UInt8), l[j]? = some u → cur[j]? = some (Value.int .u8 u.toNat)
section
variable {P : Program} {K : Act → World → Prop} {a : Act} {w w0 w' : World} {ops : Array Oper} {l : List (Oper × Nat)} {c : Nat} {o : Oper} {F : List Nat} {L Lr : List Ent} {b : Nat} {ty src dst e : TypeId} {x y : Operand}
theorem bytesWorld_below (w : World) (e : TypeId) (s : ByteArray) : Below w.heap.size w (Lib.bytesWorld w e s) := ⟨rfl, rfl, rfl, by rw [Lib.bytesWorld_size]; omega, fun k hk => Lib.bytesWorld_at_old w e s k hk⟩
theorem bytesWorld_buf (w : World) (e : TypeId) (s : ByteArray) (hs : s.size ≤ maxLen) : ∃ x, (Lib.bytesWorld w e s).heap[w.heap.size]? = some x ∧ BufO e (grownCap w s.size 0 e) s.data.toList x := by
  have hge := grownCap_ge w s.size 0 e
  have hcm := grownCap_le_maxLen w s.size 0 e hs
  have hz : s.data.toList.length = s.size := by simp
  have hsz : (Lib.bytesCells w e s).size = grownCap w s.size 0 e := by
    unfold Lib.bytesCells
    rw [Array.size_append, Array.size_map, Array.size_replicate]
    have : s.data.size = s.size := rfl
    omega
  refine ⟨_, Lib.bytesWorld_at_new w e s, _, _, rfl, hsz, .inr (by simp only [hsz]; exact Nat.le_refl _), by omega, hcm, fun j u hj => ?_⟩
  have hj' : j < s.data.size := by have := (List.getElem?_eq_some_iff.1 hj).1; simpa using this
  unfold Lib.bytesCells
  rw [Array.getElem?_append_left (by rw [Array.size_map]; exact hj'), Array.getElem?_map]
  have hju : s.data[j]? = some u := by simpa using hj
  rw [hju]
  rfl
/-- A string's bytes, in a block of the call's own. -/
theorem St.ofString (hx : o.op = .convert src dst x) (hM : St w0 F w L) (hc : (c == 2 || c == 3) = true) (hw : Region.wanted o (yielded ops a.tmps) = true) {s : ByteArray} (e1 : a.eval x = .string s) {u : TypeDesc} (hs : P.underlying src = some u) (hd : P.underlying dst = some (.slice e)) (he : P.underlying e = some (.int .u8)) (hz : s.size ≤ maxLen)
    (h : ∀ w' g cap, St w0 F w' ((g, true, Res.obj (BufO e cap s.data.toList)) :: L) → wpSeq P ops K (Held w0 F Lr) l (a.put o.dst (.slice (some ⟨g, 0, none⟩) s.size cap)) w') : wpSeq P ops K (Held w0 F Lr) ((o, c) :: l) a w := by
  have hb := bytesWorld_below w e s
  refine wpSeq_turns hc hw (w' := Lib.bytesWorld w e s) (v := .slice (some ⟨w.heap.size, 0, none⟩) s.size (grownCap w s.size 0 e)) (n := .value (.slice (some ⟨w.heap.size, 0, none⟩) s.size (grownCap w s.size 0 e))) ?_ (.inl rfl) (fun _ hh => hh.below (by exact hb)) (h _ _ _ ((hM.below hb).learn (bytesWorld_buf w e s hz) (fun y hy => by have := hM.lt hy; omega) (fun _ => .inr hM.only.size)))
  unfold execOp
  simp only [hx, e1, Sem.run_bind, Lib.run_convert_string_bytes w src dst e s hs hd he, Result.andThen_ok, Sem.run_pure]
/-- A byte more. -/
theorem St.moreByte (hx : o.op = .call { callee := .builtin .append, args := #[x, y], argTypes := #[ty, ty] }) {ow : Bool} {T : TypeId} {v : Nat} {g cap q : Nat} {bs : List UInt8} {u : UInt8} (hq : q = bs.length) (hM : St w0 F w ((b, ow, Res.cells [.int .u8 u.toNat] T) :: (g, true, Res.obj (BufO e cap bs)) :: L)) (hc : (c == 3) = true) (hw : Region.wanted o (yielded ops a.tmps) = true) (hs : a.eval x = .slice (some ⟨g, 0, none⟩) q cap) (hy : a.eval y = .slice (some ⟨b, 0, none⟩) 1 v) (hB : appB P ty e 1 1 = true) (h63 : bs.length + 1 ≤ 1000000000)
    (h : ∀ w' g' cap', St w0 F w' ((g', true, Res.obj (BufO e cap' (bs ++ [u]))) :: L) → wpSeq P ops K (Held w0 F Lr) l (a.put o.dst (.slice (some ⟨g', 0, none⟩) (q + 1) cap')) w') : wpSeq P ops K (Held w0 F Lr) ((o, c) :: l) a w := by
  subst hq
  obtain ⟨i, z, e1, e2, e3, e4, e5, e6, e7⟩ := appB_spec hB
  have hcell : w.cell? ⟨b, 0, none⟩ = some (.int .u8 u.toNat) := Res.cell (r := .cells [.int .u8 u.toNat] T) (hM.holds _ (.head _)) rfl
  have hnews : ∀ j q, ([Value.int .u8 u.toNat] : List Value)[j]? = some q → w.cell? ((⟨b, 0, none⟩ : Addr).add j) = some q := fun j q hj => by
    cases j with
    | zero => cases hj; exact hcell
    | succ j => simp at hj
  have hM1 := hM.forget
  obtain ⟨ob, hob, cur, fz, rfl, hcs, hfz, hlc, hcm, hcu⟩ := hM1.holds _ (.head _)
  simp only at hob
  have hc3 : c = 3 := by simpa using hc
  subst hc3
  by_cases hroom : bs.length + 1 ≤ cap
  · have hrun := run_append_room_cells (P := P) w ty o.type e i e1 e2 g 0 bs.length cap ⟨b, 0, none⟩ 1 v [.int .u8 u.toNat] (by simp [e4]) hnews (by simp [Value.oneCell']) hroom (fun j hj => by
      have hj0 : j = 0 := by simpa using hj
      subst hj0
      rw [e4]
      simp only [Nat.mul_one, Nat.zero_add, Nat.add_zero]
      rw [cell_of_row _ _ _ _ _ _ hob, Array.getElem?_eq_getElem (by omega)]
      rfl) (fun j hj => by
      have hj0 : j = 0 := by simpa using hj
      subst hj0
      rw [e4]
      simp only [Nat.mul_one, Nat.zero_add, Nat.add_zero]
      unfold World.frozen?
      simp only [hob]
      rcases hfz with rfl | hfz
      · simp
      · simp
        omega)
    rw [e4] at hrun
    simp only [Nat.mul_one, Nat.zero_add] at hrun
    have hO : Only [g] w (w.setCells g bs.length [.int .u8 u.toNat]) := only_setCells g _ _ _
    have hr' : (Res.obj (BufO e cap (bs ++ [u]))).holds (w.setCells g bs.length [.int .u8 u.toNat]).heap[g]? := by
      refine ⟨_, set_row hob bs.length (.int .u8 u.toNat), _, _, rfl, by rw [Array.size_setIfInBounds]; exact hcs, hfz, by simp; omega, hcm, fun j q hj => ?_⟩
      by_cases hjb : j = bs.length
      · subst hjb
        rw [List.getElem?_append_right (Nat.le_refl _)] at hj
        simp at hj
        subst hj
        rw [Array.getElem?_setIfInBounds_self_of_lt (by omega)]
      · have hjl : j < bs.length := by
          have := (List.getElem?_eq_some_iff.1 hj).1
          simp at this
          omega
        rw [List.getElem?_append_left hjl] at hj
        rw [Array.getElem?_setIfInBounds_ne (by omega)]
        exact hcu j q hj
    refine wpSeq_turns (n := .value (.slice (some ⟨g, 0, none⟩) (bs.length + 1) cap)) (v := .slice (some ⟨g, 0, none⟩) (bs.length + 1) cap) rfl hw ?_ (.inl rfl) (fun h => by cases h) (h _ _ _ (hM1.turn Upd.head hO hr'))
    unfold execOp
    simp only [hx, resolve, invoke, builtin, Sem.run_bind, Sem.run_pure, Result.andThen_ok, List.map_toArray, List.map_cons, List.map_nil, hs, hy, hrun]
  · obtain ⟨v', w2, hrun, hown, hg⟩ := run_append_arg_grows (P := P) w ty o.type e i z 1 1 e1 e2 e3 e4 e5 e6 e7 ⟨g, 0, none⟩ bs.length cap (bs.map fun q => Value.int .u8 q.toNat) (by simp) (fun j q hj => by
      rw [List.getElem?_map] at hj
      cases hb : bs[j]? with
      | none => rw [hb] at hj; cases hj
      | some r =>
        rw [hb] at hj
        cases hj
        have := hcu j r hb
        have ha : (⟨g, 0, none⟩ : Addr).add j = ⟨g, j, none⟩ := by unfold Addr.add; split <;> simp_all
        rw [ha, cell_of_row _ _ _ _ _ _ hob]
        exact this) ⟨b, 0, none⟩ 1 v [.int .u8 u.toNat] rfl hnews (by omega) (by rw [maxLen_val]; omega) (by omega)
    have hbl : Below w.heap.size w w2 := ⟨hg.os, hg.tape, hg.output, hg.size, fun k hk => hg.block k hk (by simp)⟩
    have hM2 := hM1.forget.below hbl
    rcases hown.2 with ⟨-, h0⟩ | ⟨g', cap', cur', rfl, hbg, hc', h1, h2, h3, h4⟩
    · omega
    · have hr' : (Res.obj (BufO e cap' (bs ++ [u]))).holds w2.heap[g']? := by
        refine ⟨_, hc', _, _, rfl, by simpa using h3, .inl rfl, by simpa using h1, h2, fun j q hj => ?_⟩
        have hjl := (List.getElem?_eq_some_iff.1 hj).1
        have e8 : cur'.toList.take ((bs.length + 1) * 1) = (bs ++ [u]).map fun q => Value.int .u8 q.toNat := by rw [h4]; simp
        have e9 : (cur'.toList.take ((bs.length + 1) * 1))[j]? = some (.int .u8 q.toNat) := by rw [e8, List.getElem?_map, hj]; rfl
        rw [List.getElem?_take] at e9
        split at e9
        · simpa using e9
        · cases e9
      refine wpSeq_turns (n := .value (.slice (some ⟨g', 0, none⟩) (bs.length + 1) cap')) (v := .slice (some ⟨g', 0, none⟩) (bs.length + 1) cap') rfl hw ?_ (.inl rfl) (fun h => by cases h) (h _ _ _ (hM2.learn hr' (fun y hy e => ?_) (fun _ => .inr (Nat.le_trans hM1.only.size hbg))))
      · unfold execOp
        simp only [hx, resolve, invoke, builtin, Sem.run_bind, Sem.run_pure, Result.andThen_ok, List.map_toArray, List.map_cons, List.map_nil, hs, hy, hrun]
      · have := hM1.forget.lt hy
        omega
/-- A buffer's bytes as a string. -/
theorem St.toString_ (hx : o.op = .convert src dst x) (hM : St w0 F w L) (hc : (c == 3) = true) (hw : Region.wanted o (yielded ops a.tmps) = true) {g cap : Nat} {bs : List UInt8} {n : Nat} (hn : n = bs.length) (e1 : a.eval x = .slice (some ⟨g, 0, none⟩) n cap) (hm : (g, true, Res.obj (BufO e cap bs)) ∈ L) (hs : P.underlying src = some (.slice e)) (he : P.underlying e = some (.int .u8)) (hd : P.underlying dst = some .string)
    (h : wpSeq P ops K (Held w0 F Lr) l (a.put o.dst (.string ⟨bs.toArray⟩)) w) : wpSeq P ops K (Held w0 F Lr) ((o, c) :: l) a w := by
  subst hn
  obtain ⟨ob, hob, cur, fz, rfl, hcs, hfz, hlc, hcm, hcu⟩ := hM.holds _ hm
  simp only at hob
  have hr := run_convert_bytes_back (P := P) w src dst e ⟨g, 0, none⟩ cap bs hs he hd (fun j hj => by
    have ha : (⟨g, 0, none⟩ : Addr).add j = ⟨g, j, none⟩ := by unfold Addr.add; split <;> simp_all
    rw [ha, cell_of_row _ _ _ _ _ _ hob]
    exact hcu j _ (List.getElem?_eq_getElem hj))
  refine wpSeq_yields (by rw [show c = 3 by simpa using hc]; rfl) hw ?_ h
  unfold execOp
  simp only [hx, e1, Sem.run_bind, hr, Result.andThen_ok, Sem.run_pure]
end
/-- How many elements a slice has. -/
def sliceLen : Value → Nat
  | .slice _ n _ => n
  | _ => 0
theorem noughts_more (s : ByteArray) (k : Nat) : (⟨(s.data.toList ++ List.replicate k 0).toArray⟩ : ByteArray) = s ++ In.noughts k := by
  refine Pt.ba_ext ?_
  unfold In.noughts
  simp
set_option maxHeartbeats 8000000 in
set_option maxRecDepth 100000 in
/-- Bytes with noughts behind. -/
theorem rlong_any (s : ByteArray) (n : Nat) (hs : s.size ≤ 1048576) (hn : n ≤ 1048576) (w0 : World) : Calls Tryz.prog 61 #[.string s, .int .i64 n] w0 fun e w' => e = .returned (.string (s ++ In.noughts (n - s.size))) ∧ Below w0.heap.size w0 w' := by
  have hM := St.start w0 []
  go_enter Tryz.func61, Tryz.ntmps61
  (repeat (first | ((with_reducible show wpSeq _ _ _ _ _ _ _); first | ((with_reducible refine wpSeq_nil ?_); refine hKr.out _ _ ?_; clear hKr Kr) | (((refine St.copy (v := ?_) (by first | exact .inl rfl | exact .inr rfl) rfl rfl ?_ ?_; rotate_left; (focus ((try simp only [Act.eval, getD_lit, qGz, qGs]); with_reducible rfl)))); (try simp only [Act.put, qSa, qSz, qSs]))) | (first | (refine wp_seq_shut (fun K hK => ?_)) | (refine wp_text hM (fun Kr hKr => ?_); simp only [inText]) | ((refine hK.out _ _ ?_); clear hK K))))
  refine St.ofString rfl hM rfl rfl rfl Tryz.underlying9 Tryz.underlying103 Tryz.underlying5 (by rw [maxLen_val]; omega) ?_
  clear hM; intro w g cap hM
  (try simp only [Act.put, qSa, qSz, qSs])
  (repeat (first | ((with_reducible show wpSeq _ _ _ _ _ _ _); first | ((with_reducible refine wpSeq_nil ?_); refine hKr.out _ _ ?_; clear hKr Kr) | (((refine St.copy (v := ?_) (by exact .inr rfl) rfl rfl ?_ ?_; rotate_left; (focus ((try simp only [Act.eval, getD_lit, qGz, qGs]); with_reducible rfl)))); (try simp only [Act.put, qSa, qSz, qSs]))) | (first | (refine wp_seq_shut (fun K hK => ?_)) | refine wp_block ?_ | ((refine hK.out _ _ ?_); clear hK K))))
  go_loopw [5] (fun v wr => ∃ (q : Nat) (bs : List UInt8) (g cap : Nat), v = .slice (some ⟨g, 0, none⟩) q cap ∧ Hid (q = bs.length ∧ s.size ≤ q ∧ bs = s.data.toList ++ List.replicate (q - s.size) 0 ∧ (q ≤ n ∨ q = s.size)) ∧ St w0 [] wr [(g, true, Res.obj (BufO 5 cap bs))]) (fun v _ => n - (sliceLen v))
  case atStart => exact ⟨s.size, s.data.toList, g, cap, rfl, Lib.hid ⟨by simp, Nat.le_refl _, by simp, .inr rfl⟩, hM⟩
  case round =>
    clear hM
    obtain ⟨q, bs, g, cap, rfl, HQ, hM⟩ := hrel
    by_cases hlt : q < n
    · have HL := Lib.hid (show bs.length + 1 ≤ 1000000000 by have := HQ.out.1; omega)
      (repeat (first | ((with_reducible show wpSeq _ _ _ _ _ _ _); first | ((with_reducible refine wpSeq_nil ?_); refine hKr.out _ _ ?_; clear hKr Kr) | ((first | (refine St.copy (v := ?_) (by exact .inl rfl) rfl rfl ?_ ?_; rotate_left; (focus ((try simp only [Act.eval, getD_lit, qGz, qGs]); with_reducible rfl))) | (refine St.pure (v := ?_) rfl rfl rfl (fun w => ?_) ?_; rotate_left; (focus (go_simp; all_goals with_reducible rfl))) | (((((refine St.buildSlice (cells := ?_) (e := ?_) rfl hM rfl rfl (fun w => ?_) ?_; rotate_left 2; (focus (go_simp; all_goals with_reducible rfl)))); clear hM; intro w bk hM)); (try simp only [Res.put, Res.known, Act.eval, Value.cells, getD_lit, qGz, qGs, List.toList_toArray, qSz, qSs, over, Nat.reduceAdd] at hM))); (try simp only [Act.put, qSa, qSz, qSs]))) | (first | (refine wp_seq_shut (fun K hK => ?_)) | (refine wp_text hM (fun Kr hKr => ?_); simp only [inText]) | refine wp_block ?_ | refine wp_skip ?_ | (refine wp_cond_true rfl ?_) | ((refine hK.out _ _ ?_); clear hK K))))
      refine St.moreByte (u := 0) (T := 5) (e := 5) rfl HQ.out.1 hM rfl rfl rfl rfl (by kernel_rfl) HL.out ?_
      clear hM; intro w g' cap' hM
      have HQ2 := Lib.hid (show q + 1 = (bs ++ [(0 : UInt8)]).length ∧ s.size ≤ q + 1 ∧ bs ++ [0] = s.data.toList ++ List.replicate (q + 1 - s.size) 0 ∧ (q + 1 ≤ n ∨ q + 1 = s.size) from by
        obtain ⟨h1, h2, h3, h4⟩ := HQ.out
        refine ⟨by rw [List.length_append, ← h1]; rfl, by omega, ?_, .inl hlt⟩
        rw [h3, List.append_assoc, show q + 1 - s.size = (q - s.size) + 1 by omega, List.replicate_succ'])
      (try simp only [Act.put, qSa, qSz, qSs])
      (repeat (((with_reducible show wpSeq _ _ _ _ _ _ _); first | ((with_reducible refine wpSeq_nil ?_); refine hKr.out _ _ ?_; clear hKr Kr) | (((refine St.copy (v := ?_) (by exact .inr rfl) rfl rfl ?_ ?_; rotate_left; (focus ((try simp only [Act.eval, getD_lit, qGz, qGs]); with_reducible rfl)))); (try simp only [Act.put, qSa, qSz, qSs])))))
      (try simp only [Exit.then])
      refine ⟨?_, ?_⟩
      · (focus (repeat (first | exact ⟨⟨q + 1, _, g', cap', rfl, HQ2, hM⟩, rfl⟩ | apply Exists.intro)))
      · simp only [getD_lit, qGz, qGs, sliceLen]
        omega
    · have k1 : decide (q < n) = false := decide_eq_false hlt
      have HE := Lib.hid (show (⟨bs.toArray⟩ : ByteArray) = s ++ In.noughts (n - s.size) from by
        obtain ⟨h1, h2, h3, h4⟩ := HQ.out
        rw [h3, noughts_more]
        congr 2
        omega)
      clear hlt
      (repeat (first | ((with_reducible show wpSeq _ _ _ _ _ _ _); first | ((with_reducible refine wpSeq_nil ?_); refine hKr.out _ _ ?_; clear hKr Kr) | ((first | (refine St.copy (v := ?_) (by exact .inl rfl) rfl rfl ?_ ?_; rotate_left; (focus ((try simp only [Act.eval, getD_lit, qGz, qGs]); with_reducible rfl))) | (refine St.pure (v := ?_) rfl rfl rfl (fun w => ?_) ?_; rotate_left; (focus (go_simp; all_goals with_reducible rfl)))); (try simp only [Act.put, qSa, qSz, qSs]))) | (first | (refine wp_seq_shut (fun K hK => ?_)) | (refine wp_text hM (fun Kr hKr => ?_); simp only [inText]) | (refine wp_cond_false rfl ?_) | (refine wp_exit ?_; simp only [Exit.then, Exit.inBlock, if_true, if_false, reduceCtorEq, Nat.reduceEqDiff, Nat.succ_ne_zero]) | ((first | refine hK.out _ _ ?_ | (clear hK K; refine hK.out _ _ ?_)); clear hK K))))
      refine St.toString_ (bs := bs) rfl hM rfl rfl HQ.out.1 rfl (by repeat constructor) Tryz.underlying103 Tryz.underlying5 Tryz.underlying9 ?_
      (try simp only [Act.put, qSa, qSz, qSs])
      (repeat (first | ((with_reducible show wpSeq _ _ _ _ _ _ _); first | ((with_reducible refine wpSeq_nil ?_); refine hKr.out _ _ ?_; clear hKr Kr) | (((refine St.copy (v := ?_) (by exact .inr rfl) rfl rfl ?_ ?_; rotate_left; (focus ((try simp only [Act.eval, getD_lit, qGz, qGs]); with_reducible rfl)))); (try simp only [Act.put, qSa, qSz, qSs]))) | (((refine hK.out _ _ ?_); clear hK K))))
      ((refine wp_ret ?_; (try simp only [Exit.then, Exit.inBlock]); refine St.ret hM rfl (by repeat (first | exact Outs.nil | apply Outs.tmp rfl)) rfl ?_))
      exact ⟨by rw [HE.out]; rfl, hM.to_below⟩
end Go.Proofs.YtcicjklhbnipcaaGreat
namespace Go.Proofs.YtcicjklhbnipcaaGreat
set_option linter.unusedVariables false
set_option linter.unusedSimpArgs false
open Go.RowKit Go.Maps
section
variable {P : Program} {K : Act → World → Prop} {a : Act} {w : World} {ops : Array Oper} {l : List (Oper × Nat)} {c : Nat} {o : Oper} {ty : TypeId} {x y z : Operand} {S : World → Prop} {s : ByteArray}
theorem run_strTo (w : World) (hx : o.op = .slice ty x none (some z) none) (e1 : a.eval x = .string s) {j : Nat} (e3 : a.eval z = .int .i64 (j : Int)) (ht : P.underlying ty = some .string) (hj : j ≤ s.size) : (execOp a.eval o).run P w = .ok (.value (.string (s.extract 0 j))) w := by
  have h1 : (0 : Int) ≤ (j : Int) := Int.natCast_nonneg j
  unfold execOp
  simp [hx, e1, e3, Instr.sliceAt, Instr.slice, Instr.sliceBounds, Instr.sliceBound, asIntOf, Sem.run_bind, Sem.run_pure, run_underlying ht, h1, hj, Option.map]
theorem run_strFrom (w : World) (hx : o.op = .slice ty x (some y) none none) (e1 : a.eval x = .string s) {i : Nat} (e2 : a.eval y = .int .i64 (i : Int)) (ht : P.underlying ty = some .string) (hi : i ≤ s.size) : (execOp a.eval o).run P w = .ok (.value (.string (s.extract i s.size))) w := by
  have h0 : (0 : Int) ≤ (i : Int) := Int.natCast_nonneg i
  unfold execOp
  simp [hx, e1, e2, Instr.sliceAt, Instr.slice, Instr.sliceBounds, Instr.sliceBound, asIntOf, Sem.run_bind, Sem.run_pure, run_underlying ht, h0, hi, Option.map]
/-- A string's front. -/
theorem St.strTo (hx : o.op = .slice ty x none (some z) none) (hc : (c == 0 || c == 2 || c == 3) = true) (hw : Region.wanted o (yielded ops a.tmps) = true) (e1 : a.eval x = .string s) {j : Nat} (e3 : a.eval z = .int .i64 (j : Int)) (ht : P.underlying ty = some .string) (hj : j ≤ s.size) (h : wpSeq P ops K S l (a.put o.dst (.string (s.extract 0 j))) w) : wpSeq P ops K S ((o, c) :: l) a w :=
  St.soft hc hw (fun w => run_strTo w hx e1 e3 ht hj) h
/-- A string's rest. -/
theorem St.strFrom (hx : o.op = .slice ty x (some y) none none) (hc : (c == 0 || c == 2 || c == 3) = true) (hw : Region.wanted o (yielded ops a.tmps) = true) (e1 : a.eval x = .string s) {i : Nat} (e2 : a.eval y = .int .i64 (i : Int)) (ht : P.underlying ty = some .string) (hi : i ≤ s.size) (h : wpSeq P ops K S l (a.put o.dst (.string (s.extract i s.size))) w) : wpSeq P ops K S ((o, c) :: l) a w :=
  St.soft hc hw (fun w => run_strFrom w hx e1 e2 ht hi) h
end
namespace In
theorem longB_size (d : ByteArray) (n : Nat) : (d ++ noughts (n - d.size)).size = max n d.size := by
  rw [ByteArray.size_append, noughts_len]
  omega
theorem set_set {l : List NodeD} {n m : NodeD} (h : m.id = n.id) : set (set l n) m = set l m := by
  unfold set
  rw [List.map_map]
  refine List.map_congr_left fun k _ => ?_
  simp only [Function.comp]
  by_cases hk : k.id = n.id
  · have q : (k.id == n.id) = true := beq_iff_eq.2 hk
    rw [if_pos q, if_pos (beq_iff_eq.2 h.symm), if_pos (beq_iff_eq.2 (hk.trans h.symm))]
  · have q : (k.id == n.id) = false := beq_eq_false_iff_ne.2 hk
    have q2 : (k.id == m.id) = false := beq_eq_false_iff_ne.2 (fun e => hk (e.trans h))
    simp [q, q2]
section
variable {t : TabD} {N : Nat}
theorem rput_data (I : Inv N t) {id : Int} {y : NodeD} (hn : find t.nodes id = some y) (v : ByteArray) : rput t.nodes (y.setData v) = (dataOf t id v).nodes := by
  unfold dataOf
  rw [at_some hn]
  exact rput_alive (show 0 < y.links ∨ 0 < y.holds from (I.alive y (find_some hn).1 (by have := (I.pos y (find_some hn).1).1; omega)).1)
theorem trunc_bad {id n : Int} {e : Int} (he : e ≠ 0) (h : truncE t id n = e) : trunc t id n = (e, t) := by
  unfold trunc
  rw [h, beq_eq_false_iff_ne.2 he]
  rfl
theorem trunc_yes {id n : Int} (h : truncE t id n = 0) : trunc t id n = (0, sizedT t id n) := by
  unfold trunc
  rw [h]
  rfl
theorem truncE_bad {id n : Int} (h : fileE t id n ≠ 0) : truncE t id n = fileE t id n := by
  unfold truncE
  rw [beq_eq_false_iff_ne.2 h]
  rfl
theorem truncE_at {id n : Int} {y : NodeD} (hn : find t.nodes id = some y) (h : fileE t id n = 0) : truncE t id n = sizedE t y n := by
  unfold truncE
  rw [h, at_some hn]
  rfl
end
end In
section
variable {w w' w0 : World} {F : List Nat} {L M : List Ent} {zs : List NodV} {x : RX} {t : TabD} {N : Nat} {q nx : Int}
theorem file_pos {id n : Int} {y : NodeD} (hn : In.find t.nodes id = some y) (h : In.fileE t id n = 0) : y.dir = false ∧ 0 ≤ n := by
  rw [fileE_at hn] at h
  cases hd : y.dir with
  | true => rw [hd] at h; cases h
  | false =>
    rw [hd, if_neg nofun] at h
    split at h
    · cases h
    · exact ⟨rfl, by omega⟩
set_option maxHeartbeats 8000000 in
set_option maxRecDepth 100000 in
theorem rTrunc_any (h : RIs x t zs w0) (I : In.Inv N t) (hN : N ≤ 900000) (id n : Int) :
    Calls Tryz.prog 37 #[.pointer (some ⟨x.g, 0, none⟩), .int .i64 id, .int .i64 n] w0 fun e w' => e = .returned (.int .i64 (In.trunc t id n).1) ∧ RDid x t zs (In.trunc t id n).2 w0 w' := by
  cases hf : rfind zs id with
  | none =>
    have hM := St.start w0 []
    have HC := Lib.hid (fun (W : World) (hb : Below w0.heap.size w0 W) => rfile_none (h.raw.below hb) n 0 hf)
    unfold nodZ at HC
    have HR := Lib.hid (fun (W : World) (hb : Below w0.heap.size w0 W) => RDid.same h hb)
    have hE3 : In.fileE t id n = 3 := fileE_none (by rw [h.find id, hf]; rfl)
    rw [In.trunc_bad (e := 3) (by decide) (by rw [In.truncE_bad (by rw [hE3]; decide), hE3])]
    clear h hf I hE3
    simp only
    go_enter Tryz.func37, Tryz.ntmps37
    (repeat (first | ((with_reducible show wpSeq _ _ _ _ _ _ _); first | ((with_reducible refine wpSeq_nil ?_); refine hKr.out _ _ ?_; clear hKr Kr) | (((refine St.copy (v := ?_) (by first | exact .inl rfl | exact .inr rfl) rfl rfl ?_ ?_; rotate_left; (focus ((try simp only [Act.eval, getD_lit, qGz, qGs]); with_reducible rfl)))); (try simp only [Act.put, qSa, qSz, qSs]))) | (first | (refine wp_seq_shut (fun K hK => ?_)) | (refine wp_text hM (fun Kr hKr => ?_); simp only [List.append_eq, List.cons_append, List.nil_append, inText]) | ((refine hK.out _ _ ?_); clear hK K))))
    (refine St.call3 rfl rfl (by kernel_rfl) (fun R hR => ?_); simp only [List.map_toArray, List.map_cons, List.map_nil, Act.eval, getD_lit, qGz, qGs])
    refine (HC.out _ hM.to_below).mono ?_
    (rintro e w' ⟨rfl, hb⟩; refine hR.out _ _ ?_; clear hR R; replace hM := hM.below hb; clear hb; (try simp only [Act.put, qSa, qSz, qSs]))
    (repeat (first | ((with_reducible show wpSeq _ _ _ _ _ _ _); first | ((with_reducible refine wpSeq_nil ?_); refine hKr.out _ _ ?_; clear hKr Kr) | ((first | (refine St.copy (v := ?_) (by first | exact .inl rfl | exact .inr rfl) rfl rfl ?_ ?_; rotate_left; (focus ((try simp only [Act.eval, getD_lit, qGz, qGs]); with_reducible rfl))) | (refine St.pure (v := ?_) rfl rfl rfl (fun w => ?_) ?_; rotate_left; (focus (go_simp; all_goals with_reducible rfl))) | ((((refine St.storeRow rfl hM rfl rfl rfl rfl rfl (by repeat constructor) (Nat.le_of_ble_eq_true rfl) (Nat.le_of_ble_eq_true rfl) (by kernel_rfl) rfl ?_ ?_); (focus ((intro h; cases h; done))); clear hM; intro w hM)); (try simp only [Res.put, Res.known, Act.eval, Value.cells, getD_lit, qGz, qGs, List.toList_toArray, qSz, qSs, over, Nat.reduceAdd] at hM))); (try simp only [Act.put, qSa, qSz, qSs])) | (((refine St.alloc (ty := 63) (z := .agg #[.int .i64 0, .bool false, .int .i64 0, .int .i64 0, .string ⟨#[]⟩, .slice none 0 0]) rfl hM rfl rfl (by kernel_rfl) ?_); clear hM; intro w bk hM); (try simp only [Res.put, Res.known, Act.eval, Value.cells, getD_lit, qGz, qGs, List.toList_toArray, qSz, qSs, over, Nat.reduceAdd] at hM); (try simp only [Act.put, qSa, qSz, qSs]))) | (first | (refine wp_seq_shut (fun K hK => ?_)) | (refine wp_text hM (fun Kr hKr => ?_); simp only [List.append_eq, List.cons_append, List.nil_append, inText]) | (refine wp_cond_true rfl ?_) | ((refine hK.out _ _ ?_); clear hK K))))
    ((refine wp_ret ?_; (try simp only [Exit.then, Exit.inBlock]); refine St.ret hM rfl (by repeat (first | exact Outs.nil | apply Outs.tmp rfl)) rfl ?_))
    exact ⟨rfl, HR.out _ hM.to_below⟩
  | some y =>
    have hy := (rfind_mem hf).1
    have hn : In.find t.nodes id = some y.1 := by rw [h.find id, hf]; rfl
    (obtain ⟨g, xs⟩ := x; obtain ⟨va, vc, hv, -⟩ := slV_open h.raw.sl; have hM : St w0 [g] w0 (rL ⟨g, xs⟩ t.quota (t.last + 1) zs) := h.raw.st; have HRP := Lib.hid (RP.start h.raw); have HOP := Lib.hid (fun nx => rL_open (x := ⟨g, xs⟩) (zs := zs) hv t.quota nx); obtain ⟨U, hU⟩ : ∃ U, (nodL xs zs ++ zs.flatMap NodV.ents).map unflag = U := ⟨_, rfl⟩; simp only [hU] at HOP; rw [HOP.out] at hM; have HAT := Lib.hid (fun (W : World) (hA : At ((g, true, Res.cells [.int .i64 t.quota, .int .i64 (t.last + 1), .slice va zs.length vc] 43) :: U) W) => (show RIs ⟨g, xs⟩ t zs W from ⟨RRaw.of (by rw [HOP.out]; exact hA) h.raw.sl h.raw.names h.raw.len, h.nodes⟩)); have HB := Lib.hid (fun (W : World) (hA : At ((g, true, Res.cells [.int .i64 t.quota, .int .i64 (t.last + 1), .slice va zs.length vc] 43) :: U) W) (ho : Only [g] w0 W) => (show RDid ⟨g, xs⟩ t zs t w0 W from ⟨xs, zs, h.nodes, HRP.out.to (by rw [HOP.out]; exact hA) ho⟩)))
    obtain ⟨ya, yc, hyv, -⟩ := slV_open (h.raw.names y hy)
    have HG := Lib.hid (fun (W : World) (hA : At ((g, true, Res.cells [.int .i64 t.quota, .int .i64 (t.last + 1), .slice va zs.length vc] 43) :: U) W) => rfile_some (HAT.out W hA).raw n 0 hf)
    rw [fileN_E0 h hf] at HG
    by_cases hc : In.fileE t id n = 0
    · obtain ⟨hyd, hn0⟩ := file_pos hn hc
      have HFT := Lib.hid (fun (W : World) (hA : At ((g, true, Res.cells [.int .i64 t.quota, .int .i64 (t.last + 1), .slice va zs.length vc] 43) :: U) W) => rfits_any (HAT.out W hA) I hy n hn0)
      rw [NodV.open hyv] at HG HFT
      rw [hc] at HG
      rw [hyd] at HG HFT
      by_cases he : In.sizedE t y.1 n = 0
      · have HE := Lib.hid (In.trunc_yes (t := t) (id := id) (n := n) (by rw [In.truncE_at hn hc]; exact he))
        rw [he] at HFT
        obtain ⟨hsz, -⟩ := In.sizedE_ok he
        obtain ⟨m, rfl⟩ : ∃ m : Nat, n = m := ⟨n.toNat, by omega⟩
        have hds := h.dl I y hy
        have HLG := Lib.hid (fun W => rlong_any y.1.data m hds (by omega) W)
        have HLE := Lib.hid (show m ≤ (y.1.data ++ In.noughts (m - y.1.data.size)).size by rw [In.longB_size]; omega)
        obtain ⟨v, hv0⟩ : ∃ v, (y.1.data ++ In.noughts (m - y.1.data.size)).extract 0 m = v := ⟨_, rfl⟩
        have HID := Lib.hid (h.ids I)
        have HNO := Lib.hid (show (rset zs ((y.1.setData v, y.2) : NodV)).map (·.1) = (In.sizedT t id m).nodes by
          rw [rput_nodes, h.nodes]
          show In.rput t.nodes (y.1.setData v) = (In.dataOf t id (In.resized (In.at_ t id).data (m : Int).toNat)).nodes
          rw [In.rput_data I hn, In.at_some hn, ← hv0]
          rfl)
        have HYC := Lib.hid (show NodV.cells (y.1.setData v, y.2) = [.int .i64 y.1.id, .bool false, .int .i64 y.1.links, .int .i64 y.1.holds, .string v, .slice ya y.1.names.length yc] by rw [NodV.open (z := (y.1.setData v, y.2)) hyv, ← hyd]; rfl)
        (have HH := Lib.hid h; have HI := Lib.hid I; clear h I hv hU)
        have HV := Lib.hid hv0
        clear hyd hn0 hyv hc he hsz hds hv0
        go_enter Tryz.func37, Tryz.ntmps37
        (repeat (first | ((with_reducible show wpSeq _ _ _ _ _ _ _); first | ((with_reducible refine wpSeq_nil ?_); refine hKr.out _ _ ?_; clear hKr Kr) | (((refine St.copy (v := ?_) (by first | exact .inl rfl | exact .inr rfl) rfl rfl ?_ ?_; rotate_left; (focus ((try simp only [Act.eval, getD_lit, qGz, qGs]); with_reducible rfl)))); (try simp only [Act.put, qSa, qSz, qSs]))) | (first | (refine wp_seq_shut (fun K hK => ?_)) | (refine wp_text hM (fun Kr hKr => ?_); simp only [List.append_eq, List.cons_append, List.nil_append, inText]) | ((refine hK.out _ _ ?_); clear hK K))))
        ((refine St.call3 rfl rfl (by kernel_rfl) (fun R hR => ?_); simp only [List.map_toArray, List.map_cons, List.map_nil, Act.eval, getD_lit, qGz, qGs]); refine (HG.out _ (hM.part (by repeat (exact Part.all)))).mono ?_; (rintro e w' ⟨rfl, hb⟩; refine hR.out _ _ ?_; clear hR R; replace hM := hM.below hb; clear hb; (try simp only [Act.put, qSa, qSz, qSs])))
        (repeat (first | ((with_reducible show wpSeq _ _ _ _ _ _ _); first | ((with_reducible refine wpSeq_nil ?_); refine hKr.out _ _ ?_; clear hKr Kr) | ((first | (refine St.copy (v := ?_) (by first | exact .inl rfl | exact .inr rfl) rfl rfl ?_ ?_; rotate_left; (focus ((try simp only [Act.eval, getD_lit, qGz, qGs]); with_reducible rfl))) | (refine St.pure (v := ?_) rfl rfl rfl (fun w => ?_) ?_; rotate_left; (focus (go_simp; all_goals with_reducible rfl))) | ((refine St.loadRow rfl hM rfl rfl rfl rfl (by repeat constructor) (Nat.le_of_ble_eq_true rfl) (by kernel_rfl) ?_); (try simp only [Res.known, List.drop_succ_cons, List.drop_zero, List.take_succ_cons, List.take_zero])) | ((((refine St.storeRow rfl hM rfl rfl rfl rfl rfl (by repeat constructor) (Nat.le_of_ble_eq_true rfl) (Nat.le_of_ble_eq_true rfl) (by kernel_rfl) rfl ?_ ?_); (focus ((intro h; cases h; done))); clear hM; intro w hM)); (try simp only [Res.put, Res.known, Act.eval, Value.cells, getD_lit, qGz, qGs, List.toList_toArray, qSz, qSs, over, Nat.reduceAdd] at hM))); (try simp only [Act.put, qSa, qSz, qSs])) | (((refine St.alloc (ty := 63) (z := .agg #[.int .i64 0, .bool false, .int .i64 0, .int .i64 0, .string ⟨#[]⟩, .slice none 0 0]) rfl hM rfl rfl (by kernel_rfl) ?_); clear hM; intro w bk hM); (try simp only [Res.put, Res.known, Act.eval, Value.cells, getD_lit, qGz, qGs, List.toList_toArray, qSz, qSs, over, Nat.reduceAdd] at hM); (try simp only [Act.put, qSa, qSz, qSs]))) | (first | (refine wp_seq_shut (fun K hK => ?_)) | (refine wp_text hM (fun Kr hKr => ?_); simp only [List.append_eq, List.cons_append, List.nil_append, inText]) | refine wp_skip ?_ | (refine wp_cond_false rfl ?_) | ((refine hK.out _ _ ?_); clear hK K))))
        ((refine St.call3 rfl rfl (by kernel_rfl) (fun R hR => ?_); simp only [List.map_toArray, List.map_cons, List.map_nil, Act.eval, getD_lit, qGz, qGs]); refine (HFT.out _ (hM.part (by repeat (first | exact Part.all | apply Part.skip)))).mono ?_; (rintro e w' ⟨rfl, hb⟩; refine hR.out _ _ ?_; clear hR R; replace hM := hM.below hb; clear hb; (try simp only [Act.put, qSa, qSz, qSs])))
        (repeat (first | ((with_reducible show wpSeq _ _ _ _ _ _ _); first | ((with_reducible refine wpSeq_nil ?_); refine hKr.out _ _ ?_; clear hKr Kr) | ((first | (refine St.copy (v := ?_) (by first | exact .inl rfl | exact .inr rfl) rfl rfl ?_ ?_; rotate_left; (focus ((try simp only [Act.eval, getD_lit, qGz, qGs]); with_reducible rfl))) | (refine St.pure (v := ?_) rfl rfl rfl (fun w => ?_) ?_; rotate_left; (focus (go_simp; all_goals with_reducible rfl))) | refine St.load rfl hM rfl rfl rfl rfl (by repeat constructor) (by rfl) (by kernel_rfl) ?_); (try simp only [Act.put, qSa, qSz, qSs]))) | (first | (refine wp_seq_shut (fun K hK => ?_)) | (refine wp_text hM (fun Kr hKr => ?_); simp only [List.append_eq, List.cons_append, List.nil_append, inText]) | refine wp_skip ?_ | (refine wp_cond_false rfl ?_) | ((refine hK.out _ _ ?_); clear hK K))))
        (refine St.call3 rfl rfl (by kernel_rfl) (fun R hR => ?_); simp only [List.map_toArray, List.map_cons, List.map_nil, Act.eval, getD_lit, qGz, qGs])
        refine (HLG.out _).mono ?_
        (rintro e w' ⟨rfl, hb⟩; refine hR.out _ _ ?_; clear hR R; replace hM := hM.below hb; clear hb; (try simp only [Act.put, qSa, qSz, qSs]))
        (repeat (((with_reducible show wpSeq _ _ _ _ _ _ _); (((refine St.copy (v := ?_) (by exact .inl rfl) rfl rfl ?_ ?_; rotate_left; (focus ((try simp only [Act.eval, getD_lit, qGz, qGs]); with_reducible rfl)))); (try simp only [Act.put, qSa, qSz, qSs])))))
        refine St.strTo rfl rfl rfl rfl rfl Tryz.underlying9 HLE.out ?_
        rw [HV.out]
        (try simp only [Act.put, qSa, qSz, qSs])
        (repeat (first | ((with_reducible show wpSeq _ _ _ _ _ _ _); first | ((with_reducible refine wpSeq_nil ?_); refine hKr.out _ _ ?_; clear hKr Kr) | ((first | (refine St.copy (v := ?_) (by exact .inl rfl) rfl rfl ?_ ?_; rotate_left; (focus ((try simp only [Act.eval, getD_lit, qGz, qGs]); with_reducible rfl))) | (refine St.pure (v := ?_) rfl rfl rfl (fun w => ?_) ?_; rotate_left; (focus (go_simp; all_goals with_reducible rfl))) | ((refine St.loadRow rfl hM rfl rfl rfl rfl (by repeat constructor) (Nat.le_of_ble_eq_true rfl) (by kernel_rfl) ?_); (try simp only [Res.known, List.drop_succ_cons, List.drop_zero, List.take_succ_cons, List.take_zero])) | ((((refine St.store rfl hM rfl rfl rfl rfl rfl (by repeat constructor) (Nat.le_of_ble_eq_true rfl) (by kernel_rfl) rfl ?_ ?_); (focus ((intro h; cases h; done))); clear hM; intro w hM)); (try simp only [Res.put, Res.known, Act.eval, Value.cells, getD_lit, qGz, qGs, List.toList_toArray, qSz, qSs, over, Nat.reduceAdd] at hM))); (try simp only [Act.put, qSa, qSz, qSs]))) | (first | (refine wp_seq_shut (fun K hK => ?_)) | (refine wp_text hM (fun Kr hKr => ?_); simp only [List.append_eq, List.cons_append, List.nil_append, inText]) | ((refine hK.out _ _ ?_); clear hK K))))
        (refine St.call3 rfl rfl (by kernel_rfl) (fun R hR => ?_); simp only [List.map_toArray, List.map_cons, List.map_nil, Act.eval, getD_lit, qGz, qGs])
        rw [← HOP.out] at hM
        have C := rputY_any HRP.out hM (by intro s'; repeat (first | exact Swap.all | apply Swap.skip)) HID.out hy (n := y.1.setData v) rfl rfl
        rw [HYC.out] at C
        refine C.mono ?_
        clear C
        rintro e w' ⟨rfl, s2, hM1, hp2⟩; refine hR.out _ _ ?_; clear hR R hM
        have hM := hM1
        clear hM1
        (try simp only [Act.put, qSa, qSz, qSs])
        (repeat (first | ((with_reducible show wpSeq _ _ _ _ _ _ _); first | ((with_reducible refine wpSeq_nil ?_); refine hKr.out _ _ ?_; clear hKr Kr) | (((refine St.copy (v := ?_) (by exact .inr rfl) rfl rfl ?_ ?_; rotate_left; (focus ((try simp only [Act.eval, getD_lit, qGz, qGs]); with_reducible rfl)))); (try simp only [Act.put, qSa, qSz, qSs]))) | (first | (refine wp_seq_shut (fun K hK => ?_)) | (refine wp_text hM (fun Kr hKr => ?_); simp only [List.append_eq, List.cons_append, List.nil_append, inText]) | ((refine hK.out _ _ ?_); clear hK K))))
        ((refine wp_ret ?_; (try simp only [Exit.then, Exit.inBlock]); refine St.ret hM rfl (by repeat (first | exact Outs.nil | apply Outs.tmp rfl)) rfl ?_))
        rw [HE.out]
        exact ⟨rfl, s2, _, HNO.out, hp2.to (At.unF (hM.part (by repeat (first | exact Part.all | apply Part.skip)))) hM.only⟩
      · have q2 : (In.sizedE t y.1 n != 0) = true := bne_iff_ne.2 he
        have HE := Lib.hid (In.trunc_bad (t := t) (id := id) (n := n) he (In.truncE_at hn hc))
        generalize In.sizedE t y.1 n = c at *
        (have HH := Lib.hid h; have HI := Lib.hid I; clear h I hv hU)
        clear hyd hn0 hyv hc he
        go_enter Tryz.func37, Tryz.ntmps37
        (repeat (first | ((with_reducible show wpSeq _ _ _ _ _ _ _); first | ((with_reducible refine wpSeq_nil ?_); refine hKr.out _ _ ?_; clear hKr Kr) | (((refine St.copy (v := ?_) (by first | exact .inl rfl | exact .inr rfl) rfl rfl ?_ ?_; rotate_left; (focus ((try simp only [Act.eval, getD_lit, qGz, qGs]); with_reducible rfl)))); (try simp only [Act.put, qSa, qSz, qSs]))) | (first | (refine wp_seq_shut (fun K hK => ?_)) | (refine wp_text hM (fun Kr hKr => ?_); simp only [List.append_eq, List.cons_append, List.nil_append, inText]) | ((refine hK.out _ _ ?_); clear hK K))))
        ((refine St.call3 rfl rfl (by kernel_rfl) (fun R hR => ?_); simp only [List.map_toArray, List.map_cons, List.map_nil, Act.eval, getD_lit, qGz, qGs]); refine (HG.out _ (hM.part (by repeat (exact Part.all)))).mono ?_; (rintro e w' ⟨rfl, hb⟩; refine hR.out _ _ ?_; clear hR R; replace hM := hM.below hb; clear hb; (try simp only [Act.put, qSa, qSz, qSs])))
        (repeat (first | ((with_reducible show wpSeq _ _ _ _ _ _ _); first | ((with_reducible refine wpSeq_nil ?_); refine hKr.out _ _ ?_; clear hKr Kr) | ((first | (refine St.copy (v := ?_) (by first | exact .inl rfl | exact .inr rfl) rfl rfl ?_ ?_; rotate_left; (focus ((try simp only [Act.eval, getD_lit, qGz, qGs]); with_reducible rfl))) | (refine St.pure (v := ?_) rfl rfl rfl (fun w => ?_) ?_; rotate_left; (focus (go_simp; all_goals with_reducible rfl))) | ((refine St.loadRow rfl hM rfl rfl rfl rfl (by repeat constructor) (Nat.le_of_ble_eq_true rfl) (by kernel_rfl) ?_); (try simp only [Res.known, List.drop_succ_cons, List.drop_zero, List.take_succ_cons, List.take_zero])) | ((((refine St.storeRow rfl hM rfl rfl rfl rfl rfl (by repeat constructor) (Nat.le_of_ble_eq_true rfl) (Nat.le_of_ble_eq_true rfl) (by kernel_rfl) rfl ?_ ?_); (focus ((intro h; cases h; done))); clear hM; intro w hM)); (try simp only [Res.put, Res.known, Act.eval, Value.cells, getD_lit, qGz, qGs, List.toList_toArray, qSz, qSs, over, Nat.reduceAdd] at hM))); (try simp only [Act.put, qSa, qSz, qSs])) | (((refine St.alloc (ty := 63) (z := .agg #[.int .i64 0, .bool false, .int .i64 0, .int .i64 0, .string ⟨#[]⟩, .slice none 0 0]) rfl hM rfl rfl (by kernel_rfl) ?_); clear hM; intro w bk hM); (try simp only [Res.put, Res.known, Act.eval, Value.cells, getD_lit, qGz, qGs, List.toList_toArray, qSz, qSs, over, Nat.reduceAdd] at hM); (try simp only [Act.put, qSa, qSz, qSs]))) | (first | (refine wp_seq_shut (fun K hK => ?_)) | (refine wp_text hM (fun Kr hKr => ?_); simp only [List.append_eq, List.cons_append, List.nil_append, inText]) | refine wp_skip ?_ | (refine wp_cond_false rfl ?_) | ((refine hK.out _ _ ?_); clear hK K))))
        ((refine St.call3 rfl rfl (by kernel_rfl) (fun R hR => ?_); simp only [List.map_toArray, List.map_cons, List.map_nil, Act.eval, getD_lit, qGz, qGs]); refine (HFT.out _ (hM.part (by repeat (first | exact Part.all | apply Part.skip)))).mono ?_; (rintro e w' ⟨rfl, hb⟩; refine hR.out _ _ ?_; clear hR R; replace hM := hM.below hb; clear hb; (try simp only [Act.put, qSa, qSz, qSs])))
        (repeat (first | ((with_reducible show wpSeq _ _ _ _ _ _ _); first | ((with_reducible refine wpSeq_nil ?_); refine hKr.out _ _ ?_; clear hKr Kr) | ((first | (refine St.copy (v := ?_) (by first | exact .inl rfl | exact .inr rfl) rfl rfl ?_ ?_; rotate_left; (focus ((try simp only [Act.eval, getD_lit, qGz, qGs]); with_reducible rfl))) | (refine St.pure (v := ?_) rfl rfl rfl (fun w => ?_) ?_; rotate_left; (focus (go_simp; all_goals with_reducible rfl)))); (try simp only [Act.put, qSa, qSz, qSs]))) | (first | (refine wp_seq_shut (fun K hK => ?_)) | (refine wp_text hM (fun Kr hKr => ?_); simp only [List.append_eq, List.cons_append, List.nil_append, inText]) | (refine wp_cond_true rfl ?_) | ((refine hK.out _ _ ?_); clear hK K))))
        (((refine wp_ret ?_; (try simp only [Exit.then, Exit.inBlock]); refine St.ret hM rfl (by repeat (first | exact Outs.nil | apply Outs.tmp rfl)) rfl ?_)); (rw [HE.out]); exact ⟨rfl, HB.out _ (hM.part (by repeat (first | exact Part.all | apply Part.skip))) hM.only⟩)
    · have q1 : (In.fileE t id n != 0) = true := bne_iff_ne.2 hc
      have HE := Lib.hid (In.trunc_bad (t := t) (id := id) (n := n) hc (In.truncE_bad hc))
      rw [NodV.open hyv] at HG
      generalize In.fileE t id n = c at *
      (have HH := Lib.hid h; have HI := Lib.hid I; clear h I hv hU)
      clear hyv hc
      go_enter Tryz.func37, Tryz.ntmps37
      (repeat (first | ((with_reducible show wpSeq _ _ _ _ _ _ _); first | ((with_reducible refine wpSeq_nil ?_); refine hKr.out _ _ ?_; clear hKr Kr) | (((refine St.copy (v := ?_) (by first | exact .inl rfl | exact .inr rfl) rfl rfl ?_ ?_; rotate_left; (focus ((try simp only [Act.eval, getD_lit, qGz, qGs]); with_reducible rfl)))); (try simp only [Act.put, qSa, qSz, qSs]))) | (first | (refine wp_seq_shut (fun K hK => ?_)) | (refine wp_text hM (fun Kr hKr => ?_); simp only [List.append_eq, List.cons_append, List.nil_append, inText]) | ((refine hK.out _ _ ?_); clear hK K))))
      ((refine St.call3 rfl rfl (by kernel_rfl) (fun R hR => ?_); simp only [List.map_toArray, List.map_cons, List.map_nil, Act.eval, getD_lit, qGz, qGs]); refine (HG.out _ (hM.part (by repeat (exact Part.all)))).mono ?_; (rintro e w' ⟨rfl, hb⟩; refine hR.out _ _ ?_; clear hR R; replace hM := hM.below hb; clear hb; (try simp only [Act.put, qSa, qSz, qSs])))
      (repeat (first | ((with_reducible show wpSeq _ _ _ _ _ _ _); first | ((with_reducible refine wpSeq_nil ?_); refine hKr.out _ _ ?_; clear hKr Kr) | ((first | (refine St.copy (v := ?_) (by first | exact .inl rfl | exact .inr rfl) rfl rfl ?_ ?_; rotate_left; (focus ((try simp only [Act.eval, getD_lit, qGz, qGs]); with_reducible rfl))) | (refine St.pure (v := ?_) rfl rfl rfl (fun w => ?_) ?_; rotate_left; (focus (go_simp; all_goals with_reducible rfl))) | ((((refine St.storeRow rfl hM rfl rfl rfl rfl rfl (by repeat constructor) (Nat.le_of_ble_eq_true rfl) (Nat.le_of_ble_eq_true rfl) (by kernel_rfl) rfl ?_ ?_); (focus ((intro h; cases h; done))); clear hM; intro w hM)); (try simp only [Res.put, Res.known, Act.eval, Value.cells, getD_lit, qGz, qGs, List.toList_toArray, qSz, qSs, over, Nat.reduceAdd] at hM))); (try simp only [Act.put, qSa, qSz, qSs])) | (((refine St.alloc (ty := 63) (z := .agg #[.int .i64 0, .bool false, .int .i64 0, .int .i64 0, .string ⟨#[]⟩, .slice none 0 0]) rfl hM rfl rfl (by kernel_rfl) ?_); clear hM; intro w bk hM); (try simp only [Res.put, Res.known, Act.eval, Value.cells, getD_lit, qGz, qGs, List.toList_toArray, qSz, qSs, over, Nat.reduceAdd] at hM); (try simp only [Act.put, qSa, qSz, qSs]))) | (first | (refine wp_seq_shut (fun K hK => ?_)) | (refine wp_text hM (fun Kr hKr => ?_); simp only [List.append_eq, List.cons_append, List.nil_append, inText]) | (refine wp_cond_true rfl ?_) | ((refine hK.out _ _ ?_); clear hK K))))
      (((refine wp_ret ?_; (try simp only [Exit.then, Exit.inBlock]); refine St.ret hM rfl (by repeat (first | exact Outs.nil | apply Outs.tmp rfl)) rfl ?_)); (rw [HE.out]); exact ⟨rfl, HB.out _ (hM.part (by repeat (first | exact Part.all | apply Part.skip))) hM.only⟩)
end
end Go.Proofs.YtcicjklhbnipcaaGreat
namespace Go.Proofs.YtcicjklhbnipcaaGreat
set_option linter.unusedVariables false
set_option linter.unusedSimpArgs false
open Go.RowKit Go.Maps
namespace In
section
variable {t : TabD} {N : Nat}
theorem write_bad {id a : Int} {s : ByteArray} {e : Int} (he : e ≠ 0) (h : writeE t id a s = e) : write t id a s = (e, t) := by
  unfold write
  rw [h, beq_eq_false_iff_ne.2 he]
  rfl
theorem write_yes {id a : Int} {s : ByteArray} (h : writeE t id a s = 0) : write t id a s = (0, writeT t id a s) := by
  unfold write
  rw [h]
  rfl
theorem writeE_bad {id a : Int} {s : ByteArray} (h : fileE t id a ≠ 0) : writeE t id a s = fileE t id a := by
  unfold writeE
  rw [beq_eq_false_iff_ne.2 h]
  rfl
theorem writeE_at {id a : Int} {s : ByteArray} {y : NodeD} (hn : find t.nodes id = some y) (h : fileE t id a = 0) : writeE t id a s = if 1048576 < a ∨ 1048576 - a < s.size then 5 else if s.size = 0 then 0 else sizedE t y (max (a + s.size) y.data.size) := by
  unfold writeE
  rw [h, at_some hn]
  by_cases h1 : 1048576 < a
  · simp [h1]
  · by_cases h2 : 1048576 - a < s.size
    · simp [h2]
    · by_cases h3 : s.size = 0
      · simp [h1, h2, h3]
      · simp [h1, h2, h3]
theorem writeT_nodes {id : Int} {y : NodeD} (hn : find t.nodes id = some y) (a m : Nat) (s : ByteArray) (h0 : s.size ≠ 0) (hm : max ((a : Int) + s.size) y.data.size = (m : Int)) : (writeT t id a s).nodes = (dataOf t id (over (resized y.data m) a s)).nodes := by
  have hs : (s.size == 0) = false := beq_eq_false_iff_ne.2 h0
  have hi := (find_some hn).2
  unfold writeT
  rw [hs, if_neg nofun, at_some hn, hm]
  have hf : find (sizedT t id m).nodes id = some (y.setData (resized y.data m)) := by
    unfold sizedT
    rw [at_some hn]
    show find (dataOf t id (resized y.data (m : Int).toNat)).nodes id = _
    rw [find_dataOf hn, if_pos rfl]
    rfl
  unfold overT dataOf
  rw [at_some hf, at_some hn]
  show set (sizedT t id m).nodes _ = set t.nodes _
  unfold sizedT
  rw [at_some hn]
  show set (dataOf t id (resized y.data (m : Int).toNat)).nodes _ = _
  unfold dataOf
  rw [at_some hn]
  exact set_set rfl
theorem writeT_q (id a : Int) (s : ByteArray) : (writeT t id a s).quota = t.quota ∧ (writeT t id a s).last = t.last := by unfold writeT; split <;> exact ⟨rfl, rfl⟩
theorem writeT_empty {id a : Int} {s : ByteArray} (h0 : s.size = 0) : writeT t id a s = t := by unfold writeT; rw [h0]; rfl
end
end In
section
variable {w w' w0 : World} {F : List Nat} {L M : List Ent} {zs : List NodV} {x : RX} {t : TabD} {N : Nat} {q nx : Int}
set_option maxHeartbeats 8000000 in
set_option maxRecDepth 100000 in
theorem rWrite_any (h : RIs x t zs w0) (I : In.Inv N t) (hN : N ≤ 900000) (id a : Int) (s : ByteArray) (hs : s.size ≤ 1000000000) :
    Calls Tryz.prog 36 #[.pointer (some ⟨x.g, 0, none⟩), .int .i64 id, .int .i64 a, .string s] w0 fun e w' => e = .returned (.int .i64 (In.write t id a s).1) ∧ RDid x t zs (In.write t id a s).2 w0 w' := by
  cases hf : rfind zs id with
  | none =>
    have hM := St.start w0 []
    have HC := Lib.hid (fun (W : World) (hb : Below w0.heap.size w0 W) => rfile_none (h.raw.below hb) a 0 hf)
    unfold nodZ at HC
    have HR := Lib.hid (fun (W : World) (hb : Below w0.heap.size w0 W) => RDid.same h hb)
    have hE3 : In.fileE t id a = 3 := fileE_none (by rw [h.find id, hf]; rfl)
    rw [In.write_bad (e := 3) (by decide) (by rw [In.writeE_bad (by rw [hE3]; decide), hE3])]
    clear h hf I hE3
    simp only
    go_enter Tryz.func36, Tryz.ntmps36
    (repeat (first | ((with_reducible show wpSeq _ _ _ _ _ _ _); first | ((with_reducible refine wpSeq_nil ?_); refine hKr.out _ _ ?_; clear hKr Kr) | (((refine St.copy (v := ?_) (by first | exact .inl rfl | exact .inr rfl) rfl rfl ?_ ?_; rotate_left; (focus ((try simp only [Act.eval, getD_lit, qGz, qGs]); with_reducible rfl)))); (try simp only [Act.put, qSa, qSz, qSs]))) | (first | (refine wp_seq_shut (fun K hK => ?_)) | (refine wp_text hM (fun Kr hKr => ?_); simp only [List.append_eq, List.cons_append, List.nil_append, inText]) | ((refine hK.out _ _ ?_); clear hK K))))
    (refine St.call3 rfl rfl (by kernel_rfl) (fun R hR => ?_); simp only [List.map_toArray, List.map_cons, List.map_nil, Act.eval, getD_lit, qGz, qGs])
    refine (HC.out _ hM.to_below).mono ?_
    (rintro e w' ⟨rfl, hb⟩; refine hR.out _ _ ?_; clear hR R; replace hM := hM.below hb; clear hb; (try simp only [Act.put, qSa, qSz, qSs]))
    (repeat (first | ((with_reducible show wpSeq _ _ _ _ _ _ _); first | ((with_reducible refine wpSeq_nil ?_); refine hKr.out _ _ ?_; clear hKr Kr) | ((first | (refine St.copy (v := ?_) (by first | exact .inl rfl | exact .inr rfl) rfl rfl ?_ ?_; rotate_left; (focus ((try simp only [Act.eval, getD_lit, qGz, qGs]); with_reducible rfl))) | (refine St.pure (v := ?_) rfl rfl rfl (fun w => ?_) ?_; rotate_left; (focus (go_simp; all_goals with_reducible rfl))) | ((((refine St.storeRow rfl hM rfl rfl rfl rfl rfl (by repeat constructor) (Nat.le_of_ble_eq_true rfl) (Nat.le_of_ble_eq_true rfl) (by kernel_rfl) rfl ?_ ?_); (focus ((intro h; cases h; done))); clear hM; intro w hM)); (try simp only [Res.put, Res.known, Act.eval, Value.cells, getD_lit, qGz, qGs, List.toList_toArray, qSz, qSs, over, Nat.reduceAdd] at hM))); (try simp only [Act.put, qSa, qSz, qSs])) | (((refine St.alloc (ty := 63) (z := .agg #[.int .i64 0, .bool false, .int .i64 0, .int .i64 0, .string ⟨#[]⟩, .slice none 0 0]) rfl hM rfl rfl (by kernel_rfl) ?_); clear hM; intro w bk hM); (try simp only [Res.put, Res.known, Act.eval, Value.cells, getD_lit, qGz, qGs, List.toList_toArray, qSz, qSs, over, Nat.reduceAdd] at hM); (try simp only [Act.put, qSa, qSz, qSs]))) | (first | (refine wp_seq_shut (fun K hK => ?_)) | (refine wp_text hM (fun Kr hKr => ?_); simp only [List.append_eq, List.cons_append, List.nil_append, inText]) | (refine wp_cond_true rfl ?_) | ((refine hK.out _ _ ?_); clear hK K))))
    ((refine wp_ret ?_; (try simp only [Exit.then, Exit.inBlock]); refine St.ret hM rfl (by repeat (first | exact Outs.nil | apply Outs.tmp rfl)) rfl ?_))
    exact ⟨rfl, HR.out _ hM.to_below⟩
  | some y =>
    have hy := (rfind_mem hf).1
    have hn : In.find t.nodes id = some y.1 := by rw [h.find id, hf]; rfl
    (obtain ⟨g, xs⟩ := x; obtain ⟨va, vc, hv, -⟩ := slV_open h.raw.sl; have hM : St w0 [g] w0 (rL ⟨g, xs⟩ t.quota (t.last + 1) zs) := h.raw.st; have HRP := Lib.hid (RP.start h.raw); have HOP := Lib.hid (fun nx => rL_open (x := ⟨g, xs⟩) (zs := zs) hv t.quota nx); obtain ⟨U, hU⟩ : ∃ U, (nodL xs zs ++ zs.flatMap NodV.ents).map unflag = U := ⟨_, rfl⟩; simp only [hU] at HOP; rw [HOP.out] at hM; have HAT := Lib.hid (fun (W : World) (hA : At ((g, true, Res.cells [.int .i64 t.quota, .int .i64 (t.last + 1), .slice va zs.length vc] 43) :: U) W) => (show RIs ⟨g, xs⟩ t zs W from ⟨RRaw.of (by rw [HOP.out]; exact hA) h.raw.sl h.raw.names h.raw.len, h.nodes⟩)); have HB := Lib.hid (fun (W : World) (hA : At ((g, true, Res.cells [.int .i64 t.quota, .int .i64 (t.last + 1), .slice va zs.length vc] 43) :: U) W) (ho : Only [g] w0 W) => (show RDid ⟨g, xs⟩ t zs t w0 W from ⟨xs, zs, h.nodes, HRP.out.to (by rw [HOP.out]; exact hA) ho⟩)))
    obtain ⟨ya, yc, hyv, -⟩ := slV_open (h.raw.names y hy)
    have HG := Lib.hid (fun (W : World) (hA : At ((g, true, Res.cells [.int .i64 t.quota, .int .i64 (t.last + 1), .slice va zs.length vc] 43) :: U) W) => rfile_some (HAT.out W hA).raw a 0 hf)
    rw [fileN_E0 h hf] at HG
    by_cases hc : In.fileE t id a = 0
    · obtain ⟨hyd, ha0⟩ := file_pos hn hc
      rw [NodV.open hyv] at HG
      rw [hc] at HG
      rw [hyd] at HG
      obtain ⟨k, rfl⟩ : ∃ k : Nat, a = k := ⟨a.toNat, by omega⟩
      by_cases h5 : 1048576 < (k : Int)
      · have HE := Lib.hid (In.write_bad (t := t) (id := id) (a := k) (s := s) (e := 5) (by decide) (by rw [In.writeE_at hn hc, if_pos (.inl h5)]))
        have k5 : (1048576 : Int) < (k : Int) := h5
        (have HH := Lib.hid h; have HI := Lib.hid I; clear h I hv hU)
        clear hyd ha0 hyv hc h5
        go_enter Tryz.func36, Tryz.ntmps36
        (repeat (first | ((with_reducible show wpSeq _ _ _ _ _ _ _); first | ((with_reducible refine wpSeq_nil ?_); refine hKr.out _ _ ?_; clear hKr Kr) | (((refine St.copy (v := ?_) (by first | exact .inl rfl | exact .inr rfl) rfl rfl ?_ ?_; rotate_left; (focus ((try simp only [Act.eval, getD_lit, qGz, qGs]); with_reducible rfl)))); (try simp only [Act.put, qSa, qSz, qSs]))) | (first | (refine wp_seq_shut (fun K hK => ?_)) | (refine wp_text hM (fun Kr hKr => ?_); simp only [List.append_eq, List.cons_append, List.nil_append, inText]) | ((refine hK.out _ _ ?_); clear hK K))))
        ((refine St.call3 rfl rfl (by kernel_rfl) (fun R hR => ?_); simp only [List.map_toArray, List.map_cons, List.map_nil, Act.eval, getD_lit, qGz, qGs]); refine (HG.out _ (hM.part (by repeat (exact Part.all)))).mono ?_; (rintro e w' ⟨rfl, hb⟩; refine hR.out _ _ ?_; clear hR R; replace hM := hM.below hb; clear hb; (try simp only [Act.put, qSa, qSz, qSs])))
        (repeat (first | ((with_reducible show wpSeq _ _ _ _ _ _ _); first | ((with_reducible refine wpSeq_nil ?_); refine hKr.out _ _ ?_; clear hKr Kr) | ((first | (refine St.copy (v := ?_) (by first | exact .inl rfl | exact .inr rfl) rfl rfl ?_ ?_; rotate_left; (focus ((try simp only [Act.eval, getD_lit, qGz, qGs]); with_reducible rfl))) | (refine St.pure (v := ?_) rfl rfl rfl (fun w => ?_) ?_; rotate_left; (focus (go_simp; all_goals with_reducible rfl))) | refine wpSeq_off rfl rfl ?_ | ((((refine St.storeRow rfl hM rfl rfl rfl rfl rfl (by repeat constructor) (Nat.le_of_ble_eq_true rfl) (Nat.le_of_ble_eq_true rfl) (by kernel_rfl) rfl ?_ ?_); (focus ((intro h; cases h; done))); clear hM; intro w hM)); (try simp only [Res.put, Res.known, Act.eval, Value.cells, getD_lit, qGz, qGs, List.toList_toArray, qSz, qSs, over, Nat.reduceAdd] at hM))); (try simp only [Act.put, qSa, qSz, qSs])) | (((refine St.alloc (ty := 63) (z := .agg #[.int .i64 0, .bool false, .int .i64 0, .int .i64 0, .string ⟨#[]⟩, .slice none 0 0]) rfl hM rfl rfl (by kernel_rfl) ?_); clear hM; intro w bk hM); (try simp only [Res.put, Res.known, Act.eval, Value.cells, getD_lit, qGz, qGs, List.toList_toArray, qSz, qSs, over, Nat.reduceAdd] at hM); (try simp only [Act.put, qSa, qSz, qSs]))) | (first | (refine wp_seq_shut (fun K hK => ?_)) | (refine wp_text hM (fun Kr hKr => ?_); simp only [List.append_eq, List.cons_append, List.nil_append, inText]) | refine wp_skip ?_ | (first | refine wp_cond_true rfl ?_ | refine wp_cond_false rfl ?_) | ((refine hK.out _ _ ?_); clear hK K))))
        (((refine wp_ret ?_; (try simp only [Exit.then, Exit.inBlock]); refine St.ret hM rfl (by repeat (first | exact Outs.nil | apply Outs.tmp rfl)) rfl ?_)); (rw [HE.out]); exact ⟨rfl, HB.out _ (hM.part (by repeat (first | exact Part.all | apply Part.skip))) hM.only⟩)
      · have k5 : decide ((1048576 : Int) < (k : Int)) = false := decide_eq_false h5
        obtain ⟨e1, he1⟩ : ∃ e1 : Nat, k + s.size = e1 := ⟨_, rfl⟩
        have hw1 : IntKind.i64.wrap ((k : Int) + (s.size : Int)) = (e1 : Int) := by rw [wrap_in _ (by omega)]; omega
        by_cases h6 : 1048576 < e1
        · have HE := Lib.hid (In.write_bad (t := t) (id := id) (a := k) (s := s) (e := 5) (by decide) (by rw [In.writeE_at hn hc, if_pos (.inr (by omega))]))
          have k6 : (1048576 : Int) < (e1 : Int) := by omega
          (have HH := Lib.hid h; have HI := Lib.hid I; clear h I hv hU)
          clear hyd ha0 hyv hc h5 he1
          go_enter Tryz.func36, Tryz.ntmps36
          (repeat (first | ((with_reducible show wpSeq _ _ _ _ _ _ _); first | ((with_reducible refine wpSeq_nil ?_); refine hKr.out _ _ ?_; clear hKr Kr) | (((refine St.copy (v := ?_) (by first | exact .inl rfl | exact .inr rfl) rfl rfl ?_ ?_; rotate_left; (focus ((try simp only [Act.eval, getD_lit, qGz, qGs]); with_reducible rfl)))); (try simp only [Act.put, qSa, qSz, qSs]))) | (first | (refine wp_seq_shut (fun K hK => ?_)) | (refine wp_text hM (fun Kr hKr => ?_); simp only [List.append_eq, List.cons_append, List.nil_append, inText]) | ((refine hK.out _ _ ?_); clear hK K))))
          ((refine St.call3 rfl rfl (by kernel_rfl) (fun R hR => ?_); simp only [List.map_toArray, List.map_cons, List.map_nil, Act.eval, getD_lit, qGz, qGs]); refine (HG.out _ (hM.part (by repeat (exact Part.all)))).mono ?_; (rintro e w' ⟨rfl, hb⟩; refine hR.out _ _ ?_; clear hR R; replace hM := hM.below hb; clear hb; (try simp only [Act.put, qSa, qSz, qSs])))
          (repeat (first | ((with_reducible show wpSeq _ _ _ _ _ _ _); first | ((with_reducible refine wpSeq_nil ?_); refine hKr.out _ _ ?_; clear hKr Kr) | ((first | (refine St.copy (v := ?_) (by first | exact .inl rfl | exact .inr rfl) rfl rfl ?_ ?_; rotate_left; (focus ((try simp only [Act.eval, getD_lit, qGz, qGs]); with_reducible rfl))) | (refine St.pure (v := ?_) rfl rfl rfl (fun w => ?_) ?_; rotate_left; (focus (go_simp; all_goals with_reducible rfl))) | ((((refine St.storeRow rfl hM rfl rfl rfl rfl rfl (by repeat constructor) (Nat.le_of_ble_eq_true rfl) (Nat.le_of_ble_eq_true rfl) (by kernel_rfl) rfl ?_ ?_); (focus ((intro h; cases h; done))); clear hM; intro w hM)); (try simp only [Res.put, Res.known, Act.eval, Value.cells, getD_lit, qGz, qGs, List.toList_toArray, qSz, qSs, over, Nat.reduceAdd] at hM))); (try simp only [Act.put, qSa, qSz, qSs])) | (((refine St.alloc (ty := 63) (z := .agg #[.int .i64 0, .bool false, .int .i64 0, .int .i64 0, .string ⟨#[]⟩, .slice none 0 0]) rfl hM rfl rfl (by kernel_rfl) ?_); clear hM; intro w bk hM); (try simp only [Res.put, Res.known, Act.eval, Value.cells, getD_lit, qGz, qGs, List.toList_toArray, qSz, qSs, over, Nat.reduceAdd] at hM); (try simp only [Act.put, qSa, qSz, qSs]))) | (first | (refine wp_seq_shut (fun K hK => ?_)) | (refine wp_text hM (fun Kr hKr => ?_); simp only [List.append_eq, List.cons_append, List.nil_append, inText]) | refine wp_skip ?_ | (first | refine wp_cond_true rfl ?_ | refine wp_cond_false rfl ?_) | ((refine hK.out _ _ ?_); clear hK K))))
          (((refine wp_ret ?_; (try simp only [Exit.then, Exit.inBlock]); refine St.ret hM rfl (by repeat (first | exact Outs.nil | apply Outs.tmp rfl)) rfl ?_)); (rw [HE.out]); exact ⟨rfl, HB.out _ (hM.part (by repeat (first | exact Part.all | apply Part.skip))) hM.only⟩)
        · have k6 : decide ((1048576 : Int) < (e1 : Int)) = false := decide_eq_false (by omega)
          by_cases h0 : s.size = 0
          · have hs0 : s = ⟨#[]⟩ := Pt.ba_ext (by rw [show s.data.toList = [] from List.length_eq_zero_iff.1 (by rw [← Lib.size_eq]; exact h0)])
            have HE := Lib.hid (show In.write t id k s = (0, t) by rw [In.write_yes (by rw [In.writeE_at hn hc, if_neg (by omega), if_pos h0]), In.writeT_empty h0])
            have e0 := beqs_yes (s := s) (l := []) (by rw [hs0])
            (have HH := Lib.hid h; have HI := Lib.hid I; clear h I hv hU)
            clear hyd ha0 hyv hc h5 he1 h6 h0 hs0
            go_enter Tryz.func36, Tryz.ntmps36
            (repeat (first | ((with_reducible show wpSeq _ _ _ _ _ _ _); first | ((with_reducible refine wpSeq_nil ?_); refine hKr.out _ _ ?_; clear hKr Kr) | (((refine St.copy (v := ?_) (by first | exact .inl rfl | exact .inr rfl) rfl rfl ?_ ?_; rotate_left; (focus ((try simp only [Act.eval, getD_lit, qGz, qGs]); with_reducible rfl)))); (try simp only [Act.put, qSa, qSz, qSs]))) | (first | (refine wp_seq_shut (fun K hK => ?_)) | (refine wp_text hM (fun Kr hKr => ?_); simp only [List.append_eq, List.cons_append, List.nil_append, inText]) | ((refine hK.out _ _ ?_); clear hK K))))
            ((refine St.call3 rfl rfl (by kernel_rfl) (fun R hR => ?_); simp only [List.map_toArray, List.map_cons, List.map_nil, Act.eval, getD_lit, qGz, qGs]); refine (HG.out _ (hM.part (by repeat (exact Part.all)))).mono ?_; (rintro e w' ⟨rfl, hb⟩; refine hR.out _ _ ?_; clear hR R; replace hM := hM.below hb; clear hb; (try simp only [Act.put, qSa, qSz, qSs])))
            (repeat (first | ((with_reducible show wpSeq _ _ _ _ _ _ _); first | ((with_reducible refine wpSeq_nil ?_); refine hKr.out _ _ ?_; clear hKr Kr) | ((first | (refine St.copy (v := ?_) (by first | exact .inl rfl | exact .inr rfl) rfl rfl ?_ ?_; rotate_left; (focus ((try simp only [Act.eval, getD_lit, qGz, qGs]); with_reducible rfl))) | (refine St.pure (v := ?_) rfl rfl rfl (fun w => ?_) ?_; rotate_left; (focus (go_simp; all_goals with_reducible rfl))) | ((((refine St.storeRow rfl hM rfl rfl rfl rfl rfl (by repeat constructor) (Nat.le_of_ble_eq_true rfl) (Nat.le_of_ble_eq_true rfl) (by kernel_rfl) rfl ?_ ?_); (focus ((intro h; cases h; done))); clear hM; intro w hM)); (try simp only [Res.put, Res.known, Act.eval, Value.cells, getD_lit, qGz, qGs, List.toList_toArray, qSz, qSs, over, Nat.reduceAdd] at hM))); (try simp only [Act.put, qSa, qSz, qSs])) | (((refine St.alloc (ty := 63) (z := .agg #[.int .i64 0, .bool false, .int .i64 0, .int .i64 0, .string ⟨#[]⟩, .slice none 0 0]) rfl hM rfl rfl (by kernel_rfl) ?_); clear hM; intro w bk hM); (try simp only [Res.put, Res.known, Act.eval, Value.cells, getD_lit, qGz, qGs, List.toList_toArray, qSz, qSs, over, Nat.reduceAdd] at hM); (try simp only [Act.put, qSa, qSz, qSs]))) | (first | (refine wp_seq_shut (fun K hK => ?_)) | (refine wp_text hM (fun Kr hKr => ?_); simp only [List.append_eq, List.cons_append, List.nil_append, inText]) | refine wp_skip ?_ | (first | refine wp_cond_true rfl ?_ | refine wp_cond_false rfl ?_) | ((refine hK.out _ _ ?_); clear hK K))))
            (((refine wp_ret ?_; (try simp only [Exit.then, Exit.inBlock]); refine St.ret hM rfl (by repeat (first | exact Outs.nil | apply Outs.tmp rfl)) rfl ?_)); (rw [HE.out]); exact ⟨rfl, HB.out _ (hM.part (by repeat (first | exact Part.all | apply Part.skip))) hM.only⟩)
          · have e0 := beqs_no (s := s) (l := []) (fun e => h0 (by rw [Lib.size_eq, e]; rfl))
            have hds := h.dl I y hy
            obtain ⟨m, hm⟩ : ∃ m : Nat, max y.1.data.size e1 = m := ⟨_, rfl⟩
            have hmx : (if y.1.data.size < e1 then (e1 : Int) else (y.1.data.size : Int)) = (m : Int) := by split <;> omega
            have hmx2 : max (y.1.data.size : Int) (e1 : Int) = (m : Int) := by omega
            have hmI : max ((k : Int) + s.size) y.1.data.size = (m : Int) := by omega
            have HFT := Lib.hid (fun (W : World) (hA : At ((g, true, Res.cells [.int .i64 t.quota, .int .i64 (t.last + 1), .slice va zs.length vc] 43) :: U) W) => rfits_any (HAT.out W hA) I hy m (Int.natCast_nonneg m))
            rw [NodV.open hyv, hyd] at HFT
            by_cases he : In.sizedE t y.1 m = 0
            · have HE := Lib.hid (In.write_yes (t := t) (id := id) (a := k) (s := s) (by rw [In.writeE_at hn hc, if_neg (by omega), if_neg h0, hmI]; exact he))
              rw [he] at HFT
              obtain ⟨hsz, -⟩ := In.sizedE_ok he
              have HLG := Lib.hid (fun W => rlong_any y.1.data m hds (by omega) W)
              have hysz : (y.1.data ++ In.noughts (m - y.1.data.size)).size = m := by rw [In.longB_size]; omega
              obtain ⟨v, hv0⟩ : ∃ v, (y.1.data ++ In.noughts (m - y.1.data.size)).extract 0 k ++ s ++ (y.1.data ++ In.noughts (m - y.1.data.size)).extract e1 (y.1.data ++ In.noughts (m - y.1.data.size)).size = v := ⟨_, rfl⟩
              have HID := Lib.hid (h.ids I)
              have HNO := Lib.hid (show (rset zs ((y.1.setData v, y.2) : NodV)).map (·.1) = (In.writeT t id k s).nodes by
                rw [rput_nodes, h.nodes, In.writeT_nodes hn k m s h0 hmI]
                show In.rput t.nodes (y.1.setData v) = _
                rw [In.rput_data I hn, ← hv0]
                have hr : In.resized y.1.data m = y.1.data ++ In.noughts (m - y.1.data.size) := by
                  show ByteArray.extract _ 0 m = _
                  generalize y.1.data ++ In.noughts (m - y.1.data.size) = X at hysz ⊢
                  rw [← hysz, ByteArray.extract_zero_size]
                rw [hr]
                unfold In.over
                rw [he1])
              have HYC := Lib.hid (show NodV.cells (y.1.setData v, y.2) = [.int .i64 y.1.id, .bool false, .int .i64 y.1.links, .int .i64 y.1.holds, .string v, .slice ya y.1.names.length yc] by rw [NodV.open (z := (y.1.setData v, y.2)) hyv, ← hyd]; rfl)
              obtain ⟨Y, hY⟩ : ∃ Y, y.1.data ++ In.noughts (m - y.1.data.size) = Y := ⟨_, rfl⟩
              rw [hY] at HLG hv0 hysz
              have HK1 := Lib.hid (show k ≤ Y.size by omega)
              have HK2 := Lib.hid (show e1 ≤ Y.size by omega)
              obtain ⟨v1, hv1⟩ : ∃ v1, Y.extract 0 k = v1 := ⟨_, rfl⟩
              obtain ⟨v3, hv3⟩ : ∃ v3, Y.extract e1 Y.size = v3 := ⟨_, rfl⟩
              have hv1s : v1.size ≤ 1048576 := by rw [← hv1, ByteArray.size_extract]; omega
              have hv3s : v3.size ≤ 1048576 := by rw [← hv3, ByteArray.size_extract]; omega
              have HV := Lib.hid (show v1 ++ s ++ v3 = v by rw [← hv1, ← hv3]; exact hv0)
              have HV1 := Lib.hid hv1
              have HV3 := Lib.hid hv3
              (have HH := Lib.hid h; have HI := Lib.hid I; clear h I hv hU)
              clear hyd ha0 hyv hc h5 he1 h6 h0 he hm hmI hds hsz hysz hv0 hY hv1 hv3
              go_enter Tryz.func36, Tryz.ntmps36
              (repeat (first | ((with_reducible show wpSeq _ _ _ _ _ _ _); first | ((with_reducible refine wpSeq_nil ?_); refine hKr.out _ _ ?_; clear hKr Kr) | (((refine St.copy (v := ?_) (by first | exact .inl rfl | exact .inr rfl) rfl rfl ?_ ?_; rotate_left; (focus ((try simp only [Act.eval, getD_lit, qGz, qGs]); with_reducible rfl)))); (try simp only [Act.put, qSa, qSz, qSs]))) | (first | (refine wp_seq_shut (fun K hK => ?_)) | (refine wp_text hM (fun Kr hKr => ?_); simp only [List.append_eq, List.cons_append, List.nil_append, inText]) | ((refine hK.out _ _ ?_); clear hK K))))
              ((refine St.call3 rfl rfl (by kernel_rfl) (fun R hR => ?_); simp only [List.map_toArray, List.map_cons, List.map_nil, Act.eval, getD_lit, qGz, qGs]); refine (HG.out _ (hM.part (by repeat (exact Part.all)))).mono ?_; (rintro e w' ⟨rfl, hb⟩; refine hR.out _ _ ?_; clear hR R; replace hM := hM.below hb; clear hb; (try simp only [Act.put, qSa, qSz, qSs])))
              (repeat (first | ((with_reducible show wpSeq _ _ _ _ _ _ _); first | ((with_reducible refine wpSeq_nil ?_); refine hKr.out _ _ ?_; clear hKr Kr) | ((first | (refine St.copy (v := ?_) (by first | exact .inl rfl | exact .inr rfl) rfl rfl ?_ ?_; rotate_left; (focus ((try simp only [Act.eval, getD_lit, qGz, qGs]); with_reducible rfl))) | (refine St.pure (v := ?_) rfl rfl rfl (fun w => ?_) ?_; rotate_left; (focus (go_simp; all_goals with_reducible rfl))) | refine St.load rfl hM rfl rfl rfl rfl (by repeat constructor) (by rfl) (by kernel_rfl) ?_ | ((refine St.loadRow rfl hM rfl rfl rfl rfl (by repeat constructor) (Nat.le_of_ble_eq_true rfl) (by kernel_rfl) ?_); (try simp only [Res.known, List.drop_succ_cons, List.drop_zero, List.take_succ_cons, List.take_zero])) | ((((refine St.storeRow rfl hM rfl rfl rfl rfl rfl (by repeat constructor) (Nat.le_of_ble_eq_true rfl) (Nat.le_of_ble_eq_true rfl) (by kernel_rfl) rfl ?_ ?_); (focus ((intro h; cases h; done))); clear hM; intro w hM)); (try simp only [Res.put, Res.known, Act.eval, Value.cells, getD_lit, qGz, qGs, List.toList_toArray, qSz, qSs, over, Nat.reduceAdd] at hM))); (try simp only [Act.put, qSa, qSz, qSs])) | (((refine St.alloc (ty := 63) (z := .agg #[.int .i64 0, .bool false, .int .i64 0, .int .i64 0, .string ⟨#[]⟩, .slice none 0 0]) rfl hM rfl rfl (by kernel_rfl) ?_); clear hM; intro w bk hM); (try simp only [Res.put, Res.known, Act.eval, Value.cells, getD_lit, qGz, qGs, List.toList_toArray, qSz, qSs, over, Nat.reduceAdd] at hM); (try simp only [Act.put, qSa, qSz, qSs]))) | (first | (refine wp_seq_shut (fun K hK => ?_)) | (refine wp_text hM (fun Kr hKr => ?_); simp only [List.append_eq, List.cons_append, List.nil_append, inText]) | refine wp_skip ?_ | (refine wp_cond_false rfl ?_) | ((refine hK.out _ _ ?_); clear hK K))))
              ((refine St.call3 rfl rfl (by kernel_rfl) (fun R hR => ?_); simp only [List.map_toArray, List.map_cons, List.map_nil, Act.eval, getD_lit, qGz, qGs]); refine (HFT.out _ (hM.part (by repeat (first | exact Part.all | apply Part.skip)))).mono ?_; (rintro e w' ⟨rfl, hb⟩; refine hR.out _ _ ?_; clear hR R; replace hM := hM.below hb; clear hb; (try simp only [Act.put, qSa, qSz, qSs])))
              (repeat (first | ((with_reducible show wpSeq _ _ _ _ _ _ _); first | ((with_reducible refine wpSeq_nil ?_); refine hKr.out _ _ ?_; clear hKr Kr) | ((first | (refine St.copy (v := ?_) (by first | exact .inl rfl | exact .inr rfl) rfl rfl ?_ ?_; rotate_left; (focus ((try simp only [Act.eval, getD_lit, qGz, qGs]); with_reducible rfl))) | (refine St.pure (v := ?_) rfl rfl rfl (fun w => ?_) ?_; rotate_left; (focus (go_simp; all_goals with_reducible rfl))) | refine St.load rfl hM rfl rfl rfl rfl (by repeat constructor) (by rfl) (by kernel_rfl) ?_); (try simp only [Act.put, qSa, qSz, qSs]))) | (first | (refine wp_seq_shut (fun K hK => ?_)) | (refine wp_text hM (fun Kr hKr => ?_); simp only [List.append_eq, List.cons_append, List.nil_append, inText]) | refine wp_skip ?_ | (refine wp_cond_false rfl ?_) | ((refine hK.out _ _ ?_); clear hK K))))
              (refine St.call3 rfl rfl (by kernel_rfl) (fun R hR => ?_); simp only [List.map_toArray, List.map_cons, List.map_nil, Act.eval, getD_lit, qGz, qGs])
              refine (HLG.out _).mono ?_
              (rintro e w' ⟨rfl, hb⟩; refine hR.out _ _ ?_; clear hR R; replace hM := hM.below hb; clear hb; (try simp only [Act.put, qSa, qSz, qSs]))
              (repeat (first | ((with_reducible show wpSeq _ _ _ _ _ _ _); first | ((with_reducible refine wpSeq_nil ?_); refine hKr.out _ _ ?_; clear hKr Kr) | (((refine St.copy (v := ?_) (by first | exact .inl rfl | exact .inr rfl) rfl rfl ?_ ?_; rotate_left; (focus ((try simp only [Act.eval, getD_lit, qGz, qGs]); with_reducible rfl)))); (try simp only [Act.put, qSa, qSz, qSs]))) | (first | (refine wp_seq_shut (fun K hK => ?_)) | ((refine hK.out _ _ ?_); clear hK K)) | ((refine wp_drawn (id := 13) hM Sub.nil [] [(0, 0), (1, 0), (2, 0), (3, 0), (4, 0), (5, 0), (6, 0), (7, 3), (8, 3), (9, 3), (10, 3), (11, 3), (12, 3), (13, 3)] (by kernel_rfl) (by kernel_rfl) ?_); (clear hM; intro w hM Kr hKr); simp only [opsOf, qGz, qGs])))
              refine St.strTo rfl rfl rfl rfl rfl Tryz.underlying9 HK1.out ?_
              rw [HV1.out]
              (try simp only [Act.put, qSa, qSz, qSs])
              (repeat (((with_reducible show wpSeq _ _ _ _ _ _ _); ((first | (refine St.copy (v := ?_) (by exact .inl rfl) rfl rfl ?_ ?_; rotate_left; (focus ((try simp only [Act.eval, getD_lit, qGz, qGs]); with_reducible rfl))) | refine St.cat rfl rfl rfl rfl rfl (by omega) ?_ | (refine St.pure (v := ?_) rfl rfl rfl (fun w => ?_) ?_; rotate_left; (focus (go_simp; all_goals with_reducible rfl)))); (try simp only [Act.put, qSa, qSz, qSs])))))
              refine St.strFrom rfl rfl rfl rfl rfl Tryz.underlying9 HK2.out ?_
              rw [HV3.out]
              (try simp only [Act.put, qSa, qSz, qSs])
              (((with_reducible show wpSeq _ _ _ _ _ _ _); ((refine St.cat rfl rfl rfl rfl rfl (by (simp only [ByteArray.size_append, ba_size, List.size_toArray, List.length_cons, List.length_nil, Nat.reduceAdd]; omega)) ?_); (try simp only [Act.put, qSa, qSz, qSs]))))
              (((with_reducible show wpSeq _ _ _ _ _ _ _); (((refine St.pure (v := ?_) rfl rfl rfl (fun w => ?_) ?_; rotate_left; (focus (go_simp; all_goals with_reducible rfl)))); (try simp only [Act.put, qSa, qSz, qSs]))))
              (((with_reducible show wpSeq _ _ _ _ _ _ _); ((((((refine St.store rfl hM rfl rfl rfl rfl rfl (by repeat constructor) (Nat.le_of_ble_eq_true rfl) (by kernel_rfl) rfl ?_ ?_); (focus ((intro h; cases h; done))); clear hM; intro w hM)); (try simp only [Res.put, Res.known, Act.eval, Value.cells, getD_lit, qGz, qGs, List.toList_toArray, qSz, qSs, over, Nat.reduceAdd] at hM))); (try simp only [Act.put, qSa, qSz, qSs]))))
              rw [HV.out] at hM
              (repeat (first | ((with_reducible show wpSeq _ _ _ _ _ _ _); first | ((with_reducible refine wpSeq_nil ?_); refine hKr.out _ _ ?_; clear hKr Kr) | ((first | (refine St.copy (v := ?_) (by exact .inl rfl) rfl rfl ?_ ?_; rotate_left; (focus ((try simp only [Act.eval, getD_lit, qGz, qGs]); with_reducible rfl))) | ((refine St.loadRow rfl hM rfl rfl rfl rfl (by repeat constructor) (Nat.le_of_ble_eq_true rfl) (by kernel_rfl) ?_); (try simp only [Res.known, List.drop_succ_cons, List.drop_zero, List.take_succ_cons, List.take_zero]))); (try simp only [Act.put, qSa, qSz, qSs]))) | (first | (refine wp_seq_shut (fun K hK => ?_)) | (refine wp_text hM (fun Kr hKr => ?_); simp only [List.append_eq, List.cons_append, List.nil_append, inText]) | ((refine hK.out _ _ ?_); clear hK K))))
              (refine St.call3 rfl rfl (by kernel_rfl) (fun R hR => ?_); simp only [List.map_toArray, List.map_cons, List.map_nil, Act.eval, getD_lit, qGz, qGs])
              rw [← HOP.out] at hM
              have C := rputY_any HRP.out hM (by intro s'; repeat (first | exact Swap.all | apply Swap.skip)) HID.out hy (n := y.1.setData v) rfl rfl
              rw [HYC.out] at C
              refine C.mono ?_
              clear C
              rintro e w' ⟨rfl, s2, hM1, hp2⟩; refine hR.out _ _ ?_; clear hR R hM
              have hM := hM1
              clear hM1
              (try simp only [Act.put, qSa, qSz, qSs])
              (repeat (first | ((with_reducible show wpSeq _ _ _ _ _ _ _); first | ((with_reducible refine wpSeq_nil ?_); refine hKr.out _ _ ?_; clear hKr Kr) | (((refine St.copy (v := ?_) (by exact .inr rfl) rfl rfl ?_ ?_; rotate_left; (focus ((try simp only [Act.eval, getD_lit, qGz, qGs]); with_reducible rfl)))); (try simp only [Act.put, qSa, qSz, qSs]))) | (first | (refine wp_seq_shut (fun K hK => ?_)) | (refine wp_text hM (fun Kr hKr => ?_); simp only [List.append_eq, List.cons_append, List.nil_append, inText]) | ((refine hK.out _ _ ?_); clear hK K))))
              ((refine wp_ret ?_; (try simp only [Exit.then, Exit.inBlock]); refine St.ret hM rfl (by repeat (first | exact Outs.nil | apply Outs.tmp rfl)) rfl ?_))
              rw [HE.out]
              refine ⟨rfl, s2, _, HNO.out, ?_⟩
              rw [(In.writeT_q (t := t) id k s).1, (In.writeT_q (t := t) id k s).2]
              exact hp2.to (At.unF (hM.part (by repeat (first | exact Part.all | apply Part.skip)))) hM.only
            · have q2 : (In.sizedE t y.1 m != 0) = true := bne_iff_ne.2 he
              have HE := Lib.hid (In.write_bad (t := t) (id := id) (a := k) (s := s) he (by rw [In.writeE_at hn hc, if_neg (by omega), if_neg h0, hmI]))
              generalize In.sizedE t y.1 m = c at *
              (have HH := Lib.hid h; have HI := Lib.hid I; clear h I hv hU)
              clear hyd ha0 hyv hc h5 he1 h6 h0 he hm hmI hds
              go_enter Tryz.func36, Tryz.ntmps36
              (repeat (first | ((with_reducible show wpSeq _ _ _ _ _ _ _); first | ((with_reducible refine wpSeq_nil ?_); refine hKr.out _ _ ?_; clear hKr Kr) | (((refine St.copy (v := ?_) (by first | exact .inl rfl | exact .inr rfl) rfl rfl ?_ ?_; rotate_left; (focus ((try simp only [Act.eval, getD_lit, qGz, qGs]); with_reducible rfl)))); (try simp only [Act.put, qSa, qSz, qSs]))) | (first | (refine wp_seq_shut (fun K hK => ?_)) | (refine wp_text hM (fun Kr hKr => ?_); simp only [List.append_eq, List.cons_append, List.nil_append, inText]) | ((refine hK.out _ _ ?_); clear hK K))))
              ((refine St.call3 rfl rfl (by kernel_rfl) (fun R hR => ?_); simp only [List.map_toArray, List.map_cons, List.map_nil, Act.eval, getD_lit, qGz, qGs]); refine (HG.out _ (hM.part (by repeat (exact Part.all)))).mono ?_; (rintro e w' ⟨rfl, hb⟩; refine hR.out _ _ ?_; clear hR R; replace hM := hM.below hb; clear hb; (try simp only [Act.put, qSa, qSz, qSs])))
              (repeat (first | ((with_reducible show wpSeq _ _ _ _ _ _ _); first | ((with_reducible refine wpSeq_nil ?_); refine hKr.out _ _ ?_; clear hKr Kr) | ((first | (refine St.copy (v := ?_) (by first | exact .inl rfl | exact .inr rfl) rfl rfl ?_ ?_; rotate_left; (focus ((try simp only [Act.eval, getD_lit, qGz, qGs]); with_reducible rfl))) | (refine St.pure (v := ?_) rfl rfl rfl (fun w => ?_) ?_; rotate_left; (focus (go_simp; all_goals with_reducible rfl))) | refine St.load rfl hM rfl rfl rfl rfl (by repeat constructor) (by rfl) (by kernel_rfl) ?_ | ((refine St.loadRow rfl hM rfl rfl rfl rfl (by repeat constructor) (Nat.le_of_ble_eq_true rfl) (by kernel_rfl) ?_); (try simp only [Res.known, List.drop_succ_cons, List.drop_zero, List.take_succ_cons, List.take_zero])) | ((((refine St.storeRow rfl hM rfl rfl rfl rfl rfl (by repeat constructor) (Nat.le_of_ble_eq_true rfl) (Nat.le_of_ble_eq_true rfl) (by kernel_rfl) rfl ?_ ?_); (focus ((intro h; cases h; done))); clear hM; intro w hM)); (try simp only [Res.put, Res.known, Act.eval, Value.cells, getD_lit, qGz, qGs, List.toList_toArray, qSz, qSs, over, Nat.reduceAdd] at hM))); (try simp only [Act.put, qSa, qSz, qSs])) | (((refine St.alloc (ty := 63) (z := .agg #[.int .i64 0, .bool false, .int .i64 0, .int .i64 0, .string ⟨#[]⟩, .slice none 0 0]) rfl hM rfl rfl (by kernel_rfl) ?_); clear hM; intro w bk hM); (try simp only [Res.put, Res.known, Act.eval, Value.cells, getD_lit, qGz, qGs, List.toList_toArray, qSz, qSs, over, Nat.reduceAdd] at hM); (try simp only [Act.put, qSa, qSz, qSs]))) | (first | (refine wp_seq_shut (fun K hK => ?_)) | (refine wp_text hM (fun Kr hKr => ?_); simp only [List.append_eq, List.cons_append, List.nil_append, inText]) | refine wp_skip ?_ | (refine wp_cond_false rfl ?_) | ((refine hK.out _ _ ?_); clear hK K))))
              ((refine St.call3 rfl rfl (by kernel_rfl) (fun R hR => ?_); simp only [List.map_toArray, List.map_cons, List.map_nil, Act.eval, getD_lit, qGz, qGs]); refine (HFT.out _ (hM.part (by repeat (first | exact Part.all | apply Part.skip)))).mono ?_; (rintro e w' ⟨rfl, hb⟩; refine hR.out _ _ ?_; clear hR R; replace hM := hM.below hb; clear hb; (try simp only [Act.put, qSa, qSz, qSs])))
              (repeat (first | ((with_reducible show wpSeq _ _ _ _ _ _ _); first | ((with_reducible refine wpSeq_nil ?_); refine hKr.out _ _ ?_; clear hKr Kr) | ((first | (refine St.copy (v := ?_) (by first | exact .inl rfl | exact .inr rfl) rfl rfl ?_ ?_; rotate_left; (focus ((try simp only [Act.eval, getD_lit, qGz, qGs]); with_reducible rfl))) | (refine St.pure (v := ?_) rfl rfl rfl (fun w => ?_) ?_; rotate_left; (focus (go_simp; all_goals with_reducible rfl)))); (try simp only [Act.put, qSa, qSz, qSs]))) | (first | (refine wp_seq_shut (fun K hK => ?_)) | (refine wp_text hM (fun Kr hKr => ?_); simp only [List.append_eq, List.cons_append, List.nil_append, inText]) | (refine wp_cond_true rfl ?_) | ((refine hK.out _ _ ?_); clear hK K))))
              (((refine wp_ret ?_; (try simp only [Exit.then, Exit.inBlock]); refine St.ret hM rfl (by repeat (first | exact Outs.nil | apply Outs.tmp rfl)) rfl ?_)); (rw [HE.out]); exact ⟨rfl, HB.out _ (hM.part (by repeat (first | exact Part.all | apply Part.skip))) hM.only⟩)
    · have q1 : (In.fileE t id a != 0) = true := bne_iff_ne.2 hc
      have HE := Lib.hid (In.write_bad (t := t) (id := id) (a := a) (s := s) hc (In.writeE_bad hc))
      rw [NodV.open hyv] at HG
      generalize In.fileE t id a = c at *
      (have HH := Lib.hid h; have HI := Lib.hid I; clear h I hv hU)
      clear hyv hc
      go_enter Tryz.func36, Tryz.ntmps36
      (repeat (first | ((with_reducible show wpSeq _ _ _ _ _ _ _); first | ((with_reducible refine wpSeq_nil ?_); refine hKr.out _ _ ?_; clear hKr Kr) | (((refine St.copy (v := ?_) (by first | exact .inl rfl | exact .inr rfl) rfl rfl ?_ ?_; rotate_left; (focus ((try simp only [Act.eval, getD_lit, qGz, qGs]); with_reducible rfl)))); (try simp only [Act.put, qSa, qSz, qSs]))) | (first | (refine wp_seq_shut (fun K hK => ?_)) | (refine wp_text hM (fun Kr hKr => ?_); simp only [List.append_eq, List.cons_append, List.nil_append, inText]) | ((refine hK.out _ _ ?_); clear hK K))))
      ((refine St.call3 rfl rfl (by kernel_rfl) (fun R hR => ?_); simp only [List.map_toArray, List.map_cons, List.map_nil, Act.eval, getD_lit, qGz, qGs]); refine (HG.out _ (hM.part (by repeat (exact Part.all)))).mono ?_; (rintro e w' ⟨rfl, hb⟩; refine hR.out _ _ ?_; clear hR R; replace hM := hM.below hb; clear hb; (try simp only [Act.put, qSa, qSz, qSs])))
      (repeat (first | ((with_reducible show wpSeq _ _ _ _ _ _ _); first | ((with_reducible refine wpSeq_nil ?_); refine hKr.out _ _ ?_; clear hKr Kr) | ((first | (refine St.copy (v := ?_) (by first | exact .inl rfl | exact .inr rfl) rfl rfl ?_ ?_; rotate_left; (focus ((try simp only [Act.eval, getD_lit, qGz, qGs]); with_reducible rfl))) | (refine St.pure (v := ?_) rfl rfl rfl (fun w => ?_) ?_; rotate_left; (focus (go_simp; all_goals with_reducible rfl))) | ((((refine St.storeRow rfl hM rfl rfl rfl rfl rfl (by repeat constructor) (Nat.le_of_ble_eq_true rfl) (Nat.le_of_ble_eq_true rfl) (by kernel_rfl) rfl ?_ ?_); (focus ((intro h; cases h; done))); clear hM; intro w hM)); (try simp only [Res.put, Res.known, Act.eval, Value.cells, getD_lit, qGz, qGs, List.toList_toArray, qSz, qSs, over, Nat.reduceAdd] at hM))); (try simp only [Act.put, qSa, qSz, qSs])) | (((refine St.alloc (ty := 63) (z := .agg #[.int .i64 0, .bool false, .int .i64 0, .int .i64 0, .string ⟨#[]⟩, .slice none 0 0]) rfl hM rfl rfl (by kernel_rfl) ?_); clear hM; intro w bk hM); (try simp only [Res.put, Res.known, Act.eval, Value.cells, getD_lit, qGz, qGs, List.toList_toArray, qSz, qSs, over, Nat.reduceAdd] at hM); (try simp only [Act.put, qSa, qSz, qSs]))) | (first | (refine wp_seq_shut (fun K hK => ?_)) | (refine wp_text hM (fun Kr hKr => ?_); simp only [List.append_eq, List.cons_append, List.nil_append, inText]) | (refine wp_cond_true rfl ?_) | ((refine hK.out _ _ ?_); clear hK K))))
      (((refine wp_ret ?_; (try simp only [Exit.then, Exit.inBlock]); refine St.ret hM rfl (by repeat (first | exact Outs.nil | apply Outs.tmp rfl)) rfl ?_)); (rw [HE.out]); exact ⟨rfl, HB.out _ (hM.part (by repeat (first | exact Part.all | apply Part.skip))) hM.only⟩)
end
end Go.Proofs.YtcicjklhbnipcaaGreat
namespace Go.Proofs.YtcicjklhbnipcaaGreat
set_option linter.unusedVariables false
set_option linter.unusedSimpArgs false
open Go.RowKit Go.Maps
section
variable {w w' w0 : World} {F : List Nat} {L M : List Ent} {zs : List NodV} {x : RX} {t : TabD} {N : Nat} {q nx : Int}
/-- What List answers, in a slice of its own. -/
def RLst (t : TabD) (dir : Int) (w : World) (e : Ending) (w' : World) : Prop :=
  ∃ s, e = .returned (.tuple #[slV s (In.list t dir).length, .int .i64 (In.listE t dir)]) ∧ TxOK s (In.list t dir) ∧ St w [] w' (txL s (In.list t dir))
theorem list_bad {dir : Int} (h : In.listE t dir ≠ 0) : In.list t dir = [] := by
  unfold In.list
  rw [beq_eq_false_iff_ne.2 h]
  rfl
theorem list_at {dir : Int} {d : NodeD} (hd : In.find t.nodes dir = some d) (h : In.listE t dir = 0) : In.list t dir = d.names.map Prod.fst := by
  unfold In.list
  rw [h, In.at_some hd]
  rfl
set_option maxHeartbeats 8000000 in
set_option maxRecDepth 100000 in
theorem rList_any (h : RIs x t zs w0) (I : In.Inv N t) (hN : N ≤ 900000) (dir : Int) :
    Calls Tryz.prog 40 #[.pointer (some ⟨x.g, 0, none⟩), .int .i64 dir] w0 (RLst t dir w0) := by
  have hM := St.start w0 []
  unfold RLst
  cases hf : rfind zs dir with
  | none =>
    have HC := Lib.hid (fun (W : World) (hb : Below w0.heap.size w0 W) => rget_none (h.raw.below hb) hf)
    unfold nodZ at HC
    have hE : In.listE t dir = 3 := In.getE_none (by rw [h.find dir, hf]; rfl)
    rw [list_bad (by rw [hE]; decide), hE]
    clear h hf I hE
    go_enter Tryz.func40, Tryz.ntmps40
    (repeat (first | ((with_reducible show wpSeq _ _ _ _ _ _ _); first | ((with_reducible refine wpSeq_nil ?_); refine hKr.out _ _ ?_; clear hKr Kr) | (((refine St.copy (v := ?_) (by first | exact .inl rfl | exact .inr rfl) rfl rfl ?_ ?_; rotate_left; (focus ((try simp only [Act.eval, getD_lit, qGz, qGs]); with_reducible rfl)))); (try simp only [Act.put, qSa, qSz, qSs]))) | (first | (refine wp_seq_shut (fun K hK => ?_)) | (refine wp_text hM (fun Kr hKr => ?_); simp only [List.append_eq, List.cons_append, List.nil_append, inText]) | ((refine hK.out _ _ ?_); clear hK K))))
    (refine St.call3 rfl rfl (by kernel_rfl) (fun R hR => ?_); simp only [List.map_toArray, List.map_cons, List.map_nil, Act.eval, getD_lit, qGz, qGs])
    refine (HC.out _ hM.to_below).mono ?_
    (rintro e w' ⟨rfl, hb⟩; refine hR.out _ _ ?_; clear hR R; replace hM := hM.below hb; clear hb; (try simp only [Act.put, qSa, qSz, qSs]))
    (repeat (first | ((with_reducible show wpSeq _ _ _ _ _ _ _); first | ((with_reducible refine wpSeq_nil ?_); refine hKr.out _ _ ?_; clear hKr Kr) | ((first | (refine St.copy (v := ?_) (by first | exact .inl rfl | exact .inr rfl) rfl rfl ?_ ?_; rotate_left; (focus ((try simp only [Act.eval, getD_lit, qGz, qGs]); with_reducible rfl))) | (refine St.pure (v := ?_) rfl rfl rfl (fun w => ?_) ?_; rotate_left; (focus (go_simp; all_goals with_reducible rfl))) | ((((refine St.storeRow rfl hM rfl rfl rfl rfl rfl (by repeat constructor) (Nat.le_of_ble_eq_true rfl) (Nat.le_of_ble_eq_true rfl) (by kernel_rfl) rfl ?_ ?_); (focus ((intro h; cases h; done))); clear hM; intro w hM)); (try simp only [Res.put, Res.known, Act.eval, Value.cells, getD_lit, qGz, qGs, List.toList_toArray, qSz, qSs, over, Nat.reduceAdd] at hM))); (try simp only [Act.put, qSa, qSz, qSs])) | (((refine St.alloc (ty := 63) (z := .agg #[.int .i64 0, .bool false, .int .i64 0, .int .i64 0, .string ⟨#[]⟩, .slice none 0 0]) rfl hM rfl rfl (by kernel_rfl) ?_); clear hM; intro w bk hM); (try simp only [Res.put, Res.known, Act.eval, Value.cells, getD_lit, qGz, qGs, List.toList_toArray, qSz, qSs, over, Nat.reduceAdd] at hM); (try simp only [Act.put, qSa, qSz, qSs]))) | (first | (refine wp_seq_shut (fun K hK => ?_)) | (refine wp_text hM (fun Kr hKr => ?_); simp only [List.append_eq, List.cons_append, List.nil_append, inText]) | (refine wp_cond_true rfl ?_) | ((refine hK.out _ _ ?_); clear hK K))))
    ((refine wp_ret ?_; (try simp only [Exit.then, Exit.inBlock]); refine St.ret hM rfl (by repeat (first | exact Outs.nil | apply Outs.tmp rfl)) rfl ?_))
    exact ⟨none, rfl, ⟨rfl, rfl⟩, hM.forget⟩
  | some z =>
    have hz := (rfind_mem hf).1
    have hd : In.find t.nodes dir = some z.1 := by rw [h.find dir, hf]; rfl
    have HC := Lib.hid (fun (W : World) (hb : Below w0.heap.size w0 W) => rget_some (h.raw.below hb) hf)
    obtain ⟨wa, wc, hwv, hwa⟩ := slV_open (h.raw.names z hz)
    rw [NodV.open hwv] at HC
    have hEe : In.listE t dir = if z.1.dir == true then 0 else 12 := In.getE_some hd
    cases hzd : z.1.dir with
    | false =>
      rw [hzd] at hEe HC
      have hE : In.listE t dir = 12 := hEe
      rw [list_bad (by rw [hE]; decide), hE]
      clear h hf I hE hEe hz hd hwv hzd hwa
      go_enter Tryz.func40, Tryz.ntmps40
      (repeat (first | ((with_reducible show wpSeq _ _ _ _ _ _ _); first | ((with_reducible refine wpSeq_nil ?_); refine hKr.out _ _ ?_; clear hKr Kr) | (((refine St.copy (v := ?_) (by first | exact .inl rfl | exact .inr rfl) rfl rfl ?_ ?_; rotate_left; (focus ((try simp only [Act.eval, getD_lit, qGz, qGs]); with_reducible rfl)))); (try simp only [Act.put, qSa, qSz, qSs]))) | (first | (refine wp_seq_shut (fun K hK => ?_)) | (refine wp_text hM (fun Kr hKr => ?_); simp only [List.append_eq, List.cons_append, List.nil_append, inText]) | ((refine hK.out _ _ ?_); clear hK K))))
      (refine St.call3 rfl rfl (by kernel_rfl) (fun R hR => ?_); simp only [List.map_toArray, List.map_cons, List.map_nil, Act.eval, getD_lit, qGz, qGs])
      refine (HC.out _ hM.to_below).mono ?_
      (rintro e w' ⟨rfl, hb⟩; refine hR.out _ _ ?_; clear hR R; replace hM := hM.below hb; clear hb; (try simp only [Act.put, qSa, qSz, qSs]))
      (repeat (first | ((with_reducible show wpSeq _ _ _ _ _ _ _); first | ((with_reducible refine wpSeq_nil ?_); refine hKr.out _ _ ?_; clear hKr Kr) | ((first | (refine St.copy (v := ?_) (by first | exact .inl rfl | exact .inr rfl) rfl rfl ?_ ?_; rotate_left; (focus ((try simp only [Act.eval, getD_lit, qGz, qGs]); with_reducible rfl))) | (refine St.pure (v := ?_) rfl rfl rfl (fun w => ?_) ?_; rotate_left; (focus (go_simp; all_goals with_reducible rfl))) | refine St.load rfl hM rfl rfl rfl rfl (by repeat constructor) (by rfl) (by kernel_rfl) ?_ | ((((refine St.storeRow rfl hM rfl rfl rfl rfl rfl (by repeat constructor) (Nat.le_of_ble_eq_true rfl) (Nat.le_of_ble_eq_true rfl) (by kernel_rfl) rfl ?_ ?_); (focus ((intro h; cases h; done))); clear hM; intro w hM)); (try simp only [Res.put, Res.known, Act.eval, Value.cells, getD_lit, qGz, qGs, List.toList_toArray, qSz, qSs, over, Nat.reduceAdd] at hM))); (try simp only [Act.put, qSa, qSz, qSs])) | (((refine St.alloc (ty := 63) (z := .agg #[.int .i64 0, .bool false, .int .i64 0, .int .i64 0, .string ⟨#[]⟩, .slice none 0 0]) rfl hM rfl rfl (by kernel_rfl) ?_); clear hM; intro w bk hM); (try simp only [Res.put, Res.known, Act.eval, Value.cells, getD_lit, qGz, qGs, List.toList_toArray, qSz, qSs, over, Nat.reduceAdd] at hM); (try simp only [Act.put, qSa, qSz, qSs]))) | (first | (refine wp_seq_shut (fun K hK => ?_)) | (refine wp_text hM (fun Kr hKr => ?_); simp only [List.append_eq, List.cons_append, List.nil_append, inText]) | refine wp_skip ?_ | (first | refine wp_cond_true rfl ?_ | refine wp_cond_false rfl ?_) | ((refine hK.out _ _ ?_); clear hK K))))
      ((refine wp_ret ?_; (try simp only [Exit.then, Exit.inBlock]); refine St.ret hM rfl (by repeat (first | exact Outs.nil | apply Outs.tmp rfl)) rfl ?_))
      exact ⟨none, rfl, ⟨rfl, rfl⟩, hM.forget⟩
    | true =>
      rw [hzd] at hEe HC
      have hE : In.listE t dir = 0 := hEe
      rw [list_at hd hE, hE]
      have hnm := h.raw.nm (h.nl I hN) hz
      have hln := hnm.len
      have HH := Lib.hid hnm.has
      have HK := Lib.hid hnm.ok
      clear h hf I hE hEe hz hd hwv hzd hnm
      obtain ⟨⟨zi, zd, zl, zh, zb, zn⟩, zp⟩ := z
      simp only at HC HH HK hln hwa ⊢
      go_enter Tryz.func40, Tryz.ntmps40
      (repeat (first | ((with_reducible show wpSeq _ _ _ _ _ _ _); first | ((with_reducible refine wpSeq_nil ?_); refine hKr.out _ _ ?_; clear hKr Kr) | (((refine St.copy (v := ?_) (by first | exact .inl rfl | exact .inr rfl) rfl rfl ?_ ?_; rotate_left; (focus ((try simp only [Act.eval, getD_lit, qGz, qGs]); with_reducible rfl)))); (try simp only [Act.put, qSa, qSz, qSs]))) | (first | (refine wp_seq_shut (fun K hK => ?_)) | (refine wp_text hM (fun Kr hKr => ?_); simp only [List.append_eq, List.cons_append, List.nil_append, inText]) | ((refine hK.out _ _ ?_); clear hK K))))
      (refine St.call3 rfl rfl (by kernel_rfl) (fun R hR => ?_); simp only [List.map_toArray, List.map_cons, List.map_nil, Act.eval, getD_lit, qGz, qGs])
      refine (HC.out _ hM.to_below).mono ?_
      (rintro e w' ⟨rfl, hb⟩; refine hR.out _ _ ?_; clear hR R; replace hM := hM.below hb; clear hb; (try simp only [Act.put, qSa, qSz, qSs]))
      (repeat (first | ((with_reducible show wpSeq _ _ _ _ _ _ _); first | ((with_reducible refine wpSeq_nil ?_); refine hKr.out _ _ ?_; clear hKr Kr) | ((first | (refine St.copy (v := ?_) (by first | exact .inl rfl | exact .inr rfl) rfl rfl ?_ ?_; rotate_left; (focus ((try simp only [Act.eval, getD_lit, qGz, qGs]); with_reducible rfl))) | (refine St.pure (v := ?_) rfl rfl rfl (fun w => ?_) ?_; rotate_left; (focus (go_simp; all_goals with_reducible rfl))) | refine St.load rfl hM rfl rfl rfl rfl (by repeat constructor) (by rfl) (by kernel_rfl) ?_ | ((((refine St.storeRow rfl hM rfl rfl rfl rfl rfl (by repeat constructor) (Nat.le_of_ble_eq_true rfl) (Nat.le_of_ble_eq_true rfl) (by kernel_rfl) rfl ?_ ?_); (focus ((intro h; cases h; done))); clear hM; intro w hM)); (try simp only [Res.put, Res.known, Act.eval, Value.cells, getD_lit, qGz, qGs, List.toList_toArray, qSz, qSs, over, Nat.reduceAdd] at hM))); (try simp only [Act.put, qSa, qSz, qSs])) | (((refine St.alloc (ty := 63) (z := .agg #[.int .i64 0, .bool false, .int .i64 0, .int .i64 0, .string ⟨#[]⟩, .slice none 0 0]) rfl hM rfl rfl (by kernel_rfl) ?_); clear hM; intro w bk hM); (try simp only [Res.put, Res.known, Act.eval, Value.cells, getD_lit, qGz, qGs, List.toList_toArray, qSz, qSs, over, Nat.reduceAdd] at hM); (try simp only [Act.put, qSa, qSz, qSs]))) | (first | (refine wp_seq_shut (fun K hK => ?_)) | (refine wp_text hM (fun Kr hKr => ?_); simp only [List.append_eq, List.cons_append, List.nil_append, inText]) | refine wp_block ?_ | refine wp_skip ?_ | (refine wp_cond_false rfl ?_) | ((refine hK.out _ _ ?_); clear hK K))))
      go_loopw [8, 9] (fun o i wr => ∃ (k : Nat) (s' : Option (Nat × Nat)), k ≤ zn.length ∧ o = slV s' k ∧ i = .int .i64 k ∧ SlOK s' k (((zn.take k).map Prod.fst).map Value.string) 1 ∧ St w0 [] wr ((bk, true, Res.cells [.int .i64 zi, .bool true, .int .i64 zl, .int .i64 zh, .string zb, .slice wa zn.length wc] 63) :: txL s' ((zn.take k).map Prod.fst))) (fun _ i _ => zn.length - (intOf i).toNat)
      case atStart => exact ⟨0, none, by omega, rfl, rfl, ⟨rfl, rfl⟩, hM⟩
      case round =>
        clear hM
        obtain ⟨k, s', hk, rfl, rfl, hok, hM⟩ := hrel
        have HOK := Lib.hid hok
        clear hok
        obtain ⟨ua, uc, hu, -⟩ := slV_open HOK.out
        by_cases hlt : k < zn.length
        · obtain ⟨p, hp⟩ := get_at hlt
          have k1 : (k : Int) < (zn.length : Int) := by omega
          rcases zp with _ | ⟨g1, cap1⟩
          · exact absurd HK.out.2 (by simp only; omega)
          obtain ⟨rfl, rfl⟩ := hwa g1 cap1 rfl
          have r1 := ent_row HH.out hp
          have c0 : w0.cell? ⟨g1, k * 2, none⟩ = some (.string p.1) := r1 0 _ rfl
          have HT := Lib.hid (show ((zn.take k).map Prod.fst).map Value.string ++ [.string p.1] = ((zn.take (k + 1)).map Prod.fst).map Value.string by rw [List.take_add_one, hp, Option.toList_some, List.map_append, List.map_append]; rfl)
          clear hp r1
          rw [hu]
          (repeat (first | ((with_reducible show wpSeq _ _ _ _ _ _ _); first | ((with_reducible refine wpSeq_nil ?_); refine hKr.out _ _ ?_; clear hKr Kr) | ((first | (refine St.copy (v := ?_) (by exact .inl rfl) rfl rfl ?_ ?_; rotate_left; (focus ((try simp only [Act.eval, getD_lit, qGz, qGs]); with_reducible rfl))) | (refine St.pure (v := ?_) rfl rfl rfl (fun w => ?_) ?_; rotate_left; (focus (go_simp; all_goals with_reducible rfl))) | refine St.load rfl hM rfl rfl rfl rfl (by repeat constructor) (by rfl) (by kernel_rfl) ?_ | refine St.loadF rfl rfl rfl rfl rfl (only_cell hM.only (by assumption) (by exact List.not_mem_nil)) (by kernel_rfl) ?_ | (((((refine St.buildSlice (cells := ?_) (e := ?_) rfl hM rfl rfl (fun w => ?_) ?_; rotate_left 2; (focus (go_simp; all_goals with_reducible rfl)))); clear hM; intro w bk hM)); (try simp only [Res.put, Res.known, Act.eval, Value.cells, getD_lit, qGz, qGs, List.toList_toArray, qSz, qSs, over, Nat.reduceAdd] at hM))); (try simp only [Act.put, qSa, qSz, qSs]))) | (first | (refine wp_seq_shut (fun K hK => ?_)) | (refine wp_text hM (fun Kr hKr => ?_); simp only [List.append_eq, List.cons_append, List.nil_append, inText]) | refine wp_block ?_ | refine wp_skip ?_ | (refine wp_cond_true rfl ?_) | ((refine hK.out _ _ ?_); clear hK K))))
          rw [← hu]
          refine St.append (s := s') (n := k) (xs := ((zn.take k).map Prod.fst).map Value.string) rfl hM rfl rfl rfl rfl rfl (by kernel_rfl) (by intro s'; repeat (first | exact Swap.all | apply Swap.skip)) HOK.out rfl (hM.news (by repeat constructor)) rfl (by rw [maxLen_val]; omega) (by omega) (fun h => by cases h) ?_
          clear hM; intro w s2 hM hk' hs'
          simp only [Res.known] at hM hk'
          rw [HT.out] at hM hk'
          have HK' := Lib.hid hk'
          clear hk' hs' HOK
          obtain ⟨ub, ud, hu2, -⟩ := slV_open HK'.out
          rw [hu2]
          (try simp only [Act.put, qSa, qSz, qSs])
          (repeat (first | ((with_reducible show wpSeq _ _ _ _ _ _ _); first | ((with_reducible refine wpSeq_nil ?_); refine hKr.out _ _ ?_; clear hKr Kr) | ((first | (refine St.copy (v := ?_) (by first | exact .inl rfl | exact .inr rfl) rfl rfl ?_ ?_; rotate_left; (focus ((try simp only [Act.eval, getD_lit, qGz, qGs]); with_reducible rfl))) | refine St.inc rfl rfl rfl rfl rfl (by omega) ?_); (try simp only [Act.put, qSa, qSz, qSs]))) | (first | (refine wp_text hM (fun Kr hKr => ?_); simp only [List.append_eq, List.cons_append, List.nil_append, inText]) | ((refine hK.out _ _ ?_); clear hK K))))
          replace hM := hM.forget
          (try simp only [Exit.then])
          rw [← hu2]
          (refine ⟨?_, ?_⟩; (focus (repeat (first | exact ⟨⟨k + 1, s2, by omega, rfl, rfl, HK'.out, hM⟩, rfl⟩ | apply Exists.intro))); (simp only [getD_lit, qGz, qGs, intOf]; omega))
        · have k0 : ¬ ((k : Int) < (zn.length : Int)) := by omega
          obtain rfl : k = zn.length := by omega
          rw [List.take_length] at hM HOK
          clear hlt hk
          rw [hu]
          (repeat (first | ((with_reducible show wpSeq _ _ _ _ _ _ _); first | ((with_reducible refine wpSeq_nil ?_); refine hKr.out _ _ ?_; clear hKr Kr) | ((first | (refine St.copy (v := ?_) (by first | exact .inl rfl | exact .inr rfl) rfl rfl ?_ ?_; rotate_left; (focus ((try simp only [Act.eval, getD_lit, qGz, qGs]); with_reducible rfl))) | (refine St.pure (v := ?_) rfl rfl rfl (fun w => ?_) ?_; rotate_left; (focus (go_simp; all_goals with_reducible rfl))) | refine St.load rfl hM rfl rfl rfl rfl (by repeat constructor) (by rfl) (by kernel_rfl) ?_); (try simp only [Act.put, qSa, qSz, qSs]))) | (first | (refine wp_seq_shut (fun K hK => ?_)) | (refine wp_text hM (fun Kr hKr => ?_); simp only [List.append_eq, List.cons_append, List.nil_append, inText]) | (refine wp_cond_false rfl ?_) | (refine wp_exit ?_; simp only [Exit.then, Exit.inBlock, if_true, if_false, reduceCtorEq, Nat.reduceEqDiff, Nat.succ_ne_zero]) | ((first | refine hK.out _ _ ?_ | (clear hK K; refine hK.out _ _ ?_)); clear hK K))))
          ((refine wp_ret ?_; (try simp only [Exit.then, Exit.inBlock]); refine St.ret hM rfl (by repeat (first | exact Outs.nil | apply Outs.tmp rfl)) rfl ?_))
          rw [List.length_map]
          refine ⟨s', by rw [hu]; rfl, ?_, hM.forget⟩
          have := HOK.out
          unfold TxOK
          rw [List.length_map]
          exact this
set_option maxHeartbeats 8000000 in
set_option maxRecDepth 100000 in
/-- New: a table of its own. -/
theorem rNew_yes (qt : Int) (h0 : 64 ≤ qt) (h1 : qt ≤ 1099511627776) (w0 : World) : Calls Tryz.prog 7 #[.int .i64 qt] w0 fun e w' => ∃ g s zs, e = .returned (.tuple #[.pointer (some ⟨g, 0, none⟩), .int .i64 0]) ∧ zs.map (·.1) = (In.new qt).nodes ∧ zs.flatMap NodV.ents = [] ∧ St w0 [] w' (rLF ⟨g, s⟩ qt 2 zs) ∧ NodOK s zs ∧ (∀ z ∈ zs, SlOK z.2 z.1.names.length (entC z.1.names) 2) ∧ zs.length ≤ 1000000 := by
  have hM := St.start w0 []
  have k1 : decide (qt < 64) = false := decide_eq_false (by omega)
  have k2 : decide (1099511627776 < qt) = false := decide_eq_false (by omega)
  clear h0 h1
  go_enter Tryz.func7, Tryz.ntmps7
  (repeat (first | ((with_reducible show wpSeq _ _ _ _ _ _ _); first | ((with_reducible refine wpSeq_nil ?_); refine hKr.out _ _ ?_; clear hKr Kr) | ((first | (refine St.copy (v := ?_) (by first | exact .inl rfl | exact .inr rfl) rfl rfl ?_ ?_; rotate_left; (focus ((try simp only [Act.eval, getD_lit, qGz, qGs]); with_reducible rfl))) | (refine St.pure (v := ?_) rfl rfl rfl (fun w => ?_) ?_; rotate_left; (focus (go_simp; all_goals with_reducible rfl))) | ((((first | refine St.box rfl hM rfl rfl rfl ?_ | (refine St.buildSlice (cells := ?_) (e := ?_) rfl hM rfl rfl (fun w => ?_) ?_; rotate_left 2; (focus (go_simp; all_goals with_reducible rfl)))); clear hM; intro w bk hM)); (try simp only [Res.put, Res.known, Act.eval, Value.cells, getD_lit, qGz, qGs, List.toList_toArray, qSz, qSs, over, Nat.reduceAdd] at hM))); (try simp only [Act.put, qSa, qSz, qSs]))) | (first | (refine wp_seq_shut (fun K hK => ?_)) | (refine wp_text hM (fun Kr hKr => ?_); simp only [inText]) | refine wp_skip ?_ | (refine wp_cond_false rfl ?_) | ((refine hK.out _ _ ?_); clear hK K))))
  rename_i w1 bk1
  ((refine wp_ret ?_; (try simp only [Exit.then, Exit.inBlock]); refine St.ret hM rfl (by repeat (first | exact Outs.nil | apply Outs.tmp rfl)) rfl ?_))
  refine ⟨bk, some (bk1, 1), [((⟨1, true, 1, 0, ByteArray.empty, []⟩, none) : NodV)], rfl, rfl, rfl, ?_, ⟨rfl, by decide, by rw [maxLen_val]; decide⟩, fun z hz => ?_, by decide⟩
  · exact hM.weaken (b := bk1) (ow := true) (r' := .pre [.int .i64 1, .bool true, .int .i64 1, .int .i64 0, .string ⟨#[]⟩, .slice none 0 0] 63 (1 * 6)) (by repeat constructor) (fun h => Res.toPre rfl h)
  · rcases List.mem_singleton.1 hz with rfl
    exact ⟨rfl, rfl⟩
theorem rNew_no (qt : Int) (h : qt < 64 ∨ 1099511627776 < qt) (w0 : World) : Calls Tryz.prog 7 #[.int .i64 qt] w0 fun e w' => e = .returned (.tuple #[.pointer none, .int .i64 1]) ∧ Below w0.heap.size w0 w' := by
  have hM := St.start w0 []
  by_cases h1 : qt < 64
  · clear h
    go_enter Tryz.func7, Tryz.ntmps7
    (repeat (first | ((with_reducible show wpSeq _ _ _ _ _ _ _); first | ((with_reducible refine wpSeq_nil ?_); refine hKr.out _ _ ?_; clear hKr Kr) | ((first | (refine St.copy (v := ?_) (by first | exact .inl rfl | exact .inr rfl) rfl rfl ?_ ?_; rotate_left; (focus ((try simp only [Act.eval, getD_lit, qGz, qGs]); with_reducible rfl))) | (refine St.pure (v := ?_) rfl rfl rfl (fun w => ?_) ?_; rotate_left; (focus (go_simp; all_goals with_reducible rfl))) | refine wpSeq_off rfl rfl ?_); (try simp only [Act.put, qSa, qSz, qSs]))) | (first | (refine wp_seq_shut (fun K hK => ?_)) | (refine wp_text hM (fun Kr hKr => ?_); simp only [inText]) | (refine wp_cond_true rfl ?_) | ((refine hK.out _ _ ?_); clear hK K))))
    ((refine wp_ret ?_; (try simp only [Exit.then, Exit.inBlock]); refine St.ret hM rfl (by repeat (first | exact Outs.nil | apply Outs.tmp rfl)) rfl ?_))
    exact ⟨rfl, hM.to_below⟩
  · have k1 : decide (qt < 64) = false := decide_eq_false h1
    have k2 : 1099511627776 < qt := h.resolve_left h1
    clear h h1
    go_enter Tryz.func7, Tryz.ntmps7
    (repeat (first | ((with_reducible show wpSeq _ _ _ _ _ _ _); first | ((with_reducible refine wpSeq_nil ?_); refine hKr.out _ _ ?_; clear hKr Kr) | ((first | (refine St.copy (v := ?_) (by first | exact .inl rfl | exact .inr rfl) rfl rfl ?_ ?_; rotate_left; (focus ((try simp only [Act.eval, getD_lit, qGz, qGs]); with_reducible rfl))) | (refine St.pure (v := ?_) rfl rfl rfl (fun w => ?_) ?_; rotate_left; (focus (go_simp; all_goals with_reducible rfl)))); (try simp only [Act.put, qSa, qSz, qSs]))) | (first | (refine wp_seq_shut (fun K hK => ?_)) | (refine wp_text hM (fun Kr hKr => ?_); simp only [inText]) | (refine wp_cond_true rfl ?_) | ((refine hK.out _ _ ?_); clear hK K))))
    ((refine wp_ret ?_; (try simp only [Exit.then, Exit.inBlock]); refine St.ret hM rfl (by repeat (first | exact Outs.nil | apply Outs.tmp rfl)) rfl ?_))
    exact ⟨rfl, hM.to_below⟩
end
end Go.Proofs.YtcicjklhbnipcaaGreat
