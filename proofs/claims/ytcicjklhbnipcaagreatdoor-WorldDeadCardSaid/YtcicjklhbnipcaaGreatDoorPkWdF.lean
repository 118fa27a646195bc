/-
  Texts laid one behind the other: what WrlE asks for.
-/
import Derived.Test.YtcicjklhbnipcaaGreatDoorPkWdE
import Derived.KernelRfl
namespace Go.Proofs.YtcicjklhbnipcaaGreatDoor
set_option linter.unusedVariables false
set_option linter.unusedSimpArgs false
open Go.RowKit Go.Maps
namespace Fs
theorem under_size {N : Nat} {t : TabD} (I : In.Inv N t) : ∀ (k : Nat) (id : Int) (dir : ByteArray), ∀ f ∈ under t k id dir, f.path.size ≤ dir.size + 33 * k
  | 0, _, _, f, h => by cases h
  | k + 1, id, dir, f, h => by
    unfold under at h
    obtain ⟨p, hp, hf⟩ := List.mem_flatMap.1 h
    have hs := I.short _ (In.find_some (In.names_found hp)).1 p hp
    have hj := join_size dir p.1
    rcases List.mem_cons.1 hf with rfl | hf
    · show (Pt.join dir p.1).size ≤ _
      omega
    · have := under_size I k p.2 (Pt.join dir p.1) f hf
      omega
theorem files_size {N : Nat} {d : FsD} (I : Inv N d) (hN : N ≤ 30000) : ∀ f ∈ files d, f.path.size ≤ 1000000 := fun f hf => by
  have := under_size I.tbl _ _ _ f hf
  have h2 := I.tbl.last
  have e : (⟨#[]⟩ : ByteArray).size = 0 := rfl
  omega
end Fs
section
variable {N : Nat} {X : DskX} {x y : FsX} {β γ : Int → Nat × Nat} {D : DskD} {d : FsD} {w w' w0 : World} {F : List Nat} {L L' M M' : List Ent} {b f g n : Nat} {s : Option (Nat × Nat)}
theorem opK_ok {k : Int} (hk : Fits k) {p : ByteArray} (h : p.size ≤ 1000000) : (opK k p).Ok := ⟨hk, show Fits 0 by decide, show Fits 0 by decide, show Fits 0 by decide, h, show (⟨#[]⟩ : ByteArray).size ≤ 1000000 by decide, show (⟨#[]⟩ : ByteArray).size ≤ maxLen by decide⟩
theorem fold_step {xs : List FileD} {k : Nat} {f : FileD} (h : xs[k]? = some f) (d : FsD) : (xs.take (k + 1)).foldl Ol.empty1 d = Ol.empty1 ((xs.take k).foldl Ol.empty1 d) f := by
  rw [List.take_add_one, h, Option.toList_some, List.foldl_append]
  rfl
set_option maxHeartbeats 16000000 in
set_option maxRecDepth 100000 in
theorem empties_any (h : FsAt N x β d w0) (hfi0 : Ol.FInv N d) (hN : N ≤ 30000) : Calls Tryz.prog 79 #[.pointer (some ⟨x.f, 0, none⟩), .string ⟨#[114, 117, 110]⟩] w0 fun e w' => e = .returned (.tuple #[]) ∧ ∃ β', St w0 (keysOf (fsL x β d)) w' (fsL x β' (Ol.empties d)) := by
  have hM := h.at_.st
  obtain ⟨F, hF⟩ : ∃ F, keysOf (fsL x β d) = F := ⟨_, rfl⟩
  rw [hF] at hM ⊢
  have F0 : 0 ∉ F := hF ▸ h.zero
  have HI := Lib.hid h.inv
  have HX := Lib.hid h.mx
  have HFI := Lib.hid hfi0
  have hup := hfi0.up
  have HSZ := Lib.hid (Fs.files_size h.inv hN)
  have HLN := Lib.hid (Fs.files_len h.inv hup)
  have CF := Lib.hid (fFiles_any h hup (by omega))
  have hED : Ol.empties d = (Fs.files d).reverse.foldl Ol.empty1 d := rfl
  rw [hED]
  clear hF h hup hED hfi0
  generalize Fs.files d = fs at *
  go_enter Tryz.func79, Tryz.ntmps79
  (repeat (first | ((with_reducible show wpSeq _ _ _ _ _ _ _); (((refine St.copy (v := ?_) (by exact .inl rfl) rfl rfl ?_ ?_; rotate_left; (focus ((try simp only [Act.eval, getD_lit, qGz, qGs]); with_reducible rfl)))); (try simp only [Act.put, qSa, qSz, qSs]))) | (first | (refine wp_seq_shut (fun K hK => ?_)) | (refine wp_text hM (fun Kr hKr => ?_); simp only [inText]))))
  ((refine St.call rfl rfl rfl (by kernel_rfl) (fun R hR => ?_); simp only [List.map_toArray, List.map_cons, List.map_nil, Act.eval, getD_lit, qGz, qGs]))
  refine CF.out.mono ?_
  rintro e w' ⟨s, rfl, hk, hN2⟩
  replace hM := hM.madeM hN2 (slL_flag _ _ _ _)
  (refine hR.out _ _ (fun _ => ⟨hM.only, nofun⟩) ?_); clear hR R hN2 CF
  have HK := Lib.hid hk
  obtain ⟨va, vc, hv, hva⟩ := slV_open hk
  (try simp only [Act.put, qSa, qSz, qSs])
  (repeat (first | ((with_reducible show wpSeq _ _ _ _ _ _ _); first | ((with_reducible refine wpSeq_nil ?_); refine hKr.out _ _ ?_; clear hKr Kr) | (((refine St.copy (v := ?_) (by first | exact .inl rfl | exact .inr rfl) rfl rfl ?_ ?_; rotate_left; (focus ((try simp only [Act.eval, getD_lit, qGz, qGs]); with_reducible rfl)))); (try simp only [Act.put, qSa, qSz, qSs]))) | (first | (refine wp_seq_shut (fun K hK => ?_)) | (refine wp_text hM (fun Kr hKr => ?_); simp only [inText]) | ((refine hK.out _ _ ?_); clear hK K))))
  ((refine St.call rfl rfl rfl (by kernel_rfl) (fun R hR => ?_); simp only [List.map_toArray, List.map_cons, List.map_nil, Act.eval, getD_lit, qGz, qGs]))
  refine (revF_any hk (by have := HLN.out; omega) (hM.part .here)).mono ?_
  rintro e w' ⟨rfl, hN2⟩
  replace hM := hM.backM .here (slL_flag _ _ _ _) hN2 (slL_flag _ _ _ _)
  (refine hR.out _ _ (fun _ => ⟨hM.only, nofun⟩) ?_); clear hR R hN2
  have hk2 := fileOK_set hk (ys := fs.reverse) (by simp)
  have e1 : fs.length = fs.reverse.length := by simp
  have HSZ2 := Lib.hid (fun f (hf : f ∈ fs.reverse) => HSZ.out f (List.mem_reverse.1 hf))
  have HLN2 := Lib.hid (e1 ▸ HLN.out)
  rw [hv]
  rw [e1] at hv ⊢
  clear HSZ HLN HK hk e1
  generalize fs.reverse = rs at *
  have HK := Lib.hid hk2
  clear hk2
  (try simp only [Act.put, qSa, qSz, qSs])
  (repeat (first | ((with_reducible show wpSeq _ _ _ _ _ _ _); first | ((with_reducible refine wpSeq_nil ?_); refine hKr.out _ _ ?_; clear hKr Kr) | ((first | (refine St.copy (v := ?_) (by exact .inl rfl) rfl rfl ?_ ?_; rotate_left; (focus ((try simp only [Act.eval, getD_lit, qGz, qGs]); with_reducible rfl))) | (refine St.pure (v := ?_) rfl rfl rfl (fun w => ?_) ?_; rotate_left; (focus (go_simp; all_goals with_reducible rfl)))); (try simp only [Act.put, qSa, qSz, qSs]))) | (first | (refine wp_seq_shut (fun K hK => ?_)) | (refine wp_text hM (fun Kr hKr => ?_); simp only [inText]) | refine wp_block ?_ | ((refine hK.out _ _ ?_); clear hK K))))
  have hrl : rs.length ≤ 30000 := by have := HLN2.out; omega
  go_loopw [14] (fun i wr => ∃ (k : Nat) (β' : Int → Nat × Nat) (dk : FsD), k ≤ rs.length ∧ i = .int .i64 k ∧ (rs.take k).foldl Ol.empty1 d = dk ∧ Ol.FInv N dk ∧ St w0 F wr (fileL s rs ++ fsL x β' dk)) (fun i _ => rs.length - (intOf i).toNat)
  case atStart => exact ⟨0, β, d, by omega, rfl, by simp, HFI.out, hM⟩
  case round =>
    clear hM
    obtain ⟨k, β, dk, hk, rfl, hdk, hfi, hM⟩ := hrel
    have HDK := Lib.hid hdk
    have HFK := Lib.hid hfi
    clear hdk hfi
    by_cases hlt : k < rs.length
    · obtain ⟨f, hf⟩ := get_at hlt
      cases s with
      | none => exact absurd HK.out.2 (by omega)
      | some gc =>
      obtain ⟨g, cap⟩ := gc
      obtain ⟨rfl, rfl⟩ := hva g cap rfl
      have hsz := HSZ2.out f (List.mem_of_getElem? hf)
      have hrow := file_at hf
      have hlen : k * 3 + 3 ≤ (rs.flatMap FileD.cells).length := by rw [cells_len]; omega
      have HST := Lib.hid ((fold_step hf d).trans (congrArg (fun z => Ol.empty1 z f) HDK.out))
      have HF1 := Lib.hid (Ol.finv_empty1 HFK.out f)
      have k1 : (k : Int) < (rs.length : Int) := by omega
      have CU := Lib.hid (fun (W : World) (hm : Mx W) => Under_any f.path Pt.run W hsz (by decide) hm)
      have CD2 := Lib.hid (fun (W : World) (β' : Int → Nat × Nat) (hA : FsAt N x β' dk W) => fDo_any hA (by omega) (o := 0) (by decide) (opK 2 f.path) (opK_ok (by decide) hsz))
      have CD11 := Lib.hid (fun (W : World) (β' : Int → Nat × Nat) (hA : FsAt N x β' dk W) => fDo_any hA (by omega) (o := 0) (by decide) (opK 11 f.path) (opK_ok (by decide) hsz))
      have hem : Ol.empty1 dk f = if Pt.under f.path Pt.run then (Fs.do_ dk 0 (opK (if f.dir then 2 else 11) f.path)).2 else dk := rfl
      rw [hem] at HST HF1
      clear hf hlt hsz hem
      obtain ⟨fp, fd, ft⟩ := f
      simp only at hrow HST HF1 CU CD2 CD11
      simp only [slL, List.cons_append, List.nil_append] at hM
      (repeat (first | ((with_reducible show wpSeq _ _ _ _ _ _ _); first | ((with_reducible refine wpSeq_nil ?_); refine hKr.out _ _ ?_; clear hKr Kr) | (((refine St.pure (v := ?_) rfl rfl rfl (fun w => ?_) ?_; rotate_left; (focus (go_simp; all_goals with_reducible rfl)))); (try simp only [Act.put, qSa, qSz, qSs]))) | (first | (refine wp_seq_shut (fun K hK => ?_)) | (refine wp_text hM (fun Kr hKr => ?_); simp only [inText]) | refine wp_block ?_ | refine wp_skip ?_ | (refine wp_cond_true rfl ?_) | ((refine hK.out _ _ ?_); clear hK K))))
      refine St.loadRow rfl hM rfl rfl rfl rfl (by repeat constructor) (by exact hlen) (by kernel_rfl) ?_
      simp only [Res.known]
      rw [hrow]
      (try simp only [Act.put, qSa, qSz, qSs])
      generalize Pt.under fp Pt.run = un at *
      cases fd with
      | false =>
        cases un with
        | false =>
          have hst := HST.out
          have hf1 := HF1.out
          simp only [Bool.false_eq_true, if_false, if_true] at hst hf1
          have HS1 := Lib.hid hst
          have HF2 := Lib.hid hf1
          clear hst hf1 HST HF1
          (repeat (first | ((with_reducible show wpSeq _ _ _ _ _ _ _); first | ((with_reducible refine wpSeq_nil ?_); refine hKr.out _ _ ?_; clear hKr Kr) | ((first | (refine St.copy (v := ?_) (by exact .inl rfl) rfl rfl ?_ ?_; rotate_left; (focus ((try simp only [Act.eval, getD_lit, qGz, qGs]); with_reducible rfl))) | (refine St.pure (v := ?_) rfl rfl rfl (fun w => ?_) ?_; rotate_left; (focus (go_simp; all_goals with_reducible rfl))) | refine St.load rfl hM rfl rfl rfl rfl (by repeat constructor) (by rfl) (by kernel_rfl) ?_ | ((((refine St.storeRow rfl hM rfl rfl rfl rfl rfl (by repeat constructor) (Nat.le_of_ble_eq_true rfl) (Nat.le_of_ble_eq_true rfl) (by kernel_rfl) rfl ?_ ?_); (focus ((intro h; cases h; done))); clear hM; intro w hM)); (try simp only [Res.put, Res.known, Act.eval, Value.cells, getD_lit, qGz, qGs, List.toList_toArray, qSz, qSs, over, Nat.reduceAdd] at hM))); (try simp only [Act.put, qSa, qSz, qSs])) | (((first | refine St.alloc (ty := 112) (z := .agg #[.string ⟨#[]⟩, .bool false, .string ⟨#[]⟩]) rfl hM rfl rfl (by kernel_rfl) ?_ | refine St.alloc (ty := 34) (z := .agg #[.int .i64 0, .string ⟨#[]⟩, .string ⟨#[]⟩, .int .i64 0, .int .i64 0, .int .i64 0, .string ⟨#[]⟩, .int .i64 0, .int .i64 0]) rfl hM rfl rfl (by kernel_rfl) ?_); clear hM; intro w bk hM); (try simp only [Res.put, Res.known, Act.eval, Value.cells, getD_lit, qGz, qGs, List.toList_toArray, qSz, qSs, over, Nat.reduceAdd] at hM); (try simp only [Act.put, qSa, qSz, qSs]))) | (first | (refine wp_seq_shut (fun K hK => ?_)) | (refine wp_text hM (fun Kr hKr => ?_); simp only [inText]) | refine wp_skip ?_ | (refine wp_cond_false rfl ?_) | ((refine hK.out _ _ ?_); clear hK K))))
          ((refine St.call rfl rfl rfl (by kernel_rfl) (fun R hR => ?_); simp only [List.map_toArray, List.map_cons, List.map_nil, Act.eval, getD_lit, qGz, qGs]))
          refine (CU.out _ (hM.mx HX.out F0)).mono ?_
          rintro e w' ⟨rfl, hb⟩
          replace hM := hM.below hb
          (refine hR.out _ _ (fun _ => ⟨hM.only, nofun⟩) ?_); clear hR R hb
          (try simp only [Act.put, qSa, qSz, qSs])
          (repeat (first | ((with_reducible show wpSeq _ _ _ _ _ _ _); first | ((with_reducible refine wpSeq_nil ?_); refine hKr.out _ _ ?_; clear hKr Kr) | ((first | (refine St.copy (v := ?_) (by exact .inl rfl) rfl rfl ?_ ?_; rotate_left; (focus ((try simp only [Act.eval, getD_lit, qGz, qGs]); with_reducible rfl))) | refine St.inc rfl rfl rfl rfl rfl (by omega) ?_); (try simp only [Act.put, qSa, qSz, qSs]))) | (first | (refine wp_text hM (fun Kr hKr => ?_); simp only [inText]) | refine wp_skip ?_ | (refine wp_cond_false rfl ?_) | ((refine hK.out _ _ ?_); clear hK K))))
          replace hM := hM.forget.forget
          simp only [Exit.then]
          (refine ⟨?_, ?_⟩; (focus (repeat (first | exact ⟨⟨k + 1, β, dk, by omega, rfl, HS1.out, HF2.out, hM⟩, rfl⟩ | apply Exists.intro))); (simp only [getD_lit, qGz, qGs, intOf]; omega))
        | true =>
          have hst := HST.out
          have hf1 := HF1.out
          simp only [Bool.false_eq_true, if_false, if_true] at hst hf1
          have HS1 := Lib.hid hst
          have HF2 := Lib.hid hf1
          clear hst hf1 HST HF1
          (repeat (first | ((with_reducible show wpSeq _ _ _ _ _ _ _); first | ((with_reducible refine wpSeq_nil ?_); refine hKr.out _ _ ?_; clear hKr Kr) | ((first | (refine St.copy (v := ?_) (by exact .inl rfl) rfl rfl ?_ ?_; rotate_left; (focus ((try simp only [Act.eval, getD_lit, qGz, qGs]); with_reducible rfl))) | (refine St.pure (v := ?_) rfl rfl rfl (fun w => ?_) ?_; rotate_left; (focus (go_simp; all_goals with_reducible rfl))) | refine St.load rfl hM rfl rfl rfl rfl (by repeat constructor) (by rfl) (by kernel_rfl) ?_ | ((((refine St.storeRow rfl hM rfl rfl rfl rfl rfl (by repeat constructor) (Nat.le_of_ble_eq_true rfl) (Nat.le_of_ble_eq_true rfl) (by kernel_rfl) rfl ?_ ?_); (focus ((intro h; cases h; done))); clear hM; intro w hM)); (try simp only [Res.put, Res.known, Act.eval, Value.cells, getD_lit, qGz, qGs, List.toList_toArray, qSz, qSs, over, Nat.reduceAdd] at hM))); (try simp only [Act.put, qSa, qSz, qSs])) | (((first | refine St.alloc (ty := 112) (z := .agg #[.string ⟨#[]⟩, .bool false, .string ⟨#[]⟩]) rfl hM rfl rfl (by kernel_rfl) ?_ | refine St.alloc (ty := 34) (z := .agg #[.int .i64 0, .string ⟨#[]⟩, .string ⟨#[]⟩, .int .i64 0, .int .i64 0, .int .i64 0, .string ⟨#[]⟩, .int .i64 0, .int .i64 0]) rfl hM rfl rfl (by kernel_rfl) ?_); clear hM; intro w bk hM); (try simp only [Res.put, Res.known, Act.eval, Value.cells, getD_lit, qGz, qGs, List.toList_toArray, qSz, qSs, over, Nat.reduceAdd] at hM); (try simp only [Act.put, qSa, qSz, qSs]))) | (first | (refine wp_seq_shut (fun K hK => ?_)) | (refine wp_text hM (fun Kr hKr => ?_); simp only [inText]) | refine wp_skip ?_ | (refine wp_cond_false rfl ?_) | ((refine hK.out _ _ ?_); clear hK K))))
          ((refine St.call rfl rfl rfl (by kernel_rfl) (fun R hR => ?_); simp only [List.map_toArray, List.map_cons, List.map_nil, Act.eval, getD_lit, qGz, qGs]))
          refine (CU.out _ (hM.mx HX.out F0)).mono ?_
          rintro e w' ⟨rfl, hb⟩
          replace hM := hM.below hb
          (refine hR.out _ _ (fun _ => ⟨hM.only, nofun⟩) ?_); clear hR R hb
          (try simp only [Act.put, qSa, qSz, qSs])
          (repeat (first | ((with_reducible show wpSeq _ _ _ _ _ _ _); first | ((with_reducible refine wpSeq_nil ?_); refine hKr.out _ _ ?_; clear hKr Kr) | ((first | (refine St.copy (v := ?_) (by exact .inl rfl) rfl rfl ?_ ?_; rotate_left; (focus ((try simp only [Act.eval, getD_lit, qGz, qGs]); with_reducible rfl))) | ((refine St.loadRow rfl hM rfl rfl rfl rfl (by repeat constructor) (Nat.le_of_ble_eq_true rfl) (by kernel_rfl) ?_); (try simp only [Res.known, List.drop_succ_cons, List.drop_zero, List.take_succ_cons, List.take_zero]))); (try simp only [Act.put, qSa, qSz, qSs]))) | (first | (refine wp_text hM (fun Kr hKr => ?_); simp only [inText]) | (refine wp_cond_true rfl ?_) | ((refine hK.out _ _ ?_); clear hK K))))
          ((refine St.call rfl rfl rfl (by kernel_rfl) (fun R hR => ?_); simp only [List.map_toArray, List.map_cons, List.map_nil, Act.eval, getD_lit, qGz, qGs]))
          refine (CD11.out _ β (hM.fs (x := x) (β := β) (d := dk) (by repeat (first | exact Part.all | apply Part.skip)) HFK.out.inv HX.out F0)).mono ?_
          rintro e w' ⟨s2, β2, rfl, -, hN2⟩
          replace hM := hM.backM (M := fsL x β dk) (.skip (.skip (.skip .all))) (fsL_flag _ _ _) hN2 (fun y hy => (List.mem_append.1 hy).elim (txL_flag _ _ y) (fsL_flag _ _ _ y))
          (refine hR.out _ _ (fun _ => ⟨hM.only, nofun⟩) ?_); clear hR R hN2
          (try simp only [Act.put, qSa, qSz, qSs])
          (repeat (first | ((with_reducible show wpSeq _ _ _ _ _ _ _); first | ((with_reducible refine wpSeq_nil ?_); refine hKr.out _ _ ?_; clear hKr Kr) | ((first | (refine St.copy (v := ?_) (by exact .inl rfl) rfl rfl ?_ ?_; rotate_left; (focus ((try simp only [Act.eval, getD_lit, qGz, qGs]); with_reducible rfl))) | refine St.inc rfl rfl rfl rfl rfl (by omega) ?_); (try simp only [Act.put, qSa, qSz, qSs]))) | (first | (refine wp_text hM (fun Kr hKr => ?_); simp only [inText]) | ((refine hK.out _ _ ?_); clear hK K))))
          replace hM := hM.forget.forget.subM ((List.sublist_append_right _ _).cons_cons _)
          simp only [Exit.then]
          (refine ⟨?_, ?_⟩; (focus (repeat (first | exact ⟨⟨k + 1, β2, _, by omega, rfl, HS1.out, HF2.out, hM⟩, rfl⟩ | apply Exists.intro))); (simp only [getD_lit, qGz, qGs, intOf]; omega))
      | true =>
        cases un with
        | false =>
          have hst := HST.out
          have hf1 := HF1.out
          simp only [Bool.false_eq_true, if_false, if_true] at hst hf1
          have HS1 := Lib.hid hst
          have HF2 := Lib.hid hf1
          clear hst hf1 HST HF1
          (repeat (first | ((with_reducible show wpSeq _ _ _ _ _ _ _); first | ((with_reducible refine wpSeq_nil ?_); refine hKr.out _ _ ?_; clear hKr Kr) | ((first | (refine St.copy (v := ?_) (by exact .inl rfl) rfl rfl ?_ ?_; rotate_left; (focus ((try simp only [Act.eval, getD_lit, qGz, qGs]); with_reducible rfl))) | (refine St.pure (v := ?_) rfl rfl rfl (fun w => ?_) ?_; rotate_left; (focus (go_simp; all_goals with_reducible rfl))) | refine St.load rfl hM rfl rfl rfl rfl (by repeat constructor) (by rfl) (by kernel_rfl) ?_ | ((((first | refine St.store rfl hM rfl rfl rfl rfl rfl (by repeat constructor) (Nat.le_of_ble_eq_true rfl) (by kernel_rfl) rfl ?_ ?_ | refine St.storeRow rfl hM rfl rfl rfl rfl rfl (by repeat constructor) (Nat.le_of_ble_eq_true rfl) (Nat.le_of_ble_eq_true rfl) (by kernel_rfl) rfl ?_ ?_); (focus ((intro h; cases h; done))); clear hM; intro w hM)); (try simp only [Res.put, Res.known, Act.eval, Value.cells, getD_lit, qGz, qGs, List.toList_toArray, qSz, qSs, over, Nat.reduceAdd] at hM))); (try simp only [Act.put, qSa, qSz, qSs])) | (((first | refine St.alloc (ty := 112) (z := .agg #[.string ⟨#[]⟩, .bool false, .string ⟨#[]⟩]) rfl hM rfl rfl (by kernel_rfl) ?_ | refine St.alloc (ty := 34) (z := .agg #[.int .i64 0, .string ⟨#[]⟩, .string ⟨#[]⟩, .int .i64 0, .int .i64 0, .int .i64 0, .string ⟨#[]⟩, .int .i64 0, .int .i64 0]) rfl hM rfl rfl (by kernel_rfl) ?_); clear hM; intro w bk hM); (try simp only [Res.put, Res.known, Act.eval, Value.cells, getD_lit, qGz, qGs, List.toList_toArray, qSz, qSs, over, Nat.reduceAdd] at hM); (try simp only [Act.put, qSa, qSz, qSs]))) | (first | (refine wp_seq_shut (fun K hK => ?_)) | (refine wp_text hM (fun Kr hKr => ?_); simp only [inText]) | (refine wp_cond_true rfl ?_) | ((refine hK.out _ _ ?_); clear hK K))))
          ((refine St.call rfl rfl rfl (by kernel_rfl) (fun R hR => ?_); simp only [List.map_toArray, List.map_cons, List.map_nil, Act.eval, getD_lit, qGz, qGs]))
          refine (CU.out _ (hM.mx HX.out F0)).mono ?_
          rintro e w' ⟨rfl, hb⟩
          replace hM := hM.below hb
          (refine hR.out _ _ (fun _ => ⟨hM.only, nofun⟩) ?_); clear hR R hb
          (try simp only [Act.put, qSa, qSz, qSs])
          (repeat (first | ((with_reducible show wpSeq _ _ _ _ _ _ _); first | ((with_reducible refine wpSeq_nil ?_); refine hKr.out _ _ ?_; clear hKr Kr) | ((first | (refine St.copy (v := ?_) (by exact .inl rfl) rfl rfl ?_ ?_; rotate_left; (focus ((try simp only [Act.eval, getD_lit, qGz, qGs]); with_reducible rfl))) | refine St.inc rfl rfl rfl rfl rfl (by omega) ?_); (try simp only [Act.put, qSa, qSz, qSs]))) | (first | (refine wp_text hM (fun Kr hKr => ?_); simp only [inText]) | refine wp_skip ?_ | (refine wp_cond_false rfl ?_) | ((refine hK.out _ _ ?_); clear hK K))))
          replace hM := hM.forget.forget
          simp only [Exit.then]
          (refine ⟨?_, ?_⟩; (focus (repeat (first | exact ⟨⟨k + 1, β, dk, by omega, rfl, HS1.out, HF2.out, hM⟩, rfl⟩ | apply Exists.intro))); (simp only [getD_lit, qGz, qGs, intOf]; omega))
        | true =>
          have hst := HST.out
          have hf1 := HF1.out
          simp only [Bool.false_eq_true, if_false, if_true] at hst hf1
          have HS1 := Lib.hid hst
          have HF2 := Lib.hid hf1
          clear hst hf1 HST HF1
          (repeat (first | ((with_reducible show wpSeq _ _ _ _ _ _ _); first | ((with_reducible refine wpSeq_nil ?_); refine hKr.out _ _ ?_; clear hKr Kr) | ((first | (refine St.copy (v := ?_) (by exact .inl rfl) rfl rfl ?_ ?_; rotate_left; (focus ((try simp only [Act.eval, getD_lit, qGz, qGs]); with_reducible rfl))) | (refine St.pure (v := ?_) rfl rfl rfl (fun w => ?_) ?_; rotate_left; (focus (go_simp; all_goals with_reducible rfl))) | refine St.load rfl hM rfl rfl rfl rfl (by repeat constructor) (by rfl) (by kernel_rfl) ?_ | ((((first | refine St.store rfl hM rfl rfl rfl rfl rfl (by repeat constructor) (Nat.le_of_ble_eq_true rfl) (by kernel_rfl) rfl ?_ ?_ | refine St.storeRow rfl hM rfl rfl rfl rfl rfl (by repeat constructor) (Nat.le_of_ble_eq_true rfl) (Nat.le_of_ble_eq_true rfl) (by kernel_rfl) rfl ?_ ?_); (focus ((intro h; cases h; done))); clear hM; intro w hM)); (try simp only [Res.put, Res.known, Act.eval, Value.cells, getD_lit, qGz, qGs, List.toList_toArray, qSz, qSs, over, Nat.reduceAdd] at hM))); (try simp only [Act.put, qSa, qSz, qSs])) | (((first | refine St.alloc (ty := 112) (z := .agg #[.string ⟨#[]⟩, .bool false, .string ⟨#[]⟩]) rfl hM rfl rfl (by kernel_rfl) ?_ | refine St.alloc (ty := 34) (z := .agg #[.int .i64 0, .string ⟨#[]⟩, .string ⟨#[]⟩, .int .i64 0, .int .i64 0, .int .i64 0, .string ⟨#[]⟩, .int .i64 0, .int .i64 0]) rfl hM rfl rfl (by kernel_rfl) ?_); clear hM; intro w bk hM); (try simp only [Res.put, Res.known, Act.eval, Value.cells, getD_lit, qGz, qGs, List.toList_toArray, qSz, qSs, over, Nat.reduceAdd] at hM); (try simp only [Act.put, qSa, qSz, qSs]))) | (first | (refine wp_seq_shut (fun K hK => ?_)) | (refine wp_text hM (fun Kr hKr => ?_); simp only [inText]) | (refine wp_cond_true rfl ?_) | ((refine hK.out _ _ ?_); clear hK K))))
          ((refine St.call rfl rfl rfl (by kernel_rfl) (fun R hR => ?_); simp only [List.map_toArray, List.map_cons, List.map_nil, Act.eval, getD_lit, qGz, qGs]))
          refine (CU.out _ (hM.mx HX.out F0)).mono ?_
          rintro e w' ⟨rfl, hb⟩
          replace hM := hM.below hb
          (refine hR.out _ _ (fun _ => ⟨hM.only, nofun⟩) ?_); clear hR R hb
          (try simp only [Act.put, qSa, qSz, qSs])
          (repeat (first | ((with_reducible show wpSeq _ _ _ _ _ _ _); first | ((with_reducible refine wpSeq_nil ?_); refine hKr.out _ _ ?_; clear hKr Kr) | ((first | (refine St.copy (v := ?_) (by exact .inl rfl) rfl rfl ?_ ?_; rotate_left; (focus ((try simp only [Act.eval, getD_lit, qGz, qGs]); with_reducible rfl))) | ((refine St.loadRow rfl hM rfl rfl rfl rfl (by repeat constructor) (Nat.le_of_ble_eq_true rfl) (by kernel_rfl) ?_); (try simp only [Res.known, List.drop_succ_cons, List.drop_zero, List.take_succ_cons, List.take_zero]))); (try simp only [Act.put, qSa, qSz, qSs]))) | (first | (refine wp_text hM (fun Kr hKr => ?_); simp only [inText]) | (refine wp_cond_true rfl ?_) | ((refine hK.out _ _ ?_); clear hK K))))
          ((refine St.call rfl rfl rfl (by kernel_rfl) (fun R hR => ?_); simp only [List.map_toArray, List.map_cons, List.map_nil, Act.eval, getD_lit, qGz, qGs]))
          refine (CD2.out _ β (hM.fs (x := x) (β := β) (d := dk) (by repeat (first | exact Part.all | apply Part.skip)) HFK.out.inv HX.out F0)).mono ?_
          rintro e w' ⟨s2, β2, rfl, -, hN2⟩
          replace hM := hM.backM (M := fsL x β dk) (.skip (.skip (.skip .all))) (fsL_flag _ _ _) hN2 (fun y hy => (List.mem_append.1 hy).elim (txL_flag _ _ y) (fsL_flag _ _ _ y))
          (refine hR.out _ _ (fun _ => ⟨hM.only, nofun⟩) ?_); clear hR R hN2
          (try simp only [Act.put, qSa, qSz, qSs])
          (repeat (first | ((with_reducible show wpSeq _ _ _ _ _ _ _); first | ((with_reducible refine wpSeq_nil ?_); refine hKr.out _ _ ?_; clear hKr Kr) | ((first | (refine St.copy (v := ?_) (by exact .inl rfl) rfl rfl ?_ ?_; rotate_left; (focus ((try simp only [Act.eval, getD_lit, qGz, qGs]); with_reducible rfl))) | refine St.inc rfl rfl rfl rfl rfl (by omega) ?_); (try simp only [Act.put, qSa, qSz, qSs]))) | (first | (refine wp_text hM (fun Kr hKr => ?_); simp only [inText]) | ((refine hK.out _ _ ?_); clear hK K))))
          replace hM := hM.forget.forget.subM ((List.sublist_append_right _ _).cons_cons _)
          simp only [Exit.then]
          (refine ⟨?_, ?_⟩; (focus (repeat (first | exact ⟨⟨k + 1, β2, _, by omega, rfl, HS1.out, HF2.out, hM⟩, rfl⟩ | apply Exists.intro))); (simp only [getD_lit, qGz, qGs, intOf]; omega))
    · have k0 : ¬ ((k : Int) < (rs.length : Int)) := by omega
      obtain rfl : k = rs.length := by omega
      have e := HDK.out
      rw [List.take_length] at e
      clear hlt hk
      (repeat (first | ((with_reducible show wpSeq _ _ _ _ _ _ _); first | ((with_reducible refine wpSeq_nil ?_); refine hKr.out _ _ ?_; clear hKr Kr) | (((refine St.pure (v := ?_) rfl rfl rfl (fun w => ?_) ?_; rotate_left; (focus (go_simp; all_goals with_reducible rfl)))); (try simp only [Act.put, qSa, qSz, qSs]))) | (first | (refine wp_seq_shut (fun K hK => ?_)) | (refine wp_text hM (fun Kr hKr => ?_); simp only [inText]) | (refine wp_cond_false rfl ?_) | (refine wp_exit ?_; simp only [Exit.then, Exit.inBlock, if_true, if_false, reduceCtorEq, Nat.reduceEqDiff, Nat.succ_ne_zero]) | ((refine hK.out _ _ ?_); clear hK K))))
      ((refine St.fin hM rfl (by repeat (exact Outs.nil)) rfl ?_))
      refine ⟨rfl, β, ?_⟩
      rw [e]
      exact hM.subM (List.sublist_append_right _ _)
end
end Go.Proofs.YtcicjklhbnipcaaGreatDoor
namespace Go.Proofs.YtcicjklhbnipcaaGreatDoor
set_option linter.unusedVariables false
set_option linter.unusedSimpArgs false
open Go.RowKit Go.Maps
section
variable {N : Nat} {X : DskX} {x y : FsX} {β γ : Int → Nat × Nat} {D : DskD} {d : FsD} {w w' w0 : World} {F : List Nat} {L L' M M' R : List Ent} {b f g n : Nat} {s : Option (Nat × Nat)}
/-- One block is written, the others are read. -/
theorem At.stB {e : Ent} (h : At (e :: R) w) : St w [e.1] w (e :: R.map unflag) := by
  refine ⟨Only.refl _ w, fun z hz => ?_, ?_, fun z hz h1 => ?_⟩
  · rcases List.mem_cons.1 hz with rfl | hz
    · exact h.has z (.head _)
    · obtain ⟨y, hy, rfl⟩ := List.mem_map.1 hz
      exact h.has y (.tail _ hy)
  · have := h.nd
    unfold keysOf at this
    rw [List.map_cons] at this ⊢
    rw [List.map_map]
    exact this
  · rcases List.mem_cons.1 hz with rfl | hz
    · exact .inl (by simp)
    · obtain ⟨y, hy, rfl⟩ := List.mem_map.1 hz
      cases h1
theorem log_step {l : List LogD} {k : Nat} {z : LogD} (h : l[k]? = some z) (d : FsD) : Ol.replay d (l.take (k + 1)) = Ol.again (Ol.replay d (l.take k)) z := by
  rw [List.take_add_one, h, Option.toList_some, Ol.replay_snoc]
theorem own_step {l : List Int} {k : Nat} {o : Int} (h : l[k]? = some o) (d : FsD) : (l.take (k + 1)).foldl Fs.exit d = Fs.exit ((l.take k).foldl Fs.exit d) o := by
  rw [List.take_add_one, h, Option.toList_some, List.foldl_append]
  rfl
theorem ents_holds {zs : List LogV} {z : LogV} (hM : St w0 F w L) (hs : ∀ e ∈ (zs.flatMap LogV.ents).map unflag, e ∈ L) (hz : z ∈ zs) : ∀ e ∈ z.ents, e.2.2.holds w.heap[e.1]? := fun e he =>
  hM.holds (unflag e) (hs _ (List.mem_map_of_mem (List.mem_flatMap.2 ⟨z, hz, he⟩)))
set_option maxHeartbeats 16000000 in
set_option maxRecDepth 100000 in
theorem dCut_any {zs : List LogV} (hA : At (dskE b f y.f s zs.length :: (logL s (zs.map LogV.val) ++ (fsL y γ D.base ++ zs.flatMap LogV.ents))) w0) (hk : SlOK s zs.length (zs.map LogV.val) 1) (hz : zs.map (·.1) = D.log) {K0 : Nat} (hB : Ol.FInv K0 D.base) (hKN : K0 + 3 * D.log.length ≤ 30000) (hok : ∀ l ∈ D.log, Ol.LogOk l) (hX : Mx w0) (h0 : 0 ∉ keysOf (dskE b f y.f s zs.length :: (logL s (zs.map LogV.val) ++ (fsL y γ D.base ++ zs.flatMap LogV.ents)))) (keep : Int) :
    Calls Tryz.prog 30 #[.pointer (some ⟨b, 0, none⟩), .int .i64 keep] w0 fun e w' => e = .returned (.int .i64 0) ∧ ∃ x1 β1 x2 β2, St w0 [b] w' (dskE b (FsX.f x1) (FsX.f x2) none 0 :: (fsL x1 β1 (Ol.cutFs D keep) ++ fsL x2 β2 (Ol.cutFs D keep))) := by
  have hY : FsAt K0 y γ D.base w0 := ⟨hA.sub (((List.sublist_append_left _ _).trans (List.sublist_append_right _ _)).cons _), hB.inv, hX, keys_sub (((List.sublist_append_left _ _).trans (List.sublist_append_right _ _)).cons _) h0⟩
  have hM := hA.stB
  have HY := Lib.hid hY
  have HX := Lib.hid hX
  have F0 : 0 ∉ ([b] : List Nat) := fun h => h0 (by rcases List.mem_singleton.1 h with rfl; exact .head _)
  have HB := Lib.hid hB
  have HOK := Lib.hid hok
  have HZ := Lib.hid hz
  have HK := Lib.hid hk
  have hlog : zs.length = D.log.length := by rw [← hz, List.length_map]
  have hln : zs.length ≤ 10000 := by omega
  obtain ⟨kk, hkk⟩ : ∃ kk : Nat, max 0 (min keep (zs.length : Int)) = (kk : Int) := ⟨(max 0 (min keep (zs.length : Int))).toNat, by omega⟩
  have hC : Ol.cutFs D keep = Ol.empties (Ol.exits (Ol.replay D.base (D.log.take kk))) := by
    unfold Ol.cutFs
    rw [← hlog, hkk, Int.toNat_natCast]
  rw [hC]
  have hkl : kk ≤ zs.length := by omega
  obtain ⟨va, vc, hv, hva⟩ := slV_open hk
  have hvc : (kk : Int) ≤ (vc : Int) := by
    rcases s with _ | ⟨g, cap⟩
    · have := hk.2; omega
    · obtain ⟨-, rfl⟩ := hva g cap rfl
      have := hk.2.1
      omega
  have HLG := Lib.hid hlog
  clear hA hY hX hB hok hz hk h0 hC hlog
  unfold dskE at hM
  rw [hv] at hM
  rw [List.map_append, List.map_append] at hM
  go_enter Tryz.func30, Tryz.ntmps30
  (repeat (first | ((with_reducible show wpSeq _ _ _ _ _ _ _); first | ((with_reducible refine wpSeq_nil ?_); refine hKr.out _ _ ?_; clear hKr Kr) | (((refine St.copy (v := ?_) (by first | exact .inl rfl | exact .inr rfl) rfl rfl ?_ ?_; rotate_left; (focus ((try simp only [Act.eval, getD_lit, qGz, qGs]); with_reducible rfl)))); (try simp only [Act.put, qSa, qSz, qSs]))) | (first | (refine wp_seq_shut (fun K hK => ?_)) | (refine wp_text hM (fun Kr hKr => ?_); simp only [inText]) | ((refine hK.out _ _ ?_); clear hK K))))
  ((refine St.call rfl rfl rfl (by kernel_rfl) (fun R hR => ?_); simp only [List.map_toArray, List.map_cons, List.map_nil, Act.eval, getD_lit, qGz, qGs]))
  refine (dgiven_any (f := f) (g := y.f) (s := s) (n := zs.length) (by
    have := hM.holds _ (.head _)
    unfold dskE
    rw [hv]
    exact this)).mono ?_
  rintro e w' ⟨rfl, rfl⟩; refine hR.out _ _ (fun h => h) ?_; clear hR R; (try simp only [Act.put, qSa, qSz, qSs])
  (repeat (first | ((with_reducible show wpSeq _ _ _ _ _ _ _); first | ((with_reducible refine wpSeq_nil ?_); refine hKr.out _ _ ?_; clear hKr Kr) | ((first | (refine St.copy (v := ?_) (by exact .inl rfl) rfl rfl ?_ ?_; rotate_left; (focus ((try simp only [Act.eval, getD_lit, qGz, qGs]); with_reducible rfl))) | (refine St.pure (v := ?_) rfl rfl rfl (fun w => ?_) ?_; rotate_left; (focus (go_simp; all_goals with_reducible rfl))) | refine St.load rfl hM rfl rfl rfl rfl (by repeat constructor) (by rfl) (by kernel_rfl) ?_); (try simp only [Act.put, qSa, qSz, qSs]))) | (first | (refine wp_seq_shut (fun K hK => ?_)) | (refine wp_text hM (fun Kr hKr => ?_); simp only [inText]) | refine wp_skip ?_ | (refine wp_cond_false rfl ?_) | ((refine hK.out _ _ ?_); clear hK K))))
  ((refine St.call rfl rfl rfl (by kernel_rfl) (fun R hR => ?_); simp only [List.map_toArray, List.map_cons, List.map_nil, Act.eval, getD_lit, qGz, qGs]))
  refine (fClone_any HY.out (by omega)).mono ?_
  rintro e w' ⟨x1, β1, rfl, hN2⟩
  replace hM := hM.madeM hN2 (fsL_flag _ _ _)
  (refine hR.out _ _ (fun _ => ⟨hM.only, nofun⟩) ?_); clear hR R hN2
  replace hM := hM.perm (List.perm_middle)
  (try simp only [Act.put, qSa, qSz, qSs])
  (repeat (first | ((with_reducible show wpSeq _ _ _ _ _ _ _); first | ((with_reducible refine wpSeq_nil ?_); refine hKr.out _ _ ?_; clear hKr Kr) | ((first | (refine St.copy (v := ?_) (by first | exact .inl rfl | exact .inr rfl) rfl rfl ?_ ?_; rotate_left; (focus ((try simp only [Act.eval, getD_lit, qGz, qGs]); with_reducible rfl))) | (refine St.pure (v := ?_) rfl rfl rfl (fun w => ?_) ?_; rotate_left; (focus (go_simp; all_goals with_reducible rfl))) | refine St.load1 rfl rfl rfl rfl (by repeat constructor) (by rfl) (by kernel_rfl) ?_); (try simp only [Act.put, qSa, qSz, qSs]))) | (first | (refine wp_seq_shut (fun K hK => ?_)) | refine wp_block ?_ | ((refine hK.out _ _ ?_); clear hK K)) | ((refine wp_drawn (id := 4) hM (Sub.all _) [3, 8] [(0, 0), (1, 0), (2, 0), (3, 1), (4, 0), (5, 0), (6, 0), (7, 0), (8, 1), (9, 0), (10, 0), (11, 0), (12, 0), (13, 0), (14, 2)] (by kernel_rfl) (by kernel_rfl) ?_); (clear hM; intro w hM Kr hKr); simp only [opsOf, qGz, qGs])))
  have RE : ∀ e ∈ (zs.flatMap LogV.ents).map unflag, e ∈ List.map unflag (logL s (List.map LogV.val zs)) ++ (List.map unflag (fsL y γ D.base) ++ List.map unflag (List.flatMap LogV.ents zs)) := fun e he => List.mem_append_right _ (List.mem_append_right _ he)
  have RG : ∀ g cap, s = some (g, cap) → (g, false, Res.pre (zs.map LogV.val) 138 (cap * 1)) ∈ List.map unflag (logL s (List.map LogV.val zs)) ++ (List.map unflag (fsL y γ D.base) ++ List.map unflag (List.flatMap LogV.ents zs)) := fun g cap hs => by
    subst hs
    exact List.mem_append_left _ (.head _)
  generalize List.map unflag (logL s (List.map LogV.val zs)) ++ (List.map unflag (fsL y γ D.base) ++ List.map unflag (List.flatMap LogV.ents zs)) = RR at *
  have HRE := Lib.hid RE
  have HRG := Lib.hid RG
  clear RE RG
  go_loopw [32] (fun i wr => ∃ (k : Nat) (β' : Int → Nat × Nat) (dk : FsD), k ≤ kk ∧ i = .int .i64 k ∧ Ol.replay D.base (D.log.take k) = dk ∧ Ol.FInv (K0 + 3 * k) dk ∧ St w0 [b] wr ((b, true, .cells [.pointer (some ⟨f, 0, none⟩), .pointer (some ⟨y.f, 0, none⟩), .slice va zs.length vc] 81) :: (fsL x1 β' dk ++ RR))) (fun i _ => kk - (intOf i).toNat)
  case atStart => exact ⟨0, β1, D.base, by omega, rfl, rfl, HB.out, hM⟩
  case round =>
    clear hM
    obtain ⟨k, β1, dk, hk, rfl, hdk, hfi, hM⟩ := hrel
    have HDK := Lib.hid hdk
    have HFK := Lib.hid hfi
    clear hdk hfi
    by_cases hlt : k < kk
    · obtain ⟨z, hzk⟩ := get_at (xs := zs) (k := k) (by omega)
      rcases hs : s with _ | ⟨g, cap⟩
      · have := HK.out
        rw [hs] at this
        exact absurd this.2 (by omega)
      obtain ⟨rfl, rfl⟩ := hva g cap hs
      have hmem := HRG.out g vc hs
      have hzm := List.mem_of_getElem? hzk
      have hvk : ((zs.map LogV.val).drop k).take 1 = [z.val] := by
        have h1 : (zs.map LogV.val)[k]? = some z.val := by rw [List.getElem?_map, hzk]; rfl
        obtain ⟨h2, h3⟩ := List.getElem?_eq_some_iff.1 h1
        rw [List.drop_eq_getElem_cons h2, h3]
        rfl
      have hlk : D.log[k]? = some z.1 := by rw [← HZ.out, List.getElem?_map, hzk]; rfl
      have HST := Lib.hid ((log_step hlk D.base).trans (congrArg (fun q => Ol.again q z.1) HDK.out))
      have hlok := HOK.out z.1 (List.mem_of_getElem? hlk)
      have hKk : K0 + 3 * k + 3 ≤ 30000 := by have := HLG.out; omega
      have HFN := Lib.hid (Ol.finv_again HFK.out (by omega) hlok)
      have hlen : k + 1 ≤ (zs.map LogV.val).length := by rw [List.length_map]; omega
      have k1 : (k : Int) < (kk : Int) := by omega
      clear hzk hlk hs hlt
      (repeat (first | ((with_reducible show wpSeq _ _ _ _ _ _ _); first | ((with_reducible refine wpSeq_nil ?_); refine hKr.out _ _ ?_; clear hKr Kr) | (((refine St.pure (v := ?_) rfl rfl rfl (fun w => ?_) ?_; rotate_left; (focus (go_simp; all_goals with_reducible rfl)))); (try simp only [Act.put, qSa, qSz, qSs]))) | (first | (refine wp_seq_shut (fun K hK => ?_)) | (refine wp_text hM (fun Kr hKr => ?_); simp only [inText]) | refine wp_block ?_ | refine wp_skip ?_ | (refine wp_cond_true rfl ?_) | ((refine hK.out _ _ ?_); clear hK K))))
      refine St.loadRow rfl hM rfl rfl rfl rfl (.tail _ (List.mem_append_right _ hmem)) (by exact hlen) (by kernel_rfl) ?_
      simp only [Res.known]
      rw [hvk]
      obtain ⟨⟨o, _ | p⟩, ob, qb⟩ := z
      · have HH : ∀ w L, St w0 [b] w L → (∀ e ∈ RR, e ∈ L) → (Res.cells [.int .i64 o] 3).holds w.heap[ob]? := fun w L hM hs => ents_holds (z := ((o, none), ob, qb)) hM (fun e he => hs e (HRE.out e he)) hzm (ob, true, .cells [.int .i64 o] 3) (.head _)
        simp only [LogV.val]
        (try simp only [Act.put, qSa, qSz, qSs])
        (repeat (first | ((with_reducible show wpSeq _ _ _ _ _ _ _); first | ((with_reducible refine wpSeq_nil ?_); refine hKr.out _ _ ?_; clear hKr Kr) | ((first | (refine St.copy (v := ?_) (by exact .inl rfl) rfl rfl ?_ ?_; rotate_left; (focus ((try simp only [Act.eval, getD_lit, qGz, qGs]); with_reducible rfl))) | (refine St.pure (v := ?_) rfl rfl rfl (fun w => ?_) ?_; rotate_left; (focus (go_simp; all_goals with_reducible rfl))) | refine St.load rfl hM rfl rfl rfl rfl (by repeat constructor) (by rfl) (by kernel_rfl) ?_ | ((((refine St.storeRow rfl hM rfl rfl rfl rfl rfl (by repeat constructor) (Nat.le_of_ble_eq_true rfl) (Nat.le_of_ble_eq_true rfl) (by kernel_rfl) rfl ?_ ?_); (focus ((intro h; cases h; done))); clear hM; intro w hM)); (try simp only [Res.put, Res.known, Act.eval, Value.cells, getD_lit, qGz, qGs, List.toList_toArray, qSz, qSs, over, Nat.reduceAdd] at hM))); (try simp only [Act.put, qSa, qSz, qSs])) | (((refine St.alloc (ty := 138) (z := .agg #[.nilFunc]) rfl hM rfl rfl (by kernel_rfl) ?_); clear hM; intro w bk hM); (try simp only [Res.put, Res.known, Act.eval, Value.cells, getD_lit, qGz, qGs, List.toList_toArray, qSz, qSs, over, Nat.reduceAdd] at hM); (try simp only [Act.put, qSa, qSz, qSs]))) | (first | (refine wp_text hM (fun Kr hKr => ?_); simp only [inText]) | ((refine hK.out _ _ ?_); clear hK K))))
        (refine St.callv rfl rfl rfl rfl (by kernel_rfl) (fun R hR => ?_); simp only [List.map_toArray, List.map_cons, List.map_nil, Act.eval, getD_lit, qGz, qGs, Array.append_empty, Array.empty_append])
        refine (again_exit (hM.fs (x := x1) (β := β1) (d := dk) (.skip (.skip .here)) HFK.out.inv HX.out F0) (by omega) hlok.1 (HH _ _ hM (fun e he => .tail _ (.tail _ (List.mem_append_right _ he))))).mono ?_
        rintro e w' ⟨rfl, β2, hN2⟩
        replace hM := hM.backM (M := fsL x1 β1 dk) (.skip (.skip .here)) (fsL_flag _ _ _) hN2 (fsL_flag _ _ _)
        (refine hR.out _ _ (fun _ => ⟨hM.only, nofun⟩) ?_); clear hR R hN2
        (try simp only [Act.put, qSa, qSz, qSs])
        (repeat (first | ((with_reducible show wpSeq _ _ _ _ _ _ _); first | ((with_reducible refine wpSeq_nil ?_); refine hKr.out _ _ ?_; clear hKr Kr) | ((first | (refine St.copy (v := ?_) (by exact .inl rfl) rfl rfl ?_ ?_; rotate_left; (focus ((try simp only [Act.eval, getD_lit, qGz, qGs]); with_reducible rfl))) | refine St.inc rfl rfl rfl rfl rfl (by omega) ?_); (try simp only [Act.put, qSa, qSz, qSs]))) | (first | (refine wp_text hM (fun Kr hKr => ?_); simp only [inText]) | ((refine hK.out _ _ ?_); clear hK K))))
        replace hM := hM.forget
        simp only [Exit.then]
        (refine ⟨?_, ?_⟩; (focus (repeat (first | exact ⟨⟨k + 1, β2, _, by omega, rfl, HST.out, HFN.out, hM⟩, rfl⟩ | apply Exists.intro))); (simp only [getD_lit, qGz, qGs, intOf]; omega))
      · have HH1 : ∀ w L, St w0 [b] w L → (∀ e ∈ RR, e ∈ L) → (Res.cells [.int .i64 o] 3).holds w.heap[ob]? := fun w L hM hs => ents_holds (z := ((o, some p), ob, qb)) hM (fun e he => hs e (HRE.out e he)) hzm (ob, true, .cells [.int .i64 o] 3) (.head _)
        have HH2 : ∀ w L, St w0 [b] w L → (∀ e ∈ RR, e ∈ L) → (Res.cells p.cells 34).holds w.heap[qb]? := fun w L hM hs => ents_holds (z := ((o, some p), ob, qb)) hM (fun e he => hs e (HRE.out e he)) hzm (qb, true, .cells p.cells 34) (.tail _ (.head _))
        simp only [LogV.val]
        (try simp only [Act.put, qSa, qSz, qSs])
        (repeat (first | ((with_reducible show wpSeq _ _ _ _ _ _ _); first | ((with_reducible refine wpSeq_nil ?_); refine hKr.out _ _ ?_; clear hKr Kr) | ((first | (refine St.copy (v := ?_) (by exact .inl rfl) rfl rfl ?_ ?_; rotate_left; (focus ((try simp only [Act.eval, getD_lit, qGz, qGs]); with_reducible rfl))) | (refine St.pure (v := ?_) rfl rfl rfl (fun w => ?_) ?_; rotate_left; (focus (go_simp; all_goals with_reducible rfl))) | refine St.load rfl hM rfl rfl rfl rfl (by repeat constructor) (by rfl) (by kernel_rfl) ?_ | ((((refine St.storeRow rfl hM rfl rfl rfl rfl rfl (by repeat constructor) (Nat.le_of_ble_eq_true rfl) (Nat.le_of_ble_eq_true rfl) (by kernel_rfl) rfl ?_ ?_); (focus ((intro h; cases h; done))); clear hM; intro w hM)); (try simp only [Res.put, Res.known, Act.eval, Value.cells, getD_lit, qGz, qGs, List.toList_toArray, qSz, qSs, over, Nat.reduceAdd] at hM))); (try simp only [Act.put, qSa, qSz, qSs])) | (((refine St.alloc (ty := 138) (z := .agg #[.nilFunc]) rfl hM rfl rfl (by kernel_rfl) ?_); clear hM; intro w bk hM); (try simp only [Res.put, Res.known, Act.eval, Value.cells, getD_lit, qGz, qGs, List.toList_toArray, qSz, qSs, over, Nat.reduceAdd] at hM); (try simp only [Act.put, qSa, qSz, qSs]))) | (first | (refine wp_text hM (fun Kr hKr => ?_); simp only [inText]) | ((refine hK.out _ _ ?_); clear hK K))))
        (refine St.callv rfl rfl rfl rfl (by kernel_rfl) (fun R hR => ?_); simp only [List.map_toArray, List.map_cons, List.map_nil, Act.eval, getD_lit, qGz, qGs, Array.append_empty, Array.empty_append])
        refine (again_do (hM.fs (x := x1) (β := β1) (d := dk) (.skip (.skip .here)) HFK.out.inv HX.out F0) (by omega) hlok.1 (hlok.2 p rfl) (HH1 _ _ hM (fun e he => .tail _ (.tail _ (List.mem_append_right _ he)))) (HH2 _ _ hM (fun e he => .tail _ (.tail _ (List.mem_append_right _ he))))).mono ?_
        rintro e w' ⟨rfl, β2, hN2⟩
        replace hM := hM.backM (M := fsL x1 β1 dk) (.skip (.skip .here)) (fsL_flag _ _ _) hN2 (fsL_flag _ _ _)
        (refine hR.out _ _ (fun _ => ⟨hM.only, nofun⟩) ?_); clear hR R hN2
        (try simp only [Act.put, qSa, qSz, qSs])
        (repeat (first | ((with_reducible show wpSeq _ _ _ _ _ _ _); first | ((with_reducible refine wpSeq_nil ?_); refine hKr.out _ _ ?_; clear hKr Kr) | ((first | (refine St.copy (v := ?_) (by exact .inl rfl) rfl rfl ?_ ?_; rotate_left; (focus ((try simp only [Act.eval, getD_lit, qGz, qGs]); with_reducible rfl))) | refine St.inc rfl rfl rfl rfl rfl (by omega) ?_); (try simp only [Act.put, qSa, qSz, qSs]))) | (first | (refine wp_text hM (fun Kr hKr => ?_); simp only [inText]) | ((refine hK.out _ _ ?_); clear hK K))))
        replace hM := hM.forget
        simp only [Exit.then]
        (refine ⟨?_, ?_⟩; (focus (repeat (first | exact ⟨⟨k + 1, β2, _, by omega, rfl, HST.out, HFN.out, hM⟩, rfl⟩ | apply Exists.intro))); (simp only [getD_lit, qGz, qGs, intOf]; omega))
    · have k0 : ¬ ((k : Int) < (kk : Int)) := by omega
      obtain rfl : k = kk := by omega
      clear hlt hk
      (repeat (first | ((with_reducible show wpSeq _ _ _ _ _ _ _); first | ((with_reducible refine wpSeq_nil ?_); refine hKr.out _ _ ?_; clear hKr Kr) | ((first | (refine St.copy (v := ?_) (by exact .inl rfl) rfl rfl ?_ ?_; rotate_left; (focus ((try simp only [Act.eval, getD_lit, qGz, qGs]); with_reducible rfl))) | (refine St.pure (v := ?_) rfl rfl rfl (fun w => ?_) ?_; rotate_left; (focus (go_simp; all_goals with_reducible rfl)))); (try simp only [Act.put, qSa, qSz, qSs]))) | (first | (refine wp_seq_shut (fun K hK => ?_)) | (refine wp_text hM (fun Kr hKr => ?_); simp only [inText]) | (refine wp_cond_false rfl ?_) | (refine wp_exit ?_; simp only [Exit.then, Exit.inBlock, if_true, if_false, reduceCtorEq, Nat.reduceEqDiff, Nat.succ_ne_zero]) | ((first | refine hK.out _ _ ?_ | (clear hK K; refine hK.out _ _ ?_)); clear hK K))))
      ((refine St.call rfl rfl rfl (by kernel_rfl) (fun R hR => ?_); simp only [List.map_toArray, List.map_cons, List.map_nil, Act.eval, getD_lit, qGz, qGs]))
      refine (fOwners_any (hM.fs (x := x1) (β := β1) (d := dk) (.skip .here) HFK.out.inv HX.out F0) (by omega)).mono ?_
      rintro e w' ⟨s2, rfl, hk2, hN2⟩
      replace hM := hM.madeM hN2 (slL_flag _ _ _ _)
      (refine hR.out _ _ (fun _ => ⟨hM.only, nofun⟩) ?_); clear hR R hN2
      have hol : (Fs.owners dk).length ≤ 30000 := by
        have := HFK.out.inv.len
        unfold Fs.owners
        rw [List.length_map]
        have := HLG.out
        omega
      have HOF := Lib.hid (Ol.owners_fit HFK.out)
      have hex : Ol.exits dk = (Fs.owners dk).foldl Fs.exit dk := rfl
      have HEX := Lib.hid hex
      have HFK' := Lib.hid (HFK.out.more (M := 30000) (by have := HLG.out; omega))
      obtain ⟨v2, c2, hv2, hva2⟩ := slV_open hk2
      have HK2 := Lib.hid hk2
      rw [hv2]
      generalize Fs.owners dk = os at *
      clear hex hk2 hkk hvc
      (try simp only [Act.put, qSa, qSz, qSs])
      (repeat (first | ((with_reducible show wpSeq _ _ _ _ _ _ _); first | ((with_reducible refine wpSeq_nil ?_); refine hKr.out _ _ ?_; clear hKr Kr) | ((first | (refine St.copy (v := ?_) (by exact .inl rfl) rfl rfl ?_ ?_; rotate_left; (focus ((try simp only [Act.eval, getD_lit, qGz, qGs]); with_reducible rfl))) | (refine St.pure (v := ?_) rfl rfl rfl (fun w => ?_) ?_; rotate_left; (focus (go_simp; all_goals with_reducible rfl)))); (try simp only [Act.put, qSa, qSz, qSs]))) | (first | refine wp_block ?_ | ((refine hK.out _ _ ?_); clear hK K))))
      go_loopw [9, 44] (fun _ i wr => ∃ (j : Nat) (β' : Int → Nat × Nat) (dj : FsD), j ≤ os.length ∧ i = .int .i64 j ∧ (os.take j).foldl Fs.exit dk = dj ∧ Ol.FInv 30000 dj ∧ St w0 [b] wr (slL s2 (os.map (Value.int .i64)) 3 1 ++ ((b, true, .cells [.pointer (some ⟨f, 0, none⟩), .pointer (some ⟨y.f, 0, none⟩), .slice va zs.length vc] 81) :: (fsL x1 β' dj ++ RR)))) (fun _ i _ => os.length - (intOf i).toNat)
      case atStart => exact ⟨0, β1, dk, by omega, rfl, rfl, HFK'.out, hM⟩
      case round =>
        clear hM
        obtain ⟨j, β2, dj, hj, rfl, hdj, hfj, hM⟩ := hrel
        have HDJ := Lib.hid hdj
        have HFJ := Lib.hid hfj
        clear hdj hfj
        by_cases hlt : j < os.length
        · obtain ⟨o, ho⟩ := get_at hlt
          rcases hs2 : s2 with _ | ⟨g2, cap2⟩
          · have := HK2.out
            rw [hs2] at this
            exact absurd this.2 (by omega)
          obtain ⟨rfl, rfl⟩ := hva2 g2 cap2 hs2
          have hof := HOF.out o (List.mem_of_getElem? ho)
          have HST := Lib.hid ((own_step ho dk).trans (congrArg (fun q => Fs.exit q o) HDJ.out))
          have HFN := Lib.hid (Ol.finv_exit HFJ.out hof)
          have hx' : (os.map (Value.int .i64))[j]? = some (.int .i64 o) := by rw [List.getElem?_map, ho]; rfl
          have j1 : (j : Int) < (os.length : Int) := by omega
          subst hs2
          clear ho hlt
          simp only [slL, List.cons_append, List.nil_append] at hM
          (repeat (first | ((with_reducible show wpSeq _ _ _ _ _ _ _); first | ((with_reducible refine wpSeq_nil ?_); refine hKr.out _ _ ?_; clear hKr Kr) | ((first | (refine St.copy (v := ?_) (by first | exact .inl rfl | exact .inr rfl) rfl rfl ?_ ?_; rotate_left; (focus ((try simp only [Act.eval, getD_lit, qGz, qGs]); with_reducible rfl))) | (refine St.pure (v := ?_) rfl rfl rfl (fun w => ?_) ?_; rotate_left; (focus (go_simp; all_goals with_reducible rfl))) | refine St.load rfl hM rfl rfl rfl rfl (by repeat constructor) (by assumption) (by kernel_rfl) ?_); (try simp only [Act.put, qSa, qSz, qSs]))) | (first | (refine wp_seq_shut (fun K hK => ?_)) | (refine wp_text hM (fun Kr hKr => ?_); simp only [inText]) | refine wp_block ?_ | refine wp_skip ?_ | (refine wp_cond_true rfl ?_) | ((refine hK.out _ _ ?_); clear hK K))))
          ((refine St.call rfl rfl rfl (by kernel_rfl) (fun R hR => ?_); simp only [List.map_toArray, List.map_cons, List.map_nil, Act.eval, getD_lit, qGz, qGs]))
          refine (fExit_any (hM.fs (x := x1) (β := β2) (d := dj) (.skip (.skip .here)) HFJ.out.inv HX.out F0) (by omega) hof).mono ?_
          rintro e w' ⟨rfl, ⟨β3, hN2⟩, -⟩
          replace hM := hM.backM (M := fsL x1 β2 dj) (.skip (.skip .here)) (fsL_flag _ _ _) hN2 (fsL_flag _ _ _)
          (refine hR.out _ _ (fun _ => ⟨hM.only, nofun⟩) ?_); clear hR R hN2
          (try simp only [Act.put, qSa, qSz, qSs])
          (repeat (first | ((with_reducible show wpSeq _ _ _ _ _ _ _); first | ((with_reducible refine wpSeq_nil ?_); refine hKr.out _ _ ?_; clear hKr Kr) | ((first | (refine St.copy (v := ?_) (by exact .inl rfl) rfl rfl ?_ ?_; rotate_left; (focus ((try simp only [Act.eval, getD_lit, qGz, qGs]); with_reducible rfl))) | refine St.inc rfl rfl rfl rfl rfl (by omega) ?_); (try simp only [Act.put, qSa, qSz, qSs]))) | (first | (refine wp_text hM (fun Kr hKr => ?_); simp only [inText]) | ((refine hK.out _ _ ?_); clear hK K))))
          simp only [Exit.then]
          (refine ⟨?_, ?_⟩; (focus (repeat (first | exact ⟨⟨j + 1, β3, _, by omega, rfl, HST.out, HFN.out, hM⟩, rfl⟩ | apply Exists.intro))); (simp only [getD_lit, qGz, qGs, intOf]; omega))
        · have k0 : ¬ ((j : Int) < (os.length : Int)) := by omega
          obtain rfl : j = os.length := by omega
          have e := HDJ.out
          rw [List.take_length, ← HEX.out] at e
          rw [← e] at hM HFJ
          clear hlt hj e HDJ
          replace hM := hM.subM (List.sublist_append_right _ _)
          have HCF := Lib.hid (show Ol.exits (Ol.replay D.base (D.log.take k)) = Ol.exits dk by rw [HDK.out])
          clear HEX
          generalize Ol.exits dk = de at *
          (repeat (first | ((with_reducible show wpSeq _ _ _ _ _ _ _); first | ((with_reducible refine wpSeq_nil ?_); refine hKr.out _ _ ?_; clear hKr Kr) | ((first | (refine St.copy (v := ?_) (by exact .inl rfl) rfl rfl ?_ ?_; rotate_left; (focus ((try simp only [Act.eval, getD_lit, qGz, qGs]); with_reducible rfl))) | (refine St.pure (v := ?_) rfl rfl rfl (fun w => ?_) ?_; rotate_left; (focus (go_simp; all_goals with_reducible rfl)))); (try simp only [Act.put, qSa, qSz, qSs]))) | (first | (refine wp_seq_shut (fun K hK => ?_)) | (refine wp_text hM (fun Kr hKr => ?_); simp only [inText]) | (refine wp_cond_false rfl ?_) | (refine wp_exit ?_; simp only [Exit.then, Exit.inBlock, if_true, if_false, reduceCtorEq, Nat.reduceEqDiff, Nat.succ_ne_zero]) | ((first | refine hK.out _ _ ?_ | (clear hK K; refine hK.out _ _ ?_)); clear hK K))))
          ((refine St.call rfl rfl rfl (by kernel_rfl) (fun R hR => ?_); simp only [List.map_toArray, List.map_cons, List.map_nil, Act.eval, getD_lit, qGz, qGs]))
          refine (empties_any (hM.fs (x := x1) (β := β2) (d := de) (.skip .here) HFJ.out.inv HX.out F0) HFJ.out (by omega)).mono ?_
          rintro e w' ⟨rfl, β3, hN2⟩
          replace hM := hM.backM (M := fsL x1 β2 de) (.skip .here) (fsL_flag _ _ _) hN2 (fsL_flag _ _ _)
          (refine hR.out _ _ (fun _ => ⟨hM.only, nofun⟩) ?_); clear hR R hN2
          have HFE := Lib.hid (Ol.finv_empties HFJ.out)
          have HCE := Lib.hid (congrArg Ol.empties HCF.out)
          generalize Ol.empties de = dz at *
          (try simp only [Act.put, qSa, qSz, qSs])
          (repeat (first | ((with_reducible show wpSeq _ _ _ _ _ _ _); first | ((with_reducible refine wpSeq_nil ?_); refine hKr.out _ _ ?_; clear hKr Kr) | ((first | (refine St.copy (v := ?_) (by exact .inl rfl) rfl rfl ?_ ?_; rotate_left; (focus ((try simp only [Act.eval, getD_lit, qGz, qGs]); with_reducible rfl))) | (refine St.pure (v := ?_) rfl rfl rfl (fun w => ?_) ?_; rotate_left; (focus (go_simp; all_goals with_reducible rfl))) | ((((refine St.store rfl hM rfl rfl rfl rfl rfl (by repeat constructor) (Nat.le_of_ble_eq_true rfl) (by kernel_rfl) rfl ?_ ?_); (focus ((intro h; cases h; done))); clear hM; intro w hM)); (try simp only [Res.put, Res.known, Act.eval, Value.cells, getD_lit, qGz, qGs, List.toList_toArray, qSz, qSs, over, Nat.reduceAdd] at hM))); (try simp only [Act.put, qSa, qSz, qSs]))) | (first | (refine wp_seq_shut (fun K hK => ?_)) | (refine wp_text hM (fun Kr hKr => ?_); simp only [inText]) | ((refine hK.out _ _ ?_); clear hK K))))
          ((refine St.call rfl rfl rfl (by kernel_rfl) (fun R hR => ?_); simp only [List.map_toArray, List.map_cons, List.map_nil, Act.eval, getD_lit, qGz, qGs]))
          rw [← hv] at hM
          have hS : St w0 [b] w ((dskE b x1.f y.f s zs.length :: fsL x1 β3 dz) ++ RR) := hM
          have hS2 : St w0 [b] w (dskE b x1.f y.f s zs.length :: (fsL x1 β3 dz ++ RR)) := hM
          clear hM
          refine (syncs_any (hS2.fs (x := x1) (β := β3) (d := dz) (.skip .here) HFE.out.inv HX.out F0) (by omega) (hS.part .here)).mono ?_
          rintro e w' ⟨rfl, x2, β4, hN2⟩
          have hM := hS2.backM (M := [dskE b x1.f y.f s zs.length]) .one (flag_1 _ _) hN2 (fun y hy => by
            rcases List.mem_cons.1 hy with rfl | hy
            · rfl
            · exact fsL_flag _ _ _ y hy)
          (refine hR.out _ _ (fun _ => ⟨hM.only, nofun⟩) ?_); clear hR R hN2 hS hS2
          (try simp only [Act.put, qSa, qSz, qSs])
          (repeat (first | ((with_reducible show wpSeq _ _ _ _ _ _ _); first | ((with_reducible refine wpSeq_nil ?_); refine hKr.out _ _ ?_; clear hKr Kr) | (((refine St.copy (v := ?_) (by exact .inr rfl) rfl rfl ?_ ?_; rotate_left; (focus ((try simp only [Act.eval, getD_lit, qGz, qGs]); with_reducible rfl)))); (try simp only [Act.put, qSa, qSz, qSs]))) | (first | (refine wp_seq_shut (fun K hK => ?_)) | (refine wp_text hM (fun Kr hKr => ?_); simp only [inText]) | ((refine hK.out _ _ ?_); clear hK K))))
          ((refine wp_ret ?_; (try simp only [Exit.then, Exit.inBlock]); refine St.ret hM rfl (by repeat (first | exact Outs.nil | apply Outs.tmp rfl)) rfl ?_))
          refine ⟨rfl, x1, β3, x2, β4, ?_⟩
          rw [HCE.out]
          have hS3 : St w0 [b] w' ((dskE b x1.f x2.f none 0 :: fsL x2 β4 dz) ++ fsL x1 β3 dz) := hM.subM (List.Sublist.append_left (List.sublist_append_left _ _) _)
          exact hS3.perm (L' := dskE b x1.f x2.f none 0 :: (fsL x1 β3 dz ++ fsL x2 β4 dz)) (perm_by (by intro _ x; simp only [List.append_eq, List.count_append, List.count_cons, List.count_nil, List.cons_append, List.nil_append]; omega))
end
end Go.Proofs.YtcicjklhbnipcaaGreatDoor
namespace Go.Proofs.YtcicjklhbnipcaaGreatDoor
set_option linter.unusedVariables false
set_option linter.unusedSimpArgs false
open Go.RowKit Go.Maps
section
variable {w w' w0 : World} {F : List Nat} {L : List Ent}
/-- What is no disk, or one that New did not give. -/
def DBare (w : World) (p : Option Addr) : Prop := p = none ∨ ∃ f, p = some ⟨f, 0, none⟩ ∧ w.rangeAt f 0 [.pointer none, .pointer none, .slice none 0 0]
theorem DBare.below {p : Option Addr} (h : DBare w p) (hb : Below w.heap.size w w') : DBare w' p := by
  rcases h with h | ⟨f, h, hc⟩
  · exact .inl h
  · refine .inr ⟨f, h, fun j v hj => ?_⟩
    have := hc j v hj
    exact (hb.cell (p := ⟨f, 0 + j, none⟩) (World.block_lt_of_cell? w _ this)).trans this
end
end Go.Proofs.YtcicjklhbnipcaaGreatDoor
namespace Go.Proofs.YtcicjklhbnipcaaGreatDoor
set_option linter.unusedVariables false
set_option linter.unusedSimpArgs false
open Go.RowKit Go.Maps
namespace Aw10
def o1 : OpD := ⟨3, ⟨#[97]⟩, ⟨#[]⟩, 0, 0, 0, ⟨#[]⟩, 0, 0⟩
def o2 : OpD := ⟨14, ⟨#[]⟩, ⟨#[]⟩, 0, 0, 0, ⟨#[]⟩, 0, 0⟩
def o3 : OpD := ⟨7, ⟨#[]⟩, ⟨#[]⟩, 1, 0, 0, ⟨#[120]⟩, 0, 0⟩
def o4 : OpD := ⟨1, ⟨#[100]⟩, ⟨#[]⟩, 0, 0, 0, ⟨#[]⟩, 0, 0⟩
def o5 : OpD := ⟨6, ⟨#[]⟩, ⟨#[]⟩, 1, 0, 1, ⟨#[]⟩, 0, 0⟩
def s1 : FsD := ⟨⟨4096, 128, 2, [⟨1, true, 1, 0, ⟨#[]⟩, [(⟨#[97]⟩, 2)]⟩, ⟨2, false, 1, 1, ⟨#[]⟩, []⟩]⟩, [(1, [0, 2, 0, 0, 0, 0, 0, 0, 0])]⟩
def s3 : FsD := ⟨⟨4096, 129, 2, [⟨1, true, 1, 0, ⟨#[]⟩, [(⟨#[97]⟩, 2)]⟩, ⟨2, false, 1, 1, ⟨#[120]⟩, []⟩]⟩, [(1, [0, 2, 0, 0, 0, 0, 0, 0, 0])]⟩
def s4 : FsD := ⟨⟨4096, 193, 3, [⟨1, true, 1, 0, ⟨#[]⟩, [(⟨#[97]⟩, 2), (⟨#[100]⟩, 3)]⟩, ⟨2, false, 1, 1, ⟨#[120]⟩, []⟩, ⟨3, true, 1, 0, ⟨#[]⟩, []⟩]⟩, [(1, [0, 2, 0, 0, 0, 0, 0, 0, 0])]⟩
def s5 : FsD := ⟨⟨4096, 129, 2, [⟨1, true, 1, 0, ⟨#[]⟩, [(⟨#[97]⟩, 2)]⟩, ⟨2, false, 1, 0, ⟨#[120]⟩, []⟩]⟩, []⟩
def D1 : DskD := ⟨s1, Fs.new 4096, [(1, some o1)]⟩
def D2 : DskD := ⟨s1, s1, []⟩
def D3 : DskD := ⟨s3, s1, [(1, some o3)]⟩
def D4 : DskD := ⟨s4, s1, [(1, some o3), (1, some o4)]⟩
theorem f1 : Fs.do_ (Fs.new 4096) 1 o1 = (⟨0, 1, ⟨#[]⟩, []⟩, s1) := by kernel_rfl
theorem f3 : Fs.do_ s1 1 o3 = (⟨0, 0, ⟨#[]⟩, []⟩, s3) := by kernel_rfl
theorem f4 : Fs.do_ s3 1 o4 = (⟨0, 0, ⟨#[]⟩, []⟩, s4) := by kernel_rfl
theorem f5 : Fs.do_ s5 1 o5 = (⟨13, 0, ⟨#[]⟩, []⟩, s5) := by kernel_rfl
theorem d1 : Ol.do_ (Ol.new 4096) 1 o1 = (⟨0, 1, ⟨#[]⟩, []⟩, D1) := by
  unfold Ol.do_ Ol.doN Ol.new
  rw [if_neg (by decide), f1]
  rw [if_pos (by unfold Ol.logs; decide)]
  rfl
theorem d2 : Ol.do_ D1 1 o2 = (⟨0, 0, ⟨#[]⟩, []⟩, D2) := rfl
theorem d3 : Ol.do_ D2 1 o3 = (⟨0, 0, ⟨#[]⟩, []⟩, D3) := by
  unfold Ol.do_ Ol.doN D2
  rw [if_neg (by decide), f3]
  rw [if_pos (by unfold Ol.logs; decide)]
  rfl
theorem d4 : Ol.do_ D3 1 o4 = (⟨0, 0, ⟨#[]⟩, []⟩, D4) := by
  unfold Ol.do_ Ol.doN D3
  rw [if_neg (by decide), f4]
  rw [if_pos (by unfold Ol.logs; decide)]
  rfl
theorem e1 : Fs.files s5 = [⟨⟨#[97]⟩, false, ⟨#[120]⟩⟩] := by kernel_rfl
theorem e2 : Fs.files s4 = [⟨⟨#[97]⟩, false, ⟨#[120]⟩⟩, ⟨⟨#[100]⟩, true, ⟨#[]⟩⟩] := by kernel_rfl
end Aw10
theorem val_one (zs : List LogV) : (zs.map LogV.val).all (·.oneCell') = true := by
  rw [List.all_eq_true]
  intro v hv
  obtain ⟨z, -, rfl⟩ := List.mem_map.1 hv
  obtain ⟨⟨o, _ | p⟩, q⟩ := z <;> rfl
theorem log_sub {X : DskX} {β γ : Int → Nat × Nat} {D : DskD} : (logL X.s (X.zs.map LogV.val)).Sublist (dskL X β γ D) := by
  unfold dskL
  exact (((List.sublist_append_left _ _).trans (List.sublist_append_right _ _))).cons _
end Go.Proofs.YtcicjklhbnipcaaGreatDoor
namespace Go.Proofs.YtcicjklhbnipcaaGreatDoor
set_option linter.unusedVariables false
set_option linter.unusedSimpArgs false
open Go.RowKit Go.Maps
/-- Where a world lies. -/
structure WrlX where
  b : Nat
  P : PrcX
  X : DskX
def wrlE (b p d : Nat) : Ent := (b, true, .cells [.pointer (some ⟨p, 0, none⟩), .pointer (some ⟨d, 0, none⟩)] 105)
def wrlL (x : WrlX) (β γ : Int → Nat × Nat) (W : WrlD) : List Ent := wrlE x.b x.P.b x.X.b :: (prcL x.P W.p ++ dskL x.X β γ W.d)
structure WrlOk (x : WrlX) (W : WrlD) : Prop where
  dsk : DskOk x.X W.d
  prc : x.P.m = none → W.p.births = []
theorem wrlL_flag (x : WrlX) (β γ : Int → Nat × Nat) (W : WrlD) : flagged (wrlL x β γ W) := fun y hy => by
  unfold wrlL at hy
  rcases List.mem_cons.1 hy with rfl | hy
  · rfl
  rcases List.mem_append.1 hy with hy | hy
  · exact prcL_flag _ _ y hy
  · exact dskL_flag _ _ _ _ y hy
/-- A world that is right stands here. -/
structure WrlAt (N : Nat) (x : WrlX) (β γ : Int → Nat × Nat) (W : WrlD) (w : World) : Prop where
  at_ : At (wrlL x β γ W) w
  ok : WrlOk x W
  inv : Wd.Inv N W
  mx : Mx w
  zero : 0 ∉ keysOf (wrlL x β γ W)
/-- Since 'w' the world has become this one. -/
def WGoes (w : World) (x : WrlX) (β γ : Int → Nat × Nat) (W : WrlD) (w' : World) (W' : WrlD) : Prop := ∃ x' β' γ', WrlX.b x' = x.b ∧ WrlOk x' W' ∧ St w (keysOf (wrlL x β γ W)) w' (wrlL x' β' γ' W')
section
variable {N : Nat} {x : WrlX} {β γ : Int → Nat × Nat} {W : WrlD} {w w' w0 : World} {F : List Nat} {L L' M M' : List Ent} {b p d : Nat}
theorem St.wrl (hM : St w0 F w L) (hs : Part L (wrlL x β γ W)) (hk : WrlOk x W) (hI : Wd.Inv N W) (hm : Mx w0) (h0 : 0 ∉ F) : WrlAt N x β γ W w := by
  refine ⟨hM.part hs, hk, hI, hM.mx hm h0, fun h => ?_⟩
  obtain ⟨y, hy, e⟩ := List.mem_map.1 h
  obtain ⟨A, B, rfl⟩ := hs.split
  rcases hM.own y (by simp [hy]) (wrlL_flag x β γ W y hy) with h1 | h1
  · rw [e] at h1; exact h0 h1
  · have := hm.pos
    omega
theorem WrlAt.row (h : WrlAt N x β γ W w) : (wrlE x.b x.P.b x.X.b).2.2.holds w.heap[x.b]? := h.at_.has (wrlE x.b x.P.b x.X.b) (by unfold wrlL; exact .head _)
theorem wprc_sub : (prcL x.P W.p).Sublist (wrlL x β γ W) := by
  unfold wrlL
  exact (List.sublist_append_left _ _).cons _
theorem wdsk_sub : (dskL x.X β γ W.d).Sublist (wrlL x β γ W) := by
  unfold wrlL
  exact (List.sublist_append_right _ _).cons _
theorem WrlAt.prc (h : WrlAt N x β γ W w) : PrcAt x.P W.p w := ⟨h.at_.sub wprc_sub, h.ok.prc, h.inv.fit⟩
theorem WrlAt.dsk (h : WrlAt N x β γ W w) : DskAt N x.X β γ W.d w := ⟨h.at_.sub wdsk_sub, h.ok.dsk, h.inv.disk, h.mx, keys_sub wdsk_sub h.zero⟩
theorem WrlAt.below (h : WrlAt N x β γ W w) (hb : Below w.heap.size w w') : WrlAt N x β γ W w' := ⟨h.at_.below hb, h.ok, h.inv, h.mx.below hb, h.zero⟩
set_option maxHeartbeats 4000000 in
set_option maxRecDepth 100000 in
theorem wgiven_any (h : (wrlE b p d).2.2.holds w.heap[b]?) : Calls Tryz.prog 94 #[.pointer (some ⟨b, 0, none⟩)] w fun e w' => e = .returned (.bool true) ∧ w = w' := by
  have hM := St.one h
  clear h
  unfold wrlE at hM
  go_enter Tryz.func94, Tryz.ntmps94
  (repeat (first | ((with_reducible show wpSeq _ _ _ _ _ _ _); first | ((with_reducible refine wpSeq_nil ?_); refine hKr.out _ _ ?_; clear hKr Kr) | ((first | (refine St.copy (v := ?_) (by first | exact .inl rfl | exact .inr rfl) rfl rfl ?_ ?_; rotate_left; (focus ((try simp only [Act.eval, getD_lit, qGz, qGs]); with_reducible rfl))) | (refine St.pure (v := ?_) rfl rfl rfl (fun w => ?_) ?_; rotate_left; (focus (go_simp; all_goals with_reducible rfl))) | refine St.load rfl hM rfl rfl rfl rfl (by repeat constructor) (by rfl) (by kernel_rfl) ?_); (try simp only [Act.put, qSa, qSz, qSs]))) | (first | (refine wp_seq_shut (fun K hK => ?_)) | (refine wp_text hM (fun Kr hKr => ?_); simp only [inText]) | ((refine hK.out _ _ ?_); clear hK K))))
  (refine wp_ret ?_; (try simp only [Exit.then, Exit.inBlock]); refine St.ret hM rfl (by repeat (first | exact Outs.nil | apply Outs.tmp rfl)) rfl ?_)
  exact ⟨rfl, rfl⟩
set_option maxHeartbeats 4000000 in
set_option maxRecDepth 100000 in
theorem wNew_any (q : Int) (w : World) (hq : In.newE q = 0) (hX : Mx w) : Calls Tryz.prog 45 #[.int .i64 q] w fun e w' => ∃ x β γ, e = .returned (.tuple #[.pointer (some ⟨WrlX.b x, 0, none⟩), .int .i64 0]) ∧ WrlOk x (Wd.new q) ∧ St w [] w' (wrlL x β γ (Wd.new q)) := by
  have hM := St.start w []
  have HX := Lib.hid hX
  have F0 : 0 ∉ ([] : List Nat) := nofun
  have CN := Lib.hid (fun (W : World) (h : Mx W) => dNew_any q W hq h)
  clear hq hX
  go_enter Tryz.func45, Tryz.ntmps45
  (repeat (first | ((with_reducible show wpSeq _ _ _ _ _ _ _); first | ((with_reducible refine wpSeq_nil ?_); refine hKr.out _ _ ?_; clear hKr Kr) | (((refine St.copy (v := ?_) (by first | exact .inl rfl | exact .inr rfl) rfl rfl ?_ ?_; rotate_left; (focus ((try simp only [Act.eval, getD_lit, qGz, qGs]); with_reducible rfl)))); (try simp only [Act.put, qSa, qSz, qSs]))) | (first | (refine wp_seq_shut (fun K hK => ?_)) | (refine wp_text hM (fun Kr hKr => ?_); simp only [inText]) | ((refine hK.out _ _ ?_); clear hK K))))
  ((refine St.call rfl rfl rfl (by kernel_rfl) (fun R hR => ?_); simp only [List.map_toArray, List.map_cons, List.map_nil, Act.eval, getD_lit, qGz, qGs]))
  refine (CN.out _ (hM.mx HX.out F0)).mono ?_
  rintro e w' ⟨X, β, γ, rfl, hk, hN⟩
  replace hM := hM.madeM hN (dskL_flag _ _ _ _)
  refine hR.out _ _ (fun h => h.below hN.to_below) ?_; clear hR R hN
  (try simp only [Act.put, qSa, qSz, qSs])
  (repeat (first | ((with_reducible show wpSeq _ _ _ _ _ _ _); first | ((with_reducible refine wpSeq_nil ?_); refine hKr.out _ _ ?_; clear hKr Kr) | ((first | (refine St.copy (v := ?_) (by first | exact .inl rfl | exact .inr rfl) rfl rfl ?_ ?_; rotate_left; (focus ((try simp only [Act.eval, getD_lit, qGz, qGs]); with_reducible rfl))) | (refine St.pure (v := ?_) rfl rfl rfl (fun w => ?_) ?_; rotate_left; (focus (go_simp; all_goals with_reducible rfl))) | ((((refine St.box rfl hM rfl rfl rfl ?_); clear hM; intro w bk hM)); (try simp only [Res.put, Res.known, Act.eval, Value.cells, getD_lit, qGz, qGs, List.toList_toArray, qSz, qSs, over, Nat.reduceAdd] at hM))); (try simp only [Act.put, qSa, qSz, qSs]))) | (first | (refine wp_seq_shut (fun K hK => ?_)) | (refine wp_text hM (fun Kr hKr => ?_); simp only [inText]) | refine wp_skip ?_ | (refine wp_cond_false rfl ?_) | ((refine hK.out _ _ ?_); clear hK K))))
  ((refine wp_ret ?_; (try simp only [Exit.then, Exit.inBlock]); refine St.ret hM rfl (by repeat (first | exact Outs.nil | apply Outs.tmp rfl)) rfl ?_))
  rename_i w1 pb
  rw [List.append_nil] at hM
  exact ⟨⟨bk, ⟨pb, none⟩, X⟩, β, γ, rfl, ⟨hk, fun _ => rfl⟩, hM⟩
set_option maxHeartbeats 4000000 in
set_option maxRecDepth 100000 in
theorem wBirth_any (h : (wrlE b p d).2.2.holds w.heap[b]?) {P : PrcX} {t : PrcD} (hP : PrcAt P t w) (hp : P.b = p) {pid : Int} (hf : Fits pid) : Calls Tryz.prog 49 #[.pointer (some ⟨b, 0, none⟩), .int .i64 pid] w fun e w' => e = .returned (.tuple #[.int .i64 (Pc.birth t.births pid), .int .i64 (Pc.birthE t pid)]) ∧ Below w.heap.size w w' := by
  have hM := St.one h
  have HW := Lib.hid h
  have HP := Lib.hid hP
  subst hp
  clear h hP
  have C := Lib.hid (fun (W : World) (h : PrcAt P t W) => pBirth_any h hf)
  generalize Pc.birth t.births pid = B at *
  generalize Pc.birthE t pid = E at *
  unfold wrlE at hM
  go_enter Tryz.func49, Tryz.ntmps49
  (repeat (first | ((with_reducible show wpSeq _ _ _ _ _ _ _); first | ((with_reducible refine wpSeq_nil ?_); refine hKr.out _ _ ?_; clear hKr Kr) | (((refine St.copy (v := ?_) (by first | exact .inl rfl | exact .inr rfl) rfl rfl ?_ ?_; rotate_left; (focus ((try simp only [Act.eval, getD_lit, qGz, qGs]); with_reducible rfl)))); (try simp only [Act.put, qSa, qSz, qSs]))) | (first | (refine wp_seq_shut (fun K hK => ?_)) | (refine wp_text hM (fun Kr hKr => ?_); simp only [inText]) | ((refine hK.out _ _ ?_); clear hK K))))
  ((refine St.call rfl rfl rfl (by kernel_rfl) (fun R hR => ?_); simp only [List.map_toArray, List.map_cons, List.map_nil, Act.eval, getD_lit, qGz, qGs]))
  refine (wgiven_any (hM.only.holds HW.out)).mono ?_
  rintro e w' ⟨rfl, rfl⟩; refine hR.out _ _ (fun h => h) ?_; clear hR R; (try simp only [Act.put, qSa, qSz, qSs])
  (repeat (first | ((with_reducible show wpSeq _ _ _ _ _ _ _); first | ((with_reducible refine wpSeq_nil ?_); refine hKr.out _ _ ?_; clear hKr Kr) | ((first | (refine St.copy (v := ?_) (by exact .inl rfl) rfl rfl ?_ ?_; rotate_left; (focus ((try simp only [Act.eval, getD_lit, qGz, qGs]); with_reducible rfl))) | (refine St.pure (v := ?_) rfl rfl rfl (fun w => ?_) ?_; rotate_left; (focus (go_simp; all_goals with_reducible rfl))) | refine St.load rfl hM rfl rfl rfl rfl (by repeat constructor) (by rfl) (by kernel_rfl) ?_); (try simp only [Act.put, qSa, qSz, qSs]))) | (first | (refine wp_seq_shut (fun K hK => ?_)) | (refine wp_text hM (fun Kr hKr => ?_); simp only [inText]) | refine wp_skip ?_ | (refine wp_cond_false rfl ?_) | ((refine hK.out _ _ ?_); clear hK K))))
  ((refine St.call rfl rfl rfl (by kernel_rfl) (fun R hR => ?_); simp only [List.map_toArray, List.map_cons, List.map_nil, Act.eval, getD_lit, qGz, qGs]))
  refine (C.out _ (HP.out.below hM.to_below)).mono ?_
  rintro e w' ⟨rfl, hb⟩; replace hM := hM.below hb; (refine hR.out _ _ (fun _ => ⟨hM.only, nofun⟩) ?_); clear hR R hb; (try simp only [Act.put, qSa, qSz, qSs])
  (repeat (first | ((with_reducible show wpSeq _ _ _ _ _ _ _); first | ((with_reducible refine wpSeq_nil ?_); refine hKr.out _ _ ?_; clear hKr Kr) | ((first | (refine St.copy (v := ?_) (by exact .inr rfl) rfl rfl ?_ ?_; rotate_left; (focus ((try simp only [Act.eval, getD_lit, qGz, qGs]); with_reducible rfl))) | (refine St.pure (v := ?_) rfl rfl rfl (fun w => ?_) ?_; rotate_left; (focus (go_simp; all_goals with_reducible rfl)))); (try simp only [Act.put, qSa, qSz, qSs]))) | (((refine hK.out _ _ ?_); clear hK K))))
  (refine wp_ret ?_; (try simp only [Exit.then, Exit.inBlock]); refine St.ret hM rfl (by repeat (first | exact Outs.nil | apply Outs.tmp rfl)) rfl ?_)
  exact ⟨rfl, hM.to_below⟩
set_option maxHeartbeats 4000000 in
set_option maxRecDepth 100000 in
theorem wFiles_any (h : WrlAt N x β γ W w) (hN : N ≤ 1000000) : Calls Tryz.prog 48 #[.pointer (some ⟨x.b, 0, none⟩)] w (SomeFiles (Fs.files W.d.now) w) := by
  have hM := St.one h.row
  have HW := Lib.hid h
  unfold wrlE at hM
  go_enter Tryz.func48, Tryz.ntmps48
  (repeat (first | ((with_reducible show wpSeq _ _ _ _ _ _ _); first | ((with_reducible refine wpSeq_nil ?_); refine hKr.out _ _ ?_; clear hKr Kr) | (((refine St.copy (v := ?_) (by first | exact .inl rfl | exact .inr rfl) rfl rfl ?_ ?_; rotate_left; (focus ((try simp only [Act.eval, getD_lit, qGz, qGs]); with_reducible rfl)))); (try simp only [Act.put, qSa, qSz, qSs]))) | (first | (refine wp_seq_shut (fun K hK => ?_)) | (refine wp_text hM (fun Kr hKr => ?_); simp only [inText]) | ((refine hK.out _ _ ?_); clear hK K))))
  ((refine St.call rfl rfl rfl (by kernel_rfl) (fun R hR => ?_); simp only [List.map_toArray, List.map_cons, List.map_nil, Act.eval, getD_lit, qGz, qGs]))
  refine (wgiven_any (hM.only.holds HW.out.row)).mono ?_
  rintro e w' ⟨rfl, rfl⟩; refine hR.out _ _ (fun h => h) ?_; clear hR R; (try simp only [Act.put, qSa, qSz, qSs])
  (repeat (first | ((with_reducible show wpSeq _ _ _ _ _ _ _); first | ((with_reducible refine wpSeq_nil ?_); refine hKr.out _ _ ?_; clear hKr Kr) | ((first | (refine St.copy (v := ?_) (by exact .inl rfl) rfl rfl ?_ ?_; rotate_left; (focus ((try simp only [Act.eval, getD_lit, qGz, qGs]); with_reducible rfl))) | (refine St.pure (v := ?_) rfl rfl rfl (fun w => ?_) ?_; rotate_left; (focus (go_simp; all_goals with_reducible rfl))) | refine St.load rfl hM rfl rfl rfl rfl (by repeat constructor) (by rfl) (by kernel_rfl) ?_); (try simp only [Act.put, qSa, qSz, qSs]))) | (first | (refine wp_seq_shut (fun K hK => ?_)) | (refine wp_text hM (fun Kr hKr => ?_); simp only [inText]) | refine wp_skip ?_ | (refine wp_cond_false rfl ?_) | ((refine hK.out _ _ ?_); clear hK K))))
  ((refine St.call rfl rfl rfl (by kernel_rfl) (fun R hR => ?_); simp only [List.map_toArray, List.map_cons, List.map_nil, Act.eval, getD_lit, qGz, qGs]))
  have HD := (HW.out.below hM.to_below).dsk
  refine (dFiles_any HD.row HD.now HD.inv.now.up hN).mono ?_
  rintro e w' ⟨s1, rfl, hk, hN2⟩
  replace hM := hM.madeM hN2 (slL_flag _ _ _ _)
  refine hR.out _ _ (fun h => ⟨hM.only, nofun⟩) ?_; clear hR R hN2; (try simp only [Act.put, qSa, qSz, qSs])
  (repeat (first | ((with_reducible show wpSeq _ _ _ _ _ _ _); first | ((with_reducible refine wpSeq_nil ?_); refine hKr.out _ _ ?_; clear hKr Kr) | (((refine St.copy (v := ?_) (by exact .inr rfl) rfl rfl ?_ ?_; rotate_left; (focus ((try simp only [Act.eval, getD_lit, qGz, qGs]); with_reducible rfl)))); (try simp only [Act.put, qSa, qSz, qSs]))) | (((refine hK.out _ _ ?_); clear hK K))))
  ((refine wp_ret ?_; (try simp only [Exit.then, Exit.inBlock]); refine St.ret hM rfl (by repeat (first | exact Outs.nil | apply Outs.tmp rfl)) rfl ?_))
  exact ⟨s1, rfl, hk, St.front hM⟩
set_option maxHeartbeats 4000000 in
set_option maxRecDepth 100000 in
theorem wSpawn_any (h : WrlAt N x β γ W w) (hN : N ≤ 1000000000) {pid : Int} (hp : Fits pid) : Calls Tryz.prog 91 #[.pointer (some ⟨x.b, 0, none⟩), .int .i64 pid] w fun e w' => e = .returned (.tuple #[.int .i64 (Pc.spawn W.p pid).1.1, .int .i64 (Pc.spawn W.p pid).1.2]) ∧ WGoes w x β γ W w' (Wd.spawn W pid) := by
  have hM := h.at_.st
  unfold WGoes
  obtain ⟨F, hF⟩ : ∃ F, keysOf (wrlL x β γ W) = F := ⟨_, rfl⟩
  rw [hF] at hM ⊢
  have hl : W.p.last ≤ 1000000000 := by have := h.inv.last; omega
  have HK := Lib.hid h.ok
  have HT := Lib.hid h.inv.fit
  clear h hF
  have C := Lib.hid (fun (w1 : World) (h : PrcAt x.P W.p w1) => pSpawn_any h hl hp)
  unfold Wd.spawn
  generalize Pc.spawn W.p pid = r at *
  obtain ⟨⟨r1, r2⟩, t'⟩ := r
  simp only at C ⊢
  unfold wrlL wrlE at hM
  go_enter Tryz.func91, Tryz.ntmps91
  (repeat (first | ((with_reducible show wpSeq _ _ _ _ _ _ _); first | ((with_reducible refine wpSeq_nil ?_); refine hKr.out _ _ ?_; clear hKr Kr) | (((refine St.copy (v := ?_) (by first | exact .inl rfl | exact .inr rfl) rfl rfl ?_ ?_; rotate_left; (focus ((try simp only [Act.eval, getD_lit, qGz, qGs]); with_reducible rfl)))); (try simp only [Act.put, qSa, qSz, qSs]))) | (first | (refine wp_seq_shut (fun K hK => ?_)) | (refine wp_text hM (fun Kr hKr => ?_); simp only [inText]) | ((refine hK.out _ _ ?_); clear hK K))))
  ((refine St.call rfl rfl rfl (by kernel_rfl) (fun R hR => ?_); simp only [List.map_toArray, List.map_cons, List.map_nil, Act.eval, getD_lit, qGz, qGs]))
  refine (wgiven_any (hM.holds (wrlE x.b x.P.b x.X.b) (by repeat constructor))).mono ?_
  rintro e w' ⟨rfl, rfl⟩; refine hR.out _ _ (fun h => h) ?_; clear hR R; (try simp only [Act.put, qSa, qSz, qSs])
  (repeat (first | ((with_reducible show wpSeq _ _ _ _ _ _ _); first | ((with_reducible refine wpSeq_nil ?_); refine hKr.out _ _ ?_; clear hKr Kr) | ((first | (refine St.copy (v := ?_) (by exact .inl rfl) rfl rfl ?_ ?_; rotate_left; (focus ((try simp only [Act.eval, getD_lit, qGz, qGs]); with_reducible rfl))) | (refine St.pure (v := ?_) rfl rfl rfl (fun w => ?_) ?_; rotate_left; (focus (go_simp; all_goals with_reducible rfl))) | refine St.load rfl hM rfl rfl rfl rfl (by repeat constructor) (by rfl) (by kernel_rfl) ?_); (try simp only [Act.put, qSa, qSz, qSs]))) | (first | (refine wp_seq_shut (fun K hK => ?_)) | (refine wp_text hM (fun Kr hKr => ?_); simp only [inText]) | refine wp_skip ?_ | (refine wp_cond_false rfl ?_) | ((refine hK.out _ _ ?_); clear hK K))))
  ((refine St.call rfl rfl rfl (by kernel_rfl) (fun R hR => ?_); simp only [List.map_toArray, List.map_cons, List.map_nil, Act.eval, getD_lit, qGz, qGs]))
  refine (C.out _ ⟨hM.part (by repeat (first | exact Part.here | apply Part.skip)), HK.out.prc, HT.out⟩).mono ?_
  rintro e w' ⟨rfl, P', hb, hz, hN2⟩
  replace hM := hM.backM (by repeat (first | exact Swap.here | apply Swap.skip)) (prcL_flag _ _) hN2 (prcL_flag _ _)
  (refine hR.out _ _ (fun _ => ⟨hM.only, nofun⟩) ?_); clear hR R hN2 C
  (try simp only [Act.put, qSa, qSz, qSs])
  (repeat (first | ((with_reducible show wpSeq _ _ _ _ _ _ _); first | ((with_reducible refine wpSeq_nil ?_); refine hKr.out _ _ ?_; clear hKr Kr) | ((first | (refine St.copy (v := ?_) (by exact .inr rfl) rfl rfl ?_ ?_; rotate_left; (focus ((try simp only [Act.eval, getD_lit, qGz, qGs]); with_reducible rfl))) | (refine St.pure (v := ?_) rfl rfl rfl (fun w => ?_) ?_; rotate_left; (focus (go_simp; all_goals with_reducible rfl)))); (try simp only [Act.put, qSa, qSz, qSs]))) | (((refine hK.out _ _ ?_); clear hK K))))
  ((refine wp_ret ?_; (try simp only [Exit.then, Exit.inBlock]); refine St.ret hM rfl (by repeat (first | exact Outs.nil | apply Outs.tmp rfl)) rfl ?_))
  refine ⟨rfl, ⟨x.b, P', x.X⟩, β, γ, rfl, ⟨HK.out.dsk, hz⟩, ?_⟩
  show St _ F _ (wrlE x.b P'.b x.X.b :: _)
  rw [hb]
  exact hM
set_option maxHeartbeats 4000000 in
set_option maxRecDepth 100000 in
theorem wKill_any (h : WrlAt N x β γ W w) (hN : N ≤ 999999980) {pid : Int} (hp : Fits pid) : Calls Tryz.prog 93 #[.pointer (some ⟨x.b, 0, none⟩), .int .i64 pid] w fun e w' => e = .returned (.int .i64 (Wd.kill W pid).1) ∧ WGoes w x β γ W w' (Wd.kill W pid).2 := by
  have hM := h.at_.st
  unfold WGoes
  obtain ⟨F, hF⟩ : ∃ F, keysOf (wrlL x β γ W) = F := ⟨_, rfl⟩
  rw [hF] at hM ⊢
  have F0 : 0 ∉ F := hF ▸ h.zero
  have HK := Lib.hid h.ok
  have HT := Lib.hid h.inv
  have HX := Lib.hid h.mx
  have hbf := Wd.birth_fits h.inv hN pid
  clear h hF
  have C := Lib.hid (fun (w1 : World) (h : PrcAt x.P W.p w1) => fun h2 => wBirth_any (b := x.b) (d := x.X.b) h2 h rfl hp)
  have CK := Lib.hid (fun (w1 : World) (h : PrcAt x.P W.p w1) => pKill_any h hp)
  unfold Pc.birthE at C
  unfold Wd.kill
  unfold wrlL wrlE at hM
  by_cases h0 : Pc.birth W.p.births pid = 0
  · rw [if_pos h0] at C ⊢
    rw [h0] at C
    go_enter Tryz.func93, Tryz.ntmps93
    (repeat (first | ((with_reducible show wpSeq _ _ _ _ _ _ _); first | ((with_reducible refine wpSeq_nil ?_); refine hKr.out _ _ ?_; clear hKr Kr) | (((refine St.copy (v := ?_) (by first | exact .inl rfl | exact .inr rfl) rfl rfl ?_ ?_; rotate_left; (focus ((try simp only [Act.eval, getD_lit, qGz, qGs]); with_reducible rfl)))); (try simp only [Act.put, qSa, qSz, qSs]))) | (first | (refine wp_seq_shut (fun K hK => ?_)) | (refine wp_text hM (fun Kr hKr => ?_); simp only [inText]) | ((refine hK.out _ _ ?_); clear hK K))))
    ((refine St.call rfl rfl rfl (by kernel_rfl) (fun R hR => ?_); simp only [List.map_toArray, List.map_cons, List.map_nil, Act.eval, getD_lit, qGz, qGs]))
    refine (C.out _ ⟨hM.part (by repeat (first | exact Part.here | apply Part.skip)), HK.out.prc, HT.out.fit⟩ (hM.holds (wrlE x.b x.P.b x.X.b) (by repeat constructor))).mono ?_
    rintro e w' ⟨rfl, hb⟩; replace hM := hM.below hb; (refine hR.out _ _ (fun _ => ⟨hM.only, nofun⟩) ?_); clear hR R hb; (try simp only [Act.put, qSa, qSz, qSs])
    (repeat (first | ((with_reducible show wpSeq _ _ _ _ _ _ _); first | ((with_reducible refine wpSeq_nil ?_); refine hKr.out _ _ ?_; clear hKr Kr) | ((first | (refine St.copy (v := ?_) (by first | exact .inl rfl | exact .inr rfl) rfl rfl ?_ ?_; rotate_left; (focus ((try simp only [Act.eval, getD_lit, qGz, qGs]); with_reducible rfl))) | (refine St.pure (v := ?_) rfl rfl rfl (fun w => ?_) ?_; rotate_left; (focus (go_simp; all_goals with_reducible rfl)))); (try simp only [Act.put, qSa, qSz, qSs]))) | (first | (refine wp_seq_shut (fun K hK => ?_)) | (refine wp_text hM (fun Kr hKr => ?_); simp only [inText]) | (refine wp_cond_true rfl ?_) | ((refine hK.out _ _ ?_); clear hK K))))
    ((refine wp_ret ?_; (try simp only [Exit.then, Exit.inBlock]); refine St.ret hM rfl (by repeat (first | exact Outs.nil | apply Outs.tmp rfl)) rfl ?_))
    exact ⟨rfl, x, β, γ, rfl, HK.out, hM⟩
  · rw [if_neg h0] at C ⊢
    simp only
    have hkl : (Pc.kill W.p pid).1 = 0 := by unfold Pc.kill; rw [if_neg h0]
    rw [hkl] at CK
    clear hkl h0
    have CE := Lib.hid (fun (w1 : World) (β γ : Int → Nat × Nat) (h : DskAt N x.X β γ W.d w1) => dExit_any h hN hbf)
    generalize Pc.birth W.p.births pid = B at *
    generalize (Pc.kill W.p pid).2 = t' at *
    generalize Ol.exit W.d B = D' at *
    go_enter Tryz.func93, Tryz.ntmps93
    (repeat (first | ((with_reducible show wpSeq _ _ _ _ _ _ _); first | ((with_reducible refine wpSeq_nil ?_); refine hKr.out _ _ ?_; clear hKr Kr) | (((refine St.copy (v := ?_) (by first | exact .inl rfl | exact .inr rfl) rfl rfl ?_ ?_; rotate_left; (focus ((try simp only [Act.eval, getD_lit, qGz, qGs]); with_reducible rfl)))); (try simp only [Act.put, qSa, qSz, qSs]))) | (first | (refine wp_seq_shut (fun K hK => ?_)) | (refine wp_text hM (fun Kr hKr => ?_); simp only [inText]) | ((refine hK.out _ _ ?_); clear hK K))))
    ((refine St.call rfl rfl rfl (by kernel_rfl) (fun R hR => ?_); simp only [List.map_toArray, List.map_cons, List.map_nil, Act.eval, getD_lit, qGz, qGs]))
    refine (C.out _ ⟨hM.part (by repeat (first | exact Part.here | apply Part.skip)), HK.out.prc, HT.out.fit⟩ (hM.holds (wrlE x.b x.P.b x.X.b) (by repeat constructor))).mono ?_
    rintro e w' ⟨rfl, hb⟩; replace hM := hM.below hb; (refine hR.out _ _ (fun _ => ⟨hM.only, nofun⟩) ?_); clear hR R hb; (try simp only [Act.put, qSa, qSz, qSs])
    (repeat (first | ((with_reducible show wpSeq _ _ _ _ _ _ _); first | ((with_reducible refine wpSeq_nil ?_); refine hKr.out _ _ ?_; clear hKr Kr) | ((first | (refine St.copy (v := ?_) (by first | exact .inl rfl | exact .inr rfl) rfl rfl ?_ ?_; rotate_left; (focus ((try simp only [Act.eval, getD_lit, qGz, qGs]); with_reducible rfl))) | (refine St.pure (v := ?_) rfl rfl rfl (fun w => ?_) ?_; rotate_left; (focus (go_simp; all_goals with_reducible rfl))) | refine St.load rfl hM rfl rfl rfl rfl (by repeat constructor) (by rfl) (by kernel_rfl) ?_); (try simp only [Act.put, qSa, qSz, qSs]))) | (first | (refine wp_seq_shut (fun K hK => ?_)) | (refine wp_text hM (fun Kr hKr => ?_); simp only [inText]) | refine wp_skip ?_ | (refine wp_cond_false rfl ?_) | ((refine hK.out _ _ ?_); clear hK K))))
    ((refine St.call rfl rfl rfl (by kernel_rfl) (fun R hR => ?_); simp only [List.map_toArray, List.map_cons, List.map_nil, Act.eval, getD_lit, qGz, qGs]))
    refine (CE.out _ β γ (hM.dsk (by repeat (first | exact Part.all | apply Part.skip | apply Part.past)) HK.out.dsk HT.out.disk HX.out F0)).mono ?_
    rintro e w' ⟨rfl, X', β', γ', hb, hk, hN2⟩
    replace hM := hM.backM (.skip (.past .all)) (dskL_flag _ _ _ _) hN2 (dskL_flag _ _ _ _)
    (refine hR.out _ _ (fun _ => ⟨hM.only, nofun⟩) ?_); clear hR R hN2 CE
    (try simp only [Act.put, qSa, qSz, qSs])
    (repeat (first | ((with_reducible show wpSeq _ _ _ _ _ _ _); first | ((with_reducible refine wpSeq_nil ?_); refine hKr.out _ _ ?_; clear hKr Kr) | ((first | (refine St.copy (v := ?_) (by exact .inl rfl) rfl rfl ?_ ?_; rotate_left; (focus ((try simp only [Act.eval, getD_lit, qGz, qGs]); with_reducible rfl))) | (refine St.pure (v := ?_) rfl rfl rfl (fun w => ?_) ?_; rotate_left; (focus (go_simp; all_goals with_reducible rfl))) | refine St.load rfl hM rfl rfl rfl rfl (by repeat constructor) (by rfl) (by kernel_rfl) ?_); (try simp only [Act.put, qSa, qSz, qSs]))) | (first | (refine wp_seq_shut (fun K hK => ?_)) | (refine wp_text hM (fun Kr hKr => ?_); simp only [inText]) | ((refine hK.out _ _ ?_); clear hK K))))
    ((refine St.call rfl rfl rfl (by kernel_rfl) (fun R hR => ?_); simp only [List.map_toArray, List.map_cons, List.map_nil, Act.eval, getD_lit, qGz, qGs]))
    refine (CK.out _ ⟨hM.part (.skip .here), HK.out.prc, HT.out.fit⟩).mono ?_
    rintro e w' ⟨rfl, P', hb2, hz, hN2⟩
    replace hM := hM.backM (.skip .here) (prcL_flag _ _) hN2 (prcL_flag _ _)
    (refine hR.out _ _ (fun _ => ⟨hM.only, nofun⟩) ?_); clear hR R hN2 CK
    (try simp only [Act.put, qSa, qSz, qSs])
    (repeat (first | ((with_reducible show wpSeq _ _ _ _ _ _ _); first | ((with_reducible refine wpSeq_nil ?_); refine hKr.out _ _ ?_; clear hKr Kr) | (((refine St.copy (v := ?_) (by exact .inr rfl) rfl rfl ?_ ?_; rotate_left; (focus ((try simp only [Act.eval, getD_lit, qGz, qGs]); with_reducible rfl)))); (try simp only [Act.put, qSa, qSz, qSs]))) | (((refine hK.out _ _ ?_); clear hK K))))
    ((refine wp_ret ?_; (try simp only [Exit.then, Exit.inBlock]); refine St.ret hM rfl (by repeat (first | exact Outs.nil | apply Outs.tmp rfl)) rfl ?_))
    refine ⟨rfl, ⟨x.b, P', X'⟩, β', γ', rfl, ⟨hk, hz⟩, ?_⟩
    show St _ F _ (wrlE x.b P'.b X'.b :: _)
    rw [hb2, hb]
    exact hM
end
end Go.Proofs.YtcicjklhbnipcaaGreatDoor
namespace Go.Proofs.YtcicjklhbnipcaaGreatDoor
set_option linter.unusedVariables false
set_option linter.unusedSimpArgs false
open Go.RowKit Go.Maps Go.Shelf
open Go.Sort in
theorem keys_bir (l : List (Int × Int)) : intKeys (heldD (birL l)) = l.map Prod.fst := by
  simp [heldD, birL, intKeys, Go.intOf]
theorem keysN_any (mb : Option Nat) (W : World) : Calls Tryz.prog 155 #[.map mb] W fun e w' => e = .returned (.func (.func 190) #[] #[.pointer (some ⟨W.heap.size, 0, none⟩)]) ∧ w' = W.alloc (.cells #[.map mb] 150) :=
  (callsIn_wide (n := 5)).1 (AnyZI.keys_in Tryz.keysN Fence.wide 5 trivial rfl mb W)
open Go.Sort in
/-- The numbers, in order, in a new slice. -/
theorem sortedN_any {m : Nat} {l : List (Int × Int)} (w : World) (h : MapAt Tryz.prog 3 w m (birL l)) (hl : l.length ≤ 4611686018427) :
    Calls Tryz.prog 72 #[.func (.func 190) #[] #[.pointer (some ⟨w.heap.size, 0, none⟩)]] (w.alloc (.cells #[.map (some m)] 150)) fun e w' => ∃ v : Value, e = .returned v ∧
      w'.ownsRow (w.heap.size + 1) 3 1 v l.length ((l.map Prod.fst).map (Value.int .i64)) ∧ Below w.heap.size w w' := by
  have hbl := MapAt.lt h
  have hsz : Maps.size (heldD (birL l)) = l.length := by rw [size_held]; simp [birL]
  have hown : w.ownsMap Tryz.prog 3 anyElem m (birL l).length (heldD (birL l)) := h
  have hseq : SeqGives Fence.wide 2 Tryz.prog 190 #[.pointer (some ⟨w.heap.size, 0, none⟩)] encZ (fun ss => ss.Perm (intKeys (heldD (birL l)))) (Maps.size (heldD (birL l))) (w.alloc (.cells #[.map (some m)] 150)) :=
    AnyZI.keys_gives (ρ := Tryz.keysN_ren) { Tryz.keysN with } Fence.wide _ trivial rfl (by omega) w.heap.size m _ _ _ (by simp) (by simp) (by
      obtain ⟨es, clock, hb, Ft, hs, hD⟩ := hown
      exact ⟨es, clock, (Below.heap_alloc _ _ m hbl).trans hb, Ft, hs, hD⟩)
  have key := AnyZI.sorted_in Tryz.sortedI Fence.wide 5 trivial trivial trivial trivial rfl (by omega) (sortsI _) (enters_of Tryz.func124 (by kernel_rfl) rfl) 190 #[.pointer (some ⟨w.heap.size, 0, none⟩)] trivial (enters_of Tryz.func190 (by kernel_rfl) rfl) _ _ (by rw [hsz, maxLen_val]; omega) (by rw [hsz]; omega) _ hseq
  refine ((callsIn_wide (n := 5)).1 key).mono fun e w' hx => ?_
  obtain ⟨v, ss, he, hp, hrow, _, hb⟩ := hx
  refine ⟨v, he, ?_, ((Below.refl _ w).alloc (Nat.le_refl _) _).trans (hb.mono (by simp))⟩
  rw [keys_bir] at hp
  have hs : (l.map Prod.fst).Pairwise fun a b => a < b := by
    have := MapAt.sorted h key_int
    unfold birL at this
    rw [List.pairwise_map] at this ⊢
    exact this.imp fun h => by simpa [Lit.before] using h
  have e := sort_ints hp hs
  have hlen : ss.length = l.length := by rw [hp.length_eq]; simp
  rw [show (fun x y : Int => decide (x ≤ y)) = leI from rfl, e, hlen] at hrow
  rw [size_alloc] at hrow
  exact hrow
theorem sortedN_nil (w : World) :
    Calls Tryz.prog 72 #[.func (.func 190) #[] #[.pointer (some ⟨w.heap.size, 0, none⟩)]] (w.alloc (.cells #[.map none] 150)) fun e w' => ∃ v : Value, e = .returned v ∧
      w'.ownsRow (w.heap.size + 1) 3 1 v 0 [] ∧ Below w.heap.size w w' := by
  have hseq : SeqGives Fence.wide 2 Tryz.prog 190 #[.pointer (some ⟨w.heap.size, 0, none⟩)] encZ (fun ss => ss = []) 0 (w.alloc (.cells #[.map none] 150)) :=
    AnyZI.keys_gives_nil (ρ := Tryz.keysN_ren) { Tryz.keysN with } Fence.wide _ trivial rfl w.heap.size _ (by simp) (cell_of_row _ _ _ _ _ _ (heap_alloc_new _ _))
  have key := AnyZI.sorted_in Tryz.sortedI Fence.wide 5 trivial trivial trivial trivial rfl (by omega) (sortsI _) (enters_of Tryz.func124 (by kernel_rfl) rfl) 190 #[.pointer (some ⟨w.heap.size, 0, none⟩)] trivial (enters_of Tryz.func190 (by kernel_rfl) rfl) _ _ (Nat.zero_le _) (by omega) _ hseq
  refine ((callsIn_wide (n := 5)).1 key).mono fun e w' hx => ?_
  obtain ⟨v, ss, he, rfl, hrow, _, hb⟩ := hx
  refine ⟨v, he, ?_, ((Below.refl _ w).alloc (Nat.le_refl _) _).trans (hb.mono (by simp))⟩
  rw [size_alloc] at hrow
  simp only [List.mergeSort_nil, List.map_nil, List.length_nil] at hrow
  exact hrow
section
variable {x : PrcX} {t : PrcD} {w w' w0 : World} {F : List Nat} {L : List Ent}
set_option maxHeartbeats 4000000 in
set_option maxRecDepth 100000 in
theorem pPids_any (h : PrcAt x t w) : Calls Tryz.prog 101 #[.pointer (some ⟨x.b, 0, none⟩)] w (SomeInts (Pc.pids t) w) := by
  have hM := h.at_.ro
  unfold prcL prcE at hM
  simp only [List.map_cons, unflag] at hM
  have HA := Lib.hid h.at_
  have hn := h.none_
  have hf := h.fit.few
  have e1 : t.births.length = (t.births.map Prod.fst).length := by simp
  obtain ⟨b, m⟩ := x
  simp only at hM hn
  clear h
  unfold Pc.pids
  cases m with
  | none =>
    obtain hz : t.births = [] := hn rfl
    rw [hz]
    clear hz hn e1 hf HA
    simp only [prcM, List.map_nil] at hM
    go_enter Tryz.func101, Tryz.ntmps101
    (repeat (first | ((with_reducible show wpSeq _ _ _ _ _ _ _); first | ((with_reducible refine wpSeq_nil ?_); refine hKr.out _ _ ?_; clear hKr Kr) | ((first | (refine St.copy (v := ?_) (by first | exact .inl rfl | exact .inr rfl) rfl rfl ?_ ?_; rotate_left; (focus ((try simp only [Act.eval, getD_lit, qGz, qGs]); with_reducible rfl))) | (refine St.pure (v := ?_) rfl rfl rfl (fun w => ?_) ?_; rotate_left; (focus (go_simp; all_goals with_reducible rfl))) | refine St.load rfl hM rfl rfl rfl rfl (by repeat constructor) (by rfl) (by kernel_rfl) ?_); (try simp only [Act.put, qSa, qSz, qSs]))) | (first | (refine wp_seq_shut (fun K hK => ?_)) | (refine wp_text hM (fun Kr hKr => ?_); simp only [inText]) | refine wp_skip ?_ | (refine wp_cond_false rfl ?_) | ((refine hK.out _ _ ?_); clear hK K))))
    ((refine St.call rfl rfl rfl (by kernel_rfl) (fun R hR => ?_); simp only [List.map_toArray, List.map_cons, List.map_nil, Act.eval, getD_lit, qGz, qGs]))
    refine (keysN_any _ _).mono ?_
    rintro e w' ⟨rfl, rfl⟩
    refine hR.out _ _ (fun h => h.below ((Below.refl _ w).alloc (Nat.le_refl _) _)) ?_; clear hR R; (try simp only [Act.put, qSa, qSz, qSs])
    ((refine St.call rfl rfl rfl (by kernel_rfl) (fun R hR => ?_); simp only [List.map_toArray, List.map_cons, List.map_nil, Act.eval, getD_lit, qGz, qGs]))
    refine (sortedN_nil w).mono ?_
    rintro e w' ⟨v, rfl, hrow, hb⟩
    obtain ⟨s, rfl, hok, hst⟩ := st_of_own hrow hb (Nat.le_succ _)
    replace hM := hM.madeM hst (slL_flag _ _ _ _)
    have HOK := Lib.hid hok
    refine hR.out _ _ (fun h => ⟨hM.only, nofun⟩) ?_; clear hR R hrow hok; (try simp only [Act.put, qSa, qSz, qSs])
    (repeat (first | ((with_reducible show wpSeq _ _ _ _ _ _ _); first | ((with_reducible refine wpSeq_nil ?_); refine hKr.out _ _ ?_; clear hKr Kr) | (((refine St.copy (v := ?_) (by exact .inr rfl) rfl rfl ?_ ?_; rotate_left; (focus ((try simp only [Act.eval, getD_lit, qGz, qGs]); with_reducible rfl)))); (try simp only [Act.put, qSa, qSz, qSs]))) | (((refine hK.out _ _ ?_); clear hK K))))
    ((refine wp_ret ?_; (try simp only [Exit.then, Exit.inBlock]); refine St.ret hM rfl (by repeat (first | exact Outs.nil | apply Outs.tmp rfl)) rfl ?_))
    exact ⟨s, rfl, HOK.out, hst⟩
  | some mb =>
    clear hn
    have HMP := Lib.hid (mapR_at (HA.out.has (mb, true, mapR Tryz.prog 3 (birL t.births)) (by unfold prcL prcM; exact .tail _ (.head _))))
    simp only [prcM, List.map_cons, List.map_nil, unflag] at hM
    go_enter Tryz.func101, Tryz.ntmps101
    (repeat (first | ((with_reducible show wpSeq _ _ _ _ _ _ _); first | ((with_reducible refine wpSeq_nil ?_); refine hKr.out _ _ ?_; clear hKr Kr) | ((first | (refine St.copy (v := ?_) (by first | exact .inl rfl | exact .inr rfl) rfl rfl ?_ ?_; rotate_left; (focus ((try simp only [Act.eval, getD_lit, qGz, qGs]); with_reducible rfl))) | (refine St.pure (v := ?_) rfl rfl rfl (fun w => ?_) ?_; rotate_left; (focus (go_simp; all_goals with_reducible rfl))) | refine St.load rfl hM rfl rfl rfl rfl (by repeat constructor) (by rfl) (by kernel_rfl) ?_); (try simp only [Act.put, qSa, qSz, qSs]))) | (first | (refine wp_seq_shut (fun K hK => ?_)) | (refine wp_text hM (fun Kr hKr => ?_); simp only [inText]) | refine wp_skip ?_ | (refine wp_cond_false rfl ?_) | ((refine hK.out _ _ ?_); clear hK K))))
    ((refine St.call rfl rfl rfl (by kernel_rfl) (fun R hR => ?_); simp only [List.map_toArray, List.map_cons, List.map_nil, Act.eval, getD_lit, qGz, qGs]))
    refine (keysN_any _ _).mono ?_
    rintro e w' ⟨rfl, rfl⟩
    refine hR.out _ _ (fun h => h.below ((Below.refl _ w).alloc (Nat.le_refl _) _)) ?_; clear hR R; (try simp only [Act.put, qSa, qSz, qSs])
    ((refine St.call rfl rfl rfl (by kernel_rfl) (fun R hR => ?_); simp only [List.map_toArray, List.map_cons, List.map_nil, Act.eval, getD_lit, qGz, qGs]))
    refine (sortedN_any w HMP.out (by omega)).mono ?_
    rintro e w' ⟨v, rfl, hrow, hb⟩
    obtain ⟨s, rfl, hok, hst⟩ := st_of_own hrow hb (Nat.le_succ _)
    replace hM := hM.madeM hst (slL_flag _ _ _ _)
    have HOK := Lib.hid hok
    refine hR.out _ _ (fun h => ⟨hM.only, nofun⟩) ?_; clear hR R hrow hok; (try simp only [Act.put, qSa, qSz, qSs])
    (repeat (first | ((with_reducible show wpSeq _ _ _ _ _ _ _); first | ((with_reducible refine wpSeq_nil ?_); refine hKr.out _ _ ?_; clear hKr Kr) | (((refine St.copy (v := ?_) (by exact .inr rfl) rfl rfl ?_ ?_; rotate_left; (focus ((try simp only [Act.eval, getD_lit, qGz, qGs]); with_reducible rfl)))); (try simp only [Act.put, qSa, qSz, qSs]))) | (((refine hK.out _ _ ?_); clear hK K))))
    ((refine wp_ret ?_; (try simp only [Exit.then, Exit.inBlock]); refine St.ret hM rfl (by repeat (first | exact Outs.nil | apply Outs.tmp rfl)) rfl ?_))
    have h2 := HOK.out
    rw [e1] at h2
    refine ⟨s, ?_, h2, hst⟩
    show Ending.returned (slV s t.births.length) = .returned (slV s (t.births.map Prod.fst).length)
    rw [← e1]
theorem cloneN_any {b : Nat} {l : List (Lit × Value)} (h : (mapR Tryz.prog 3 l).holds w.heap[b]?) : Calls Tryz.prog 156 #[.map (some b)] w fun e w' => ∃ c, e = .returned (.map (some c)) ∧ St w [] w' [(c, true, mapR Tryz.prog 3 l)] := by
  have hm := mapR_at h
  have hm0 := hm
  obtain ⟨es, clock, hb, -⟩ := hm0
  refine (AnyW.maps_Clone Tryz.cloneN b es clock w hb).mono ?_
  rintro e w' ⟨rfl, rfl⟩
  exact ⟨_, rfl, st_clone hb hm⟩
set_option maxHeartbeats 4000000 in
set_option maxRecDepth 100000 in
theorem pClone_any (h : PrcAt x t w) : Calls Tryz.prog 102 #[.pointer (some ⟨x.b, 0, none⟩)] w fun e w' => ∃ x', e = .returned (.pointer (some ⟨PrcX.b x', 0, none⟩)) ∧ (x'.m = none → t.births = []) ∧ St w [] w' (prcL x' t) := by
  have hM := h.at_.ro
  unfold prcL prcE at hM
  simp only [List.map_cons, unflag] at hM
  have HA := Lib.hid h.at_
  have hn := h.none_
  obtain ⟨b, m⟩ := x
  simp only at hM hn
  clear h
  cases m with
  | none =>
    simp only [prcM, List.map_nil] at hM
    have HN := Lib.hid (hn rfl)
    clear hn
    go_enter Tryz.func102, Tryz.ntmps102
    (repeat (first | ((with_reducible show wpSeq _ _ _ _ _ _ _); first | ((with_reducible refine wpSeq_nil ?_); refine hKr.out _ _ ?_; clear hKr Kr) | ((first | (refine St.copy (v := ?_) (by first | exact .inl rfl | exact .inr rfl) rfl rfl ?_ ?_; rotate_left; (focus ((try simp only [Act.eval, getD_lit, qGz, qGs]); with_reducible rfl))) | (refine St.pure (v := ?_) rfl rfl rfl (fun w => ?_) ?_; rotate_left; (focus (go_simp; all_goals with_reducible rfl))) | refine St.load1 rfl rfl rfl rfl (by repeat constructor) (by rfl) (by kernel_rfl) ?_); (try simp only [Act.put, qSa, qSz, qSs]))) | (first | (refine wp_seq_shut (fun K hK => ?_)) | (refine wp_text hM (fun Kr hKr => ?_); simp only [inText]) | refine wp_skip ?_ | (refine wp_cond_false rfl ?_) | ((refine hK.out _ _ ?_); clear hK K)) | ((refine wp_drawn (id := 3) hM (Sub.all _) [3, 8] [(0, 0), (1, 0), (2, 0), (3, 1), (5, 0), (6, 0), (7, 0), (8, 1), (4, 2), (9, 2), (10, 2), (11, 3)] (by kernel_rfl) (by kernel_rfl) ?_); (clear hM; intro w hM Kr hKr); simp only [opsOf, qGz, qGs])))
    ((refine St.call rfl rfl rfl (by kernel_rfl) (fun R hR => ?_); simp only [List.map_toArray, List.map_cons, List.map_nil, Act.eval, getD_lit, qGz, qGs]))
    refine (AnyW.maps_Clone_nil Tryz.cloneN _).mono ?_
    rintro e w' ⟨rfl, rfl⟩
    refine hR.out _ _ (fun h => h) ?_; clear hR R; (try simp only [Act.put, qSa, qSz, qSs])
    (repeat (first | ((with_reducible show wpSeq _ _ _ _ _ _ _); first | ((with_reducible refine wpSeq_nil ?_); refine hKr.out _ _ ?_; clear hKr Kr) | ((first | (refine St.copy (v := ?_) (by exact .inr rfl) rfl rfl ?_ ?_; rotate_left; (focus ((try simp only [Act.eval, getD_lit, qGz, qGs]); with_reducible rfl))) | (refine St.pure (v := ?_) rfl rfl rfl (fun w => ?_) ?_; rotate_left; (focus (go_simp; all_goals with_reducible rfl))) | ((((refine St.box rfl hM rfl rfl rfl ?_); clear hM; intro w bk hM)); (try simp only [Res.put, Res.known, Act.eval, Value.cells, getD_lit, qGz, qGs, List.toList_toArray, qSz, qSs, over, Nat.reduceAdd] at hM))); (try simp only [Act.put, qSa, qSz, qSs]))) | (((refine hK.out _ _ ?_); clear hK K))))
    ((refine wp_ret ?_; (try simp only [Exit.then, Exit.inBlock]); refine St.ret hM rfl (by repeat (first | exact Outs.nil | apply Outs.tmp rfl)) rfl ?_))
    exact ⟨⟨bk, none⟩, rfl, fun _ => HN.out, St.front (M := [_]) hM⟩
  | some mb =>
    clear hn
    have HMP := Lib.hid (HA.out.has (mb, true, mapR Tryz.prog 3 (birL t.births)) (by unfold prcL prcM; exact .tail _ (.head _)))
    simp only [prcM, List.map_cons, List.map_nil, unflag] at hM
    go_enter Tryz.func102, Tryz.ntmps102
    (repeat (first | ((with_reducible show wpSeq _ _ _ _ _ _ _); first | ((with_reducible refine wpSeq_nil ?_); refine hKr.out _ _ ?_; clear hKr Kr) | ((first | (refine St.copy (v := ?_) (by first | exact .inl rfl | exact .inr rfl) rfl rfl ?_ ?_; rotate_left; (focus ((try simp only [Act.eval, getD_lit, qGz, qGs]); with_reducible rfl))) | (refine St.pure (v := ?_) rfl rfl rfl (fun w => ?_) ?_; rotate_left; (focus (go_simp; all_goals with_reducible rfl))) | refine St.load1 rfl rfl rfl rfl (by repeat constructor) (by rfl) (by kernel_rfl) ?_); (try simp only [Act.put, qSa, qSz, qSs]))) | (first | (refine wp_seq_shut (fun K hK => ?_)) | (refine wp_text hM (fun Kr hKr => ?_); simp only [inText]) | refine wp_skip ?_ | (refine wp_cond_false rfl ?_) | ((refine hK.out _ _ ?_); clear hK K)) | ((refine wp_drawn (id := 3) hM (Sub.all _) [3, 8] [(0, 0), (1, 0), (2, 0), (3, 1), (5, 0), (6, 0), (7, 0), (8, 1), (4, 2), (9, 2), (10, 2), (11, 3)] (by kernel_rfl) (by kernel_rfl) ?_); (clear hM; intro w hM Kr hKr); simp only [opsOf, qGz, qGs])))
    ((refine St.call rfl rfl rfl (by kernel_rfl) (fun R hR => ?_); simp only [List.map_toArray, List.map_cons, List.map_nil, Act.eval, getD_lit, qGz, qGs]))
    refine (cloneN_any (hM.only.holds HMP.out)).mono ?_
    rintro e w' ⟨c, rfl, hN⟩
    replace hM := hM.madeM hN (flag_1 _ _)
    refine hR.out _ _ (fun h => h.below hN.to_below) ?_; clear hR R hN; (try simp only [Act.put, qSa, qSz, qSs])
    simp only [List.cons_append, List.nil_append] at hM
    (repeat (first | ((with_reducible show wpSeq _ _ _ _ _ _ _); first | ((with_reducible refine wpSeq_nil ?_); refine hKr.out _ _ ?_; clear hKr Kr) | ((first | (refine St.copy (v := ?_) (by exact .inr rfl) rfl rfl ?_ ?_; rotate_left; (focus ((try simp only [Act.eval, getD_lit, qGz, qGs]); with_reducible rfl))) | (refine St.pure (v := ?_) rfl rfl rfl (fun w => ?_) ?_; rotate_left; (focus (go_simp; all_goals with_reducible rfl))) | ((((refine St.box rfl hM rfl rfl rfl ?_); clear hM; intro w bk hM)); (try simp only [Res.put, Res.known, Act.eval, Value.cells, getD_lit, qGz, qGs, List.toList_toArray, qSz, qSs, over, Nat.reduceAdd] at hM))); (try simp only [Act.put, qSa, qSz, qSs]))) | (((refine hK.out _ _ ?_); clear hK K))))
    ((refine wp_ret ?_; (try simp only [Exit.then, Exit.inBlock]); refine St.ret hM rfl (by repeat (first | exact Outs.nil | apply Outs.tmp rfl)) rfl ?_))
    exact ⟨⟨bk, some c⟩, rfl, nofun, St.front (M := [_, _]) hM⟩
end
end Go.Proofs.YtcicjklhbnipcaaGreatDoor
namespace Go.Proofs.YtcicjklhbnipcaaGreatDoor
set_option linter.unusedVariables false
set_option linter.unusedSimpArgs false
open Go.RowKit Go.Maps
section
variable {N : Nat} {x : WrlX} {β γ : Int → Nat × Nat} {W : WrlD} {w w' w0 : World} {F : List Nat} {A L L' M M' R : List Ent} {b p d : Nat} {e : Ent}
/-- Some blocks are written, those ahead of them are read. -/
theorem At.stM (h : At (A ++ M) w) : St w (keysOf M) w (A.map unflag ++ M) := by
  refine ⟨Only.refl _ w, fun z hz => ?_, ?_, fun z hz h1 => ?_⟩
  · rcases List.mem_append.1 hz with hz | hz
    · obtain ⟨y, hy, rfl⟩ := List.mem_map.1 hz
      exact h.has y (List.mem_append_left _ hy)
    · exact h.has z (List.mem_append_right _ hz)
  · have := h.nd
    unfold keysOf at this
    rw [List.map_append] at this ⊢
    rw [List.map_map]
    exact this
  · rcases List.mem_append.1 hz with hz | hz
    · obtain ⟨y, hy, rfl⟩ := List.mem_map.1 hz
      cases h1
    · exact .inl (List.mem_map_of_mem hz)
/-- What was read ahead is there still, behind one block that is known. -/
theorem At.read (h : At (e :: R) w0) (hM : St w0 F w L) (he : e ∈ L) (hF : ∀ k ∈ keysOf R, k ∉ F) : At (e :: R) w := by
  refine ⟨fun z hz => ?_, h.nd⟩
  rcases List.mem_cons.1 hz with rfl | hz
  · exact hM.holds _ he
  · rw [hM.only.block z.1 (h.has.lt (.tail _ hz)) (hF z.1 (List.mem_map_of_mem hz))]
    exact h.has z (.tail _ hz)
set_option maxHeartbeats 8000000 in
set_option maxRecDepth 100000 in
/-- A power failure: what is sure, and what was logged, is just read. -/
theorem wPower_fine {P : PrcX} {t : PrcD} {b db : Nat} {f : Nat} {y : FsX} {γ : Int → Nat × Nat} {D : DskD} {s : Option (Nat × Nat)} {zs : List LogV}
    (hA : At (wrlE b P.b db :: (prcL P t ++ (dskE db f y.f s zs.length :: (logL s (zs.map LogV.val) ++ (fsL y γ D.base ++ zs.flatMap LogV.ents))))) w0)
    (hp : P.m = none → t.births = []) (ht : Pc.Fit t) (hk : SlOK s zs.length (zs.map LogV.val) 1) (hz : zs.map (·.1) = D.log) {K0 : Nat} (hB : Ol.FInv K0 D.base) (hKN : K0 + 3 * D.log.length ≤ 30000) (hok : ∀ l ∈ D.log, Ol.LogOk l) (hX : Mx w0)
    (h0 : 0 ∉ keysOf (wrlE b P.b db :: (prcL P t ++ (dskE db f y.f s zs.length :: (logL s (zs.map LogV.val) ++ (fsL y γ D.base ++ zs.flatMap LogV.ents)))))) (keep : Int) :
    Calls Tryz.prog 92 #[.pointer (some ⟨b, 0, none⟩), .int .i64 keep] w0 fun e w' => e = .returned (.int .i64 0) ∧ ∃ P' x1 β1 x2 β2, PrcX.b P' = P.b ∧ St w0 (keysOf (prcL P t ++ [dskE db f y.f s zs.length])) w' (prcL P' (Pc.killAll t) ++ (dskE db (FsX.f x1) (FsX.f x2) none 0 :: (fsL x1 β1 (Ol.cutFs D keep) ++ fsL x2 β2 (Ol.cutFs D keep)))) := by
  have hR0 : At (dskE db f y.f s zs.length :: (logL s (zs.map LogV.val) ++ (fsL y γ D.base ++ zs.flatMap LogV.ents))) w0 := hA.sub ((List.sublist_append_right _ _).cons _)
  have h00 : 0 ∉ keysOf (dskE db f y.f s zs.length :: (logL s (zs.map LogV.val) ++ (fsL y γ D.base ++ zs.flatMap LogV.ents))) := keys_sub ((List.sublist_append_right _ _).cons _) h0
  have hS1 : ([wrlE b P.b db] ++ (prcL P t ++ [dskE db f y.f s zs.length])).Sublist (wrlE b P.b db :: (prcL P t ++ (dskE db f y.f s zs.length :: (logL s (zs.map LogV.val) ++ (fsL y γ D.base ++ zs.flatMap LogV.ents))))) := ((List.sublist_append_left [dskE db f y.f s zs.length] _).append_left _).cons_cons _
  have hM := (hA.sub hS1).stM
  have hF : ∀ k ∈ keysOf (logL s (zs.map LogV.val) ++ (fsL y γ D.base ++ zs.flatMap LogV.ents)), k ∉ keysOf (prcL P t ++ [dskE db f y.f s zs.length]) := fun k hk hm => by
    have hnd := hA.nd
    unfold keysOf at hnd hm hk
    rw [List.map_cons, List.nodup_cons] at hnd
    have h2 := hnd.2
    rw [List.map_append, List.map_cons, List.nodup_append] at h2
    rw [List.map_append, List.mem_append] at hm
    rcases hm with hm | hm
    · exact h2.2.2 k hm k (.tail _ hk) rfl
    · rw [List.map_singleton, List.mem_singleton] at hm
      rw [hm] at hk
      exact (List.nodup_cons.1 h2.2.1).1 hk
  obtain ⟨F, hFF⟩ : ∃ F, keysOf (prcL P t ++ [dskE db f y.f s zs.length]) = F := ⟨_, rfl⟩
  rw [hFF] at hM hF ⊢
  have F0 : 0 ∉ F := by rw [← hFF]; exact keys_sub ((List.sublist_append_right _ _).trans hS1) h0
  have HR := Lib.hid hR0
  have HF := Lib.hid hF
  have HX := Lib.hid hX
  have H00 := Lib.hid h00
  have C := Lib.hid (fun (w1 : World) (h1 : At (dskE db f y.f s zs.length :: (logL s (zs.map LogV.val) ++ (fsL y γ D.base ++ zs.flatMap LogV.ents))) w1) (hm : Mx w1) => dCut_any h1 hk hz hB hKN hok hm h00 keep)
  have HP := Lib.hid hp
  have HT := Lib.hid ht
  clear hR0 h00 hS1 hF hX hp ht hA h0 hFF hz hB hKN hok
  simp only [List.map_cons, List.map_nil, unflag, List.singleton_append] at hM
  go_enter Tryz.func92, Tryz.ntmps92
  (repeat (first | ((with_reducible show wpSeq _ _ _ _ _ _ _); first | ((with_reducible refine wpSeq_nil ?_); refine hKr.out _ _ ?_; clear hKr Kr) | (((refine St.copy (v := ?_) (by first | exact .inl rfl | exact .inr rfl) rfl rfl ?_ ?_; rotate_left; (focus ((try simp only [Act.eval, getD_lit, qGz, qGs]); with_reducible rfl)))); (try simp only [Act.put, qSa, qSz, qSs]))) | (first | (refine wp_seq_shut (fun K hK => ?_)) | (refine wp_text hM (fun Kr hKr => ?_); simp only [inText]) | ((refine hK.out _ _ ?_); clear hK K))))
  ((refine St.call rfl rfl rfl (by kernel_rfl) (fun R hR => ?_); simp only [List.map_toArray, List.map_cons, List.map_nil, Act.eval, getD_lit, qGz, qGs]))
  refine (wgiven_any (hM.holds (unflag (wrlE b P.b db)) (by repeat constructor))).mono ?_
  rintro e w' ⟨rfl, rfl⟩; refine hR.out _ _ (fun h => h) ?_; clear hR R; (try simp only [Act.put, qSa, qSz, qSs])
  unfold wrlE at hM
  simp only at hM
  (repeat (first | ((with_reducible show wpSeq _ _ _ _ _ _ _); first | ((with_reducible refine wpSeq_nil ?_); refine hKr.out _ _ ?_; clear hKr Kr) | ((first | (refine St.copy (v := ?_) (by exact .inl rfl) rfl rfl ?_ ?_; rotate_left; (focus ((try simp only [Act.eval, getD_lit, qGz, qGs]); with_reducible rfl))) | (refine St.pure (v := ?_) rfl rfl rfl (fun w => ?_) ?_; rotate_left; (focus (go_simp; all_goals with_reducible rfl))) | refine St.load rfl hM rfl rfl rfl rfl (by repeat constructor) (by rfl) (by kernel_rfl) ?_); (try simp only [Act.put, qSa, qSz, qSs]))) | (first | (refine wp_seq_shut (fun K hK => ?_)) | (refine wp_text hM (fun Kr hKr => ?_); simp only [inText]) | refine wp_skip ?_ | (refine wp_cond_false rfl ?_) | ((refine hK.out _ _ ?_); clear hK K))))
  ((refine St.call rfl rfl rfl (by kernel_rfl) (fun R hR => ?_); simp only [List.map_toArray, List.map_cons, List.map_nil, Act.eval, getD_lit, qGz, qGs]))
  refine (pKillAll_any ⟨hM.part (.skip .here), HP.out, HT.out⟩).mono ?_
  rintro e w' ⟨rfl, P', hb2, hz, hN2⟩
  replace hM := hM.backM (.skip .here) (prcL_flag _ _) hN2 (prcL_flag _ _)
  (refine hR.out _ _ (fun _ => ⟨hM.only, nofun⟩) ?_); clear hR R hN2
  (try simp only [Act.put, qSa, qSz, qSs])
  (repeat (first | ((with_reducible show wpSeq _ _ _ _ _ _ _); first | ((with_reducible refine wpSeq_nil ?_); refine hKr.out _ _ ?_; clear hKr Kr) | ((first | (refine St.copy (v := ?_) (by exact .inl rfl) rfl rfl ?_ ?_; rotate_left; (focus ((try simp only [Act.eval, getD_lit, qGz, qGs]); with_reducible rfl))) | (refine St.pure (v := ?_) rfl rfl rfl (fun w => ?_) ?_; rotate_left; (focus (go_simp; all_goals with_reducible rfl))) | refine St.load rfl hM rfl rfl rfl rfl (by repeat constructor) (by rfl) (by kernel_rfl) ?_); (try simp only [Act.put, qSa, qSz, qSs]))) | (first | (refine wp_seq_shut (fun K hK => ?_)) | (refine wp_text hM (fun Kr hKr => ?_); simp only [inText]) | ((refine hK.out _ _ ?_); clear hK K))))
  ((refine St.call rfl rfl rfl (by kernel_rfl) (fun R hR => ?_); simp only [List.map_toArray, List.map_cons, List.map_nil, Act.eval, getD_lit, qGz, qGs]))
  refine (C.out _ (HR.out.read hM (.tail _ (List.mem_append_right _ (.head _))) HF.out) (hM.mx HX.out F0)).mono ?_
  rintro e w' ⟨rfl, x1, β1, x2, β2, hN2⟩
  replace hM := hM.backM (M := [dskE db f y.f s zs.length]) (.skip (.past .all)) (flag_1 _ _) hN2 (fun y hy => by
    rcases List.mem_cons.1 hy with rfl | hy
    · rfl
    · rcases List.mem_append.1 hy with hy | hy
      · exact fsL_flag _ _ _ y hy
      · exact fsL_flag _ _ _ y hy)
  (refine hR.out _ _ (fun _ => ⟨hM.only, nofun⟩) ?_); clear hR R hN2
  (try simp only [Act.put, qSa, qSz, qSs])
  (repeat (first | ((with_reducible show wpSeq _ _ _ _ _ _ _); first | ((with_reducible refine wpSeq_nil ?_); refine hKr.out _ _ ?_; clear hKr Kr) | (((refine St.copy (v := ?_) (by exact .inr rfl) rfl rfl ?_ ?_; rotate_left; (focus ((try simp only [Act.eval, getD_lit, qGz, qGs]); with_reducible rfl)))); (try simp only [Act.put, qSa, qSz, qSs]))) | (((refine hK.out _ _ ?_); clear hK K))))
  ((refine wp_ret ?_; (try simp only [Exit.then, Exit.inBlock]); refine St.ret hM rfl (by repeat (first | exact Outs.nil | apply Outs.tmp rfl)) rfl ?_))
  exact ⟨rfl, P', x1, β1, x2, β2, hb2, hM.forget⟩
theorem perm_pw {α : Type} (a d : α) (p f l g e : List α) : (a :: (p ++ (d :: (f ++ (l ++ (g ++ e)))))).Perm (a :: ((p ++ [d]) ++ (f ++ (l ++ (g ++ e))))) := (perm_by (by intro _ x; simp only [List.append_eq, List.count_append, List.count_cons, List.count_nil, List.cons_append, List.nil_append]; omega))
theorem perm_pw2 {α : Type} (a d : α) (p f g r : List α) : (a :: ((p ++ (d :: (f ++ g))) ++ r)).Perm ((a :: (p ++ (d :: (f ++ ([] ++ (g ++ [])))))) ++ r) := (perm_by (by intro _ x; simp only [List.append_eq, List.count_append, List.count_cons, List.count_nil, List.cons_append, List.nil_append]; omega))
/-- A power failure in a world that is whole. -/
theorem wPower_any (h : WrlAt N x β γ W w) (hN : N ≤ 30000) (keep : Int) : Calls Tryz.prog 92 #[.pointer (some ⟨x.b, 0, none⟩), .int .i64 keep] w fun e w' => e = .returned (.int .i64 0) ∧ WGoes w x β γ W w' (Wd.power W keep) := by
  have hsub : (wrlE x.b x.P.b x.X.b :: (prcL x.P W.p ++ (dskE x.X.b x.X.now.f x.X.sure.f x.X.s x.X.zs.length :: (logL x.X.s (x.X.zs.map LogV.val) ++ (fsL x.X.sure γ W.d.base ++ x.X.zs.flatMap LogV.ents))))).Sublist (wrlL x β γ W) := by
    unfold wrlL dskL
    exact (((List.sublist_append_right _ _).cons_cons _).append_left _).cons_cons _
  obtain ⟨K0, hB, hK⟩ := h.inv.disk.base
  refine (wPower_fine (h.at_.sub hsub) h.ok.prc h.inv.fit h.ok.dsk.sl h.ok.dsk.log hB (by omega) h.inv.disk.ok h.mx (keys_sub hsub h.zero) keep).mono ?_
  rintro e w' ⟨rfl, P', x1, β1, x2, β2, hb, hN2⟩
  have hM := h.at_.st
  unfold WGoes
  obtain ⟨F, hF⟩ : ∃ F, keysOf (wrlL x β γ W) = F := ⟨_, rfl⟩
  rw [hF] at hM ⊢
  unfold wrlL dskL at hM
  replace hM := hM.perm (perm_pw _ _ _ _ _ _ _)
  replace hM := hM.backM (.skip .here) (fun y hy => by
    rcases List.mem_append.1 hy with hy | hy
    · exact prcL_flag _ _ y hy
    · rcases List.mem_singleton.1 hy with rfl; rfl) hN2 (fun y hy => by
    rcases List.mem_append.1 hy with hy | hy
    · exact prcL_flag _ _ y hy
    rcases List.mem_cons.1 hy with rfl | hy
    · rfl
    rcases List.mem_append.1 hy with hy | hy
    · exact fsL_flag _ _ _ y hy
    · exact fsL_flag _ _ _ y hy)
  replace hM := (hM.perm (perm_pw2 _ _ _ _ _ _)).front
  refine ⟨rfl, ⟨x.b, P', ⟨x.X.b, x1, x2, none, []⟩⟩, β1, β2, rfl, ⟨⟨rfl, ⟨rfl, rfl⟩⟩, fun _ => rfl⟩, ?_⟩
  show St w F w' (wrlE x.b P'.b x.X.b :: _)
  rw [hb]
  exact hM
/-- What a world answers, and what it has become. -/
def WDid (w : World) (x : WrlX) (β γ : Int → Nat × Nat) (W : WrlD) (r : ResD × WrlD) (e : Ending) (w' : World) : Prop :=
  ∃ s x' β' γ', e = .returned (.agg #[.int .i64 r.1.err, .int .i64 r.1.n, .string r.1.data, slV s r.1.names.length]) ∧ TxOK s r.1.names ∧ WrlX.b x' = x.b ∧ WrlOk x' r.2 ∧ St w (keysOf (wrlL x β γ W)) w' (txL s r.1.names ++ wrlL x' β' γ' r.2)
theorem perm_wd {α : Type} (a : α) (p t k : List α) : (a :: (p ++ (t ++ k))).Perm (t ++ (a :: (p ++ k))) := (perm_by (by intro _ x; simp only [List.append_eq, List.count_append, List.count_cons, List.count_nil, List.cons_append, List.nil_append]; omega))
set_option maxHeartbeats 8000000 in
set_option maxRecDepth 100000 in
theorem wDo_any (h : WrlAt N x β γ W w) (hN : N ≤ 999999980) {pid : Int} (hp : Fits pid) (op : OpD) (ho : op.Ok) (hop : Fits op.pid) : Calls Tryz.prog 51 #[.pointer (some ⟨x.b, 0, none⟩), .int .i64 pid, .agg op.cells.toArray] w (WDid w x β γ W (Wd.do_ W pid op)) := by
  have hM := h.at_.st
  unfold WDid
  obtain ⟨F, hF⟩ : ∃ F, keysOf (wrlL x β γ W) = F := ⟨_, rfl⟩
  rw [hF] at hM ⊢
  have F0 : 0 ∉ F := hF ▸ h.zero
  have HK := Lib.hid h.ok
  have HT := Lib.hid h.inv
  have HX := Lib.hid h.mx
  have hbf := Wd.birth_fits h.inv hN pid
  clear h hF
  have C := Lib.hid (fun (w1 : World) (h : PrcAt x.P W.p w1) => fun h2 => wBirth_any (b := x.b) (d := x.X.b) h2 h rfl hp)
  unfold Pc.birthE at C
  unfold Wd.do_
  unfold wrlL wrlE at hM
  by_cases h0 : Pc.birth W.p.births pid = 0
  · rw [if_pos h0] at C ⊢
    rw [h0] at C
    obtain ⟨pk, pp, pd, ph, pa, pn, px, py, pb⟩ := op
    simp only [OpD.cells]
    go_enter Tryz.func51, Tryz.ntmps51
    (repeat (first | ((with_reducible show wpSeq _ _ _ _ _ _ _); first | ((with_reducible refine wpSeq_nil ?_); refine hKr.out _ _ ?_; clear hKr Kr) | ((first | (refine St.copy (v := ?_) (by exact .inl rfl) rfl rfl ?_ ?_; rotate_left; (focus ((try simp only [Act.eval, getD_lit, qGz, qGs]); with_reducible rfl))) | ((((refine St.box rfl hM rfl rfl rfl ?_); clear hM; intro w bk hM)); (try simp only [Res.put, Res.known, Act.eval, Value.cells, getD_lit, qGz, qGs, List.toList_toArray, qSz, qSs, over, Nat.reduceAdd] at hM))); (try simp only [Act.put, qSa, qSz, qSs])) | (((refine St.alloc (ty := 31) (z := .agg #[.int .i64 0, .int .i64 0, .string ⟨#[]⟩, .slice none 0 0]) rfl hM rfl rfl (by kernel_rfl) ?_); clear hM; intro w bk hM); (try simp only [Res.put, Res.known, Act.eval, Value.cells, getD_lit, qGz, qGs, List.toList_toArray, qSz, qSs, over, Nat.reduceAdd] at hM); (try simp only [Act.put, qSa, qSz, qSs]))) | (first | (refine wp_seq_shut (fun K hK => ?_)) | (refine wp_text hM (fun Kr hKr => ?_); simp only [inText]) | ((refine hK.out _ _ ?_); clear hK K))))
    ((refine St.call rfl rfl rfl (by kernel_rfl) (fun R hR => ?_); simp only [List.map_toArray, List.map_cons, List.map_nil, Act.eval, getD_lit, qGz, qGs]))
    refine (C.out _ ⟨hM.part (by repeat (first | exact Part.here | apply Part.skip)), HK.out.prc, HT.out.fit⟩ (hM.holds (wrlE x.b x.P.b x.X.b) (by repeat constructor))).mono ?_
    rintro e w' ⟨rfl, hb⟩; replace hM := hM.below hb; (refine hR.out _ _ (fun _ => ⟨hM.only, nofun⟩) ?_); clear hR R hb; (try simp only [Act.put, qSa, qSz, qSs])
    (repeat (first | ((with_reducible show wpSeq _ _ _ _ _ _ _); first | ((with_reducible refine wpSeq_nil ?_); refine hKr.out _ _ ?_; clear hKr Kr) | ((first | (refine St.copy (v := ?_) (by first | exact .inl rfl | exact .inr rfl) rfl rfl ?_ ?_; rotate_left; (focus ((try simp only [Act.eval, getD_lit, qGz, qGs]); with_reducible rfl))) | (refine St.pure (v := ?_) rfl rfl rfl (fun w => ?_) ?_; rotate_left; (focus (go_simp; all_goals with_reducible rfl))) | ((((refine St.storeRow rfl hM rfl rfl rfl rfl rfl (by repeat constructor) (Nat.le_of_ble_eq_true rfl) (Nat.le_of_ble_eq_true rfl) (by kernel_rfl) rfl ?_ ?_); (focus ((intro h; cases h; done))); clear hM; intro w hM)); (try simp only [Res.put, Res.known, Act.eval, Value.cells, getD_lit, qGz, qGs, List.toList_toArray, qSz, qSs, over, Nat.reduceAdd] at hM))); (try simp only [Act.put, qSa, qSz, qSs]))) | (first | (refine wp_seq_shut (fun K hK => ?_)) | (refine wp_text hM (fun Kr hKr => ?_); simp only [inText]) | refine wp_block ?_ | (refine wp_cond_true rfl ?_) | ((refine hK.out _ _ ?_); clear hK K))))
    ((refine wp_ret ?_; (try simp only [Exit.then, Exit.inBlock]); refine St.ret hM rfl (by repeat (first | exact Outs.nil | (apply Outs.row rfl rfl (by repeat constructor) (by kernel_rfl)))) rfl ?_))
    exact ⟨none, x, β, γ, rfl, ⟨rfl, rfl⟩, rfl, HK.out, hM.forget.forget⟩
  · rw [if_neg h0] at C ⊢
    have CE := Lib.hid (fun (w1 : World) (β γ : Int → Nat × Nat) (h : DskAt N x.X β γ W.d w1) => dDo_any h hN hbf op ho)
    have CA := Lib.hid (fun (w1 : World) (h : PrcAt x.P W.p w1) => pAlive_any (c := op.birth) h hop)
    generalize Pc.birth W.p.births pid = B at *
    by_cases h1 : op.kind = 15
    · rw [if_pos h1]
      generalize Pc.alive W.p op.pid op.birth = al at *
      obtain ⟨pk, pp, pd, ph, pa, pn, px, py, pb⟩ := op
      simp only at h1
      subst h1
      simp only [OpD.cells]
      clear CE h0
      cases al with
      | true =>
        go_enter Tryz.func51, Tryz.ntmps51
        (repeat (first | ((with_reducible show wpSeq _ _ _ _ _ _ _); first | ((with_reducible refine wpSeq_nil ?_); refine hKr.out _ _ ?_; clear hKr Kr) | ((first | (refine St.copy (v := ?_) (by exact .inl rfl) rfl rfl ?_ ?_; rotate_left; (focus ((try simp only [Act.eval, getD_lit, qGz, qGs]); with_reducible rfl))) | ((((refine St.box rfl hM rfl rfl rfl ?_); clear hM; intro w bk hM)); (try simp only [Res.put, Res.known, Act.eval, Value.cells, getD_lit, qGz, qGs, List.toList_toArray, qSz, qSs, over, Nat.reduceAdd] at hM))); (try simp only [Act.put, qSa, qSz, qSs])) | (((refine St.alloc (ty := 31) (z := .agg #[.int .i64 0, .int .i64 0, .string ⟨#[]⟩, .slice none 0 0]) rfl hM rfl rfl (by kernel_rfl) ?_); clear hM; intro w bk hM); (try simp only [Res.put, Res.known, Act.eval, Value.cells, getD_lit, qGz, qGs, List.toList_toArray, qSz, qSs, over, Nat.reduceAdd] at hM); (try simp only [Act.put, qSa, qSz, qSs]))) | (first | (refine wp_seq_shut (fun K hK => ?_)) | (refine wp_text hM (fun Kr hKr => ?_); simp only [inText]) | ((refine hK.out _ _ ?_); clear hK K))))
        ((refine St.call rfl rfl rfl (by kernel_rfl) (fun R hR => ?_); simp only [List.map_toArray, List.map_cons, List.map_nil, Act.eval, getD_lit, qGz, qGs]))
        refine (C.out _ ⟨hM.part (by repeat (first | exact Part.here | apply Part.skip)), HK.out.prc, HT.out.fit⟩ (hM.holds (wrlE x.b x.P.b x.X.b) (by repeat constructor))).mono ?_
        rintro e w' ⟨rfl, hb⟩; replace hM := hM.below hb; (refine hR.out _ _ (fun _ => ⟨hM.only, nofun⟩) ?_); clear hR R hb; (try simp only [Act.put, qSa, qSz, qSs])
        (repeat (first | ((with_reducible show wpSeq _ _ _ _ _ _ _); first | ((with_reducible refine wpSeq_nil ?_); refine hKr.out _ _ ?_; clear hKr Kr) | ((first | (refine St.copy (v := ?_) (by first | exact .inl rfl | exact .inr rfl) rfl rfl ?_ ?_; rotate_left; (focus ((try simp only [Act.eval, getD_lit, qGz, qGs]); with_reducible rfl))) | (refine St.pure (v := ?_) rfl rfl rfl (fun w => ?_) ?_; rotate_left; (focus (go_simp; all_goals with_reducible rfl))) | refine St.load rfl hM rfl rfl rfl rfl (by repeat constructor) (by rfl) (by kernel_rfl) ?_ | refine St.load1 rfl rfl rfl rfl (by repeat constructor) (by rfl) (by kernel_rfl) ?_); (try simp only [Act.put, qSa, qSz, qSs]))) | (first | (refine wp_seq_shut (fun K hK => ?_)) | (refine wp_text hM (fun Kr hKr => ?_); simp only [inText]) | refine wp_block ?_ | (refine wp_cond_false rfl ?_) | ((refine hK.out _ _ ?_); clear hK K)) | ((refine wp_drawn (id := 6) hM (Sub.all _) [3, 5] [(0, 0), (1, 0), (2, 0), (3, 1), (4, 0), (5, 1), (6, 2), (7, 2), (8, 3), (9, 2)] (by kernel_rfl) (by kernel_rfl) ?_); (clear hM; intro w hM Kr hKr); simp only [opsOf, qGz, qGs])))
        ((refine St.call rfl rfl rfl (by kernel_rfl) (fun R hR => ?_); simp only [List.map_toArray, List.map_cons, List.map_nil, Act.eval, getD_lit, qGz, qGs]))
        refine (CA.out _ ⟨hM.part (by repeat (first | exact Part.here | apply Part.skip)), HK.out.prc, HT.out.fit⟩).mono ?_
        (rintro e w' ⟨rfl, hb⟩; refine hR.out _ _ (fun h => h.below hb) ?_; clear hR R; replace hM := hM.below hb; clear hb; (try simp only [Act.put, qSa, qSz, qSs]))
        (repeat (first | ((with_reducible show wpSeq _ _ _ _ _ _ _); first | ((with_reducible refine wpSeq_nil ?_); refine hKr.out _ _ ?_; clear hKr Kr) | ((first | (refine St.copy (v := ?_) (by exact .inr rfl) rfl rfl ?_ ?_; rotate_left; (focus ((try simp only [Act.eval, getD_lit, qGz, qGs]); with_reducible rfl))) | (refine St.pure (v := ?_) rfl rfl rfl (fun w => ?_) ?_; rotate_left; (focus (go_simp; all_goals with_reducible rfl))) | ((((refine St.storeRow rfl hM rfl rfl rfl rfl rfl (by repeat constructor) (Nat.le_of_ble_eq_true rfl) (Nat.le_of_ble_eq_true rfl) (by kernel_rfl) rfl ?_ ?_); (focus ((intro h; cases h; done))); clear hM; intro w hM)); (try simp only [Res.put, Res.known, Act.eval, Value.cells, getD_lit, qGz, qGs, List.toList_toArray, qSz, qSs, over, Nat.reduceAdd] at hM))); (try simp only [Act.put, qSa, qSz, qSs]))) | (first | (refine wp_seq_shut (fun K hK => ?_)) | (refine wp_text hM (fun Kr hKr => ?_); simp only [inText]) | (refine wp_cond_true rfl ?_) | ((refine hK.out _ _ ?_); clear hK K))))
        ((refine wp_ret ?_; (try simp only [Exit.then, Exit.inBlock]); refine St.ret hM rfl (by repeat (first | exact Outs.nil | (apply Outs.row rfl rfl (by repeat constructor) (by kernel_rfl)))) rfl ?_))
        exact ⟨none, x, β, γ, rfl, ⟨rfl, rfl⟩, rfl, HK.out, hM.forget.forget⟩
      | false =>
        go_enter Tryz.func51, Tryz.ntmps51
        (repeat (first | ((with_reducible show wpSeq _ _ _ _ _ _ _); first | ((with_reducible refine wpSeq_nil ?_); refine hKr.out _ _ ?_; clear hKr Kr) | ((first | (refine St.copy (v := ?_) (by exact .inl rfl) rfl rfl ?_ ?_; rotate_left; (focus ((try simp only [Act.eval, getD_lit, qGz, qGs]); with_reducible rfl))) | ((((refine St.box rfl hM rfl rfl rfl ?_); clear hM; intro w bk hM)); (try simp only [Res.put, Res.known, Act.eval, Value.cells, getD_lit, qGz, qGs, List.toList_toArray, qSz, qSs, over, Nat.reduceAdd] at hM))); (try simp only [Act.put, qSa, qSz, qSs])) | (((refine St.alloc (ty := 31) (z := .agg #[.int .i64 0, .int .i64 0, .string ⟨#[]⟩, .slice none 0 0]) rfl hM rfl rfl (by kernel_rfl) ?_); clear hM; intro w bk hM); (try simp only [Res.put, Res.known, Act.eval, Value.cells, getD_lit, qGz, qGs, List.toList_toArray, qSz, qSs, over, Nat.reduceAdd] at hM); (try simp only [Act.put, qSa, qSz, qSs]))) | (first | (refine wp_seq_shut (fun K hK => ?_)) | (refine wp_text hM (fun Kr hKr => ?_); simp only [inText]) | ((refine hK.out _ _ ?_); clear hK K))))
        ((refine St.call rfl rfl rfl (by kernel_rfl) (fun R hR => ?_); simp only [List.map_toArray, List.map_cons, List.map_nil, Act.eval, getD_lit, qGz, qGs]))
        refine (C.out _ ⟨hM.part (by repeat (first | exact Part.here | apply Part.skip)), HK.out.prc, HT.out.fit⟩ (hM.holds (wrlE x.b x.P.b x.X.b) (by repeat constructor))).mono ?_
        rintro e w' ⟨rfl, hb⟩; replace hM := hM.below hb; (refine hR.out _ _ (fun _ => ⟨hM.only, nofun⟩) ?_); clear hR R hb; (try simp only [Act.put, qSa, qSz, qSs])
        (repeat (first | ((with_reducible show wpSeq _ _ _ _ _ _ _); first | ((with_reducible refine wpSeq_nil ?_); refine hKr.out _ _ ?_; clear hKr Kr) | ((first | (refine St.copy (v := ?_) (by first | exact .inl rfl | exact .inr rfl) rfl rfl ?_ ?_; rotate_left; (focus ((try simp only [Act.eval, getD_lit, qGz, qGs]); with_reducible rfl))) | (refine St.pure (v := ?_) rfl rfl rfl (fun w => ?_) ?_; rotate_left; (focus (go_simp; all_goals with_reducible rfl))) | refine St.load rfl hM rfl rfl rfl rfl (by repeat constructor) (by rfl) (by kernel_rfl) ?_ | refine St.load1 rfl rfl rfl rfl (by repeat constructor) (by rfl) (by kernel_rfl) ?_); (try simp only [Act.put, qSa, qSz, qSs]))) | (first | (refine wp_seq_shut (fun K hK => ?_)) | (refine wp_text hM (fun Kr hKr => ?_); simp only [inText]) | refine wp_block ?_ | (refine wp_cond_false rfl ?_) | ((refine hK.out _ _ ?_); clear hK K)) | ((refine wp_drawn (id := 6) hM (Sub.all _) [3, 5] [(0, 0), (1, 0), (2, 0), (3, 1), (4, 0), (5, 1), (6, 2), (7, 2), (8, 3), (9, 2)] (by kernel_rfl) (by kernel_rfl) ?_); (clear hM; intro w hM Kr hKr); simp only [opsOf, qGz, qGs])))
        ((refine St.call rfl rfl rfl (by kernel_rfl) (fun R hR => ?_); simp only [List.map_toArray, List.map_cons, List.map_nil, Act.eval, getD_lit, qGz, qGs]))
        refine (CA.out _ ⟨hM.part (by repeat (first | exact Part.here | apply Part.skip)), HK.out.prc, HT.out.fit⟩).mono ?_
        (rintro e w' ⟨rfl, hb⟩; refine hR.out _ _ (fun h => h.below hb) ?_; clear hR R; replace hM := hM.below hb; clear hb; (try simp only [Act.put, qSa, qSz, qSs]))
        (repeat (first | ((with_reducible show wpSeq _ _ _ _ _ _ _); first | ((with_reducible refine wpSeq_nil ?_); refine hKr.out _ _ ?_; clear hKr Kr) | ((first | (refine St.copy (v := ?_) (by exact .inr rfl) rfl rfl ?_ ?_; rotate_left; (focus ((try simp only [Act.eval, getD_lit, qGz, qGs]); with_reducible rfl))) | (refine St.pure (v := ?_) rfl rfl rfl (fun w => ?_) ?_; rotate_left; (focus (go_simp; all_goals with_reducible rfl))) | ((((refine St.storeRow rfl hM rfl rfl rfl rfl rfl (by repeat constructor) (Nat.le_of_ble_eq_true rfl) (Nat.le_of_ble_eq_true rfl) (by kernel_rfl) rfl ?_ ?_); (focus ((intro h; cases h; done))); clear hM; intro w hM)); (try simp only [Res.put, Res.known, Act.eval, Value.cells, getD_lit, qGz, qGs, List.toList_toArray, qSz, qSs, over, Nat.reduceAdd] at hM))); (try simp only [Act.put, qSa, qSz, qSs]))) | (first | (refine wp_seq_shut (fun K hK => ?_)) | (refine wp_text hM (fun Kr hKr => ?_); simp only [inText]) | refine wp_skip ?_ | (refine wp_cond_false rfl ?_) | ((refine hK.out _ _ ?_); clear hK K))))
        ((refine wp_ret ?_; (try simp only [Exit.then, Exit.inBlock]); refine St.ret hM rfl (by repeat (first | exact Outs.nil | (apply Outs.row rfl rfl (by repeat constructor) (by kernel_rfl)))) rfl ?_))
        exact ⟨none, x, β, γ, rfl, ⟨rfl, rfl⟩, rfl, HK.out, hM.forget.forget⟩
    · rw [if_neg h1]
      have hq : (op.kind != 15) = true := bne_iff_ne.2 h1
      simp only
      obtain ⟨r, hr⟩ : ∃ r, Ol.do_ W.d B op = r := ⟨_, rfl⟩
      rw [hr] at CE ⊢
      clear CA h0 h1 hr
      obtain ⟨pk, pp, pd, ph, pa, pn, px, py, pb⟩ := op
      simp only [OpD.cells] at hq CE ⊢
      go_enter Tryz.func51, Tryz.ntmps51
      (repeat (first | ((with_reducible show wpSeq _ _ _ _ _ _ _); first | ((with_reducible refine wpSeq_nil ?_); refine hKr.out _ _ ?_; clear hKr Kr) | ((first | (refine St.copy (v := ?_) (by exact .inl rfl) rfl rfl ?_ ?_; rotate_left; (focus ((try simp only [Act.eval, getD_lit, qGz, qGs]); with_reducible rfl))) | ((((refine St.box rfl hM rfl rfl rfl ?_); clear hM; intro w bk hM)); (try simp only [Res.put, Res.known, Act.eval, Value.cells, getD_lit, qGz, qGs, List.toList_toArray, qSz, qSs, over, Nat.reduceAdd] at hM))); (try simp only [Act.put, qSa, qSz, qSs])) | (((refine St.alloc (ty := 31) (z := .agg #[.int .i64 0, .int .i64 0, .string ⟨#[]⟩, .slice none 0 0]) rfl hM rfl rfl (by kernel_rfl) ?_); clear hM; intro w bk hM); (try simp only [Res.put, Res.known, Act.eval, Value.cells, getD_lit, qGz, qGs, List.toList_toArray, qSz, qSs, over, Nat.reduceAdd] at hM); (try simp only [Act.put, qSa, qSz, qSs]))) | (first | (refine wp_seq_shut (fun K hK => ?_)) | (refine wp_text hM (fun Kr hKr => ?_); simp only [inText]) | ((refine hK.out _ _ ?_); clear hK K))))
      ((refine St.call rfl rfl rfl (by kernel_rfl) (fun R hR => ?_); simp only [List.map_toArray, List.map_cons, List.map_nil, Act.eval, getD_lit, qGz, qGs]))
      refine (C.out _ ⟨hM.part (by repeat (first | exact Part.here | apply Part.skip)), HK.out.prc, HT.out.fit⟩ (hM.holds (wrlE x.b x.P.b x.X.b) (by repeat constructor))).mono ?_
      rintro e w' ⟨rfl, hb⟩; replace hM := hM.below hb; (refine hR.out _ _ (fun _ => ⟨hM.only, nofun⟩) ?_); clear hR R hb; (try simp only [Act.put, qSa, qSz, qSs])
      (repeat (first | ((with_reducible show wpSeq _ _ _ _ _ _ _); first | ((with_reducible refine wpSeq_nil ?_); refine hKr.out _ _ ?_; clear hKr Kr) | ((first | (refine St.copy (v := ?_) (by first | exact .inl rfl | exact .inr rfl) rfl rfl ?_ ?_; rotate_left; (focus ((try simp only [Act.eval, getD_lit, qGz, qGs]); with_reducible rfl))) | (refine St.pure (v := ?_) rfl rfl rfl (fun w => ?_) ?_; rotate_left; (focus (go_simp; all_goals with_reducible rfl))) | refine St.load rfl hM rfl rfl rfl rfl (by repeat constructor) (by rfl) (by kernel_rfl) ?_ | refine St.load1 rfl rfl rfl rfl (by repeat constructor) (by rfl) (by kernel_rfl) ?_ | ((refine St.loadRow rfl hM rfl rfl rfl rfl (by repeat constructor) (Nat.le_of_ble_eq_true rfl) (by kernel_rfl) ?_); (try simp only [Res.known, List.drop_succ_cons, List.drop_zero, List.take_succ_cons, List.take_zero]))); (try simp only [Act.put, qSa, qSz, qSs]))) | (first | (refine wp_seq_shut (fun K hK => ?_)) | (refine wp_text hM (fun Kr hKr => ?_); simp only [inText]) | refine wp_block ?_ | (first | refine wp_cond_true rfl ?_ | refine wp_cond_false rfl ?_) | ((refine hK.out _ _ ?_); clear hK K)) | ((refine wp_drawn (id := 5) hM (Sub.skip (Sub.take (Sub.take Sub.nil))) [3] [(0, 0), (1, 0), (2, 0), (3, 1), (4, 0), (5, 2), (6, 3), (7, 3)] (by kernel_rfl) (by kernel_rfl) ?_); (clear hM; intro w hM Kr hKr); simp only [opsOf, qGz, qGs])))
      ((refine St.call rfl rfl rfl (by kernel_rfl) (fun R hR => ?_); simp only [List.map_toArray, List.map_cons, List.map_nil, Act.eval, getD_lit, qGz, qGs]))
      refine (CE.out _ β γ (hM.dsk (by repeat (first | exact Part.all | apply Part.skip | apply Part.past)) HK.out.dsk HT.out.disk HX.out F0)).mono ?_
      rintro e w' ⟨s, X', β', γ', rfl, hs, hb, hk, hN2⟩
      replace hM := hM.backM (.skip (.skip (.skip (.past .all)))) (dskL_flag _ _ _ _) hN2 (fun y hy => (List.mem_append.1 hy).elim (txL_flag _ _ y) (dskL_flag _ _ _ _ y))
      refine hR.out _ _ (fun _ => hM.held (fun z hz => by
        simp only [List.mem_cons, List.not_mem_nil, or_false] at hz
        rcases hz with rfl | rfl
        · exact .tail _ (.head _)
        · exact .tail _ (.tail _ (.head _)))) ?_; clear hR R hN2 CE
      obtain ⟨va, vc, hv, -⟩ := slV_open hs
      have HS := Lib.hid hs
      clear hs
      rw [hv]
      (try simp only [Act.put, qSa, qSz, qSs])
      (repeat (first | ((with_reducible show wpSeq _ _ _ _ _ _ _); first | ((with_reducible refine wpSeq_nil ?_); refine hKr.out _ _ ?_; clear hKr Kr) | ((((((refine St.storeRow rfl hM rfl rfl rfl rfl rfl (by repeat constructor) (Nat.le_of_ble_eq_true rfl) (Nat.le_of_ble_eq_true rfl) (by kernel_rfl) rfl ?_ ?_); (focus ((intro h; cases h; done))); clear hM; intro w hM)); (try simp only [Res.put, Res.known, Act.eval, Value.cells, getD_lit, qGz, qGs, List.toList_toArray, qSz, qSs, over, Nat.reduceAdd] at hM))); (try simp only [Act.put, qSa, qSz, qSs]))) | (((refine hK.out _ _ ?_); clear hK K))))
      ((refine wp_ret ?_; (try simp only [Exit.then, Exit.inBlock]); refine St.ret hM rfl (by repeat (first | exact Outs.nil | (apply Outs.row rfl rfl (by repeat constructor) (by kernel_rfl)))) rfl ?_))
      refine ⟨s, ⟨x.b, x.P, X'⟩, β', γ', by rw [hv]; rfl, HS.out, rfl, ⟨hk, HK.out.prc⟩, ?_⟩
      have hM2 := hM.forget.forget.perm (perm_wd _ _ _ _)
      show St _ F _ (_ ++ (wrlE x.b x.P.b X'.b :: _))
      rw [hb]
      exact hM2
/-- Do, where the answer lists no names: the world alone comes back. -/
theorem wDo_bare (h : WrlAt N x β γ W w) (hN : N ≤ 999999980) {pid : Int} (hp : Fits pid) (op : OpD) (ho : op.Ok) (hop : Fits op.pid) {er n : Int} {da : ByteArray} {W' : WrlD} (hd : Wd.do_ W pid op = (⟨er, n, da, []⟩, W')) :
    Calls Tryz.prog 51 #[.pointer (some ⟨x.b, 0, none⟩), .int .i64 pid, .agg op.cells.toArray] w fun e w' => (∃ a c, e = .returned (.agg #[.int .i64 er, .int .i64 n, .string da, .slice a 0 c])) ∧ WGoes w x β γ W w' W' := by
  refine (wDo_any h hN hp op ho hop).mono ?_
  rintro e w' ⟨s, x', β', γ', rfl, hs, hb, hok, hM⟩
  rw [hd] at hM hok ⊢
  refine ⟨?_, x', β', γ', hb, hok, hM.subM (List.sublist_append_right _ _)⟩
  rcases s with _ | ⟨g, c⟩ <;> exact ⟨_, _, rfl⟩
set_option maxHeartbeats 4000000 in
set_option maxRecDepth 100000 in
theorem wPids_any (h : (wrlE b p d).2.2.holds w.heap[b]?) {P : PrcX} {t : PrcD} (hP : PrcAt P t w) (hp : P.b = p) : Calls Tryz.prog 57 #[.pointer (some ⟨b, 0, none⟩)] w (SomeInts (Pc.pids t) w) := by
  have hM := St.one h
  have HW := Lib.hid h
  have HP := Lib.hid hP
  subst hp
  clear h hP
  unfold wrlE at hM
  go_enter Tryz.func57, Tryz.ntmps57
  (repeat (first | ((with_reducible show wpSeq _ _ _ _ _ _ _); first | ((with_reducible refine wpSeq_nil ?_); refine hKr.out _ _ ?_; clear hKr Kr) | (((refine St.copy (v := ?_) (by first | exact .inl rfl | exact .inr rfl) rfl rfl ?_ ?_; rotate_left; (focus ((try simp only [Act.eval, getD_lit, qGz, qGs]); with_reducible rfl)))); (try simp only [Act.put, qSa, qSz, qSs]))) | (first | (refine wp_seq_shut (fun K hK => ?_)) | (refine wp_text hM (fun Kr hKr => ?_); simp only [inText]) | ((refine hK.out _ _ ?_); clear hK K))))
  ((refine St.call rfl rfl rfl (by kernel_rfl) (fun R hR => ?_); simp only [List.map_toArray, List.map_cons, List.map_nil, Act.eval, getD_lit, qGz, qGs]))
  refine (wgiven_any (hM.only.holds HW.out)).mono ?_
  rintro e w' ⟨rfl, rfl⟩; refine hR.out _ _ (fun h => h) ?_; clear hR R; (try simp only [Act.put, qSa, qSz, qSs])
  (repeat (first | ((with_reducible show wpSeq _ _ _ _ _ _ _); first | ((with_reducible refine wpSeq_nil ?_); refine hKr.out _ _ ?_; clear hKr Kr) | ((first | (refine St.copy (v := ?_) (by exact .inl rfl) rfl rfl ?_ ?_; rotate_left; (focus ((try simp only [Act.eval, getD_lit, qGz, qGs]); with_reducible rfl))) | (refine St.pure (v := ?_) rfl rfl rfl (fun w => ?_) ?_; rotate_left; (focus (go_simp; all_goals with_reducible rfl))) | refine St.load rfl hM rfl rfl rfl rfl (by repeat constructor) (by rfl) (by kernel_rfl) ?_); (try simp only [Act.put, qSa, qSz, qSs]))) | (first | (refine wp_seq_shut (fun K hK => ?_)) | (refine wp_text hM (fun Kr hKr => ?_); simp only [inText]) | refine wp_skip ?_ | (refine wp_cond_false rfl ?_) | ((refine hK.out _ _ ?_); clear hK K))))
  ((refine St.call rfl rfl rfl (by kernel_rfl) (fun R hR => ?_); simp only [List.map_toArray, List.map_cons, List.map_nil, Act.eval, getD_lit, qGz, qGs]))
  refine (pPids_any (HP.out.below hM.to_below)).mono ?_
  rintro e w' ⟨s1, rfl, hk, hN2⟩
  replace hM := hM.madeM hN2 (slL_flag _ _ _ _)
  refine hR.out _ _ (fun h => ⟨hM.only, nofun⟩) ?_; clear hR R hN2; (try simp only [Act.put, qSa, qSz, qSs])
  (repeat (first | ((with_reducible show wpSeq _ _ _ _ _ _ _); first | ((with_reducible refine wpSeq_nil ?_); refine hKr.out _ _ ?_; clear hKr Kr) | (((refine St.copy (v := ?_) (by exact .inr rfl) rfl rfl ?_ ?_; rotate_left; (focus ((try simp only [Act.eval, getD_lit, qGz, qGs]); with_reducible rfl)))); (try simp only [Act.put, qSa, qSz, qSs]))) | (((refine hK.out _ _ ?_); clear hK K))))
  ((refine wp_ret ?_; (try simp only [Exit.then, Exit.inBlock]); refine St.ret hM rfl (by repeat (first | exact Outs.nil | apply Outs.tmp rfl)) rfl ?_))
  exact ⟨s1, rfl, hk, St.front hM⟩
theorem perm_wc {α : Type} (n c : α) (f l p r : List α) : (n :: ((c :: (f ++ l)) ++ (p ++ r))).Perm ((n :: (p ++ (c :: (f ++ l)))) ++ r) := (perm_by (by intro _ x; simp only [List.append_eq, List.count_append, List.count_cons, List.count_nil, List.cons_append, List.nil_append]; omega))
set_option maxHeartbeats 8000000 in
set_option maxRecDepth 100000 in
/-- A world of its own with the same, what is sure shared. -/
theorem wClone_any (h : WrlAt N x β γ W w) (hN : N ≤ 1000000) : Calls Tryz.prog 59 #[.pointer (some ⟨x.b, 0, none⟩)] w fun e w' => ∃ b' P' c y δ s', e = .returned (.pointer (some ⟨b', 0, none⟩)) ∧ (PrcX.m P' = none → W.p.births = []) ∧ SlOK s' x.X.zs.length (x.X.zs.map LogV.val) 1 ∧
    St w [] w' (wrlE b' P'.b c :: (prcL P' W.p ++ (dskE c (FsX.f y) x.X.sure.f s' x.X.zs.length :: (fsL y δ W.d.now ++ logL s' (x.X.zs.map LogV.val))))) := by
  have hM := St.one h.row
  have HW := Lib.hid h
  have hlz : x.X.zs.length ≤ 1000000000 := by
    obtain ⟨K, -, h2⟩ := h.inv.disk.base
    have := congrArg List.length h.ok.dsk.log
    rw [List.length_map] at this
    omega
  unfold wrlE at hM
  go_enter Tryz.func59, Tryz.ntmps59
  (repeat (first | ((with_reducible show wpSeq _ _ _ _ _ _ _); first | ((with_reducible refine wpSeq_nil ?_); refine hKr.out _ _ ?_; clear hKr Kr) | (((refine St.copy (v := ?_) (by first | exact .inl rfl | exact .inr rfl) rfl rfl ?_ ?_; rotate_left; (focus ((try simp only [Act.eval, getD_lit, qGz, qGs]); with_reducible rfl)))); (try simp only [Act.put, qSa, qSz, qSs]))) | (first | (refine wp_seq_shut (fun K hK => ?_)) | (refine wp_text hM (fun Kr hKr => ?_); simp only [inText]) | ((refine hK.out _ _ ?_); clear hK K))))
  ((refine St.call rfl rfl rfl (by kernel_rfl) (fun R hR => ?_); simp only [List.map_toArray, List.map_cons, List.map_nil, Act.eval, getD_lit, qGz, qGs]))
  refine (wgiven_any (hM.only.holds HW.out.row)).mono ?_
  rintro e w' ⟨rfl, rfl⟩; refine hR.out _ _ (fun h => h) ?_; clear hR R; (try simp only [Act.put, qSa, qSz, qSs])
  (repeat (first | ((with_reducible show wpSeq _ _ _ _ _ _ _); first | ((with_reducible refine wpSeq_nil ?_); refine hKr.out _ _ ?_; clear hKr Kr) | ((first | (refine St.copy (v := ?_) (by exact .inl rfl) rfl rfl ?_ ?_; rotate_left; (focus ((try simp only [Act.eval, getD_lit, qGz, qGs]); with_reducible rfl))) | (refine St.pure (v := ?_) rfl rfl rfl (fun w => ?_) ?_; rotate_left; (focus (go_simp; all_goals with_reducible rfl))) | refine St.load1 rfl rfl rfl rfl (by repeat constructor) (by rfl) (by kernel_rfl) ?_); (try simp only [Act.put, qSa, qSz, qSs]))) | (first | (refine wp_seq_shut (fun K hK => ?_)) | refine wp_skip ?_ | (refine wp_cond_false rfl ?_) | ((refine hK.out _ _ ?_); clear hK K)) | ((refine wp_drawn (id := 3) hM (Sub.all _) [3, 8] [(0, 0), (1, 0), (2, 0), (3, 1), (5, 0), (6, 0), (7, 0), (8, 1), (4, 2), (9, 2), (10, 2), (11, 2), (12, 3)] (by kernel_rfl) (by kernel_rfl) ?_); (clear hM; intro w hM Kr hKr); simp only [opsOf, qGz, qGs])))
  ((refine St.call rfl rfl rfl (by kernel_rfl) (fun R hR => ?_); simp only [List.map_toArray, List.map_cons, List.map_nil, Act.eval, getD_lit, qGz, qGs]))
  refine (pClone_any (HW.out.below hM.to_below).prc).mono ?_
  rintro e w' ⟨P', rfl, hz, hN2⟩
  replace hM := hM.madeM hN2 (prcL_flag _ _)
  refine hR.out _ _ (fun h => h.below hN2.to_below) ?_; clear hR R hN2; (try simp only [Act.put, qSa, qSz, qSs])
  (repeat (fail))
  ((refine St.call rfl rfl rfl (by kernel_rfl) (fun R hR => ?_); simp only [List.map_toArray, List.map_cons, List.map_nil, Act.eval, getD_lit, qGz, qGs]))
  have HD := (HW.out.below hM.to_below).dsk
  refine (dClone_any HD.ok.sl (val_one _) hlz (by omega) HD.row HD.now (HD.at_.sub log_sub)).mono ?_
  rintro e w' ⟨c, y, δ, s', rfl, hk, hN2⟩
  replace hM := hM.madeM hN2 (fun z hz => by
    rcases List.mem_cons.1 hz with rfl | hz
    · rfl
    · rcases List.mem_append.1 hz with hz | hz
      · exact fsL_flag _ _ _ z hz
      · exact slL_flag _ _ _ _ z hz)
  refine hR.out _ _ (fun h => h.below hN2.to_below) ?_; clear hR R hN2; (try simp only [Act.put, qSa, qSz, qSs])
  (repeat (first | ((with_reducible show wpSeq _ _ _ _ _ _ _); first | ((with_reducible refine wpSeq_nil ?_); refine hKr.out _ _ ?_; clear hKr Kr) | ((first | (refine St.copy (v := ?_) (by exact .inr rfl) rfl rfl ?_ ?_; rotate_left; (focus ((try simp only [Act.eval, getD_lit, qGz, qGs]); with_reducible rfl))) | (refine St.pure (v := ?_) rfl rfl rfl (fun w => ?_) ?_; rotate_left; (focus (go_simp; all_goals with_reducible rfl))) | ((((refine St.box rfl hM rfl rfl rfl ?_); clear hM; intro w bk hM)); (try simp only [Res.put, Res.known, Act.eval, Value.cells, getD_lit, qGz, qGs, List.toList_toArray, qSz, qSs, over, Nat.reduceAdd] at hM))); (try simp only [Act.put, qSa, qSz, qSs]))) | (((refine hK.out _ _ ?_); clear hK K))))
  ((refine wp_ret ?_; (try simp only [Exit.then, Exit.inBlock]); refine St.ret hM rfl (by repeat (first | exact Outs.nil | apply Outs.tmp rfl)) rfl ?_))
  exact ⟨bk, P', c, y, δ, s', rfl, hz, hk, (hM.perm (perm_wc _ _ _ _ _ _)).front⟩
end
end Go.Proofs.YtcicjklhbnipcaaGreatDoor
namespace Go.Proofs.YtcicjklhbnipcaaGreatDoor
set_option linter.unusedVariables false
set_option linter.unusedSimpArgs false
open Go.ChangeShapes Go.WideShapes Go.RowKit

theorem len12 {cs : List Value} (h : cs.length = 12) : ∃ c0 c1 c2 c3 c4 c5 c6 c7 c8 c9 c10 c11, cs = [c0, c1, c2, c3, c4, c5, c6, c7, c8, c9, c10, c11] := by
  match cs, h with
  | [c0, c1, c2, c3, c4, c5, c6, c7, c8, c9, c10, c11], _ => exact ⟨c0, c1, c2, c3, c4, c5, c6, c7, c8, c9, c10, c11, rfl⟩
structure ActV where
  kind : Int
  pid : Int
  keep : Int
  op : OpD
def ActV.cells (a : ActV) : List Value := .int .i64 a.kind :: .int .i64 a.pid :: .int .i64 a.keep :: a.op.cells
structure ActV.Fit (a : ActV) : Prop where
  kind : Fits a.kind
  pid : Fits a.pid
  keep : Fits a.keep
  op : a.op.Fit
def RActV : Rep ActV := fun _ _ cs x => cs = x.cells ∧ x.Fit
def RActVs : Rep (List ActV) := RSlice 12 RActV
theorem cells_actV : Tryz.prog.cellsOf 90 = 12 := by kernel_rfl
theorem opens_actV : Opens Tryz.prog 90 RActV := ⟨by
  intro H enc w sp held k B cs y h hp
  obtain ⟨hl, hf⟩ := opens_fields Tryz.underlying90 h hp
  rw [cells_actV] at hl
  obtain ⟨c0, c1, c2, c3, c4, c5, c6, c7, c8, c9, c10, c11, rfl⟩ := len12 hl
  obtain ⟨x0, h0⟩ := hf 0 _ rfl opens_named_int
  replace h0 : (RInt .i64) w B (([c0, c1, c2, c3, c4, c5, c6, c7, c8, c9, c10, c11].drop 0).take (Tryz.prog.cellsOf 3)) x0 := h0
  rw [show Tryz.prog.cellsOf 3 = 1 from by kernel_rfl] at h0
  replace h0 : (RInt .i64) w B [c0] x0 := h0
  obtain ⟨x1, h1⟩ := hf 1 _ rfl opens_named_int
  replace h1 : (RInt .i64) w B (([c0, c1, c2, c3, c4, c5, c6, c7, c8, c9, c10, c11].drop 1).take (Tryz.prog.cellsOf 3)) x1 := h1
  rw [show Tryz.prog.cellsOf 3 = 1 from by kernel_rfl] at h1
  replace h1 : (RInt .i64) w B [c1] x1 := h1
  obtain ⟨x2, h2⟩ := hf 2 _ rfl opens_named_int
  replace h2 : (RInt .i64) w B (([c0, c1, c2, c3, c4, c5, c6, c7, c8, c9, c10, c11].drop 2).take (Tryz.prog.cellsOf 3)) x2 := h2
  rw [show Tryz.prog.cellsOf 3 = 1 from by kernel_rfl] at h2
  replace h2 : (RInt .i64) w B [c2] x2 := h2
  obtain ⟨x3, h3⟩ := hf 3 _ rfl opens_op9
  replace h3 : ROp9 w B (([c0, c1, c2, c3, c4, c5, c6, c7, c8, c9, c10, c11].drop 3).take (Tryz.prog.cellsOf 34)) x3 := h3
  rw [show Tryz.prog.cellsOf 34 = 9 from by kernel_rfl] at h3
  replace h3 : ROp9 w B [c3, c4, c5, c6, c7, c8, c9, c10, c11] x3 := h3
  obtain ⟨e0, b0⟩ := h0
  obtain ⟨e1, b1⟩ := h1
  obtain ⟨e2, b2⟩ := h2
  obtain ⟨e3, b3⟩ := h3
  simp only [List.cons.injEq, and_true] at e0 e1 e2
  subst e0 e1 e2
  exact ⟨⟨x0, x1, x2, x3⟩, congrArg (fun r => Value.int .i64 x0 :: Value.int .i64 x1 :: Value.int .i64 x2 :: r) e3, ⟨b0, b1, b2, b3⟩⟩⟩
theorem opens_actVs : Opens Tryz.prog 84 RActVs := opens_slice Tryz.underlying84 cells_actV (by omega) opens_actV
/-- Acts that lie in memory: cell by cell. -/
def ActVsIn (w : World) (a : Option Addr) (n : Nat) (xs : List ActV) : Prop :=
  n = xs.length ∧ n ≤ maxLen ∧ ∀ k x, xs[k]? = some x → x.Fit ∧ ∃ b off, a = some ⟨b, off, none⟩ ∧ ∀ j, j < 12 → w.cell? ⟨b, off + k * 12 + j, none⟩ = x.cells[j]?
theorem actVs_in {w : World} {B : Nat} {a : Option Addr} {n cap : Nat} {xs : List ActV} (h : RActVs w B [.slice a n cap] xs) : ActVsIn w a n xs := by
  obtain ⟨a', cap', h1, h2, h3, h5, h4⟩ := h
  simp only [List.cons.injEq, Value.slice.injEq, and_true] at h1
  obtain ⟨rfl, rfl, rfl⟩ := h1
  refine ⟨rfl, by omega, fun k x hk => ?_⟩
  have hp : 0 < xs.length := by have := (List.getElem?_eq_some_iff.1 hk).1; omega
  obtain ⟨b, off, rfl, hb, hx⟩ := h4 hp
  obtain ⟨es, hl, hc, rfl, hs⟩ := hx k x hk
  exact ⟨hs, b, off, rfl, hc⟩
theorem ActVsIn.below {w w' : World} {a : Option Addr} {n : Nat} {xs : List ActV} (h : ActVsIn w a n xs) (hb : Below w.heap.size w w') : ActVsIn w' a n xs := by
  obtain ⟨h1, h2, h3⟩ := h
  refine ⟨h1, h2, fun k x hk => ?_⟩
  obtain ⟨hf, b, off, ha, hc⟩ := h3 k x hk
  refine ⟨hf, b, off, ha, fun j hj => ?_⟩
  have := hc j hj
  have hlen : x.cells.length = 12 := rfl
  have hs : x.cells[j]? = some x.cells[j] := List.getElem?_eq_getElem (by omega)
  rw [hs] at this ⊢
  exact (hb.cell (p := ⟨b, off + k * 12 + j, none⟩) (World.block_lt_of_cell? w _ this)).trans this
end Go.Proofs.YtcicjklhbnipcaaGreatDoor
namespace Go.Proofs.YtcicjklhbnipcaaGreatDoor
set_option linter.unusedVariables false
set_option linter.unusedSimpArgs false
open Go.RowKit Go.Maps
namespace Wd
def step (W : WrlD) (a : ActV) : ResD × WrlD :=
  if a.kind = 1 then (⟨(Pc.spawn W.p a.pid).1.2, (Pc.spawn W.p a.pid).1.1, ⟨#[]⟩, []⟩, spawn W a.pid)
  else if a.kind = 2 then (Fs.errR (kill W a.pid).1, (kill W a.pid).2)
  else if a.kind = 3 then (Fs.errR 0, power W a.keep)
  else do_ W a.pid a.op
theorem inv_step {N : Nat} {W : WrlD} (h : Inv N W) (hN : N ≤ 999999980) (a : ActV) (hp : a.op.Ok) : Inv (N + 3) (step W a).2 := by
  unfold step
  split
  · exact inv_spawn h a.pid
  split
  · exact inv_kill h hN a.pid
  split
  · exact (inv_power h (by omega) a.keep).more (by omega)
  · exact inv_do h hN a.pid hp
end Wd
section
variable {N : Nat} {x : WrlX} {β γ : Int → Nat × Nat} {W : WrlD} {w w' w0 : World} {F : List Nat} {L L' M M' : List Ent}
set_option maxHeartbeats 8000000 in
set_option maxRecDepth 100000 in
theorem step_any (h : WrlAt N x β γ W w) (hN : N ≤ 30000) (a : ActV) (hp : Fits a.pid) (ho : a.op.Ok) (hop : Fits a.op.pid) : Calls Tryz.prog 50 #[.pointer (some ⟨x.b, 0, none⟩), .agg a.cells.toArray] w (WDid w x β γ W (Wd.step W a)) := by
  have hM := h.at_.st
  unfold WDid
  obtain ⟨F, hF⟩ : ∃ F, keysOf (wrlL x β γ W) = F := ⟨_, rfl⟩
  rw [hF] at hM ⊢
  have F0 : 0 ∉ F := hF ▸ h.zero
  have HK := Lib.hid h.ok
  have HT := Lib.hid h.inv
  have HX := Lib.hid h.mx
  clear h hF
  obtain ⟨ak, ap, aq, ⟨pk, pp, pd, ph, pa, pn, px, py, pb⟩⟩ := a
  unfold Wd.step
  simp only [ActV.cells, OpD.cells]
  simp only at hp hop
  by_cases h1 : ak = 1
  · subst h1
    rw [if_pos rfl]
    have C := Lib.hid (fun (w1 : World) (h : WrlAt N x β γ W w1) => wSpawn_any h (by omega) hp)
    generalize Wd.spawn W ap = W2 at *
    obtain ⟨⟨r1, r2⟩, hr⟩ : ∃ r : Int × Int, (Pc.spawn W.p ap).1 = r := ⟨_, rfl⟩
    rw [hr] at C ⊢
    simp only at C ⊢
    clear hr
    go_enter Tryz.func50, Tryz.ntmps50
    (repeat (first | ((with_reducible show wpSeq _ _ _ _ _ _ _); first | ((with_reducible refine wpSeq_nil ?_); refine hKr.out _ _ ?_; clear hKr Kr) | ((first | (refine St.copy (v := ?_) (by first | exact .inl rfl | exact .inr rfl) rfl rfl ?_ ?_; rotate_left; (focus ((try simp only [Act.eval, getD_lit, qGz, qGs]); with_reducible rfl))) | (refine St.pure (v := ?_) rfl rfl rfl (fun w => ?_) ?_; rotate_left; (focus (go_simp; all_goals with_reducible rfl))) | refine St.load rfl hM rfl rfl rfl rfl (by repeat constructor) (by rfl) (by kernel_rfl) ?_ | ((((refine St.box rfl hM rfl rfl rfl ?_); clear hM; intro w bk hM)); (try simp only [Res.put, Res.known, Act.eval, Value.cells, getD_lit, qGz, qGs, List.toList_toArray, qSz, qSs, over, Nat.reduceAdd] at hM))); (try simp only [Act.put, qSa, qSz, qSs])) | (((refine St.alloc (ty := 31) (z := .agg #[.int .i64 0, .int .i64 0, .string ⟨#[]⟩, .slice none 0 0]) rfl hM rfl rfl (by kernel_rfl) ?_); clear hM; intro w bk hM); (try simp only [Res.put, Res.known, Act.eval, Value.cells, getD_lit, qGz, qGs, List.toList_toArray, qSz, qSs, over, Nat.reduceAdd] at hM); (try simp only [Act.put, qSa, qSz, qSs]))) | (first | (refine wp_seq_shut (fun K hK => ?_)) | (refine wp_text hM (fun Kr hKr => ?_); simp only [inText]) | refine wp_block ?_ | (refine wp_cond_true rfl ?_) | ((refine hK.out _ _ ?_); clear hK K))))
    ((refine St.call rfl rfl rfl (by kernel_rfl) (fun R hR => ?_); simp only [List.map_toArray, List.map_cons, List.map_nil, Act.eval, getD_lit, qGz, qGs]))
    refine (C.out _ (hM.wrl (.skip (.skip .all)) HK.out HT.out HX.out F0)).mono ?_
    rintro e w' ⟨rfl, X', β', γ', hb, hk, hN2⟩
    replace hM := hM.backM (.skip (.skip .all)) (wrlL_flag _ _ _ _) hN2 (wrlL_flag _ _ _ _)
    (refine hR.out _ _ (fun _ => ⟨hM.only, nofun⟩) ?_); clear hR R hN2 C
    (try simp only [Act.put, qSa, qSz, qSs])
    (repeat (first | ((with_reducible show wpSeq _ _ _ _ _ _ _); first | ((with_reducible refine wpSeq_nil ?_); refine hKr.out _ _ ?_; clear hKr Kr) | ((first | (refine St.copy (v := ?_) (by first | exact .inl rfl | exact .inr rfl) rfl rfl ?_ ?_; rotate_left; (focus ((try simp only [Act.eval, getD_lit, qGz, qGs]); with_reducible rfl))) | (refine St.pure (v := ?_) rfl rfl rfl (fun w => ?_) ?_; rotate_left; (focus (go_simp; all_goals with_reducible rfl))) | ((((refine St.storeRow rfl hM rfl rfl rfl rfl rfl (by repeat constructor) (Nat.le_of_ble_eq_true rfl) (Nat.le_of_ble_eq_true rfl) (by kernel_rfl) rfl ?_ ?_); (focus ((intro h; cases h; done))); clear hM; intro w hM)); (try simp only [Res.put, Res.known, Act.eval, Value.cells, getD_lit, qGz, qGs, List.toList_toArray, qSz, qSs, over, Nat.reduceAdd] at hM))); (try simp only [Act.put, qSa, qSz, qSs]))) | (first | (refine wp_seq_shut (fun K hK => ?_)) | (refine wp_text hM (fun Kr hKr => ?_); simp only [inText]) | ((refine hK.out _ _ ?_); clear hK K))))
    ((refine wp_ret ?_; (try simp only [Exit.then, Exit.inBlock]); refine St.ret hM rfl (by repeat (first | exact Outs.nil | (apply Outs.row rfl rfl (by repeat constructor) (by kernel_rfl)))) rfl ?_))
    exact ⟨none, X', β', γ', rfl, ⟨rfl, rfl⟩, hb, hk, hM.forget.forget⟩
  have q1 : (ak == 1) = false := beq_eq_false_iff_ne.2 h1
  rw [if_neg h1]
  by_cases h2 : ak = 2
  · subst h2
    rw [if_pos rfl]
    have C := Lib.hid (fun (w1 : World) (h : WrlAt N x β γ W w1) => wKill_any h (by omega) hp)
    obtain ⟨⟨r1, W2⟩, hr⟩ : ∃ r : Int × WrlD, Wd.kill W ap = r := ⟨_, rfl⟩
    rw [hr] at C ⊢
    simp only at C ⊢
    clear hr
    go_enter Tryz.func50, Tryz.ntmps50
    (repeat (first | ((with_reducible show wpSeq _ _ _ _ _ _ _); first | ((with_reducible refine wpSeq_nil ?_); refine hKr.out _ _ ?_; clear hKr Kr) | ((first | (refine St.copy (v := ?_) (by first | exact .inl rfl | exact .inr rfl) rfl rfl ?_ ?_; rotate_left; (focus ((try simp only [Act.eval, getD_lit, qGz, qGs]); with_reducible rfl))) | (refine St.pure (v := ?_) rfl rfl rfl (fun w => ?_) ?_; rotate_left; (focus (go_simp; all_goals with_reducible rfl))) | refine St.load rfl hM rfl rfl rfl rfl (by repeat constructor) (by rfl) (by kernel_rfl) ?_ | ((((refine St.box rfl hM rfl rfl rfl ?_); clear hM; intro w bk hM)); (try simp only [Res.put, Res.known, Act.eval, Value.cells, getD_lit, qGz, qGs, List.toList_toArray, qSz, qSs, over, Nat.reduceAdd] at hM))); (try simp only [Act.put, qSa, qSz, qSs])) | (((refine St.alloc (ty := 31) (z := .agg #[.int .i64 0, .int .i64 0, .string ⟨#[]⟩, .slice none 0 0]) rfl hM rfl rfl (by kernel_rfl) ?_); clear hM; intro w bk hM); (try simp only [Res.put, Res.known, Act.eval, Value.cells, getD_lit, qGz, qGs, List.toList_toArray, qSz, qSs, over, Nat.reduceAdd] at hM); (try simp only [Act.put, qSa, qSz, qSs]))) | (first | (refine wp_seq_shut (fun K hK => ?_)) | (refine wp_text hM (fun Kr hKr => ?_); simp only [inText]) | refine wp_block ?_ | (first | refine wp_cond_true rfl ?_ | refine wp_cond_false rfl ?_) | ((refine hK.out _ _ ?_); clear hK K))))
    ((refine St.call rfl rfl rfl (by kernel_rfl) (fun R hR => ?_); simp only [List.map_toArray, List.map_cons, List.map_nil, Act.eval, getD_lit, qGz, qGs]))
    refine (C.out _ (hM.wrl (.skip (.skip .all)) HK.out HT.out HX.out F0)).mono ?_
    rintro e w' ⟨rfl, X', β', γ', hb, hk, hN2⟩
    replace hM := hM.backM (.skip (.skip .all)) (wrlL_flag _ _ _ _) hN2 (wrlL_flag _ _ _ _)
    (refine hR.out _ _ (fun _ => ⟨hM.only, nofun⟩) ?_); clear hR R hN2 C
    (try simp only [Act.put, qSa, qSz, qSs])
    (repeat (first | ((with_reducible show wpSeq _ _ _ _ _ _ _); first | ((with_reducible refine wpSeq_nil ?_); refine hKr.out _ _ ?_; clear hKr Kr) | ((first | (refine St.pure (v := ?_) rfl rfl rfl (fun w => ?_) ?_; rotate_left; (focus (go_simp; all_goals with_reducible rfl))) | ((((refine St.storeRow rfl hM rfl rfl rfl rfl rfl (by repeat constructor) (Nat.le_of_ble_eq_true rfl) (Nat.le_of_ble_eq_true rfl) (by kernel_rfl) rfl ?_ ?_); (focus ((intro h; cases h; done))); clear hM; intro w hM)); (try simp only [Res.put, Res.known, Act.eval, Value.cells, getD_lit, qGz, qGs, List.toList_toArray, qSz, qSs, over, Nat.reduceAdd] at hM))); (try simp only [Act.put, qSa, qSz, qSs]))) | (((refine hK.out _ _ ?_); clear hK K))))
    ((refine wp_ret ?_; (try simp only [Exit.then, Exit.inBlock]); refine St.ret hM rfl (by repeat (first | exact Outs.nil | (apply Outs.row rfl rfl (by repeat constructor) (by kernel_rfl)))) rfl ?_))
    exact ⟨none, X', β', γ', rfl, ⟨rfl, rfl⟩, hb, hk, hM.forget.forget⟩
  have q2 : (ak == 2) = false := beq_eq_false_iff_ne.2 h2
  rw [if_neg h2]
  by_cases h3 : ak = 3
  · subst h3
    rw [if_pos rfl]
    have C := Lib.hid (fun (w1 : World) (h : WrlAt N x β γ W w1) => wPower_any h hN aq)
    simp only at C ⊢
    generalize Wd.power W aq = W2 at *
    go_enter Tryz.func50, Tryz.ntmps50
    (repeat (first | ((with_reducible show wpSeq _ _ _ _ _ _ _); first | ((with_reducible refine wpSeq_nil ?_); refine hKr.out _ _ ?_; clear hKr Kr) | ((first | (refine St.copy (v := ?_) (by first | exact .inl rfl | exact .inr rfl) rfl rfl ?_ ?_; rotate_left; (focus ((try simp only [Act.eval, getD_lit, qGz, qGs]); with_reducible rfl))) | (refine St.pure (v := ?_) rfl rfl rfl (fun w => ?_) ?_; rotate_left; (focus (go_simp; all_goals with_reducible rfl))) | refine St.load rfl hM rfl rfl rfl rfl (by repeat constructor) (by rfl) (by kernel_rfl) ?_ | ((((refine St.box rfl hM rfl rfl rfl ?_); clear hM; intro w bk hM)); (try simp only [Res.put, Res.known, Act.eval, Value.cells, getD_lit, qGz, qGs, List.toList_toArray, qSz, qSs, over, Nat.reduceAdd] at hM))); (try simp only [Act.put, qSa, qSz, qSs])) | (((refine St.alloc (ty := 31) (z := .agg #[.int .i64 0, .int .i64 0, .string ⟨#[]⟩, .slice none 0 0]) rfl hM rfl rfl (by kernel_rfl) ?_); clear hM; intro w bk hM); (try simp only [Res.put, Res.known, Act.eval, Value.cells, getD_lit, qGz, qGs, List.toList_toArray, qSz, qSs, over, Nat.reduceAdd] at hM); (try simp only [Act.put, qSa, qSz, qSs]))) | (first | (refine wp_seq_shut (fun K hK => ?_)) | (refine wp_text hM (fun Kr hKr => ?_); simp only [inText]) | refine wp_block ?_ | (first | refine wp_cond_true rfl ?_ | refine wp_cond_false rfl ?_) | ((refine hK.out _ _ ?_); clear hK K))))
    ((refine St.call rfl rfl rfl (by kernel_rfl) (fun R hR => ?_); simp only [List.map_toArray, List.map_cons, List.map_nil, Act.eval, getD_lit, qGz, qGs]))
    refine (C.out _ (hM.wrl (.skip (.skip .all)) HK.out HT.out HX.out F0)).mono ?_
    rintro e w' ⟨rfl, X', β', γ', hb, hk, hN2⟩
    replace hM := hM.backM (.skip (.skip .all)) (wrlL_flag _ _ _ _) hN2 (wrlL_flag _ _ _ _)
    (refine hR.out _ _ (fun _ => ⟨hM.only, nofun⟩) ?_); clear hR R hN2 C
    (try simp only [Act.put, qSa, qSz, qSs])
    (repeat (first | ((with_reducible show wpSeq _ _ _ _ _ _ _); first | ((with_reducible refine wpSeq_nil ?_); refine hKr.out _ _ ?_; clear hKr Kr) | ((first | (refine St.pure (v := ?_) rfl rfl rfl (fun w => ?_) ?_; rotate_left; (focus (go_simp; all_goals with_reducible rfl))) | ((((refine St.storeRow rfl hM rfl rfl rfl rfl rfl (by repeat constructor) (Nat.le_of_ble_eq_true rfl) (Nat.le_of_ble_eq_true rfl) (by kernel_rfl) rfl ?_ ?_); (focus ((intro h; cases h; done))); clear hM; intro w hM)); (try simp only [Res.put, Res.known, Act.eval, Value.cells, getD_lit, qGz, qGs, List.toList_toArray, qSz, qSs, over, Nat.reduceAdd] at hM))); (try simp only [Act.put, qSa, qSz, qSs]))) | (((refine hK.out _ _ ?_); clear hK K))))
    ((refine wp_ret ?_; (try simp only [Exit.then, Exit.inBlock]); refine St.ret hM rfl (by repeat (first | exact Outs.nil | (apply Outs.row rfl rfl (by repeat constructor) (by kernel_rfl)))) rfl ?_))
    exact ⟨none, X', β', γ', rfl, ⟨rfl, rfl⟩, hb, hk, hM.forget.forget⟩
  have q3 : (ak == 3) = false := beq_eq_false_iff_ne.2 h3
  rw [if_neg h3]
  have C := Lib.hid (fun (w1 : World) (h : WrlAt N x β γ W w1) => wDo_any h (by omega) hp ⟨pk, pp, pd, ph, pa, pn, px, py, pb⟩ ho hop)
  obtain ⟨r, hr⟩ : ∃ r, Wd.do_ W ap ⟨pk, pp, pd, ph, pa, pn, px, py, pb⟩ = r := ⟨_, rfl⟩
  rw [hr] at C ⊢
  simp only [OpD.cells] at C
  clear hr h1 h2 h3
  go_enter Tryz.func50, Tryz.ntmps50
  (repeat (first | ((with_reducible show wpSeq _ _ _ _ _ _ _); first | ((with_reducible refine wpSeq_nil ?_); refine hKr.out _ _ ?_; clear hKr Kr) | ((first | (refine St.copy (v := ?_) (by first | exact .inl rfl | exact .inr rfl) rfl rfl ?_ ?_; rotate_left; (focus ((try simp only [Act.eval, getD_lit, qGz, qGs]); with_reducible rfl))) | (refine St.pure (v := ?_) rfl rfl rfl (fun w => ?_) ?_; rotate_left; (focus (go_simp; all_goals with_reducible rfl))) | refine St.load rfl hM rfl rfl rfl rfl (by repeat constructor) (by rfl) (by kernel_rfl) ?_ | ((refine St.loadRow rfl hM rfl rfl rfl rfl (by repeat constructor) (Nat.le_of_ble_eq_true rfl) (by kernel_rfl) ?_); (try simp only [Res.known, List.drop_succ_cons, List.drop_zero, List.take_succ_cons, List.take_zero])) | ((((refine St.box rfl hM rfl rfl rfl ?_); clear hM; intro w bk hM)); (try simp only [Res.put, Res.known, Act.eval, Value.cells, getD_lit, qGz, qGs, List.toList_toArray, qSz, qSs, over, Nat.reduceAdd] at hM))); (try simp only [Act.put, qSa, qSz, qSs])) | (((refine St.alloc (ty := 31) (z := .agg #[.int .i64 0, .int .i64 0, .string ⟨#[]⟩, .slice none 0 0]) rfl hM rfl rfl (by kernel_rfl) ?_); clear hM; intro w bk hM); (try simp only [Res.put, Res.known, Act.eval, Value.cells, getD_lit, qGz, qGs, List.toList_toArray, qSz, qSs, over, Nat.reduceAdd] at hM); (try simp only [Act.put, qSa, qSz, qSs]))) | (first | (refine wp_seq_shut (fun K hK => ?_)) | (refine wp_text hM (fun Kr hKr => ?_); simp only [inText]) | refine wp_block ?_ | refine wp_skip ?_ | (refine wp_cond_false rfl ?_) | ((refine hK.out _ _ ?_); clear hK K))))
  ((refine St.call rfl rfl rfl (by kernel_rfl) (fun R hR => ?_); simp only [List.map_toArray, List.map_cons, List.map_nil, Act.eval, getD_lit, qGz, qGs]))
  refine (C.out _ (hM.wrl (.skip (.skip .all)) HK.out HT.out HX.out F0)).mono ?_
  rintro e w' ⟨s, X', β', γ', rfl, hs, hb, hk, hN2⟩
  replace hM := hM.backM (.skip (.skip .all)) (wrlL_flag _ _ _ _) hN2 (fun y hy => (List.mem_append.1 hy).elim (txL_flag _ _ y) (wrlL_flag _ _ _ _ y))
  (refine hR.out _ _ (fun _ => ⟨hM.only, nofun⟩) ?_); clear hR R hN2 C
  obtain ⟨va, vc, hv, -⟩ := slV_open hs
  have HS := Lib.hid hs
  clear hs
  rw [hv]
  (try simp only [Act.put, qSa, qSz, qSs])
  (repeat (first | ((with_reducible show wpSeq _ _ _ _ _ _ _); first | ((with_reducible refine wpSeq_nil ?_); refine hKr.out _ _ ?_; clear hKr Kr) | ((((((refine St.storeRow rfl hM rfl rfl rfl rfl rfl (by repeat constructor) (Nat.le_of_ble_eq_true rfl) (Nat.le_of_ble_eq_true rfl) (by kernel_rfl) rfl ?_ ?_); (focus ((intro h; cases h; done))); clear hM; intro w hM)); (try simp only [Res.put, Res.known, Act.eval, Value.cells, getD_lit, qGz, qGs, List.toList_toArray, qSz, qSs, over, Nat.reduceAdd] at hM))); (try simp only [Act.put, qSa, qSz, qSs]))) | (((refine hK.out _ _ ?_); clear hK K))))
  ((refine wp_ret ?_; (try simp only [Exit.then, Exit.inBlock]); refine St.ret hM rfl (by repeat (first | exact Outs.nil | (apply Outs.row rfl rfl (by repeat constructor) (by kernel_rfl)))) rfl ?_))
  exact ⟨s, X', β', γ', by rw [hv]; rfl, HS.out, hb, hk, hM.forget.forget⟩
end
end Go.Proofs.YtcicjklhbnipcaaGreatDoor
namespace Go.Proofs.YtcicjklhbnipcaaGreatDoor
set_option linter.unusedVariables false
set_option linter.unusedSimpArgs false
open Go.RowKit Go.Maps
theorem row_of {w : World} {b q : Nat} {es : List Value} (h : ∀ j, j < es.length → w.cell? ⟨b, q + j, none⟩ = es[j]?) : w.rangeAt b q es := fun j v hj => by
  rw [h j (List.getElem?_eq_some_iff.1 hj).1, hj]
structure SmallF (x : ActF) : Prop where
  path : x.op.path.size ≤ 200
  dest : x.op.dest.size ≤ 200
  data : x.op.data.size ≤ 200
/-- What is read of an act in memory. -/
theorem ActsIn.get {w : World} {a : Option Addr} {n : Nat} {xs : List ActF} (h : ActsIn w a n xs) {k : Nat} {x : ActF} (hk : xs[k]? = some x) :
    x.Fit ∧ ∃ b off, a = some ⟨b, off, none⟩ ∧ w.rangeAt b (off + k * 11) x.cells ∧ w.rangeAt b (off + k * 11 + 2) x.op.cells := by
  obtain ⟨-, -, h3⟩ := h
  obtain ⟨hf, b, off, rfl, hc⟩ := h3 k x hk
  refine ⟨hf, b, off, rfl, row_of fun j hj => hc j hj, row_of fun j hj => ?_⟩
  have := hc (j + 2) (by have : x.op.cells.length = 9 := rfl; omega)
  rw [show off + k * 11 + (j + 2) = off + k * 11 + 2 + j by omega] at this
  rw [this]
  rfl
theorem ActF.len {xs : List ActF} {w : World} {a : Option Addr} {n : Nat} (h : ActsIn w a n xs) : n = xs.length := h.1
set_option maxHeartbeats 16000000 in
set_option maxRecDepth 100000 in
theorem small9_any {w : World} {a : Option Addr} {n c : Nat} {xs : List ActF} (most : Int) (hm0 : 0 ≤ most) (hm1 : most ≤ 1000) (h : ActsIn w a n xs) :
    Calls Tryz.prog 14 #[.slice a n c, .int .i64 most] w fun e w' => ∃ b : Bool, e = .returned (.bool b) ∧ (b = true → (xs.length : Int) ≤ most ∧ ∀ (j : Nat) (y : ActF), xs[j]? = some y → SmallF y) ∧ Below w.heap.size w w' := by
  have hM := St.start w []
  have HX := Lib.hid h
  obtain ⟨rfl, hn, -⟩ := h
  rw [maxLen_val] at hn
  go_enter Tryz.func14, Tryz.ntmps14
  (repeat (first | ((with_reducible show wpSeq _ _ _ _ _ _ _); first | ((with_reducible refine wpSeq_nil ?_); refine hKr.out _ _ ?_; clear hKr Kr) | (((refine St.copy (v := ?_) (by exact .inr rfl) rfl rfl ?_ ?_; rotate_left; (focus ((try simp only [Act.eval, getD_lit, qGz, qGs]); with_reducible rfl)))); (try simp only [Act.put, qSa, qSz, qSs]))) | (first | (refine wp_seq_shut (fun K hK => ?_)) | (refine wp_text hM (fun Kr hKr => ?_); simp only [inText]) | refine wp_block ?_ | ((refine hK.out _ _ ?_); clear hK K))))
  go_loopw [5] (fun i wr => ∃ k : Nat, k ≤ xs.length ∧ (k : Int) ≤ most ∧ i = .int .i64 k ∧ Hid (∀ (j : Nat) (y : ActF), j < k → xs[j]? = some y → SmallF y) ∧ St w [] wr []) (fun i _ => xs.length - (intOf i).toNat)
  case atStart => exact ⟨0, by omega, hm0, rfl, Lib.hid (fun j y hj => absurd hj (by omega)), hM⟩
  case round =>
    clear hM
    obtain ⟨k, hk, hkm, rfl, HS, hM⟩ := hrel
    by_cases hlt : k < xs.length
    · have k1 : (k : Int) < (xs.length : Int) := by omega
      by_cases hlm : (k : Int) < most
      · obtain ⟨x, hxk⟩ := get_at hlt
        obtain ⟨hf, b, off, rfl, -, hc⟩ := HX.out.get hxk
        have HN := Lib.hid (fun (hs : SmallF x) => (show ∀ (j : Nat) (y : ActF), j < k + 1 → xs[j]? = some y → SmallF y from fun j y hj hy => by
          rcases Nat.lt_or_ge j k with h | h
          · exact HS.out j y h hy
          · obtain rfl : j = k := by omega
            rw [hxk] at hy; cases hy; exact hs))
        clear hxk
        obtain ⟨xo, xe, ⟨pk, pp, pd, ph, pa, pn, px, py, pb⟩⟩ := x
        simp only [OpD.cells] at hc
        have hpp := hf.op.path
        have hpd := hf.op.dest
        have hpx := hf.op.data
        rw [maxLen_val] at hpp hpd hpx
        simp only at hpp hpd hpx
        clear hf
        by_cases q1 : (200 : Int) < (pp.size : Int)
        · (repeat (first | ((with_reducible show wpSeq _ _ _ _ _ _ _); first | ((with_reducible refine wpSeq_nil ?_); refine hKr.out _ _ ?_; clear hKr Kr) | ((first | (refine St.copy (v := ?_) (by first | exact .inl rfl | exact .inr rfl) rfl rfl ?_ ?_; rotate_left; (focus ((try simp only [Act.eval, getD_lit, qGz, qGs]); with_reducible rfl))) | (refine St.pure (v := ?_) rfl rfl rfl (fun w => ?_) ?_; rotate_left; (focus (go_simp; all_goals with_reducible rfl))) | refine St.load rfl hM rfl rfl rfl rfl (by repeat constructor) (by rfl) (by kernel_rfl) ?_ | refine St.loadRowF rfl rfl rfl rfl rfl (hM.oldRow (by assumption)) (by kernel_rfl) ?_ | refine wpSeq_off rfl rfl ?_ | ((((refine St.storeRow rfl hM rfl rfl rfl rfl rfl (by repeat constructor) (Nat.le_of_ble_eq_true rfl) (Nat.le_of_ble_eq_true rfl) (by kernel_rfl) rfl ?_ ?_); (focus ((intro h; cases h; done))); clear hM; intro w hM)); (try simp only [Res.put, Res.known, Act.eval, Value.cells, getD_lit, qGz, qGs, List.toList_toArray, qSz, qSs, over, Nat.reduceAdd] at hM))); (try simp only [Act.put, qSa, qSz, qSs])) | (((refine St.alloc (ty := 34) (z := .agg #[.int .i64 0, .string ⟨#[]⟩, .string ⟨#[]⟩, .int .i64 0, .int .i64 0, .int .i64 0, .string ⟨#[]⟩, .int .i64 0, .int .i64 0]) rfl hM rfl rfl (by kernel_rfl) ?_); clear hM; intro w bk hM); (try simp only [Res.put, Res.known, Act.eval, Value.cells, getD_lit, qGz, qGs, List.toList_toArray, qSz, qSs, over, Nat.reduceAdd] at hM); (try simp only [Act.put, qSa, qSz, qSs]))) | (first | (refine wp_seq_shut (fun K hK => ?_)) | (refine wp_text hM (fun Kr hKr => ?_); simp only [inText]) | refine wp_block ?_ | refine wp_skip ?_ | (refine wp_cond_true rfl ?_) | ((refine hK.out _ _ ?_); clear hK K))))
          ((refine wp_ret ?_; (try simp only [Exit.then, Exit.inBlock]); refine St.ret hM rfl (by repeat (first | exact Outs.nil | apply Outs.tmp rfl)) rfl ?_))
          exact ⟨false, rfl, nofun, hM.to_below⟩
        by_cases q2 : (200 : Int) < (pd.size : Int)
        · (repeat (first | ((with_reducible show wpSeq _ _ _ _ _ _ _); first | ((with_reducible refine wpSeq_nil ?_); refine hKr.out _ _ ?_; clear hKr Kr) | ((first | (refine St.copy (v := ?_) (by first | exact .inl rfl | exact .inr rfl) rfl rfl ?_ ?_; rotate_left; (focus ((try simp only [Act.eval, getD_lit, qGz, qGs]); with_reducible rfl))) | (refine St.pure (v := ?_) rfl rfl rfl (fun w => ?_) ?_; rotate_left; (focus (go_simp; all_goals with_reducible rfl))) | refine St.load rfl hM rfl rfl rfl rfl (by repeat constructor) (by rfl) (by kernel_rfl) ?_ | refine St.loadRowF rfl rfl rfl rfl rfl (hM.oldRow (by assumption)) (by kernel_rfl) ?_ | refine wpSeq_off rfl rfl ?_ | ((((refine St.storeRow rfl hM rfl rfl rfl rfl rfl (by repeat constructor) (Nat.le_of_ble_eq_true rfl) (Nat.le_of_ble_eq_true rfl) (by kernel_rfl) rfl ?_ ?_); (focus ((intro h; cases h; done))); clear hM; intro w hM)); (try simp only [Res.put, Res.known, Act.eval, Value.cells, getD_lit, qGz, qGs, List.toList_toArray, qSz, qSs, over, Nat.reduceAdd] at hM))); (try simp only [Act.put, qSa, qSz, qSs])) | (((refine St.alloc (ty := 34) (z := .agg #[.int .i64 0, .string ⟨#[]⟩, .string ⟨#[]⟩, .int .i64 0, .int .i64 0, .int .i64 0, .string ⟨#[]⟩, .int .i64 0, .int .i64 0]) rfl hM rfl rfl (by kernel_rfl) ?_); clear hM; intro w bk hM); (try simp only [Res.put, Res.known, Act.eval, Value.cells, getD_lit, qGz, qGs, List.toList_toArray, qSz, qSs, over, Nat.reduceAdd] at hM); (try simp only [Act.put, qSa, qSz, qSs]))) | (first | (refine wp_seq_shut (fun K hK => ?_)) | (refine wp_text hM (fun Kr hKr => ?_); simp only [inText]) | refine wp_block ?_ | refine wp_skip ?_ | (refine wp_cond_true rfl ?_) | ((refine hK.out _ _ ?_); clear hK K))))
          ((refine wp_ret ?_; (try simp only [Exit.then, Exit.inBlock]); refine St.ret hM rfl (by repeat (first | exact Outs.nil | apply Outs.tmp rfl)) rfl ?_))
          exact ⟨false, rfl, nofun, hM.to_below⟩
        by_cases q3 : (200 : Int) < (px.size : Int)
        · (repeat (first | ((with_reducible show wpSeq _ _ _ _ _ _ _); first | ((with_reducible refine wpSeq_nil ?_); refine hKr.out _ _ ?_; clear hKr Kr) | ((first | (refine St.copy (v := ?_) (by first | exact .inl rfl | exact .inr rfl) rfl rfl ?_ ?_; rotate_left; (focus ((try simp only [Act.eval, getD_lit, qGz, qGs]); with_reducible rfl))) | (refine St.pure (v := ?_) rfl rfl rfl (fun w => ?_) ?_; rotate_left; (focus (go_simp; all_goals with_reducible rfl))) | refine St.load rfl hM rfl rfl rfl rfl (by repeat constructor) (by rfl) (by kernel_rfl) ?_ | refine St.loadRowF rfl rfl rfl rfl rfl (hM.oldRow (by assumption)) (by kernel_rfl) ?_ | refine wpSeq_off rfl rfl ?_ | ((((refine St.storeRow rfl hM rfl rfl rfl rfl rfl (by repeat constructor) (Nat.le_of_ble_eq_true rfl) (Nat.le_of_ble_eq_true rfl) (by kernel_rfl) rfl ?_ ?_); (focus ((intro h; cases h; done))); clear hM; intro w hM)); (try simp only [Res.put, Res.known, Act.eval, Value.cells, getD_lit, qGz, qGs, List.toList_toArray, qSz, qSs, over, Nat.reduceAdd] at hM))); (try simp only [Act.put, qSa, qSz, qSs])) | (((refine St.alloc (ty := 34) (z := .agg #[.int .i64 0, .string ⟨#[]⟩, .string ⟨#[]⟩, .int .i64 0, .int .i64 0, .int .i64 0, .string ⟨#[]⟩, .int .i64 0, .int .i64 0]) rfl hM rfl rfl (by kernel_rfl) ?_); clear hM; intro w bk hM); (try simp only [Res.put, Res.known, Act.eval, Value.cells, getD_lit, qGz, qGs, List.toList_toArray, qSz, qSs, over, Nat.reduceAdd] at hM); (try simp only [Act.put, qSa, qSz, qSs]))) | (first | (refine wp_seq_shut (fun K hK => ?_)) | (refine wp_text hM (fun Kr hKr => ?_); simp only [inText]) | refine wp_block ?_ | refine wp_skip ?_ | (refine wp_cond_true rfl ?_) | ((refine hK.out _ _ ?_); clear hK K))))
          ((refine wp_ret ?_; (try simp only [Exit.then, Exit.inBlock]); refine St.ret hM rfl (by repeat (first | exact Outs.nil | apply Outs.tmp rfl)) rfl ?_))
          exact ⟨false, rfl, nofun, hM.to_below⟩
        have HN' := Lib.hid (HN.out ⟨by show pp.size ≤ 200; omega, by show pd.size ≤ 200; omega, by show px.size ≤ 200; omega⟩)
        clear HN
        by_cases q4 : (4096 : Int) < pa
        · by_cases q5 : pa ≤ 1048576
          · (repeat (first | ((with_reducible show wpSeq _ _ _ _ _ _ _); first | ((with_reducible refine wpSeq_nil ?_); refine hKr.out _ _ ?_; clear hKr Kr) | ((first | (refine St.copy (v := ?_) (by first | exact .inl rfl | exact .inr rfl) rfl rfl ?_ ?_; rotate_left; (focus ((try simp only [Act.eval, getD_lit, qGz, qGs]); with_reducible rfl))) | (refine St.pure (v := ?_) rfl rfl rfl (fun w => ?_) ?_; rotate_left; (focus (go_simp; all_goals with_reducible rfl))) | refine St.load rfl hM rfl rfl rfl rfl (by repeat constructor) (by rfl) (by kernel_rfl) ?_ | refine St.loadRowF rfl rfl rfl rfl rfl (hM.oldRow (by assumption)) (by kernel_rfl) ?_ | refine wpSeq_off rfl rfl ?_ | ((((refine St.storeRow rfl hM rfl rfl rfl rfl rfl (by repeat constructor) (Nat.le_of_ble_eq_true rfl) (Nat.le_of_ble_eq_true rfl) (by kernel_rfl) rfl ?_ ?_); (focus ((intro h; cases h; done))); clear hM; intro w hM)); (try simp only [Res.put, Res.known, Act.eval, Value.cells, getD_lit, qGz, qGs, List.toList_toArray, qSz, qSs, over, Nat.reduceAdd] at hM))); (try simp only [Act.put, qSa, qSz, qSs])) | (((refine St.alloc (ty := 34) (z := .agg #[.int .i64 0, .string ⟨#[]⟩, .string ⟨#[]⟩, .int .i64 0, .int .i64 0, .int .i64 0, .string ⟨#[]⟩, .int .i64 0, .int .i64 0]) rfl hM rfl rfl (by kernel_rfl) ?_); clear hM; intro w bk hM); (try simp only [Res.put, Res.known, Act.eval, Value.cells, getD_lit, qGz, qGs, List.toList_toArray, qSz, qSs, over, Nat.reduceAdd] at hM); (try simp only [Act.put, qSa, qSz, qSs]))) | (first | (refine wp_seq_shut (fun K hK => ?_)) | (refine wp_text hM (fun Kr hKr => ?_); simp only [inText]) | refine wp_block ?_ | refine wp_skip ?_ | (refine wp_cond_true rfl ?_) | ((refine hK.out _ _ ?_); clear hK K))))
            ((refine wp_ret ?_; (try simp only [Exit.then, Exit.inBlock]); refine St.ret hM rfl (by repeat (first | exact Outs.nil | apply Outs.tmp rfl)) rfl ?_))
            exact ⟨false, rfl, nofun, hM.to_below⟩
          · by_cases q6 : (4096 : Int) < pn
            · by_cases q7 : pn ≤ 1048576
              · (repeat (first | ((with_reducible show wpSeq _ _ _ _ _ _ _); first | ((with_reducible refine wpSeq_nil ?_); refine hKr.out _ _ ?_; clear hKr Kr) | ((first | (refine St.copy (v := ?_) (by first | exact .inl rfl | exact .inr rfl) rfl rfl ?_ ?_; rotate_left; (focus ((try simp only [Act.eval, getD_lit, qGz, qGs]); with_reducible rfl))) | (refine St.pure (v := ?_) rfl rfl rfl (fun w => ?_) ?_; rotate_left; (focus (go_simp; all_goals with_reducible rfl))) | refine St.load rfl hM rfl rfl rfl rfl (by repeat constructor) (by rfl) (by kernel_rfl) ?_ | refine St.loadRowF rfl rfl rfl rfl rfl (hM.oldRow (by assumption)) (by kernel_rfl) ?_ | ((((refine St.storeRow rfl hM rfl rfl rfl rfl rfl (by repeat constructor) (Nat.le_of_ble_eq_true rfl) (Nat.le_of_ble_eq_true rfl) (by kernel_rfl) rfl ?_ ?_); (focus ((intro h; cases h; done))); clear hM; intro w hM)); (try simp only [Res.put, Res.known, Act.eval, Value.cells, getD_lit, qGz, qGs, List.toList_toArray, qSz, qSs, over, Nat.reduceAdd] at hM))); (try simp only [Act.put, qSa, qSz, qSs])) | (((refine St.alloc (ty := 34) (z := .agg #[.int .i64 0, .string ⟨#[]⟩, .string ⟨#[]⟩, .int .i64 0, .int .i64 0, .int .i64 0, .string ⟨#[]⟩, .int .i64 0, .int .i64 0]) rfl hM rfl rfl (by kernel_rfl) ?_); clear hM; intro w bk hM); (try simp only [Res.put, Res.known, Act.eval, Value.cells, getD_lit, qGz, qGs, List.toList_toArray, qSz, qSs, over, Nat.reduceAdd] at hM); (try simp only [Act.put, qSa, qSz, qSs]))) | (first | (refine wp_seq_shut (fun K hK => ?_)) | (refine wp_text hM (fun Kr hKr => ?_); simp only [inText]) | refine wp_block ?_ | refine wp_skip ?_ | (refine wp_cond_true rfl ?_) | ((refine hK.out _ _ ?_); clear hK K))))
                ((refine wp_ret ?_; (try simp only [Exit.then, Exit.inBlock]); refine St.ret hM rfl (by repeat (first | exact Outs.nil | apply Outs.tmp rfl)) rfl ?_))
                exact ⟨false, rfl, nofun, hM.to_below⟩
              · (repeat (first | ((with_reducible show wpSeq _ _ _ _ _ _ _); first | ((with_reducible refine wpSeq_nil ?_); refine hKr.out _ _ ?_; clear hKr Kr) | ((first | (refine St.copy (v := ?_) (by first | exact .inl rfl | exact .inr rfl) rfl rfl ?_ ?_; rotate_left; (focus ((try simp only [Act.eval, getD_lit, qGz, qGs]); with_reducible rfl))) | refine St.inc rfl rfl rfl rfl rfl (by omega) ?_ | (refine St.pure (v := ?_) rfl rfl rfl (fun w => ?_) ?_; rotate_left; (focus (go_simp; all_goals with_reducible rfl))) | refine St.load rfl hM rfl rfl rfl rfl (by repeat constructor) (by rfl) (by kernel_rfl) ?_ | refine St.loadRowF rfl rfl rfl rfl rfl (hM.oldRow (by assumption)) (by kernel_rfl) ?_ | ((((refine St.storeRow rfl hM rfl rfl rfl rfl rfl (by repeat constructor) (Nat.le_of_ble_eq_true rfl) (Nat.le_of_ble_eq_true rfl) (by kernel_rfl) rfl ?_ ?_); (focus ((intro h; cases h; done))); clear hM; intro w hM)); (try simp only [Res.put, Res.known, Act.eval, Value.cells, getD_lit, qGz, qGs, List.toList_toArray, qSz, qSs, over, Nat.reduceAdd] at hM))); (try simp only [Act.put, qSa, qSz, qSs])) | (((refine St.alloc (ty := 34) (z := .agg #[.int .i64 0, .string ⟨#[]⟩, .string ⟨#[]⟩, .int .i64 0, .int .i64 0, .int .i64 0, .string ⟨#[]⟩, .int .i64 0, .int .i64 0]) rfl hM rfl rfl (by kernel_rfl) ?_); clear hM; intro w bk hM); (try simp only [Res.put, Res.known, Act.eval, Value.cells, getD_lit, qGz, qGs, List.toList_toArray, qSz, qSs, over, Nat.reduceAdd] at hM); (try simp only [Act.put, qSa, qSz, qSs]))) | (first | (refine wp_seq_shut (fun K hK => ?_)) | (refine wp_text hM (fun Kr hKr => ?_); simp only [inText]) | refine wp_block ?_ | refine wp_skip ?_ | (first | refine wp_cond_true rfl ?_ | refine wp_cond_false rfl ?_) | ((refine hK.out _ _ ?_); clear hK K))))
                replace hM := hM.drop (L' := []) nofun (by simp)
                (refine ⟨?_, ?_⟩; (focus (repeat (first | exact ⟨⟨k + 1, by omega, by omega, rfl, HN', hM⟩, rfl⟩ | apply Exists.intro))); (simp only [getD_lit, qGz, qGs, intOf]; omega))
            · (repeat (first | ((with_reducible show wpSeq _ _ _ _ _ _ _); first | ((with_reducible refine wpSeq_nil ?_); refine hKr.out _ _ ?_; clear hKr Kr) | ((first | (refine St.copy (v := ?_) (by first | exact .inl rfl | exact .inr rfl) rfl rfl ?_ ?_; rotate_left; (focus ((try simp only [Act.eval, getD_lit, qGz, qGs]); with_reducible rfl))) | refine St.inc rfl rfl rfl rfl rfl (by omega) ?_ | (refine St.pure (v := ?_) rfl rfl rfl (fun w => ?_) ?_; rotate_left; (focus (go_simp; all_goals with_reducible rfl))) | refine St.load rfl hM rfl rfl rfl rfl (by repeat constructor) (by rfl) (by kernel_rfl) ?_ | refine St.loadRowF rfl rfl rfl rfl rfl (hM.oldRow (by assumption)) (by kernel_rfl) ?_ | refine wpSeq_off rfl rfl ?_ | ((((refine St.storeRow rfl hM rfl rfl rfl rfl rfl (by repeat constructor) (Nat.le_of_ble_eq_true rfl) (Nat.le_of_ble_eq_true rfl) (by kernel_rfl) rfl ?_ ?_); (focus ((intro h; cases h; done))); clear hM; intro w hM)); (try simp only [Res.put, Res.known, Act.eval, Value.cells, getD_lit, qGz, qGs, List.toList_toArray, qSz, qSs, over, Nat.reduceAdd] at hM))); (try simp only [Act.put, qSa, qSz, qSs])) | (((refine St.alloc (ty := 34) (z := .agg #[.int .i64 0, .string ⟨#[]⟩, .string ⟨#[]⟩, .int .i64 0, .int .i64 0, .int .i64 0, .string ⟨#[]⟩, .int .i64 0, .int .i64 0]) rfl hM rfl rfl (by kernel_rfl) ?_); clear hM; intro w bk hM); (try simp only [Res.put, Res.known, Act.eval, Value.cells, getD_lit, qGz, qGs, List.toList_toArray, qSz, qSs, over, Nat.reduceAdd] at hM); (try simp only [Act.put, qSa, qSz, qSs]))) | (first | (refine wp_seq_shut (fun K hK => ?_)) | (refine wp_text hM (fun Kr hKr => ?_); simp only [inText]) | refine wp_block ?_ | refine wp_skip ?_ | (first | refine wp_cond_true rfl ?_ | refine wp_cond_false rfl ?_) | ((refine hK.out _ _ ?_); clear hK K))))
              replace hM := hM.drop (L' := []) nofun (by simp)
              (refine ⟨?_, ?_⟩; (focus (repeat (first | exact ⟨⟨k + 1, by omega, by omega, rfl, HN', hM⟩, rfl⟩ | apply Exists.intro))); (simp only [getD_lit, qGz, qGs, intOf]; omega))
        · by_cases q6 : (4096 : Int) < pn
          · by_cases q7 : pn ≤ 1048576
            · (repeat (first | ((with_reducible show wpSeq _ _ _ _ _ _ _); first | ((with_reducible refine wpSeq_nil ?_); refine hKr.out _ _ ?_; clear hKr Kr) | ((first | (refine St.copy (v := ?_) (by first | exact .inl rfl | exact .inr rfl) rfl rfl ?_ ?_; rotate_left; (focus ((try simp only [Act.eval, getD_lit, qGz, qGs]); with_reducible rfl))) | (refine St.pure (v := ?_) rfl rfl rfl (fun w => ?_) ?_; rotate_left; (focus (go_simp; all_goals with_reducible rfl))) | refine St.load rfl hM rfl rfl rfl rfl (by repeat constructor) (by rfl) (by kernel_rfl) ?_ | refine St.loadRowF rfl rfl rfl rfl rfl (hM.oldRow (by assumption)) (by kernel_rfl) ?_ | refine wpSeq_off rfl rfl ?_ | ((((refine St.storeRow rfl hM rfl rfl rfl rfl rfl (by repeat constructor) (Nat.le_of_ble_eq_true rfl) (Nat.le_of_ble_eq_true rfl) (by kernel_rfl) rfl ?_ ?_); (focus ((intro h; cases h; done))); clear hM; intro w hM)); (try simp only [Res.put, Res.known, Act.eval, Value.cells, getD_lit, qGz, qGs, List.toList_toArray, qSz, qSs, over, Nat.reduceAdd] at hM))); (try simp only [Act.put, qSa, qSz, qSs])) | (((refine St.alloc (ty := 34) (z := .agg #[.int .i64 0, .string ⟨#[]⟩, .string ⟨#[]⟩, .int .i64 0, .int .i64 0, .int .i64 0, .string ⟨#[]⟩, .int .i64 0, .int .i64 0]) rfl hM rfl rfl (by kernel_rfl) ?_); clear hM; intro w bk hM); (try simp only [Res.put, Res.known, Act.eval, Value.cells, getD_lit, qGz, qGs, List.toList_toArray, qSz, qSs, over, Nat.reduceAdd] at hM); (try simp only [Act.put, qSa, qSz, qSs]))) | (first | (refine wp_seq_shut (fun K hK => ?_)) | (refine wp_text hM (fun Kr hKr => ?_); simp only [inText]) | refine wp_block ?_ | refine wp_skip ?_ | (refine wp_cond_true rfl ?_) | ((refine hK.out _ _ ?_); clear hK K))))
              ((refine wp_ret ?_; (try simp only [Exit.then, Exit.inBlock]); refine St.ret hM rfl (by repeat (first | exact Outs.nil | apply Outs.tmp rfl)) rfl ?_))
              exact ⟨false, rfl, nofun, hM.to_below⟩
            · (repeat (first | ((with_reducible show wpSeq _ _ _ _ _ _ _); first | ((with_reducible refine wpSeq_nil ?_); refine hKr.out _ _ ?_; clear hKr Kr) | ((first | (refine St.copy (v := ?_) (by first | exact .inl rfl | exact .inr rfl) rfl rfl ?_ ?_; rotate_left; (focus ((try simp only [Act.eval, getD_lit, qGz, qGs]); with_reducible rfl))) | refine St.inc rfl rfl rfl rfl rfl (by omega) ?_ | (refine St.pure (v := ?_) rfl rfl rfl (fun w => ?_) ?_; rotate_left; (focus (go_simp; all_goals with_reducible rfl))) | refine St.load rfl hM rfl rfl rfl rfl (by repeat constructor) (by rfl) (by kernel_rfl) ?_ | refine St.loadRowF rfl rfl rfl rfl rfl (hM.oldRow (by assumption)) (by kernel_rfl) ?_ | refine wpSeq_off rfl rfl ?_ | ((((refine St.storeRow rfl hM rfl rfl rfl rfl rfl (by repeat constructor) (Nat.le_of_ble_eq_true rfl) (Nat.le_of_ble_eq_true rfl) (by kernel_rfl) rfl ?_ ?_); (focus ((intro h; cases h; done))); clear hM; intro w hM)); (try simp only [Res.put, Res.known, Act.eval, Value.cells, getD_lit, qGz, qGs, List.toList_toArray, qSz, qSs, over, Nat.reduceAdd] at hM))); (try simp only [Act.put, qSa, qSz, qSs])) | (((refine St.alloc (ty := 34) (z := .agg #[.int .i64 0, .string ⟨#[]⟩, .string ⟨#[]⟩, .int .i64 0, .int .i64 0, .int .i64 0, .string ⟨#[]⟩, .int .i64 0, .int .i64 0]) rfl hM rfl rfl (by kernel_rfl) ?_); clear hM; intro w bk hM); (try simp only [Res.put, Res.known, Act.eval, Value.cells, getD_lit, qGz, qGs, List.toList_toArray, qSz, qSs, over, Nat.reduceAdd] at hM); (try simp only [Act.put, qSa, qSz, qSs]))) | (first | (refine wp_seq_shut (fun K hK => ?_)) | (refine wp_text hM (fun Kr hKr => ?_); simp only [inText]) | refine wp_block ?_ | refine wp_skip ?_ | (first | refine wp_cond_true rfl ?_ | refine wp_cond_false rfl ?_) | ((refine hK.out _ _ ?_); clear hK K))))
              replace hM := hM.drop (L' := []) nofun (by simp)
              (refine ⟨?_, ?_⟩; (focus (repeat (first | exact ⟨⟨k + 1, by omega, by omega, rfl, HN', hM⟩, rfl⟩ | apply Exists.intro))); (simp only [getD_lit, qGz, qGs, intOf]; omega))
          · (repeat (first | ((with_reducible show wpSeq _ _ _ _ _ _ _); first | ((with_reducible refine wpSeq_nil ?_); refine hKr.out _ _ ?_; clear hKr Kr) | ((first | (refine St.copy (v := ?_) (by first | exact .inl rfl | exact .inr rfl) rfl rfl ?_ ?_; rotate_left; (focus ((try simp only [Act.eval, getD_lit, qGz, qGs]); with_reducible rfl))) | refine St.inc rfl rfl rfl rfl rfl (by omega) ?_ | (refine St.pure (v := ?_) rfl rfl rfl (fun w => ?_) ?_; rotate_left; (focus (go_simp; all_goals with_reducible rfl))) | refine St.load rfl hM rfl rfl rfl rfl (by repeat constructor) (by rfl) (by kernel_rfl) ?_ | refine St.loadRowF rfl rfl rfl rfl rfl (hM.oldRow (by assumption)) (by kernel_rfl) ?_ | refine wpSeq_off rfl rfl ?_ | ((((refine St.storeRow rfl hM rfl rfl rfl rfl rfl (by repeat constructor) (Nat.le_of_ble_eq_true rfl) (Nat.le_of_ble_eq_true rfl) (by kernel_rfl) rfl ?_ ?_); (focus ((intro h; cases h; done))); clear hM; intro w hM)); (try simp only [Res.put, Res.known, Act.eval, Value.cells, getD_lit, qGz, qGs, List.toList_toArray, qSz, qSs, over, Nat.reduceAdd] at hM))); (try simp only [Act.put, qSa, qSz, qSs])) | (((refine St.alloc (ty := 34) (z := .agg #[.int .i64 0, .string ⟨#[]⟩, .string ⟨#[]⟩, .int .i64 0, .int .i64 0, .int .i64 0, .string ⟨#[]⟩, .int .i64 0, .int .i64 0]) rfl hM rfl rfl (by kernel_rfl) ?_); clear hM; intro w bk hM); (try simp only [Res.put, Res.known, Act.eval, Value.cells, getD_lit, qGz, qGs, List.toList_toArray, qSz, qSs, over, Nat.reduceAdd] at hM); (try simp only [Act.put, qSa, qSz, qSs]))) | (first | (refine wp_seq_shut (fun K hK => ?_)) | (refine wp_text hM (fun Kr hKr => ?_); simp only [inText]) | refine wp_block ?_ | refine wp_skip ?_ | (first | refine wp_cond_true rfl ?_ | refine wp_cond_false rfl ?_) | ((refine hK.out _ _ ?_); clear hK K))))
            replace hM := hM.drop (L' := []) nofun (by simp)
            (refine ⟨?_, ?_⟩; (focus (repeat (first | exact ⟨⟨k + 1, by omega, by omega, rfl, HN', hM⟩, rfl⟩ | apply Exists.intro))); (simp only [getD_lit, qGz, qGs, intOf]; omega))
      · have k2 : ¬ (xs.length : Int) ≤ most := by omega
        (repeat (first | ((with_reducible show wpSeq _ _ _ _ _ _ _); first | ((with_reducible refine wpSeq_nil ?_); refine hKr.out _ _ ?_; clear hKr Kr) | ((first | (refine St.copy (v := ?_) (by first | exact .inl rfl | exact .inr rfl) rfl rfl ?_ ?_; rotate_left; (focus ((try simp only [Act.eval, getD_lit, qGz, qGs]); with_reducible rfl))) | (refine St.pure (v := ?_) rfl rfl rfl (fun w => ?_) ?_; rotate_left; (focus (go_simp; all_goals with_reducible rfl)))); (try simp only [Act.put, qSa, qSz, qSs]))) | (first | (refine wp_seq_shut (fun K hK => ?_)) | (refine wp_text hM (fun Kr hKr => ?_); simp only [inText]) | (refine wp_cond_false rfl ?_) | (refine wp_exit ?_; simp only [Exit.then, Exit.inBlock, if_true, if_false, reduceCtorEq, Nat.reduceEqDiff, Nat.succ_ne_zero]) | ((first | refine hK.out _ _ ?_ | (clear hK K; refine hK.out _ _ ?_)); clear hK K))))
        ((refine wp_ret ?_; (try simp only [Exit.then, Exit.inBlock]); refine St.ret hM rfl (by repeat (first | exact Outs.nil | apply Outs.tmp rfl)) rfl ?_))
        exact ⟨false, rfl, nofun, hM.to_below⟩
    · have k0 : ¬ ((k : Int) < (xs.length : Int)) := by omega
      obtain rfl : k = xs.length := by omega
      clear hlt hk
      (repeat (first | ((with_reducible show wpSeq _ _ _ _ _ _ _); first | ((with_reducible refine wpSeq_nil ?_); refine hKr.out _ _ ?_; clear hKr Kr) | ((first | (refine St.copy (v := ?_) (by first | exact .inl rfl | exact .inr rfl) rfl rfl ?_ ?_; rotate_left; (focus ((try simp only [Act.eval, getD_lit, qGz, qGs]); with_reducible rfl))) | (refine St.pure (v := ?_) rfl rfl rfl (fun w => ?_) ?_; rotate_left; (focus (go_simp; all_goals with_reducible rfl))) | refine wpSeq_off rfl rfl ?_); (try simp only [Act.put, qSa, qSz, qSs]))) | (first | (refine wp_seq_shut (fun K hK => ?_)) | (refine wp_text hM (fun Kr hKr => ?_); simp only [inText]) | (refine wp_cond_false rfl ?_) | (refine wp_exit ?_; simp only [Exit.then, Exit.inBlock, if_true, if_false, reduceCtorEq, Nat.reduceEqDiff, Nat.succ_ne_zero]) | ((first | refine hK.out _ _ ?_ | (clear hK K; refine hK.out _ _ ?_)); clear hK K))))
      ((refine wp_ret ?_; (try simp only [Exit.then, Exit.inBlock]); refine St.ret hM rfl (by repeat (first | exact Outs.nil | apply Outs.tmp rfl)) rfl ?_))
      exact ⟨true, rfl, fun _ => ⟨hkm, fun j y hy => HS.out j y (List.getElem?_eq_some_iff.1 hy).1 hy⟩, hM.to_below⟩
/-- Acts in a slice of the call's own. -/
theorem own_acts {w0 w : World} {F : List Nat} {L : List Ent} {b : Nat} {ow : Bool} {t : TypeId} {x : ActF} (hM : St w0 F w L) (hm : (b, ow, Res.cells x.cells t) ∈ L) (hf : x.Fit) : ActsIn w (some ⟨b, 0, none⟩) 1 [x] := by
  refine ⟨rfl, by unfold maxLen; omega, fun k y hk => ?_⟩
  obtain ⟨rfl, rfl⟩ : k = 0 ∧ y = x := by
    rcases k with _ | k
    · exact ⟨rfl, by simpa using hk.symm⟩
    · simp at hk
  refine ⟨hf, b, 0, rfl, fun j hj => ?_⟩
  have hs : y.cells[j]? = some y.cells[j] := List.getElem?_eq_getElem (show j < 11 from hj)
  rw [hs, show 0 + 0 * 11 + j = j by omega]
  exact Res.cell (hM.holds _ hm) hs
end Go.Proofs.YtcicjklhbnipcaaGreatDoor
namespace Go.Proofs.YtcicjklhbnipcaaGreatDoor
set_option linter.unusedVariables false
set_option linter.unusedSimpArgs false
open Go.RowKit Go.Maps
/-- What is read of an act in memory. -/
theorem ActVsIn.get {w : World} {a : Option Addr} {n : Nat} {xs : List ActV} (h : ActVsIn w a n xs) {k : Nat} {x : ActV} (hk : xs[k]? = some x) :
    x.Fit ∧ ∃ b off, a = some ⟨b, off, none⟩ ∧ w.rangeAt b (off + k * 12) x.cells ∧ w.rangeAt b (off + k * 12 + 3) x.op.cells := by
  obtain ⟨-, -, h3⟩ := h
  obtain ⟨hf, b, off, rfl, hc⟩ := h3 k x hk
  refine ⟨hf, b, off, rfl, row_of fun j hj => hc j hj, row_of fun j hj => ?_⟩
  have hl : x.op.cells.length = 9 := rfl
  have := hc (j + 3) (by omega)
  rw [show off + k * 12 + (j + 3) = off + k * 12 + 3 + j by omega] at this
  rw [this]
  rfl
set_option maxHeartbeats 16000000 in
set_option maxRecDepth 100000 in
theorem small25_any {w : World} {a : Option Addr} {n c : Nat} {xs : List ActV} (most : Int) (hm0 : 0 ≤ most) (hm1 : most ≤ 1000) (h : ActVsIn w a n xs) :
    Calls Tryz.prog 46 #[.slice a n c, .int .i64 most] w fun e w' => ∃ b : Bool, e = .returned (.bool b) ∧ (b = true → (xs.length : Int) ≤ most ∧ ∀ (j : Nat) (y : ActV), xs[j]? = some y → SmallF ⟨0, false, y.op⟩) ∧ Below w.heap.size w w' := by
  have hM := St.start w []
  have HX := Lib.hid h
  obtain ⟨rfl, hn, -⟩ := h
  rw [maxLen_val] at hn
  go_enter Tryz.func46, Tryz.ntmps46
  (repeat (first | ((with_reducible show wpSeq _ _ _ _ _ _ _); first | ((with_reducible refine wpSeq_nil ?_); refine hKr.out _ _ ?_; clear hKr Kr) | (((refine St.copy (v := ?_) (by exact .inr rfl) rfl rfl ?_ ?_; rotate_left; (focus ((try simp only [Act.eval, getD_lit, qGz, qGs]); with_reducible rfl)))); (try simp only [Act.put, qSa, qSz, qSs]))) | (first | (refine wp_seq_shut (fun K hK => ?_)) | (refine wp_text hM (fun Kr hKr => ?_); simp only [inText]) | refine wp_block ?_ | ((refine hK.out _ _ ?_); clear hK K))))
  go_loopw [5] (fun i wr => ∃ k : Nat, k ≤ xs.length ∧ (k : Int) ≤ most ∧ i = .int .i64 k ∧ Hid (∀ (j : Nat) (y : ActV), j < k → xs[j]? = some y → SmallF ⟨0, false, y.op⟩) ∧ St w [] wr []) (fun i _ => xs.length - (intOf i).toNat)
  case atStart => exact ⟨0, by omega, hm0, rfl, Lib.hid (fun j y hj => absurd hj (by omega)), hM⟩
  case round =>
    clear hM
    obtain ⟨k, hk, hkm, rfl, HS, hM⟩ := hrel
    by_cases hlt : k < xs.length
    · have k1 : (k : Int) < (xs.length : Int) := by omega
      by_cases hlm : (k : Int) < most
      · obtain ⟨x, hxk⟩ := get_at hlt
        obtain ⟨hf, b, off, rfl, -, hc⟩ := HX.out.get hxk
        have HN := Lib.hid (fun (hs : SmallF ⟨0, false, x.op⟩) => (show ∀ (j : Nat) (y : ActV), j < k + 1 → xs[j]? = some y → SmallF ⟨0, false, y.op⟩ from fun j y hj hy => by
          rcases Nat.lt_or_ge j k with h | h
          · exact HS.out j y h hy
          · obtain rfl : j = k := by omega
            rw [hxk] at hy; cases hy; exact hs))
        have HF := Lib.hid hf.op
        clear hxk hf
        obtain ⟨ak, ap, aq, ⟨pk, pp, pd, ph, pa, pn, px, py, pb⟩⟩ := x
        simp only [OpD.cells] at hc
        (repeat (first | ((with_reducible show wpSeq _ _ _ _ _ _ _); first | ((with_reducible refine wpSeq_nil ?_); refine hKr.out _ _ ?_; clear hKr Kr) | ((first | (refine St.copy (v := ?_) (by exact .inl rfl) rfl rfl ?_ ?_; rotate_left; (focus ((try simp only [Act.eval, getD_lit, qGz, qGs]); with_reducible rfl))) | (refine St.pure (v := ?_) rfl rfl rfl (fun w => ?_) ?_; rotate_left; (focus (go_simp; all_goals with_reducible rfl))) | refine St.loadRowF rfl rfl rfl rfl rfl (hM.oldRow (by assumption)) (by kernel_rfl) ?_ | (((((refine St.buildSlice (cells := ?_) (e := ?_) rfl hM rfl rfl (fun w => ?_) ?_; rotate_left 2; (focus (go_simp; all_goals with_reducible rfl)))); clear hM; intro w bk hM)); (try simp only [Res.put, Res.known, Act.eval, Value.cells, getD_lit, qGz, qGs, List.toList_toArray, qSz, qSs, over, Nat.reduceAdd] at hM))); (try simp only [Act.put, qSa, qSz, qSs]))) | (first | (refine wp_seq_shut (fun K hK => ?_)) | (refine wp_text hM (fun Kr hKr => ?_); simp only [inText]) | refine wp_block ?_ | refine wp_skip ?_ | (refine wp_cond_true rfl ?_) | ((refine hK.out _ _ ?_); clear hK K))))
        ((refine St.call rfl rfl rfl (by kernel_rfl) (fun R hR => ?_); simp only [List.map_toArray, List.map_cons, List.map_nil, Act.eval, getD_lit, qGz, qGs]))
        refine (small9_any 1 (by decide) (by decide) (own_acts hM (x := ⟨0, false, ⟨pk, pp, pd, ph, pa, pn, px, py, pb⟩⟩) (by repeat constructor) ⟨show Fits (0 : Int) by decide, HF.out⟩)).mono ?_
        rintro e w' ⟨bb, rfl, hs, hb⟩
        replace hM := hM.below hb
        (refine hR.out _ _ (fun _ => ⟨hM.only, nofun⟩) ?_); clear hR R hb
        have HSM := Lib.hid hs
        clear hs
        (try simp only [Act.put, qSa, qSz, qSs])
        cases bb with
        | false =>
          (repeat (first | ((with_reducible show wpSeq _ _ _ _ _ _ _); first | ((with_reducible refine wpSeq_nil ?_); refine hKr.out _ _ ?_; clear hKr Kr) | ((first | (refine St.copy (v := ?_) (by exact .inr rfl) rfl rfl ?_ ?_; rotate_left; (focus ((try simp only [Act.eval, getD_lit, qGz, qGs]); with_reducible rfl))) | (refine St.pure (v := ?_) rfl rfl rfl (fun w => ?_) ?_; rotate_left; (focus (go_simp; all_goals with_reducible rfl)))); (try simp only [Act.put, qSa, qSz, qSs]))) | (first | (refine wp_seq_shut (fun K hK => ?_)) | (refine wp_text hM (fun Kr hKr => ?_); simp only [inText]) | (refine wp_cond_true rfl ?_) | ((refine hK.out _ _ ?_); clear hK K))))
          ((refine wp_ret ?_; (try simp only [Exit.then, Exit.inBlock]); refine St.ret hM rfl (by repeat (first | exact Outs.nil | apply Outs.tmp rfl)) rfl ?_))
          exact ⟨false, rfl, nofun, hM.to_below⟩
        | true =>
          have HN' := Lib.hid (HN.out ((HSM.out rfl).2 0 _ rfl))
          clear HN HSM
          (repeat (first | ((with_reducible show wpSeq _ _ _ _ _ _ _); first | ((with_reducible refine wpSeq_nil ?_); refine hKr.out _ _ ?_; clear hKr Kr) | ((first | (refine St.copy (v := ?_) (by first | exact .inl rfl | exact .inr rfl) rfl rfl ?_ ?_; rotate_left; (focus ((try simp only [Act.eval, getD_lit, qGz, qGs]); with_reducible rfl))) | refine St.inc rfl rfl rfl rfl rfl (by omega) ?_ | (refine St.pure (v := ?_) rfl rfl rfl (fun w => ?_) ?_; rotate_left; (focus (go_simp; all_goals with_reducible rfl)))); (try simp only [Act.put, qSa, qSz, qSs]))) | (first | (refine wp_text hM (fun Kr hKr => ?_); simp only [inText]) | refine wp_skip ?_ | (refine wp_cond_false rfl ?_) | ((refine hK.out _ _ ?_); clear hK K))))
          replace hM := hM.drop (L' := []) nofun (by simp)
          simp only [Exit.then]
          (refine ⟨?_, ?_⟩; (focus (repeat (first | exact ⟨⟨k + 1, by omega, by omega, rfl, HN', hM⟩, rfl⟩ | apply Exists.intro))); (simp only [getD_lit, qGz, qGs, intOf]; omega))
      · have k2 : ¬ (xs.length : Int) ≤ most := by omega
        (repeat (first | ((with_reducible show wpSeq _ _ _ _ _ _ _); first | ((with_reducible refine wpSeq_nil ?_); refine hKr.out _ _ ?_; clear hKr Kr) | ((first | (refine St.copy (v := ?_) (by first | exact .inl rfl | exact .inr rfl) rfl rfl ?_ ?_; rotate_left; (focus ((try simp only [Act.eval, getD_lit, qGz, qGs]); with_reducible rfl))) | (refine St.pure (v := ?_) rfl rfl rfl (fun w => ?_) ?_; rotate_left; (focus (go_simp; all_goals with_reducible rfl)))); (try simp only [Act.put, qSa, qSz, qSs]))) | (first | (refine wp_seq_shut (fun K hK => ?_)) | (refine wp_text hM (fun Kr hKr => ?_); simp only [inText]) | (refine wp_cond_false rfl ?_) | (refine wp_exit ?_; simp only [Exit.then, Exit.inBlock, if_true, if_false, reduceCtorEq, Nat.reduceEqDiff, Nat.succ_ne_zero]) | ((first | refine hK.out _ _ ?_ | (clear hK K; refine hK.out _ _ ?_)); clear hK K))))
        ((refine wp_ret ?_; (try simp only [Exit.then, Exit.inBlock]); refine St.ret hM rfl (by repeat (first | exact Outs.nil | apply Outs.tmp rfl)) rfl ?_))
        exact ⟨false, rfl, nofun, hM.to_below⟩
    · have k0 : ¬ ((k : Int) < (xs.length : Int)) := by omega
      obtain rfl : k = xs.length := by omega
      clear hlt hk
      (repeat (first | ((with_reducible show wpSeq _ _ _ _ _ _ _); first | ((with_reducible refine wpSeq_nil ?_); refine hKr.out _ _ ?_; clear hKr Kr) | ((first | (refine St.copy (v := ?_) (by first | exact .inl rfl | exact .inr rfl) rfl rfl ?_ ?_; rotate_left; (focus ((try simp only [Act.eval, getD_lit, qGz, qGs]); with_reducible rfl))) | (refine St.pure (v := ?_) rfl rfl rfl (fun w => ?_) ?_; rotate_left; (focus (go_simp; all_goals with_reducible rfl))) | refine wpSeq_off rfl rfl ?_); (try simp only [Act.put, qSa, qSz, qSs]))) | (first | (refine wp_seq_shut (fun K hK => ?_)) | (refine wp_text hM (fun Kr hKr => ?_); simp only [inText]) | (refine wp_cond_false rfl ?_) | (refine wp_exit ?_; simp only [Exit.then, Exit.inBlock, if_true, if_false, reduceCtorEq, Nat.reduceEqDiff, Nat.succ_ne_zero]) | ((first | refine hK.out _ _ ?_ | (clear hK K; refine hK.out _ _ ?_)); clear hK K))))
      ((refine wp_ret ?_; (try simp only [Exit.then, Exit.inBlock]); refine St.ret hM rfl (by repeat (first | exact Outs.nil | apply Outs.tmp rfl)) rfl ?_))
      exact ⟨true, rfl, fun _ => ⟨hkm, fun j y hy => HS.out j y (List.getElem?_eq_some_iff.1 hy).1 hy⟩, hM.to_below⟩
end Go.Proofs.YtcicjklhbnipcaaGreatDoor
