/-
  Texts laid one behind the other: what SurZ asks for.
-/
import Derived.Test.YtcicjklhbnipcaaGreatDoorPkSuD
namespace Go.Proofs.YtcicjklhbnipcaaGreatDoor
set_option linter.unusedVariables false
set_option linter.unusedSimpArgs false
open Go.RowKit Go.Maps
namespace Pt
/-- What stands ahead of the first piece. -/
def glue (x : List UInt8) : List (List UInt8) → List (List UInt8)
  | [] => [x]
  | y :: r => (x ++ y) :: r
theorem glue_nil (s : List UInt8) : glue [] (sp s) = sp s := by
  obtain ⟨x, r, h⟩ := sp_some s
  rw [h]
  rfl
theorem glue_slash (x s : List UInt8) : glue x (sp (47 :: s)) = x :: glue [] (sp s) := by
  rw [sp_slash, glue_nil]
  simp [glue]
theorem glue_ne {c : UInt8} (h : c ≠ 47) (x s : List UInt8) : glue x (sp (c :: s)) = glue (x ++ [c]) (sp s) := by
  obtain ⟨y, r, hy⟩ := sp_some s
  rw [sp_ne h, hy]
  simp [glue]
end Pt
theorem ba_one {s : ByteArray} {k : Nat} {c : UInt8} (h : s.data.toList[k]? = some c) : s.extract k (k + 1) = ⟨#[c]⟩ := by
  refine Pt.ba_ext ?_
  simp only [ByteArray.data_extract, Array.toList_extract]
  have hk := (List.getElem?_eq_some_iff.1 h).1
  rw [List.extract_eq_take_drop, List.drop_eq_getElem_cons hk, (List.getElem?_eq_some_iff.1 h).2]
  simp
set_option maxHeartbeats 8000000 in
set_option maxRecDepth 100000 in
theorem rParts_any (p : ByteArray) (w : World) (hp : p.size ≤ 1000000) : Calls Tryz.prog 128 #[.string p] w (SomeTx (Pt.parts p) w) := by
  have hM := St.start w []
  by_cases h0 : p.size = 0
  · have e : Pt.parts p = [] := if_pos h0
    rw [e]
    have hq := beqs_yes (size_nil.1 h0)
    clear h0 hp
    go_enter Tryz.func128, Tryz.ntmps128
    (repeat (first | ((with_reducible show wpSeq _ _ _ _ _ _ _); first | ((with_reducible refine wpSeq_nil ?_); refine hKr.out _ _ ?_; clear hKr Kr) | ((first | (refine St.copy (v := ?_) (by first | exact .inl rfl | exact .inr rfl) rfl rfl ?_ ?_; rotate_left; (focus ((try simp only [Act.eval, getD_lit, qGz, qGs]); with_reducible rfl))) | (refine St.pure (v := ?_) rfl rfl rfl (fun w => ?_) ?_; rotate_left; (focus (go_simp; all_goals with_reducible rfl)))); (try simp only [Act.put, qSa, qSz, qSs]))) | (first | (refine wp_seq_shut (fun K hK => ?_)) | (refine wp_text hM (fun Kr hKr => ?_); simp only [inText]) | (refine wp_cond_true rfl ?_) | ((refine hK.out _ _ ?_); clear hK K))))
    (refine wp_ret ?_; (try simp only [Exit.then, Exit.inBlock]); refine St.ret hM rfl (by repeat (first | exact Outs.nil | apply Outs.tmp rfl)) rfl ?_)
    exact ⟨none, rfl, ⟨rfl, rfl⟩, hM⟩
  · have e : Pt.parts p = (Pt.sp p.data.toList).map Pt.mk := Pt.parts_sp h0
    have hq := beqs_no (l := []) (fun h => h0 (size_nil.2 h))
    rw [e]
    have hz : p.size = p.data.toList.length := Lib.size_eq p
    generalize hl : p.data.toList = l at *
    go_enter Tryz.func128, Tryz.ntmps128
    (repeat (first | ((with_reducible show wpSeq _ _ _ _ _ _ _); first | ((with_reducible refine wpSeq_nil ?_); refine hKr.out _ _ ?_; clear hKr Kr) | ((first | (refine St.copy (v := ?_) (by first | exact .inl rfl | exact .inr rfl) rfl rfl ?_ ?_; rotate_left; (focus ((try simp only [Act.eval, getD_lit, qGz, qGs]); with_reducible rfl))) | (refine St.pure (v := ?_) rfl rfl rfl (fun w => ?_) ?_; rotate_left; (focus (go_simp; all_goals with_reducible rfl)))); (try simp only [Act.put, qSa, qSz, qSs]))) | (first | (refine wp_seq_shut (fun K hK => ?_)) | (refine wp_text hM (fun Kr hKr => ?_); simp only [inText]) | refine wp_block ?_ | refine wp_skip ?_ | (refine wp_cond_false rfl ?_) | ((refine hK.out _ _ ?_); clear hK K))))
    go_loopw [3, 4, 5] (fun o t i wr => ∃ (k : Nat) (s : Option (Nat × Nat)) (xs : List ByteArray) (y : ByteArray), k ≤ l.length ∧ o = slV s xs.length ∧ t = .string y ∧ i = .int .i64 k ∧ xs.length ≤ k ∧ y.size ≤ k ∧ Hid (xs.map (·.data.toList) ++ Pt.glue y.data.toList (Pt.sp (l.drop k)) = Pt.sp l) ∧ TxOK s xs ∧ St w [] wr (txL s xs)) (fun _ _ i _ => l.length - (intOf i).toNat)
    case atStart => exact ⟨0, none, [], ⟨#[]⟩, by omega, rfl, rfl, rfl, Nat.le_refl _, Nat.le_refl _, Lib.hid (by rw [List.drop_zero]; exact Pt.glue_nil l), ⟨rfl, rfl⟩, hM⟩
    case round =>
      clear hM
      obtain ⟨k, s, xs, y, hk, rfl, rfl, rfl, hxk, hyk, HG, hok, hM⟩ := hrel
      have HOK := Lib.hid hok
      clear hok
      obtain ⟨va, vc, hv, hva⟩ := slV_open HOK.out
      by_cases hlt : k < l.length
      · obtain ⟨c, hc⟩ := get_at hlt
        have hd : l.drop k = c :: l.drop (k + 1) := by rw [List.drop_eq_getElem_cons hlt, (List.getElem?_eq_some_iff.1 hc).2]
        have hc' : p.data.toList[k]? = some c := by rw [hl]; exact hc
        have k1 : (k : Int) < (p.size : Int) := by omega
        have hkp : k < p.size := by omega
        have hpc : p[k]'hkp = c := by
          have := (List.getElem?_eq_some_iff.1 hc').2
          rw [← this]
          rfl
        by_cases h47 : c = 47
        · subst h47
          have hp47 : (((p[k]'hkp).toNat : Int) == 47) = true := by rw [hpc]; rfl
          clear hpc
          have HG' := HG.out
          rw [hd, Pt.glue_slash] at HG'
          have HH := Lib.hid HG'
          clear HG HG' hd hc
          rw [hv]
          (repeat (first | ((with_reducible show wpSeq _ _ _ _ _ _ _); first | ((with_reducible refine wpSeq_nil ?_); refine hKr.out _ _ ?_; clear hKr Kr) | ((first | (refine St.copy (v := ?_) (by exact .inl rfl) rfl rfl ?_ ?_; rotate_left; (focus ((try simp only [Act.eval, getD_lit, qGz, qGs]); with_reducible rfl))) | (refine St.pure (v := ?_) rfl rfl rfl (fun w => ?_) ?_; rotate_left; (focus (go_simp; all_goals with_reducible rfl))) | (((((refine St.buildSlice (cells := ?_) (e := ?_) rfl hM rfl rfl (fun w => ?_) ?_; rotate_left 2; (focus (go_simp; all_goals with_reducible rfl)))); clear hM; intro w bk hM)); (try simp only [Res.put, Res.known, Act.eval, Value.cells, getD_lit, qGz, qGs, List.toList_toArray, qSz, qSs, over, Nat.reduceAdd] at hM))); (try simp only [Act.put, qSa, qSz, qSs]))) | (first | (refine wp_seq_shut (fun K hK => ?_)) | (refine wp_text hM (fun Kr hKr => ?_); simp only [inText]) | refine wp_block ?_ | refine wp_skip ?_ | (refine wp_cond_true rfl ?_) | ((refine hK.out _ _ ?_); clear hK K))))
          rw [← hv]
          refine St.append (s := s) (n := xs.length) (xs := xs.map Value.string) rfl hM rfl rfl rfl rfl rfl (by kernel_rfl) (by intro s'; repeat (first | exact Swap.all | apply Swap.skip)) HOK.out rfl (hM.news (by repeat constructor)) rfl (by rw [maxLen_val]; omega) (by omega) (fun h => by cases h) ?_
          clear hM; intro w s' hM hk' hs'
          simp only [Res.known] at hM hk'
          have e1 : xs.map Value.string ++ [Value.string y] = (xs ++ [y]).map Value.string := by simp
          have e2 : xs.length + 1 = (xs ++ [y]).length := by simp
          rw [e1] at hM hk'
          rw [e2] at hk'
          rw [e2]
          have HK' := Lib.hid hk'
          clear hk' hs' HOK
          have HH' := Lib.hid (show (xs ++ [y]).map (·.data.toList) ++ Pt.glue (⟨#[]⟩ : ByteArray).data.toList (Pt.sp (l.drop (k + 1))) = Pt.sp l from by rw [← HH.out]; simp)
          have hxy : (xs ++ [y]).length ≤ k + 1 := by rw [List.length_append, List.length_singleton]; omega
          obtain ⟨va2, vc2, hv2, -⟩ := slV_open HK'.out
          rw [hv2]
          (try simp only [Act.put, qSa, qSz, qSs])
          (repeat (first | ((with_reducible show wpSeq _ _ _ _ _ _ _); first | ((with_reducible refine wpSeq_nil ?_); refine hKr.out _ _ ?_; clear hKr Kr) | ((first | (refine St.copy (v := ?_) (by first | exact .inl rfl | exact .inr rfl) rfl rfl ?_ ?_; rotate_left; (focus ((try simp only [Act.eval, getD_lit, qGz, qGs]); with_reducible rfl))) | refine St.inc rfl rfl rfl rfl rfl (by omega) ?_); (try simp only [Act.put, qSa, qSz, qSs]))) | (first | (refine wp_text hM (fun Kr hKr => ?_); simp only [inText]) | ((refine hK.out _ _ ?_); clear hK K))))
          replace hM := hM.forget
          simp only [Exit.then]
          rw [← hv2]
          (refine ⟨?_, ?_⟩; (focus (repeat (first | exact ⟨⟨k + 1, s', xs ++ [y], ⟨#[]⟩, by omega, rfl, rfl, rfl, hxy, Nat.zero_le _, HH', HK'.out, hM⟩, rfl⟩ | apply Exists.intro))); (simp only [getD_lit, qGz, qGs, intOf]; omega))
        · have HG' := HG.out
          rw [hd, Pt.glue_ne h47] at HG'
          have q47 : ((c.toNat : Int) == 47) = false := by
            rw [beq_eq_false_iff_ne]
            intro e
            apply h47
            have : c.toNat = 47 := by omega
            exact UInt8.toNat_inj.1 this
          have hex : p.extract k (k + 1) = ⟨#[c]⟩ := ba_one hc'
          have hp47 : (((p[k]'hkp).toNat : Int) == 47) = false := by rw [hpc]; exact q47
          clear hpc q47
          have HH := Lib.hid (show xs.map (·.data.toList) ++ Pt.glue (y ++ ⟨#[c]⟩ : ByteArray).data.toList (Pt.sp (l.drop (k + 1))) = Pt.sp l from by rw [← HG']; simp)
          have hy1 : (y ++ ⟨#[c]⟩ : ByteArray).size ≤ k + 1 := by rw [ByteArray.size_append]; show y.size + 1 ≤ _; omega
          clear HG HG' hd hc
          rw [hv]
          (repeat (first | ((with_reducible show wpSeq _ _ _ _ _ _ _); first | ((with_reducible refine wpSeq_nil ?_); refine hKr.out _ _ ?_; clear hKr Kr) | ((first | (refine St.copy (v := ?_) (by exact .inl rfl) rfl rfl ?_ ?_; rotate_left; (focus ((try simp only [Act.eval, getD_lit, qGz, qGs]); with_reducible rfl))) | refine St.inc rfl rfl rfl rfl rfl (by omega) ?_ | (refine St.pure (v := ?_) rfl rfl rfl (fun w => ?_) ?_; rotate_left; (focus (go_simp; all_goals with_reducible rfl)))); (try simp only [Act.put, qSa, qSz, qSs]))) | (first | (refine wp_seq_shut (fun K hK => ?_)) | (refine wp_text hM (fun Kr hKr => ?_); simp only [inText]) | refine wp_block ?_ | refine wp_skip ?_ | (first | refine wp_cond_true rfl ?_ | refine wp_cond_false rfl ?_) | ((refine hK.out _ _ ?_); clear hK K))))
          refine St.strSub (i := k) (j := k + 1) rfl rfl rfl rfl rfl rfl Tryz.underlying9 (by omega) (by omega) ?_
          rw [hex]
          (try simp only [Act.put, qSa, qSz, qSs])
          (repeat (first | ((with_reducible show wpSeq _ _ _ _ _ _ _); first | ((with_reducible refine wpSeq_nil ?_); refine hKr.out _ _ ?_; clear hKr Kr) | ((first | (refine St.copy (v := ?_) (by first | exact .inl rfl | exact .inr rfl) rfl rfl ?_ ?_; rotate_left; (focus ((try simp only [Act.eval, getD_lit, qGz, qGs]); with_reducible rfl))) | refine St.cat rfl rfl rfl rfl rfl (by (simp only [ByteArray.size_append, ba_size, List.size_toArray, List.length_cons, List.length_nil, Nat.reduceAdd]; omega)) ?_ | refine St.inc rfl rfl rfl rfl rfl (by omega) ?_); (try simp only [Act.put, qSa, qSz, qSs]))) | (first | (refine wp_text hM (fun Kr hKr => ?_); simp only [inText]) | ((refine hK.out _ _ ?_); clear hK K))))
          simp only [Exit.then]
          rw [← hv]
          (refine ⟨?_, ?_⟩; (focus (repeat (first | exact ⟨⟨k + 1, s, xs, y ++ ⟨#[c]⟩, by omega, rfl, rfl, rfl, by omega, hy1, HH, HOK.out, hM⟩, rfl⟩ | apply Exists.intro))); (simp only [getD_lit, qGz, qGs, intOf]; omega))
      · have k0 : ¬ ((k : Int) < (p.size : Int)) := by omega
        obtain rfl : k = l.length := by omega
        have HG' := HG.out
        rw [List.drop_length, Pt.sp_nil] at HG'
        have hfin : (Pt.sp l).map Pt.mk = xs ++ [y] := by
          rw [← HG', List.map_append, List.map_map]
          show List.map (fun b : ByteArray => b) xs ++ [Pt.mk (y.data.toList ++ [])] = _
          rw [List.map_id', List.append_nil]
          rfl
        have HFN := Lib.hid hfin
        clear hlt HG HG' hfin
        rw [hv]
        (repeat (first | ((with_reducible show wpSeq _ _ _ _ _ _ _); first | ((with_reducible refine wpSeq_nil ?_); refine hKr.out _ _ ?_; clear hKr Kr) | ((first | (refine St.copy (v := ?_) (by exact .inl rfl) rfl rfl ?_ ?_; rotate_left; (focus ((try simp only [Act.eval, getD_lit, qGz, qGs]); with_reducible rfl))) | (refine St.pure (v := ?_) rfl rfl rfl (fun w => ?_) ?_; rotate_left; (focus (go_simp; all_goals with_reducible rfl))) | (((((refine St.buildSlice (cells := ?_) (e := ?_) rfl hM rfl rfl (fun w => ?_) ?_; rotate_left 2; (focus (go_simp; all_goals with_reducible rfl)))); clear hM; intro w bk hM)); (try simp only [Res.put, Res.known, Act.eval, Value.cells, getD_lit, qGz, qGs, List.toList_toArray, qSz, qSs, over, Nat.reduceAdd] at hM))); (try simp only [Act.put, qSa, qSz, qSs]))) | (first | (refine wp_seq_shut (fun K hK => ?_)) | (refine wp_text hM (fun Kr hKr => ?_); simp only [inText]) | (refine wp_cond_false rfl ?_) | (refine wp_exit ?_; simp only [Exit.then, Exit.inBlock, if_true, if_false, reduceCtorEq, Nat.reduceEqDiff, Nat.succ_ne_zero]) | ((first | refine hK.out _ _ ?_ | (clear hK K; refine hK.out _ _ ?_)); clear hK K))))
        rw [← hv]
        refine St.append (s := s) (n := xs.length) (xs := xs.map Value.string) rfl hM rfl rfl rfl rfl rfl (by kernel_rfl) (by intro s'; repeat (first | exact Swap.all | apply Swap.skip)) HOK.out rfl (hM.news (by repeat constructor)) rfl (by rw [maxLen_val]; omega) (by omega) (fun h => by cases h) ?_
        clear hM; intro w s' hM hk' hs'
        simp only [Res.known] at hM hk'
        have e1 : xs.map Value.string ++ [Value.string y] = (xs ++ [y]).map Value.string := by simp
        have e2 : xs.length + 1 = (xs ++ [y]).length := by simp
        rw [e1] at hM hk'
        rw [e2] at hk'
        rw [e2]
        have HK' := Lib.hid hk'
        clear hk' hs' HOK
        obtain ⟨va2, vc2, hv2, -⟩ := slV_open HK'.out
        rw [hv2]
        (try simp only [Act.put, qSa, qSz, qSs])
        (repeat (first | ((with_reducible show wpSeq _ _ _ _ _ _ _); first | ((with_reducible refine wpSeq_nil ?_); refine hKr.out _ _ ?_; clear hKr Kr) | (((refine St.copy (v := ?_) (by exact .inr rfl) rfl rfl ?_ ?_; rotate_left; (focus ((try simp only [Act.eval, getD_lit, qGz, qGs]); with_reducible rfl)))); (try simp only [Act.put, qSa, qSz, qSs]))) | (((refine hK.out _ _ ?_); clear hK K))))
        rw [← hv2]
        ((refine wp_ret ?_; (try simp only [Exit.then, Exit.inBlock]); refine St.ret hM rfl (by repeat (first | exact Outs.nil | apply Outs.tmp rfl)) rfl ?_))
        rw [HFN.out]
        exact ⟨s', rfl, HK'.out, hM.forget⟩
set_option maxHeartbeats 8000000 in
set_option maxRecDepth 100000 in
theorem rUnder_any (p dir : ByteArray) (w : World) (hp : p.size ≤ 1000000) (hd : dir.size ≤ 1000000) : Calls Tryz.prog 78 #[.string p, .string dir] w fun e w' => e = .returned (.bool (Pt.under p dir)) ∧ Below w.heap.size w w' := by
  have hM := St.start w []
  have C1 := Lib.hid (fun (W : World) => rParts_any p W hp)
  have C2 := Lib.hid (fun (W : World) => rParts_any dir W hd)
  have l1 := Pt.parts_len p hp
  have l2 := Pt.parts_len dir hd
  unfold Pt.under
  generalize Pt.parts p = xs at *
  generalize Pt.parts dir = ys at *
  generalize hU : (decide (ys.length < xs.length) && decide (xs.take ys.length = ys)) = U
  have HU := Lib.hid hU
  clear hU
  go_enter Tryz.func78, Tryz.ntmps78
  (repeat (first | ((with_reducible show wpSeq _ _ _ _ _ _ _); first | ((with_reducible refine wpSeq_nil ?_); refine hKr.out _ _ ?_; clear hKr Kr) | (((refine St.copy (v := ?_) (by first | exact .inl rfl | exact .inr rfl) rfl rfl ?_ ?_; rotate_left; (focus ((try simp only [Act.eval, getD_lit, qGz, qGs]); with_reducible rfl)))); (try simp only [Act.put, qSa, qSz, qSs]))) | (first | (refine wp_seq_shut (fun K hK => ?_)) | (refine wp_text hM (fun Kr hKr => ?_); simp only [inText]) | ((refine hK.out _ _ ?_); clear hK K))))
  ((refine St.call rfl rfl rfl (by kernel_rfl) (fun R hR => ?_); simp only [List.map_toArray, List.map_cons, List.map_nil, Act.eval, getD_lit, qGz, qGs]))
  refine (C1.out _).mono ?_
  rintro e w' ⟨s1, rfl, hk1, hN⟩
  replace hM := hM.madeM hN (txL_flag _ _)
  refine hR.out _ _ (fun h => h.below hN.to_below) ?_; clear hR R hN
  obtain ⟨a1, c1, hv1, ha1⟩ := slV_open hk1
  rw [hv1]
  (try simp only [Act.put, qSa, qSz, qSs])
  (repeat (((with_reducible show wpSeq _ _ _ _ _ _ _); (((refine St.copy (v := ?_) (by exact .inl rfl) rfl rfl ?_ ?_; rotate_left; (focus ((try simp only [Act.eval, getD_lit, qGz, qGs]); with_reducible rfl)))); (try simp only [Act.put, qSa, qSz, qSs])))))
  ((refine St.call rfl rfl rfl (by kernel_rfl) (fun R hR => ?_); simp only [List.map_toArray, List.map_cons, List.map_nil, Act.eval, getD_lit, qGz, qGs]))
  refine (C2.out _).mono ?_
  rintro e w' ⟨s2, rfl, hk2, hN⟩
  replace hM := hM.madeM hN (txL_flag _ _)
  refine hR.out _ _ (fun h => h.below hN.to_below) ?_; clear hR R hN
  obtain ⟨a2, c2, hv2, ha2⟩ := slV_open hk2
  rw [hv2]
  (try simp only [Act.put, qSa, qSz, qSs])
  by_cases h1 : xs.length ≤ ys.length
  · have k1 : (xs.length : Int) ≤ (ys.length : Int) := by omega
    have e : false = U := by rw [← HU.out, decide_eq_false (show ¬ ys.length < xs.length by omega), Bool.false_and]
    subst e
    (repeat (first | ((with_reducible show wpSeq _ _ _ _ _ _ _); first | ((with_reducible refine wpSeq_nil ?_); refine hKr.out _ _ ?_; clear hKr Kr) | ((first | (refine St.copy (v := ?_) (by first | exact .inl rfl | exact .inr rfl) rfl rfl ?_ ?_; rotate_left; (focus ((try simp only [Act.eval, getD_lit, qGz, qGs]); with_reducible rfl))) | (refine St.pure (v := ?_) rfl rfl rfl (fun w => ?_) ?_; rotate_left; (focus (go_simp; all_goals with_reducible rfl)))); (try simp only [Act.put, qSa, qSz, qSs]))) | (first | (refine wp_seq_shut (fun K hK => ?_)) | (refine wp_text hM (fun Kr hKr => ?_); simp only [inText]) | (refine wp_cond_true rfl ?_) | ((refine hK.out _ _ ?_); clear hK K))))
    ((refine wp_ret ?_; (try simp only [Exit.then, Exit.inBlock]); refine St.ret hM rfl (by repeat (first | exact Outs.nil | apply Outs.tmp rfl)) rfl ?_))
    exact ⟨rfl, hM.to_below⟩
  · have k1 : ¬ ((xs.length : Int) ≤ (ys.length : Int)) := by omega
    rcases s1 with _ | ⟨g1, cap1⟩
    · exact absurd hk1.2 (by omega)
    obtain ⟨rfl, rfl⟩ := ha1 g1 cap1 rfl
    have e : decide (xs.take ys.length = ys) = U := by rw [← HU.out, decide_eq_true (show ys.length < xs.length by omega), Bool.true_and]
    have HE := Lib.hid e
    clear e HU hv1
    have HK2 := Lib.hid hk2
    have hn1 : xs.length ≤ 1000001 := l1
    (repeat (first | ((with_reducible show wpSeq _ _ _ _ _ _ _); first | ((with_reducible refine wpSeq_nil ?_); refine hKr.out _ _ ?_; clear hKr Kr) | ((first | (refine St.copy (v := ?_) (by first | exact .inl rfl | exact .inr rfl) rfl rfl ?_ ?_; rotate_left; (focus ((try simp only [Act.eval, getD_lit, qGz, qGs]); with_reducible rfl))) | (refine St.pure (v := ?_) rfl rfl rfl (fun w => ?_) ?_; rotate_left; (focus (go_simp; all_goals with_reducible rfl)))); (try simp only [Act.put, qSa, qSz, qSs]))) | (first | (refine wp_seq_shut (fun K hK => ?_)) | (refine wp_text hM (fun Kr hKr => ?_); simp only [inText]) | refine wp_block ?_ | refine wp_skip ?_ | (refine wp_cond_false rfl ?_) | ((refine hK.out _ _ ?_); clear hK K))))
    go_loopw [7] (fun i wr => ∃ k : Nat, k ≤ ys.length ∧ i = .int .i64 k ∧ Hid (xs.take k = ys.take k) ∧ St w [] wr (txL s2 ys ++ txL (some (g1, c1)) xs)) (fun i _ => ys.length - (intOf i).toNat)
    case atStart => exact ⟨0, by omega, rfl, Lib.hid rfl, hM⟩
    case round =>
      clear hM
      obtain ⟨k, hk, rfl, HT, hM⟩ := hrel
      by_cases hlt : k < ys.length
      · rcases s2 with _ | ⟨g2, cap2⟩
        · exact absurd HK2.out.2 (by omega)
        obtain ⟨rfl, rfl⟩ := ha2 g2 cap2 rfl
        have hlx : k < xs.length := by omega
        obtain ⟨y, hy⟩ := get_at hlt
        obtain ⟨x, hx⟩ := get_at hlx
        have hy' : (ys.map Value.string)[k]? = some (.string y) := by rw [List.getElem?_map, hy]; rfl
        have hx' : (xs.map Value.string)[k]? = some (.string x) := by rw [List.getElem?_map, hx]; rfl
        have k2 : (k : Int) < (ys.length : Int) := by omega
        have k3 : (k : Int) < (xs.length : Int) := by omega
        simp only [slL, List.cons_append, List.nil_append] at hM
        by_cases hxy : x = y
        · have q1 : (x.toList == y.toList) = true := by rw [hxy]; simp
          have HT' := Lib.hid (show xs.take (k + 1) = ys.take (k + 1) from by rw [List.take_add_one, List.take_add_one, HT.out, hx, hy, hxy])
          clear hy hx hxy HT
          (repeat (first | ((with_reducible show wpSeq _ _ _ _ _ _ _); first | ((with_reducible refine wpSeq_nil ?_); refine hKr.out _ _ ?_; clear hKr Kr) | ((first | (refine St.copy (v := ?_) (by exact .inl rfl) rfl rfl ?_ ?_; rotate_left; (focus ((try simp only [Act.eval, getD_lit, qGz, qGs]); with_reducible rfl))) | (refine St.pure (v := ?_) rfl rfl rfl (fun w => ?_) ?_; rotate_left; (focus (go_simp; all_goals with_reducible rfl)))); (try simp only [Act.put, qSa, qSz, qSs]))) | (first | (refine wp_seq_shut (fun K hK => ?_)) | (refine wp_text hM (fun Kr hKr => ?_); simp only [inText]) | refine wp_block ?_ | refine wp_skip ?_ | (refine wp_cond_true rfl ?_) | ((refine hK.out _ _ ?_); clear hK K)) | ((refine wp_drawn (id := 7) hM (Sub.all _) [3] [(0, 0), (1, 0), (2, 0), (3, 1), (4, 0), (5, 2), (6, 2), (7, 2), (8, 3)] (by kernel_rfl) (by kernel_rfl) ?_); (clear hM; intro w hM Kr hKr); simp only [opsOf, qGz, qGs])))
          refine St.load1 rfl rfl rfl rfl (by repeat constructor) (by assumption) (by kernel_rfl) ?_
          (try simp only [Act.put, qSa, qSz, qSs])
          (repeat (first | ((with_reducible show wpSeq _ _ _ _ _ _ _); first | ((with_reducible refine wpSeq_nil ?_); refine hKr.out _ _ ?_; clear hKr Kr) | ((first | (refine St.copy (v := ?_) (by first | exact .inl rfl | exact .inr rfl) rfl rfl ?_ ?_; rotate_left; (focus ((try simp only [Act.eval, getD_lit, qGz, qGs]); with_reducible rfl))) | refine St.inc rfl rfl rfl rfl rfl (by omega) ?_ | (refine St.pure (v := ?_) rfl rfl rfl (fun w => ?_) ?_; rotate_left; (focus (go_simp; all_goals with_reducible rfl))) | refine St.load rfl hM rfl rfl rfl rfl (by repeat constructor) (by assumption) (by kernel_rfl) ?_); (try simp only [Act.put, qSa, qSz, qSs]))) | (first | (refine wp_text hM (fun Kr hKr => ?_); simp only [inText]) | refine wp_skip ?_ | (refine wp_cond_false rfl ?_) | ((refine hK.out _ _ ?_); clear hK K))))
          (try simp only [Exit.then])
          (refine ⟨?_, ?_⟩; (focus (repeat (first | exact ⟨⟨k + 1, by omega, rfl, HT', hM⟩, rfl⟩ | apply Exists.intro))); (simp only [getD_lit, qGz, qGs, intOf]; omega))
        · have q1 : (x.toList == y.toList) = false := by rw [ByteArray.toList_eq, ByteArray.toList_eq]; exact beq_eq_false_iff_ne.2 fun h => hxy (Pt.ba_ext h)
          have e : false = U := by
            rw [← HE.out]
            refine (decide_eq_false fun h => hxy ?_).symm
            have h2 : (xs.take ys.length)[k]? = ys[k]? := by rw [h]
            rw [List.getElem?_take, if_pos hlt, hx, hy] at h2
            exact Option.some.inj h2
          subst e
          clear hy hx hxy HT
          (repeat (first | ((with_reducible show wpSeq _ _ _ _ _ _ _); first | ((with_reducible refine wpSeq_nil ?_); refine hKr.out _ _ ?_; clear hKr Kr) | ((first | (refine St.copy (v := ?_) (by exact .inl rfl) rfl rfl ?_ ?_; rotate_left; (focus ((try simp only [Act.eval, getD_lit, qGz, qGs]); with_reducible rfl))) | (refine St.pure (v := ?_) rfl rfl rfl (fun w => ?_) ?_; rotate_left; (focus (go_simp; all_goals with_reducible rfl)))); (try simp only [Act.put, qSa, qSz, qSs]))) | (first | (refine wp_seq_shut (fun K hK => ?_)) | (refine wp_text hM (fun Kr hKr => ?_); simp only [inText]) | refine wp_block ?_ | refine wp_skip ?_ | (refine wp_cond_true rfl ?_) | ((refine hK.out _ _ ?_); clear hK K)) | ((refine wp_drawn (id := 7) hM (Sub.all _) [3] [(0, 0), (1, 0), (2, 0), (3, 1), (4, 0), (5, 2), (6, 2), (7, 2), (8, 3)] (by kernel_rfl) (by kernel_rfl) ?_); (clear hM; intro w hM Kr hKr); simp only [opsOf, qGz, qGs])))
          refine St.load1 rfl rfl rfl rfl (by repeat constructor) (by assumption) (by kernel_rfl) ?_
          (try simp only [Act.put, qSa, qSz, qSs])
          (repeat (first | ((with_reducible show wpSeq _ _ _ _ _ _ _); first | ((with_reducible refine wpSeq_nil ?_); refine hKr.out _ _ ?_; clear hKr Kr) | ((first | (refine St.copy (v := ?_) (by first | exact .inl rfl | exact .inr rfl) rfl rfl ?_ ?_; rotate_left; (focus ((try simp only [Act.eval, getD_lit, qGz, qGs]); with_reducible rfl))) | (refine St.pure (v := ?_) rfl rfl rfl (fun w => ?_) ?_; rotate_left; (focus (go_simp; all_goals with_reducible rfl))) | refine St.load rfl hM rfl rfl rfl rfl (by repeat constructor) (by assumption) (by kernel_rfl) ?_); (try simp only [Act.put, qSa, qSz, qSs]))) | (first | (refine wp_seq_shut (fun K hK => ?_)) | (refine wp_text hM (fun Kr hKr => ?_); simp only [inText]) | (refine wp_cond_true rfl ?_) | ((refine hK.out _ _ ?_); clear hK K))))
          ((refine wp_ret ?_; (try simp only [Exit.then, Exit.inBlock]); refine St.ret hM rfl (by repeat (first | exact Outs.nil | apply Outs.tmp rfl)) rfl ?_))
          exact ⟨rfl, hM.to_below⟩
      · have k2 : ¬ ((k : Int) < (ys.length : Int)) := by omega
        obtain rfl : k = ys.length := by omega
        have e : true = U := by
          rw [← HE.out, HT.out, List.take_length]
          exact (decide_eq_true rfl).symm
        subst e
        clear hlt hk
        (repeat (first | ((with_reducible show wpSeq _ _ _ _ _ _ _); first | ((with_reducible refine wpSeq_nil ?_); refine hKr.out _ _ ?_; clear hKr Kr) | ((first | (refine St.copy (v := ?_) (by first | exact .inl rfl | exact .inr rfl) rfl rfl ?_ ?_; rotate_left; (focus ((try simp only [Act.eval, getD_lit, qGz, qGs]); with_reducible rfl))) | (refine St.pure (v := ?_) rfl rfl rfl (fun w => ?_) ?_; rotate_left; (focus (go_simp; all_goals with_reducible rfl))) | refine wpSeq_off rfl rfl ?_); (try simp only [Act.put, qSa, qSz, qSs]))) | (first | (refine wp_seq_shut (fun K hK => ?_)) | (refine wp_text hM (fun Kr hKr => ?_); simp only [inText]) | (refine wp_cond_false rfl ?_) | (refine wp_exit ?_; simp only [Exit.then, Exit.inBlock, if_true, if_false, reduceCtorEq, Nat.reduceEqDiff, Nat.succ_ne_zero]) | ((first | refine hK.out _ _ ?_ | (clear hK K; refine hK.out _ _ ?_)); clear hK K))))
        ((refine wp_ret ?_; (try simp only [Exit.then, Exit.inBlock]); refine St.ret hM rfl (by repeat (first | exact Outs.nil | apply Outs.tmp rfl)) rfl ?_))
        exact ⟨rfl, hM.to_below⟩
end Go.Proofs.YtcicjklhbnipcaaGreatDoor
namespace Go.Proofs.YtcicjklhbnipcaaGreatDoor
set_option linter.unusedVariables false
set_option linter.unusedSimpArgs false
namespace In
section
variable {N : Nat} {t : TabD}
theorem make_bad {dir : Int} {s : ByteArray} {b : Bool} (h : (make t dir s b).2.1 ≠ 0) : (make t dir s b).2.2 = t := by
  unfold make at h ⊢
  split
  · rename_i e
    rw [if_pos e] at h
    exact absurd rfl h
  · rfl
theorem pair_bad {c : Bool} {a : TabD} {e : Int} (h : (if c then ((0 : Int), a) else (e, t)).1 ≠ 0) : (if c then ((0 : Int), a) else (e, t)).2 = t := by
  cases c with
  | true => exact absurd rfl h
  | false => rfl
theorem hold_bad {id : Int} (h : (hold t id).1 ≠ 0) : (hold t id).2 = t := pair_bad h
theorem write_bad {id a : Int} {s : ByteArray} (h : (write t id a s).1 ≠ 0) : (write t id a s).2 = t := pair_bad h
theorem trunc_bad {id n : Int} (h : (trunc t id n).1 ≠ 0) : (trunc t id n).2 = t := pair_bad h
theorem remove_bad {id : Int} {s : ByteArray} (h : (remove t id s).1 ≠ 0) : (remove t id s).2 = t := pair_bad h
theorem unlink_bad {id : Int} {s : ByteArray} (h : (unlink t id s).1 ≠ 0) : (unlink t id s).2 = t := pair_bad h
theorem link_bad {id dir : Int} {s : ByteArray} (h : (link t id dir s).1 ≠ 0) : (link t id dir s).2 = t := pair_bad h
theorem rename_bad {dir tod : Int} {s as_ : ByteArray} (h : (rename t dir s tod as_).1 ≠ 0) : (rename t dir s tod as_).2 = t := pair_bad h
/-- What was made just now can be held. -/
theorem hold_made (I : Inv N t) {dir : Int} {s : ByteArray} (h : (make t dir s false).2.1 = 0) : (hold (make t dir s false).2.2 (make t dir s false).1).1 = 0 := by
  unfold make at h ⊢
  cases he : makeE t dir s == 0 with
  | false => rw [he] at h; have h' : makeE t dir s = 0 := h; rw [h'] at he; cases he
  | true =>
    show (hold (makeT t dir s false) (t.last + 1)).1 = 0
    have hne : ∀ m ∈ (nameIn t dir s (t.last + 1)).nodes, m.id ≠ (⟨t.last + 1, false, 1, 0, ByteArray.empty, []⟩ : NodeD).id := fun m hm => by
      have hm' : m ∈ set t.nodes ((at_ t dir).setNames (with_ (at_ t dir).names s (t.last + 1))) := hm
      unfold set at hm'
      obtain ⟨y, hy, e⟩ := List.mem_map.1 hm'
      have hp := (I.pos y hy).2
      have : m.id = y.id := by
        rw [← e]
        split
        · rename_i hh
          exact (by simpa using hh : y.id = _).symm
        · rfl
      show m.id ≠ t.last + 1
      omega
    have hf : find (makeT t dir s false).nodes (t.last + 1) = some ⟨t.last + 1, false, 1, 0, ByteArray.empty, []⟩ := by
      show find ((nameIn t dir s (t.last + 1)).nodes ++ [⟨t.last + 1, false, 1, 0, ByteArray.empty, []⟩]) (t.last + 1) = _
      rw [find_snoc hne, if_pos rfl]
    have hE : holdE (makeT t dir s false) (t.last + 1) = 0 := by
      unfold holdE getE
      rw [at_some hf]
      simp only [hf]
      rfl
    unfold hold
    rw [hE]
    rfl
end
end In
namespace Fs
variable {N : Nat} {d : FsD}
theorem gives_bad {o id : Int} (h : (gives d o id).1.err ≠ 0) : (gives d o id).2 = d := by
  unfold gives at h ⊢
  split
  · rename_i e
    rw [if_pos e] at h
    exact absurd rfl h
  · rename_i e
    rw [In.hold_bad e]
theorem stays (I : Inv N d) (o : Int) (p : OpD) (h : ¬ Ol.logs (do_ d o p).1 p) : (do_ d o p).2 = d := by
  have hk : (p.kind ≠ 6 ∧ p.kind ≠ 9 ∧ p.kind ≠ 13) → (do_ d o p).1.err ≠ 0 := fun hk he => h ⟨he, hk⟩
  clear h
  unfold do_ at hk ⊢
  split
  · rfl
  rename_i h1
  rw [if_neg h1] at hk
  split
  · rename_i h2
    rw [if_pos h2] at hk
    have hk := hk (by omega)
    unfold opens at hk ⊢
    split
    · rfl
    rename_i h3
    rw [if_neg h3] at hk
    split
    · rfl
    rename_i h4
    rw [if_neg h4] at hk
    split
    · rename_i h5
      rw [if_pos h5] at hk
      split
      · rename_i h6
        rw [In.make_bad h6]
      · rename_i h6
        rw [if_neg h6] at hk
        refine absurd ?_ hk
        unfold gives
        rw [if_pos (In.hold_made I.tbl (Decidable.not_not.1 h6))]
    · rename_i h5
      rw [if_neg h5] at hk
      split
      · rfl
      · rename_i h6
        rw [if_neg h6] at hk
        exact gives_bad hk
  rename_i h2
  rw [if_neg h2] at hk
  split
  · rename_i h3
    rw [if_pos h3] at hk
    unfold handled at hk ⊢
    split
    · rfl
    rename_i h4
    rw [if_neg h4] at hk
    split
    · rename_i h5
      rw [if_pos h5] at hk
      exact absurd rfl (hk (by omega))
    rename_i h5
    rw [if_neg h5] at hk
    split
    · rfl
    rename_i h6
    rw [if_neg h6] at hk
    split
    · rename_i h7
      rw [if_pos h7] at hk
      have hw : (In.write d.t (held d o p.h) p.at_ p.data).1 ≠ 0 := hk (by omega)
      rw [In.write_bad hw]
    rename_i h7
    rw [if_neg h7] at hk
    split
    · rename_i h8
      rw [if_pos h8] at hk
      have hw : (In.trunc d.t (held d o p.h) p.n).1 ≠ 0 := hk (by omega)
      rw [In.trunc_bad hw]
    · rfl
  rename_i h3
  rw [if_neg h3] at hk
  split
  · rfl
  rename_i h4
  rw [if_neg h4] at hk
  have hn : (named d p).1 ≠ 0 := hk (by omega)
  have key : (named d p).2 = d.t := by
    unfold named namedAt at hn ⊢
    split
    · rfl
    rename_i h5
    rw [if_neg h5] at hn
    split
    · rename_i h6
      rw [if_pos h6] at hn
      exact In.make_bad hn
    rename_i h6
    rw [if_neg h6] at hn
    split
    · rename_i h7
      rw [if_pos h7] at hn
      exact In.remove_bad hn
    rename_i h7
    rw [if_neg h7] at hn
    split
    · rename_i h8
      rw [if_pos h8] at hn
      exact In.unlink_bad hn
    rename_i h8
    rw [if_neg h8] at hn
    split
    · rename_i h9
      rw [if_pos h9] at hn
      split
      · rfl
      rename_i h10
      rw [if_neg h10] at hn
      split
      · rfl
      rename_i h11
      rw [if_neg h11] at hn
      exact In.link_bad hn
    rename_i h9
    rw [if_neg h9] at hn
    split
    · rfl
    rename_i h10
    rw [if_neg h10] at hn
    exact In.rename_bad hn
  rw [key]
end Fs
namespace Ol
theorem replay_snoc (d : FsD) (l : List LogD) (x : LogD) : replay d (l ++ [x]) = again (replay d l) x := by
  unfold replay
  rw [List.foldl_append]
  rfl
/-- Two disks: the second has done just the first 'k' that were logged by the first. -/
structure Two (k : Nat) (D E : DskD) : Prop where
  now : D.now = replay D.base D.log
  base : E.base = D.base
  log : E.log = D.log.take k
  now2 : E.now = replay E.base E.log
section
variable {k N : Nat} {D E : DskD} {o : Int} {p : OpD}
theorem len_doN (h : ¬ logs (Fs.do_ D.now o p).1 p) : (doN D o p).log = D.log := by
  show (if logs (Fs.do_ D.now o p).1 p then D.log ++ [(o, some p)] else D.log) = D.log
  exact if_neg h
theorem log_doN (h : logs (Fs.do_ D.now o p).1 p) : (doN D o p).log = D.log ++ [(o, some p)] := by
  show (if logs (Fs.do_ D.now o p).1 p then D.log ++ [(o, some p)] else D.log) = _
  exact if_pos h
end
end Ol
end Go.Proofs.YtcicjklhbnipcaaGreatDoor
namespace Go.Proofs.YtcicjklhbnipcaaGreatDoor
set_option linter.unusedVariables false
set_option linter.unusedSimpArgs false
namespace Fs
/-- No owner stands there without a handle. -/
def Full (d : FsD) : Prop := ∀ p ∈ d.h, p.2 ≠ z9
section
variable {N : Nat} {d : FsD} {o : Int}
theorem hOf_full (hF : Full d) (ho : o ∈ owners d) : hOf d.h o ≠ z9 := by
  obtain ⟨p, hp, rfl⟩ := List.mem_map.1 ho
  unfold hOf
  cases hf : d.h.find? fun q => q.1 == p.1 with
  | some q => exact hF q (List.mem_of_find?_eq_some hf)
  | none =>
    rw [List.find?_eq_none] at hf
    exact absurd (beq_self_eq_true p.1) (hf p hp)
theorem hOf_out (ho : o ∉ owners d) : hOf d.h o = z9 := by
  unfold hOf
  cases hf : d.h.find? fun q => q.1 == o with
  | some q =>
    have h1 := List.find?_some hf
    have e : q.1 = o := by simpa using h1
    exact absurd (List.mem_map.2 ⟨q, List.mem_of_find?_eq_some hf, e⟩) ho
  | none => rfl
theorem full_put {h : List (Int × List Int)} (hF : ∀ p ∈ h, p.2 ≠ z9) {l : List Int} (hl : l ≠ z9) : ∀ p ∈ put h o l, p.2 ≠ z9 := fun p hp => by
  rcases mem_ins.1 hp with rfl | hp
  · exact hl
  · exact hF p (List.mem_filter.1 hp).1
theorem full_shut {h : List (Int × List Int)} (hF : ∀ p ∈ h, p.2 ≠ z9) {l : List Int} : ∀ p ∈ shut h o l, p.2 ≠ z9 := fun p hp => by
  unfold shut at hp
  split at hp
  · have h1 := (List.mem_filter.1 hp)
    have h2 : p.1 ≠ o := by simpa using h1.2
    rcases mem_ins.1 h1.1 with rfl | h3
    · exact absurd rfl h2
    · exact hF p (List.mem_filter.1 h3).1
  · rename_i hl
    exact full_put hF hl p hp
theorem set_z9 {l : List Int} {k : Nat} {v : Int} (hk : k < l.length) (hv : v ≠ 0) : l.set k v ≠ z9 := fun e => by
  have h1 : v ∈ l.set k v := List.mem_set hk v
  rw [e] at h1
  unfold z9 at h1
  simp at h1
  exact hv h1
theorem hold_pos (I : In.Inv N d.t) {id : Int} (h : (In.hold d.t id).1 = 0) : id ≠ 0 := by
  have hE : In.holdE d.t id = 0 := by
    unfold In.hold at h
    split at h
    · rename_i e; simpa using e
    · exact h
  unfold In.holdE at hE
  split at hE
  · rename_i e
    obtain ⟨n, hn, -⟩ := In.getE_ok (show In.getE d.t id false = 0 by simpa using e)
    obtain ⟨hm, rfl⟩ := In.find_some hn
    have := I.pos n hm
    omega
  · rename_i e
    exact absurd (by simpa using hE) e
theorem full_gives (I : Inv N d) (hF : Full d) (o id : Int) : Full (gives d o id).2 := by
  unfold gives
  split
  · rename_i h
    refine full_put hF (set_z9 ?_ (hold_pos I.tbl h))
    have h1 := (hOf_row I o).1
    have h2 := free_le I o
    omega
  · exact hF
theorem full_opens (I : Inv N d) (hF : Full d) (o : Int) (p : OpD) : Full (opens d o p).2 := by
  unfold opens
  split
  · exact hF
  split
  · exact hF
  split
  · split
    · exact hF
    · exact full_gives (d := ⟨(In.make d.t (at_ d p.path).1.1 (at_ d p.path).1.2 false).2.2, d.h⟩) (inv_tbl I (In.inv_make I.tbl _ _ false) (by omega : N ≤ N + 2)|>.more (Nat.le_refl _)) hF o _
  split
  · exact hF
  · exact full_gives I hF o _
theorem full_do (I : Inv N d) (hF : Full d) (o : Int) (p : OpD) : Full (do_ d o p).2 := by
  unfold do_
  split
  · exact hF
  split
  · exact full_opens I hF o p
  split
  · unfold handled
    split
    · exact hF
    split
    · exact full_shut hF
    split
    · exact hF
    split
    · exact hF
    split
    · exact hF
    · exact hF
  split
  · exact hF
  · exact hF
/-- Who has handles behind an operation had some, or asked for it. -/
theorem own_put {P : Int → Prop} {h : List (Int × List Int)} {l : List Int} (hh : ∀ p ∈ h, P p.1) (ho : P o) : ∀ p ∈ put h o l, P p.1 := fun p hp => by
  rcases mem_ins.1 hp with rfl | hp
  · exact ho
  · exact hh p (List.mem_filter.1 hp).1
theorem own_shut {P : Int → Prop} {h : List (Int × List Int)} {l : List Int} (hh : ∀ p ∈ h, P p.1) (ho : P o) : ∀ p ∈ shut h o l, P p.1 := fun p hp => by
  unfold shut at hp
  split at hp
  · exact own_put hh ho p (List.mem_filter.1 hp).1
  · exact own_put hh ho p hp
theorem own_exitL {P : Int → Prop} (ho : P o) : ∀ (l : List Int) (n : Nat) (d : FsD), (∀ p ∈ d.h, P p.1) → ∀ p ∈ (exitL o l n d).h, P p.1
  | [], _, _, h => h
  | i :: r, n, d, h => by
    unfold exitL
    refine own_exitL ho r (n + 1) _ ?_
    split
    · exact own_shut h ho
    · exact h
theorem exitL_none (o : Int) : ∀ (l : List Int) (n : Nat) (d : FsD), (∀ i ∈ l, i = 0) → exitL o l n d = d
  | [], _, _, _ => rfl
  | i :: r, n, d, h => by
    unfold exitL
    rw [if_neg (by rw [h i (.head _)]; simp)]
    exact exitL_none o r (n + 1) d fun j hj => h j (.tail _ hj)
theorem exit_none (ho : o ∉ owners d) : exit d o = d := by
  unfold exit
  rw [hOf_out ho]
  exact exitL_none o _ 0 d (by decide)
theorem full_exitL (o : Int) : ∀ (l : List Int) (n : Nat) (d : FsD), Full d → Full (exitL o l n d)
  | [], _, _, h => h
  | i :: r, n, d, h => by
    unfold exitL
    refine full_exitL o r (n + 1) _ ?_
    split
    · exact full_shut h
    · exact h
theorem full_exit (hF : Full d) (o : Int) : Full (exit d o) := full_exitL o _ 0 d hF
/-- All handles of an owner go. -/
theorem hOf_exitL (o : Int) : ∀ (l : List Int) (n : Nat) (d : FsD), n + l.length = 9 → hOf d.h o = List.replicate n 0 ++ l → hOf (exitL o l n d).h o = z9
  | [], n, d, hn, h => by
    unfold exitL
    rw [h]
    simp only [List.length_nil] at hn
    obtain rfl : n = 9 := by omega
    rfl
  | i :: r, n, d, hn, h => by
    rw [List.length_cons] at hn
    have hs : List.replicate (n + 1) (0 : Int) ++ r = (List.replicate n 0 ++ i :: r).set n 0 := by
      rw [List.set_append_right _ _ (by simp)]
      simp [List.replicate_succ']
    unfold exitL
    refine hOf_exitL o r (n + 1) _ (by omega) ?_
    split
    · unfold closes
      simp only
      rw [hOf_shut, if_pos rfl, h, hs]
    · rename_i hi
      have : i = 0 := Decidable.not_not.1 hi
      rw [h, this]
      simp [List.replicate_succ']
theorem hOf_exit (I : Inv N d) (o : Int) : hOf (exit d o).h o = z9 := hOf_exitL o _ 0 d (by rw [(hOf_row I o).1]) (by simp)
theorem out_exit (I : Inv N d) (hF : Full d) (o : Int) : o ∉ owners (exit d o) := fun h => hOf_full (full_exit hF o) h (hOf_exit I o)
theorem owners_exit {q : Int} (h : q ∈ owners (exit d o)) : q ∈ owners d := by
  by_cases ho : o ∈ owners d
  · obtain ⟨p, hp, rfl⟩ := List.mem_map.1 h
    exact own_exitL (P := fun q => q ∈ owners d) ho _ 0 d (fun p hp => List.mem_map.2 ⟨p, hp, rfl⟩) p hp
  · rwa [exit_none ho] at h
theorem owners_nil (h : ∀ q, q ∉ owners d) : owners d = [] := List.eq_nil_iff_forall_not_mem.2 h
theorem exits_nil : ∀ (l : List Int) (d : FsD), Inv N d → Full d → (∀ q ∈ owners d, q ∈ l) → owners (l.foldl exit d) = []
  | [], d, _, _, h => owners_nil fun q hq => by cases h q hq
  | o :: r, d, I, hF, h => by
    rw [List.foldl_cons]
    refine exits_nil r _ (inv_exit I o) (full_exit hF o) fun q hq => ?_
    rcases List.mem_cons.1 (h q (owners_exit hq)) with rfl | h1
    · exact absurd hq (out_exit I hF q)
    · exact h1
/-- A name that is taken away: handles stay. -/
theorem out_h {o : Int} {p : OpD} (hk : p.kind = 2 ∨ p.kind = 11) : (do_ d o p).2.h = d.h := by
  unfold do_
  split
  · rfl
  split
  · exfalso; omega
  split
  · exfalso; omega
  split
  · rfl
  · rfl
end
end Fs
namespace Ol
section
variable {N : Nat} {d : FsD} {D : DskD} {o : Int} {p : OpD}
theorem owners_exits (I : Fs.Inv N d) (hF : Fs.Full d) : Fs.owners (exits d) = [] := Fs.exits_nil _ d I hF fun _ h => h
theorem empty1_h (d : FsD) (x : FileD) : (empty1 d x).h = d.h := by
  unfold empty1
  split
  · refine Fs.out_h ?_
    show (if x.dir then (2 : Int) else 11) = 2 ∨ (if x.dir then (2 : Int) else 11) = 11
    split <;> simp
  · rfl
theorem empties_h (d : FsD) : (empties d).h = d.h := by
  unfold empties
  generalize (Fs.files d).reverse = l
  induction l generalizing d with
  | nil => rfl
  | cons x r ih => rw [List.foldl_cons, ih, empty1_h]
theorem full_again (I : FInv N d) (hF : Fs.Full d) (l : LogD) : Fs.Full (again d l) := by
  obtain ⟨o, _ | p⟩ := l
  · exact Fs.full_exit hF o
  · exact Fs.full_do I.inv hF o p
theorem full_replay : ∀ (l : List LogD) {N : Nat} {d : FsD}, (∀ x ∈ l, LogOk x) → FInv N d → N + 3 * l.length ≤ 999999990 → Fs.Full d → Fs.Full (replay d l)
  | [], _, _, _, _, _, h => h
  | x :: r, N, d, hl, I, hN, h => by
    rw [List.length_cons] at hN
    exact full_replay r (fun y hy => hl y (.tail _ hy)) (finv_again I (by omega) (hl x (.head _))) (by omega) (full_again I h x)
/-- No owner stands there without a handle, in what is and what is sure; and what is comes from what is sure by what was logged. -/
structure Good (D : DskD) : Prop where
  now : Fs.Full D.now
  base : Fs.Full D.base
  is : D.now = replay D.base D.log
theorem good_new (q : Int) : Good (new q) := ⟨nofun, nofun, rfl⟩
theorem good_sync (h : Good D) : Good (sync D) := ⟨h.now, h.now, rfl⟩
theorem good_doN (I : Inv N D) (h : Good D) : Good (doN D o p) := by
  refine ⟨Fs.full_do I.now.inv h.now o p, h.base, ?_⟩
  by_cases hl : logs (Fs.do_ D.now o p).1 p
  · show (Fs.do_ D.now o p).2 = replay D.base (doN D o p).log
    rw [log_doN hl, replay_snoc, ← h.is]
    rfl
  · show (Fs.do_ D.now o p).2 = replay D.base (doN D o p).log
    rw [len_doN hl, Fs.stays I.now.inv o p hl]
    exact h.is
theorem good_do (I : Inv N D) (h : Good D) : Good (do_ D o p).2 := by
  unfold do_
  split
  · exact good_sync h
  · exact good_doN I h
theorem good_exit (h : Good D) : Good (exit D o) := by
  unfold exit
  split
  · exact ⟨Fs.full_exit h.now o, h.base, by show Fs.exit D.now o = replay D.base (D.log ++ [(o, none)]); rw [replay_snoc, ← h.is]; rfl⟩
  · exact h
theorem full_cutFs (I : Inv N D) (h : Good D) (hN : N ≤ 999999990) (k : Int) : Fs.Full (cutFs D k) := by
  obtain ⟨K, h1, h2⟩ := I.base
  have h3 := take_len D k
  have hr := full_replay (D.log.take (max 0 (min k D.log.length)).toNat) (fun x hx => I.ok x (List.mem_of_mem_take hx)) h1 (by omega) h.base
  have hf := finv_replay (D.log.take (max 0 (min k D.log.length)).toNat) (fun x hx => I.ok x (List.mem_of_mem_take hx)) h1 (by omega)
  unfold Fs.Full cutFs
  rw [empties_h]
  have : Fs.owners (exits (replay D.base (D.log.take (max 0 (min k D.log.length)).toNat))) = [] := owners_exits hf.inv hr
  intro p hp
  have h4 : p.1 ∈ Fs.owners (exits (replay D.base (D.log.take (max 0 (min k D.log.length)).toNat))) := List.mem_map.2 ⟨p, hp, rfl⟩
  rw [this] at h4
  cases h4
/-- Nobody has a handle behind a power failure. -/
theorem owners_cut (I : Inv N D) (h : Good D) (hN : N ≤ 999999990) (k : Int) : Fs.owners (cutFs D k) = [] := by
  obtain ⟨K, h1, h2⟩ := I.base
  have h3 := take_len D k
  have hr := full_replay (D.log.take (max 0 (min k D.log.length)).toNat) (fun x hx => I.ok x (List.mem_of_mem_take hx)) h1 (by omega) h.base
  have hf := finv_replay (D.log.take (max 0 (min k D.log.length)).toNat) (fun x hx => I.ok x (List.mem_of_mem_take hx)) h1 (by omega)
  have : Fs.owners (exits (replay D.base (D.log.take (max 0 (min k D.log.length)).toNat))) = [] := owners_exits hf.inv hr
  unfold Fs.owners cutFs at *
  rw [empties_h]
  exact this
theorem good_cut (I : Inv N D) (h : Good D) (hN : N ≤ 999999990) (k : Int) : Good (cut D k) := ⟨full_cutFs I h hN k, full_cutFs I h hN k, rfl⟩
end
end Ol
end Go.Proofs.YtcicjklhbnipcaaGreatDoor
namespace Go.Proofs.YtcicjklhbnipcaaGreatDoor
set_option linter.unusedVariables false
set_option linter.unusedSimpArgs false
theorem flatMap_same {α β : Type} {f g : α → List β} : ∀ {l : List α}, (∀ a ∈ l, f a = g a) → l.flatMap f = l.flatMap g
  | [], _ => rfl
  | a :: r, h => by rw [List.flatMap_cons, List.flatMap_cons, h a (.head _), flatMap_same fun b hb => h b (.tail _ hb)]
theorem flatMap_some {α β : Type} (p : α → Bool) (f : α → List β) : ∀ l : List α, (l.filter p).flatMap f = l.flatMap fun a => if p a = true then f a else []
  | [] => rfl
  | a :: r => by
    rw [List.filter_cons, List.flatMap_cons]
    split
    · rw [List.flatMap_cons, flatMap_some p f r]
    · rw [flatMap_some p f r]; rfl
namespace In
/-- What names lead to; 0: nothing. -/
def go (t : TabD) : Int → List ByteArray → Int
  | id, [] => id
  | id, s :: r => go t (leads (at_ t id).names s) r
section
variable {N : Nat} {t t' t'' : TabD}
theorem find_pos' (I : Inv N t) {c : Int} {n : NodeD} (h : find t.nodes c = some n) : 1 ≤ c ∧ c ≤ t.last := by
  obtain ⟨h1, rfl⟩ := find_some h
  exact I.pos n h1
theorem at_zero (I : Inv N t) : (at_ t 0).names = [] := by
  cases h : (at_ t 0).names with
  | nil => rfl
  | cons p r =>
    have := find_pos' I (names_found (t := t) (id := 0) (p := p) (by rw [h]; exact .head _))
    omega
theorem go_zero (I : Inv N t) : ∀ q, go t 0 q = 0
  | [] => rfl
  | s :: r => by
    unfold go
    rw [at_zero I]
    exact go_zero I r
theorem go_app : ∀ (a : List ByteArray) (id : Int) (b : List ByteArray), go t id (a ++ b) = go t (go t id a) b
  | [], _, _ => rfl
  | s :: r, id, b => by
    show go t (leads (at_ t id).names s) (r ++ b) = go t (go t (leads (at_ t id).names s) r) b
    exact go_app r _ b
theorem go_snoc (id : Int) (q : List ByteArray) (s : ByteArray) : go t id (q ++ [s]) = leads (at_ t (go t id q)).names s := by
  rw [go_app]
  rfl
theorem leads_mem {id : Int} {s : ByteArray} (h : leads (at_ t id).names s ≠ 0) : (s, leads (at_ t id).names s) ∈ (at_ t id).names := leads_some h
theorem sorted_at (I : Inv N t) (id : Int) : nameSorted (at_ t id).names := by
  by_cases h : (at_ t id).names = []
  · rw [h]; exact List.Pairwise.nil
  · obtain ⟨p, hp⟩ := List.exists_mem_of_ne_nil _ h
    exact I.sorted _ (find_some (names_found hp)).1
theorem leads_of (I : Inv N t) {id : Int} {p : ByteArray × Int} (hp : p ∈ (at_ t id).names) : leads (at_ t id).names p.1 = p.2 := leads_at (sorted_at I id) hp
theorem name_ne (I : Inv N t) {id : Int} {p : ByteArray × Int} (hp : p ∈ (at_ t id).names) : p.2 ≠ 0 := pos_names I (find_some (names_found hp)).1 p hp
theorem name_there (I : Inv N t) {id : Int} {p : ByteArray × Int} (hp : p ∈ (at_ t id).names) : ∃ n, find t.nodes p.2 = some n := I.leads _ (find_some (names_found hp)).1 p hp
theorem go_there (I : Inv N t) {q : List ByteArray} (h : go t 1 q ≠ 0) : ∃ n, find t.nodes (go t 1 q) = some n := by
  rcases List.eq_nil_or_concat q with rfl | ⟨r, s, rfl⟩
  · obtain ⟨n, h1, -⟩ := I.root
    exact ⟨n, h1⟩
  · rw [List.concat_eq_append] at h ⊢
    rw [go_snoc] at h ⊢
    exact name_there I (leads_mem h)
theorem go_front (I : Inv N t) {a b : List ByteArray} (h : go t 1 (a ++ b) ≠ 0) : go t 1 a ≠ 0 := fun e => by
  rw [go_app, e, go_zero I] at h
  exact h rfl
theorem names_dir (I : Inv N t) {id : Int} (h : (at_ t id).names ≠ []) : (at_ t id).dir = true := by
  obtain ⟨p, hp⟩ := List.exists_mem_of_ne_nil _ h
  cases hd : (at_ t id).dir with
  | true => rfl
  | false => exact absurd (I.files _ (find_some (names_found hp)).1 hd) h
theorem snoc_dir (I : Inv N t) {q : List ByteArray} {s : ByteArray} (h : go t 1 (q ++ [s]) ≠ 0) : (at_ t (go t 1 q)).dir = true := by
  rw [go_snoc] at h
  exact names_dir I fun e => by rw [e] at h; exact h rfl
/-- No name leads to the root. -/
theorem root_free (I : Inv N t) (a : Int) (s : ByteArray) : leads (at_ t a).names s ≠ 1 := fun e => by
  obtain ⟨r, h1, h2⟩ := I.root
  obtain ⟨rm, ri⟩ := find_some h1
  have hl := I.links r rm
  have ha := (I.alive r rm (by omega)).2 h2
  have hm := leads_mem (t := t) (id := a) (s := s) (by omega)
  rw [e] at hm
  have hf := (find_some (names_found hm)).1
  have k1 : 0 < cntN (at_ t a).names 1 := List.countP_pos_iff.2 ⟨_, hm, by simp⟩
  have k2 : cntN (at_ t a).names 1 ≤ cnt t.nodes 1 := le_sum (f := fun n => cntN n.names 1) hf
  rw [ri] at hl
  have h3 : rootI 1 = 1 := rfl
  omega
/-- In one directory one name leads to a directory. -/
theorem one_name (I : Inv N t) {a D : Int} {s s' : ByteArray} (h1 : leads (at_ t a).names s = D) (h2 : leads (at_ t a).names s' = D) (h0 : D ≠ 0) (hd : (at_ t D).dir = true) : s = s' := by
  by_cases he : s = s'
  · exact he
  · have k := (cntN_without (sorted_at I a) (s := s) (by omega) D).1
    rw [h1] at k
    have hm := leads_mem (t := t) (id := a) (s := s') (by omega)
    rw [h2] at hm
    have k1 : 0 < cntN (without (at_ t a).names s) D := List.countP_pos_iff.2 ⟨_, mem_without.2 ⟨hm, fun e => he e.symm⟩, by simp⟩
    have k2 : cntN (at_ t a).names D ≤ cnt t.nodes D := le_sum (f := fun n => cntN n.names D) (find_some (names_found hm)).1
    have k3 := cnt_dir I (dir_found hd) hd
    have k4 : one (D == D) = 1 := by simp [one]
    omega
/-- One path leads to a directory. -/
theorem dir_path (I : Inv N t) : ∀ (n : Nat) {q r : List ByteArray}, q.length = n → go t 1 q = go t 1 r → go t 1 q ≠ 0 → (at_ t (go t 1 q)).dir = true → q = r := by
  intro n
  induction n with
  | zero =>
    intro q r hn he h0 hd
    obtain rfl := List.length_eq_zero_iff.1 hn
    rcases List.eq_nil_or_concat r with rfl | ⟨r, s, rfl⟩
    · rfl
    · rw [List.concat_eq_append, go_snoc] at he
      exact absurd he.symm (root_free I _ _)
  | succ n ih =>
    intro q r hn he h0 hd
    rcases List.eq_nil_or_concat q with rfl | ⟨q, s, rfl⟩
    · cases hn
    rw [List.concat_eq_append] at hn he h0 hd ⊢
    rcases List.eq_nil_or_concat r with rfl | ⟨r, s', rfl⟩
    · rw [go_snoc] at he
      exact absurd he (root_free I _ _)
    rw [List.concat_eq_append] at he ⊢
    have hqn : q.length = n := by simpa using hn
    have h1 : go t 1 q ≠ 0 := go_front I h0
    rw [go_snoc] at h0 hd
    rw [go_snoc, go_snoc] at he
    have m1 := leads_mem h0
    have m2 := leads_mem (t := t) (id := go t 1 r) (s := s') (by rw [← he]; exact h0)
    rw [← he] at m2
    have p1 : leads (at_ t (go t 1 q)).names s ∈ dirsIn t (go t 1 q) := mem_dirsIn.2 ⟨_, m1, rfl, hd⟩
    have p2 : leads (at_ t (go t 1 q)).names s ∈ dirsIn t (go t 1 r) := mem_dirsIn.2 ⟨_, m2, rfl, hd⟩
    have e := one_parent I p1 p2
    have hq := ih hqn e h1 (names_dir I fun e => by rw [e] at m1; cases m1)
    subst hq
    rw [one_name I (s := s) (s' := s') rfl he.symm h0 hd]
/-- A directory stands no deeper than its number. -/
theorem depth (I : Inv N t) (U : Up t) : ∀ (n : Nat) {q : List ByteArray}, q.length = n → go t 1 q ≠ 0 → (at_ t (go t 1 q)).dir = true → (n : Int) + 1 ≤ go t 1 q := by
  intro n
  induction n with
  | zero =>
    intro q hn _ _
    obtain rfl := List.length_eq_zero_iff.1 hn
    show ((0 : Nat) : Int) + 1 ≤ 1
    decide
  | succ n ih =>
    intro q hn h0 hd
    rcases List.eq_nil_or_concat q with rfl | ⟨q, s, rfl⟩
    · cases hn
    rw [List.concat_eq_append] at hn h0 hd ⊢
    have h1 := ih (q := q) (by simpa using hn) (go_front I h0) (snoc_dir I h0)
    rw [go_snoc] at h0 hd ⊢
    have := dir_up U (mem_dirsIn.2 ⟨_, leads_mem h0, rfl, hd⟩)
    omega
/-! ### the tree -/
def tree (t : TabD) : Nat → Int → List ByteArray → List (List ByteArray × Int)
  | 0, _, _ => []
  | k + 1, id, pre => (at_ t id).names.flatMap fun p => (pre ++ [p.1], p.2) :: tree t k p.2 (pre ++ [p.1])
theorem tree_none {id : Int} (h : (at_ t id).names = []) (k : Nat) (pre : List ByteArray) : tree t k id pre = [] := by
  cases k with
  | zero => rfl
  | succ k => unfold tree; rw [h]; rfl
theorem tree_mem (I : Inv N t) : ∀ (k : Nat) (id : Int) (pre : List ByteArray) (e : List ByteArray × Int), e ∈ tree t k id pre → ∃ nl, nl ≠ [] ∧ e.1 = pre ++ nl ∧ go t id nl = e.2 ∧ e.2 ≠ 0
  | 0, _, _, _, h => by cases h
  | k + 1, id, pre, e, h => by
    unfold tree at h
    obtain ⟨p, hp, he⟩ := List.mem_flatMap.1 h
    have hl := leads_of I hp
    rcases List.mem_cons.1 he with rfl | he
    · exact ⟨[p.1], by simp, rfl, hl, name_ne I hp⟩
    · obtain ⟨nl, -, h2, h3, h4⟩ := tree_mem I k _ _ e he
      refine ⟨p.1 :: nl, by simp, by rw [h2]; simp, ?_, h4⟩
      unfold go
      rw [hl]
      exact h3
theorem mem_tree (I : Inv N t) : ∀ (k : Nat) (id : Int) (pre nl : List ByteArray), nl ≠ [] → nl.length ≤ k → go t id nl ≠ 0 → (pre ++ nl, go t id nl) ∈ tree t k id pre
  | 0, _, _, nl, h, hk, _ => absurd (List.length_eq_zero_iff.1 (Nat.le_zero.1 hk)) h
  | k + 1, id, pre, nl, h, hk, h0 => by
    cases nl with
    | nil => exact absurd rfl h
    | cons s r =>
      have hs : leads (at_ t id).names s ≠ 0 := fun e => by
        unfold go at h0
        rw [e, go_zero I] at h0
        exact h0 rfl
      unfold tree
      refine List.mem_flatMap.2 ⟨_, leads_mem hs, ?_⟩
      cases r with
      | nil => exact .head _
      | cons s' r' =>
        refine .tail _ ?_
        have := mem_tree I k (leads (at_ t id).names s) (pre ++ [s]) (s' :: r') (by simp) (by simpa using hk) h0
        rw [List.append_assoc] at this
        exact this
/-- What stands behind is no front of what stands ahead. -/
theorem tree_pre (I : Inv N t) : ∀ (k : Nat) (id : Int) (pre : List ByteArray), (tree t k id pre).Pairwise fun a b => ¬ b.1 <+: a.1
  | 0, _, _ => List.Pairwise.nil
  | k + 1, id, pre => by
    unfold tree
    rw [List.pairwise_flatMap]
    refine ⟨fun p hp => ?_, ?_⟩
    · rw [List.pairwise_cons]
      refine ⟨fun b hb => ?_, tree_pre I k _ _⟩
      obtain ⟨nl, h1, h2, -, -⟩ := tree_mem I k _ _ b hb
      intro hpre
      have := hpre.length_le
      rw [h2, List.length_append] at this
      simp only at this
      have : nl.length ≠ 0 := fun e => h1 (List.length_eq_zero_iff.1 e)
      omega
    · refine List.Pairwise.imp_of_mem (R := fun (p q : ByteArray × Int) => before p.1 q.1 = true) (fun {p q} hp hq hpq a ha b hb => ?_) (sorted_at I id)
      have hne : q.1 ≠ p.1 := fun e => by rw [e, before_irrefl] at hpq; cases hpq
      have hf : ∀ (x : ByteArray × Int) (c : List ByteArray × Int), c ∈ ((pre ++ [x.1], x.2) :: tree t k x.2 (pre ++ [x.1])) → (pre ++ [x.1]) <+: c.1 := fun x c hc => by
        rcases List.mem_cons.1 hc with rfl | hc
        · exact List.prefix_refl _
        · obtain ⟨nl, -, h2, -, -⟩ := tree_mem I k _ _ c hc
          rw [h2]
          exact List.prefix_append _ _
      intro hba
      obtain ⟨r1, h1⟩ := hf p a ha
      obtain ⟨r2, h2⟩ := (hf q b hb).trans hba
      rw [← h1, List.append_assoc, List.append_assoc] at h2
      have h3 := List.append_cancel_left h2
      simp only [List.singleton_append, List.cons.injEq] at h3
      exact hne h3.1
theorem tree_congr (h : ∀ c, (at_ t' c).names = (at_ t c).names) : ∀ (k : Nat) (id : Int) (pre : List ByteArray), tree t' k id pre = tree t k id pre
  | 0, _, _ => rfl
  | k + 1, id, pre => by
    unfold tree
    rw [h]
    congr 1
    funext p
    rw [tree_congr h k]
/-- A name that is taken out, of a file or a directory without names. -/
theorem tree_out (I : Inv N t) {D : Int} {s : ByteArray} {PD : List ByteArray} (hP : go t 1 PD = D) (h0 : D ≠ 0) (hd : (at_ t D).dir = true) (hc : (at_ t (leads (at_ t D).names s)).names = [])
    (hne : ∀ c, c ≠ D → (at_ t' c).names = (at_ t c).names) (hD : (at_ t' D).names = without (at_ t D).names s) : ∀ (k : Nat) (id : Int) (pre : List ByteArray), go t 1 pre = id → id ≠ 0 → tree t' k id pre = (tree t k id pre).filter fun e => decide (e.1 ≠ PD ++ [s])
  | 0, _, _, _, _ => rfl
  | k + 1, id, pre, hid, hi0 => by
    have step : ∀ p ∈ (at_ t id).names, tree t' k p.2 (pre ++ [p.1]) = (tree t k p.2 (pre ++ [p.1])).filter fun e => decide (e.1 ≠ PD ++ [s]) := fun p hp => by
      refine tree_out I hP h0 hd hc hne hD k p.2 (pre ++ [p.1]) ?_ (name_ne I hp)
      rw [go_snoc, hid]
      exact leads_of I hp
    by_cases hiD : id = D
    · have hpre : pre = PD := dir_path I _ rfl (by rw [hid, hP, hiD]) (by rw [hid]; exact hi0) (by rw [hid, hiD]; exact hd)
      unfold tree
      rw [List.filter_flatMap, hiD, hD]
      unfold without
      rw [flatMap_some]
      refine flatMap_same fun p hp => ?_
      rw [← hiD] at hp
      by_cases hs : p.1 = s
      · have hsm : same p.1 s = true := same_iff.2 hs
        rw [hsm]
        have e : p.2 = leads (at_ t D).names s := by rw [← hs, ← hiD]; exact (leads_of I hp).symm
        rw [if_neg (by simp), List.filter_cons, if_neg (by rw [hs, hpre]; simp), e, tree_none hc]
        rfl
      · have hsm : same p.1 s = false := by
          cases h : same p.1 s
          · rfl
          · exact absurd (same_iff.1 h) hs
        rw [hsm, if_pos (by simp), List.filter_cons, if_pos, step p hp]
        simp only [ne_eq, decide_eq_true_eq]
        intro e
        rw [hpre] at e
        have := List.append_cancel_left e
        simp only [List.cons.injEq, and_true] at this
        exact hs this
    · unfold tree
      rw [List.filter_flatMap, hne id hiD]
      refine flatMap_same fun p hp => ?_
      rw [List.filter_cons, if_pos, step p hp]
      simp only [ne_eq, decide_eq_true_eq]
      intro e
      have e2 : pre = PD := (List.append_inj' e rfl).1
      exact hiD (by rw [← hid, e2, hP])
/-! ### what is turned -/
/-- What is there was there, of its kind, with its bytes. -/
def Kin (t t' : TabD) : Prop := ∀ c n', find t'.nodes c = some n' → ∃ n, find t.nodes c = some n ∧ n'.dir = n.dir ∧ n'.data = n.data
theorem Kin.refl (t : TabD) : Kin t t := fun _ n h => ⟨n, h, rfl, rfl⟩
theorem Kin.trans (h : Kin t t') (h' : Kin t' t'') : Kin t t'' := fun c n hn => by
  obtain ⟨m, a1, a2, a3⟩ := h' c n hn
  obtain ⟨o, b1, b2, b3⟩ := h c m a1
  exact ⟨o, b1, a2.trans b2, a3.trans b3⟩
theorem kin_at (f : NodeD → NodeD) (hi : ∀ m, (f m).id = m.id) (hd : ∀ m, (f m).dir = m.dir) (hb : ∀ m, (f m).data = m.data) (k : Int) : Kin t (setN t (f (at_ t k))) := fun c n' h => by
  have h' : find (set t.nodes (f (at_ t k))) c = some n' := h
  rw [find_map_id] at h'
  cases hf : find t.nodes c with
  | none => rw [hf] at h'; cases h'
  | some m =>
    rw [hf] at h'
    have h2 : (if m.id == (f (at_ t k)).id then f (at_ t k) else m) = n' := by simpa using h'
    split at h2
    · rename_i he
      subst h2
      have e1 : m.id = k := by
        have : m.id = (f (at_ t k)).id := by simpa using he
        rw [this, hi, at_id]
      have e2 : c = k := (find_some hf).2.symm.trans e1
      subst e2
      rw [at_some hf]
      exact ⟨m, rfl, hd m, hb m⟩
    · subst h2
      exact ⟨m, rfl, rfl, rfl⟩
theorem kin_gone (k : Int) : Kin t (gone t k) := fun c n' h => by
  obtain ⟨m, h1, -, -⟩ := less_gone k c n' h
  refine ⟨m, h1, ?_⟩
  by_cases hc : c = k
  · subst hc
    unfold gone at h
    split at h
    · exfalso
      have h' : find (del t.nodes c) c = some n' := h
      unfold find del at h'
      rw [List.find?_filter] at h'
      have := List.find?_some h'
      simp at this
    · rw [h] at h1; cases h1; exact ⟨rfl, rfl⟩
  · rw [find_gone_ne hc, h1] at h
    cases h
    exact ⟨rfl, rfl⟩
theorem kin_loses (dir : Int) (s : ByteArray) : Kin t (loses t dir s) := ((kin_at (fun m => m.setNames (without m.names s)) (fun _ => rfl) (fun _ => rfl) (fun _ => rfl) dir).trans (kin_at (fun m => m.setLinks (m.links - 1)) (fun _ => rfl) (fun _ => rfl) (fun _ => rfl) _)).trans (kin_gone _)
theorem kin_drop (k : Int) : Kin t (drop t k).2 := by
  unfold drop
  split
  · exact (kin_at (fun m => m.setHolds (m.holds - 1)) (fun _ => rfl) (fun _ => rfl) (fun _ => rfl) k).trans (kin_gone k)
  · exact Kin.refl t
theorem Kin.at_ (h : Kin t t') {c : Int} {n' : NodeD} (hn : find t'.nodes c = some n') : (In.at_ t' c).dir = (In.at_ t c).dir ∧ (In.at_ t' c).data = (In.at_ t c).data := by
  obtain ⟨n, h1, h2, h3⟩ := h c n' hn
  rw [at_some hn, at_some h1]
  exact ⟨h2, h3⟩
/-- What no names lead to stands in nobody's way. -/
theorem go_less (I : Inv N t) {M : Nat} (I' : Inv M t') (hl : Less t t') : ∀ (q : List ByteArray) (id : Int), go t' id q ≠ 0 → go t id q = go t' id q
  | [], _, _ => rfl
  | s :: r, id, h => by
    unfold go at h ⊢
    have hs : leads (at_ t' id).names s ≠ 0 := fun e => by rw [e, go_zero I'] at h; exact h rfl
    have hm := leads_mem hs
    obtain ⟨m, h1, -, h2⟩ := hl id _ (names_found hm)
    have h3 := h2 _ hm
    have e : leads (at_ t id).names s = leads (at_ t' id).names s := by
      have h4 : (s, leads (at_ t' id).names s) ∈ (at_ t id).names := by rw [at_some h1]; exact h3
      exact leads_of I h4
    rw [e]
    exact go_less I I' hl r _ h
end
end In
namespace Fs
section
variable {N : Nat} {d : FsD}
theorem walkL_go {t : TabD} : ∀ (l : List ByteArray) (id : Int), (walkL t id l).2 = 0 → In.go t id l = (walkL t id l).1
  | [], _, _ => rfl
  | s :: r, id, h => by
    unfold walkL at h ⊢
    unfold In.go
    split
    · rename_i h0
      rw [if_pos h0] at h
      obtain ⟨d, h1, -, -, h2⟩ := In.findE_ok h0
      have e : In.leads (In.at_ t id).names s = In.findN t id s := by rw [In.at_some h1, h2]
      rw [e]
      exact walkL_go r _ h
    · rename_i h0
      rw [if_neg h0] at h
      exact absurd h h0
theorem nameOk_in {s : ByteArray} (h : Pt.NameOk s) : In.isName s = true := by
  obtain ⟨h1, h2⟩ := h
  unfold Pt.isName at h1
  simp only [Bool.and_eq_true, decide_eq_true_eq, Bool.not_eq_true'] at h1
  obtain ⟨⟨⟨⟨a1, a2⟩, a3⟩, a4⟩, a5⟩ := h1
  have h0 : ∀ l : List UInt8, Lib.indexByte l 0 < 0 → (0 : UInt8) ∉ l := fun l => by
    induction l with
    | nil => intro _; simp
    | cons b l ih =>
      intro h hm
      unfold Lib.indexByte at h
      rcases List.mem_cons.1 hm with e | hm
      · subst e; simp at h
      · split at h
        · omega
        · split at h
          · rename_i hz
            exact ih (by have := Lib.indexByte_ge l 0; first | omega | (simp at hz; omega)) hm
          · have := Lib.indexByte_ge l 0
            first | omega | exact ih (by omega) hm
  have h0' := h0 _ a5
  unfold In.isName
  rw [a1, a2, decide_eq_true a3, decide_eq_true a4]
  have : (s.data.toList.any fun c => c == 0 || c == 47) = false := by
    rw [List.any_eq_false]
    intro c hc
    simp only [Bool.or_eq_true, beq_iff_eq, not_or]
    exact ⟨fun e => h0' (e ▸ hc), fun e => h2 (e ▸ hc)⟩
  rw [this]
  rfl
theorem find_yes {t : TabD} (I : In.Inv N t) {id : Int} {s : ByteArray} (hs : Pt.NameOk s) (h : In.leads (In.at_ t id).names s ≠ 0) : In.findE t id s = 0 ∧ In.findN t id s = In.leads (In.at_ t id).names s := by
  have hm := In.leads_mem h
  have hf := In.names_found hm
  have hd := In.names_dir I (id := id) (fun e => by rw [e] at hm; cases hm)
  have hg : In.getE t id true = 0 := by
    unfold In.getE
    rw [hf]
    simp [hd]
  have hp : In.placeE t id s = 0 := by
    unfold In.placeE
    rw [hg, nameOk_in hs]
    rfl
  have hE : In.findE t id s = 0 := by
    unfold In.findE
    rw [hp]
    simp [h]
  refine ⟨hE, ?_⟩
  unfold In.findN
  rw [hE]
  rfl
theorem go_walkL {t : TabD} (I : In.Inv N t) : ∀ (l : List ByteArray) (id : Int), (∀ s ∈ l, Pt.NameOk s) → In.go t id l ≠ 0 → walkL t id l = (In.go t id l, 0)
  | [], _, _, _ => rfl
  | s :: r, id, hn, h => by
    unfold In.go at h ⊢
    have hs : In.leads (In.at_ t id).names s ≠ 0 := fun e => by rw [e, In.go_zero I] at h; exact h rfl
    obtain ⟨h1, h2⟩ := find_yes I (hn s (.head _)) hs
    unfold walkL
    rw [if_pos h1, h2]
    exact go_walkL I r _ (fun x hx => hn x (.tail _ hx)) h
/-- Every name is one that may be, and every path. -/
structure Legal (t : TabD) : Prop where
  names : ∀ d ∈ t.nodes, ∀ p ∈ d.names, Pt.NameOk p.1
  paths : ∀ q : List ByteArray, q ≠ [] → In.go t 1 q ≠ 0 → Pt.Okn q
theorem Legal.at_ {t : TabD} (h : Legal t) (id : Int) : ∀ p ∈ (In.at_ t id).names, Pt.NameOk p.1 := fun p hp => h.names _ (In.find_some (In.names_found hp)).1 p hp
def fileOf (t : TabD) (e : List ByteArray × Int) : FileD := ⟨Pt.joined e.1, (In.at_ t e.2).dir, (In.at_ t e.2).data⟩
theorem under_tree {t : TabD} (L : Legal t) : ∀ (k : Nat) (id : Int) (pre : List ByteArray), (∀ s ∈ pre, Pt.NameOk s) → under t k id (Pt.joined pre) = (In.tree t k id pre).map (fileOf t)
  | 0, _, _, _ => rfl
  | k + 1, id, pre, hp => by
    unfold under In.tree
    rw [List.map_flatMap]
    refine flatMap_same fun p hpm => ?_
    have hn := L.at_ id p hpm
    rw [List.map_cons, Pt.join_joined hp hn, under_tree L k p.2 (pre ++ [p.1]) fun s hs => by
      rcases List.mem_append.1 hs with hs | hs
      · exact hp s hs
      · rcases List.mem_singleton.1 hs with rfl; exact hn]
    rfl
/-- All files, as a tree of names. -/
def T (d : FsD) : List (List ByteArray × Int) := In.tree d.t d.t.last.toNat 1 []
theorem files_T (L : Legal d.t) : files d = (T d).map (fileOf d.t) := under_tree L _ 1 [] nofun
theorem T_mem (I : In.Inv N d.t) {e : List ByteArray × Int} (h : e ∈ T d) : e.1 ≠ [] ∧ In.go d.t 1 e.1 = e.2 ∧ e.2 ≠ 0 := by
  obtain ⟨nl, h1, h2, h3, h4⟩ := In.tree_mem I _ _ _ e h
  rw [List.nil_append] at h2
  rw [h2]
  exact ⟨h1, h3, h4⟩
theorem fileOf_kin {t t' : TabD} (I : In.Inv N t') (hk : In.Kin t t') {e : List ByteArray × Int} (h : In.go t' 1 e.1 = e.2 ∧ e.2 ≠ 0) : fileOf t' e = fileOf t e := by
  obtain ⟨n, hn⟩ := In.go_there I (q := e.1) (by rw [h.1]; exact h.2)
  rw [h.1] at hn
  obtain ⟨h1, h2⟩ := hk.at_ hn
  unfold fileOf
  rw [h1, h2]
end
end Fs
end Go.Proofs.YtcicjklhbnipcaaGreatDoor
namespace Go.Proofs.YtcicjklhbnipcaaGreatDoor
set_option linter.unusedVariables false
set_option linter.unusedSimpArgs false
namespace In
/-- All that is there was there, with its names, but for this name, or has none. -/
def ComeS (k : Int) (s : ByteArray) (i : Int) (t t' : TabD) : Prop := ∀ x m', find t'.nodes x = some m' → m'.names = [] ∨ ∃ m, find t.nodes x = some m ∧ ∀ p ∈ m'.names, p ∈ m.names ∨ (x = k ∧ p = (s, i))
section
variable {N : Nat} {t t' t'' : TabD} {k i : Int} {s : ByteArray}
theorem ComeS.less (h : ComeS k s i t t') (h' : Less t' t'') : ComeS k s i t t'' := fun x m hm => by
  obtain ⟨m1, a1, -, a3⟩ := h' x m hm
  rcases h x m1 a1 with h1 | ⟨m2, b1, b2⟩
  · left
    cases hn : m.names with
    | nil => rfl
    | cons p r =>
      have := a3 p (by rw [hn]; exact .head _)
      rw [h1] at this
      cases this
  · exact .inr ⟨m2, b1, fun p hp => b2 p (a3 p hp)⟩
theorem Less.thenS (h : Less t t') (h' : ComeS k s i t' t'') : ComeS k s i t t'' := fun x m hm => by
  rcases h' x m hm with h1 | ⟨m1, a1, a2⟩
  · exact .inl h1
  · obtain ⟨m2, b1, -, b3⟩ := h x m1 a1
    exact .inr ⟨m2, b1, fun p hp => (a2 p hp).imp (b3 p) fun h => h⟩
theorem comeS_nameIn (dir : Int) (s : ByteArray) (id : Int) : ComeS dir s id t (nameIn t dir s id) := fun x m' h => by
  have h' : find (set t.nodes ((at_ t dir).setNames (with_ (at_ t dir).names s id))) x = some m' := h
  rw [find_map_id] at h'
  cases hf : find t.nodes x with
  | none => rw [hf] at h'; cases h'
  | some m =>
    rw [hf] at h'
    refine .inr ⟨m, rfl, ?_⟩
    have h2 : (if m.id == ((at_ t dir).setNames (with_ (at_ t dir).names s id)).id then (at_ t dir).setNames (with_ (at_ t dir).names s id) else m) = m' := by simpa using h'
    split at h2
    · rename_i he
      have e1 : m.id = dir := by
        have : m.id = ((at_ t dir).setNames (with_ (at_ t dir).names s id)).id := by simpa using he
        exact this.trans (at_id t dir)
      have e2 : x = dir := (find_some hf).2.symm.trans e1
      subst e2 h2
      intro p hp
      have hp' : p ∈ with_ (at_ t x).names s id := hp
      rcases mem_put.1 hp' with rfl | hp'
      · exact .inr ⟨rfl, rfl⟩
      · rw [at_some hf] at hp'
        exact .inl (mem_without.1 hp').1
    · subst h2
      exact fun p hp => .inl hp
theorem comeS_make (I : Inv N t) (dir : Int) (s : ByteArray) (b : Bool) : ComeS dir s (t.last + 1) t (makeT t dir s b) ∧ (at_ (makeT t dir s b) (t.last + 1)).names = [] := by
  have hne : ∀ m ∈ (nameIn t dir s (t.last + 1)).nodes, m.id ≠ (⟨t.last + 1, b, 1, 0, ByteArray.empty, []⟩ : NodeD).id := fun m hm => by
    have hm' : m ∈ set t.nodes ((at_ t dir).setNames (with_ (at_ t dir).names s (t.last + 1))) := hm
    unfold set at hm'
    obtain ⟨y, hy, e⟩ := List.mem_map.1 hm'
    have hp := (I.pos y hy).2
    have : m.id = y.id := by
      rw [← e]
      split
      · rename_i hh
        exact (by simpa using hh : y.id = _).symm
      · rfl
    show m.id ≠ t.last + 1
    omega
  have hfs := find_snoc hne
  constructor
  · intro x m hx
    have hx' : find ((nameIn t dir s (t.last + 1)).nodes ++ [⟨t.last + 1, b, 1, 0, ByteArray.empty, []⟩]) x = some m := hx
    rw [hfs] at hx'
    split at hx'
    · cases hx'
      exact .inl rfl
    · exact comeS_nameIn dir s (t.last + 1) x m hx'
  · have hx : find (makeT t dir s b).nodes (t.last + 1) = some ⟨t.last + 1, b, 1, 0, ByteArray.empty, []⟩ := by
      show find ((nameIn t dir s (t.last + 1)).nodes ++ [⟨t.last + 1, b, 1, 0, ByteArray.empty, []⟩]) (t.last + 1) = _
      rw [hfs, if_pos rfl]
    rw [at_some hx]
theorem go_come (I : Inv N t) {M : Nat} (I' : Inv M t') (h : ComeS k s i t t') (hi : (at_ t' i).names = []) : ∀ (n : Nat) (q : List ByteArray), q.length = n → go t' 1 q ≠ 0 → go t 1 q = go t' 1 q ∨ ∃ r, q = r ++ [s] ∧ go t 1 r = k ∧ go t' 1 q = i := by
  intro n
  induction n with
  | zero =>
    intro q hn _
    obtain rfl := List.length_eq_zero_iff.1 hn
    exact .inl rfl
  | succ n ih =>
    intro q hn h0
    rcases List.eq_nil_or_concat q with rfl | ⟨q, r, rfl⟩
    · cases hn
    rw [List.concat_eq_append] at hn h0 ⊢
    have hq := ih q (by simpa using hn) (go_front I' h0)
    rw [go_snoc] at h0
    have hm := leads_mem h0
    rcases hq with hq | ⟨r', -, -, hq⟩
    · rcases h _ _ (names_found hm) with h1 | ⟨m, h1, h2⟩
      · rw [h1] at hm; cases hm
      · rcases h2 _ hm with h3 | ⟨h3, h4⟩
        · left
          rw [go_snoc, go_snoc, hq]
          have h5 : (r, leads (at_ t' (go t' 1 q)).names r) ∈ (at_ t (go t' 1 q)).names := by rw [at_some h1]; exact h3
          exact leads_of I h5
        · right
          simp only [Prod.mk.injEq] at h4
          exact ⟨q, by rw [h4.1], by rw [hq, h3], by rw [go_snoc]; exact h4.2⟩
    · rw [hq, hi] at hm
      cases hm
end
end In
namespace Fs
section
variable {N M : Nat} {d : FsD} {t t' : TabD}
theorem legal_less (I : In.Inv N t) (I' : In.Inv M t') (L : Legal t) (h : In.Less t t') : Legal t' := by
  refine ⟨fun m hm p hp => ?_, fun q hq h0 => L.paths q hq (by rw [In.go_less I I' h q 1 h0]; exact h0)⟩
  obtain ⟨m1, h1, -, h2⟩ := h m.id m (In.find_asc I'.asc hm)
  exact L.names m1 (In.find_some h1).1 p (h2 p hp)
theorem legal_come (I : In.Inv N t) (I' : In.Inv M t') (L : Legal t) {k i : Int} {s : ByteArray} (h : In.ComeS k s i t t') (hi : (In.at_ t' i).names = []) (hn : ∀ q, In.go t 1 q = k → Pt.Okn (q ++ [s])) (hs : Pt.NameOk s) : Legal t' := by
  refine ⟨fun m hm p hp => ?_, fun q hq h0 => ?_⟩
  · rcases h m.id m (In.find_asc I'.asc hm) with h1 | ⟨m1, h1, h2⟩
    · rw [h1] at hp; cases hp
    · rcases h2 p hp with h3 | ⟨-, rfl⟩
      · exact L.names m1 (In.find_some h1).1 p h3
      · exact hs
  · rcases In.go_come I I' h hi _ q rfl h0 with h1 | ⟨r, rfl, h1, -⟩
    · exact L.paths q hq (by rw [h1]; exact h0)
    · exact hn r h1
/-- Where a path leads to, its name may stand. -/
theorem place_new (I : In.Inv N d.t) {p : ByteArray} (hp : Pt.isPath p = true) (hw : (at_ d p).2 = 0) (hd : (In.at_ d.t (at_ d p).1.1).dir = true) : Pt.NameOk (at_ d p).1.2 ∧ ∀ q, In.go d.t 1 q = (at_ d p).1.1 → Pt.Okn (q ++ [(at_ d p).1.2]) := by
  obtain ⟨q0, s0, -, h2, h3, h4, -⟩ := Pt.isPath_snoc hp
  have hg : In.go d.t 1 q0 = (at_ d p).1.1 := by
    have := walkL_go (t := d.t) q0 1
    unfold at_ walk at hw ⊢
    rw [h2] at hw ⊢
    exact this hw
  have hs : (at_ d p).1.2 = s0 := h3
  rw [hs]
  refine ⟨h4.names s0 (by simp), fun q hq => ?_⟩
  have h0 : (at_ d p).1.1 ≠ 0 := fun e => by
    rw [e] at hd
    have := In.find_pos' I (In.dir_found hd)
    omega
  have e : q = q0 := In.dir_path I _ rfl (by rw [hq, hg]) (by rw [hq]; exact h0) (by rw [hq]; exact hd)
  rw [e]
  exact h4
theorem legal_make (I : In.Inv N d.t) (L : Legal d.t) {p : ByteArray} (hp : Pt.isPath p = true) (hw : (at_ d p).2 = 0) (b : Bool) : Legal (In.make d.t (at_ d p).1.1 (at_ d p).1.2 b).2.2 := by
  have I' := In.inv_make I (at_ d p).1.1 (at_ d p).1.2 b
  unfold In.make at I' ⊢
  split
  · rename_i he
    rw [if_pos he] at I'
    obtain ⟨h1, -, -⟩ := In.makeE_ok (by simpa using he)
    obtain ⟨D, hD, hDd, -, -⟩ := In.emptyE_ok h1
    obtain ⟨c1, c2⟩ := In.comeS_make I (at_ d p).1.1 (at_ d p).1.2 b
    obtain ⟨g1, g2⟩ := place_new I hp hw (by rw [In.at_some hD]; exact hDd)
    exact legal_come I I' L c1 c2 g2 g1
  · exact L
theorem file_leaf (I' : In.Inv M t') {k i : Int} (hc : In.Come k i t t') {c : Int} {n : NodeD} (hn : In.find t.nodes c = some n) (hd : n.dir = false) : (In.at_ t' c).names = [] := by
  cases hf : In.find t'.nodes c with
  | none => unfold In.at_; rw [hf]
  | some m =>
    obtain ⟨n1, h1, h2, -⟩ := hc c m hf
    rw [hn] at h1
    cases h1
    rw [In.at_some hf]
    exact I'.files m (In.find_some hf).1 (h2.trans hd)
theorem legal_link (I : In.Inv N d.t) (L : Legal d.t) (id : Int) {p : ByteArray} (hp : Pt.isPath p = true) (hw : (at_ d p).2 = 0) : Legal (In.link d.t id (at_ d p).1.1 (at_ d p).1.2).2 := by
  have I' := In.inv_link I id (at_ d p).1.1 (at_ d p).1.2
  unfold In.link at I' ⊢
  split
  · rename_i he
    rw [if_pos he] at I'
    have he' : In.linkE d.t id (at_ d p).1.1 (at_ d p).1.2 = 0 := by simpa using he
    unfold In.linkE at he'
    split at he'
    · rename_i h1
      obtain ⟨n, hn, hnd⟩ := In.getE_ok (t := d.t) (id := id) (dir := false) (by simpa using h1)
      obtain ⟨D, hD, hDd, -, -⟩ := In.emptyE_ok he'
      obtain ⟨g1, g2⟩ := place_new I hp hw (by rw [In.at_some hD]; exact hDd)
      exact legal_come I I' L ((In.comeS_nameIn _ _ id).less (In.less_linksUp id)) (file_leaf I' (In.Come.less (In.come_nameIn (at_ d p).1.1 (at_ d p).1.2 id) (In.less_linksUp id)) hn hnd) g2 g1
    · rename_i h1
      exact absurd (by simpa using he') h1
  · exact L
theorem legal_rename (I : In.Inv N d.t) (L : Legal d.t) (dir : Int) (s : ByteArray) {p : ByteArray} (hp : Pt.isPath p = true) (hw : (at_ d p).2 = 0) : Legal (In.rename d.t dir s (at_ d p).1.1 (at_ d p).1.2).2 := by
  have I' := In.inv_rename I dir s (at_ d p).1.1 (at_ d p).1.2
  unfold In.rename at I' ⊢
  split
  · rename_i he
    rw [if_pos he] at I'
    obtain ⟨h1, h2, -⟩ := In.renameE_ok (t := d.t) (dir := dir) (s := s) (tod := (at_ d p).1.1) (as_ := (at_ d p).1.2) (by simpa using he)
    obtain ⟨D, hD, hDd, -⟩ := In.placeE_ok h2
    obtain ⟨-, _, n, -, -, -, hN, hn, hnd⟩ := In.unlinkE_ok h1
    obtain ⟨g1, g2⟩ := place_new I hp hw (by rw [In.at_some hD]; exact hDd)
    have key : ∀ t1, In.Less d.t t1 → In.Inv (N + 1) (In.renameIn t1 dir s (at_ d p).1.1 (at_ d p).1.2 (In.findN d.t dir s)) → Legal (In.renameIn t1 dir s (at_ d p).1.1 (at_ d p).1.2 (In.findN d.t dir s)) := fun t1 hl I2 => by
      refine legal_come I I2 L ((hl.trans (In.less_nameOut dir s)).thenS (In.comeS_nameIn _ _ _)) ?_ g2 g1
      refine file_leaf I2 ((hl.trans (In.less_nameOut dir s)).then (In.come_nameIn _ _ (In.findN d.t dir s))) (c := In.findN d.t dir s) (n := n) (by rw [hN]; exact hn) hnd
    have I2 : In.Inv (N + 1) (In.renameT d.t dir s (at_ d p).1.1 (at_ d p).1.2) := I'
    show Legal (In.renameT d.t dir s (at_ d p).1.1 (at_ d p).1.2)
    unfold In.renameT at I2 ⊢
    split
    · exact L
    · rename_i c1
      rw [if_neg c1] at I2
      split
      · rename_i c2
        rw [if_pos c2] at I2
        exact key _ (In.Less.refl _) I2
      · rename_i c2
        rw [if_neg c2] at I2
        exact key _ (In.less_loses _ _) I2
  · exact L
theorem legal_gives (I : Inv N d) (L : Legal d.t) (o id : Int) : Legal (gives d o id).2.t := by
  have := legal_less I.tbl (In.inv_hold I.tbl id) L (In.less_hold id)
  unfold gives
  split <;> exact this
theorem legal_closes (I : Inv N d) (L : Legal d.t) (o : Int) (n : Nat) : Legal (closes d o n).t := legal_less I.tbl (In.inv_drop I.tbl _) L (In.less_drop _)
theorem legal_do (I : Inv N d) (L : Legal d.t) (o : Int) (p : OpD) : Legal (do_ d o p).2.t := by
  unfold do_
  split
  · exact L
  rename_i hr
  have hr : Pt.right p = true := by simpa using hr
  split
  · rename_i hk
    have hp : Pt.isPath p.path = true := by
      unfold Pt.right at hr
      rw [if_neg (by omega), if_pos (by omega)] at hr
      exact hr
    unfold opens
    split
    · exact L
    split
    · exact L
    rename_i hw
    have hw := Decidable.not_not.1 hw
    split
    · have hm := legal_make I.tbl L hp hw false
      split
      · exact hm
      · exact legal_gives (d := ⟨(In.make d.t (at_ d p.path).1.1 (at_ d p.path).1.2 false).2.2, d.h⟩) (inv_tbl I (In.inv_make I.tbl _ _ false) (by omega : N ≤ N + 2)) hm o _
    split
    · exact L
    · exact legal_gives I L o _
  split
  · unfold handled
    split
    · exact L
    split
    · exact legal_closes I L o _
    split
    · exact L
    split
    · exact legal_less I.tbl (In.inv_write I.tbl _ _ _) L (In.less_write _ _ _)
    split
    · exact legal_less I.tbl (In.inv_trunc I.tbl _ _) L (In.less_trunc _ _)
    · exact L
  split
  · exact L
  rename_i n1 n2 n3
  show Legal (named d p).2
  unfold named
  split
  · exact L
  rename_i hw
  have hw := Decidable.not_not.1 hw
  unfold namedAt
  split
  · rename_i hk
    have hp : Pt.isPath p.path = true := by
      unfold Pt.right at hr
      rw [if_neg (by omega), if_pos (by omega)] at hr
      exact hr
    exact legal_make I.tbl L hp hw true
  split
  · exact legal_less I.tbl (In.inv_remove I.tbl _ _) L (In.less_remove _ _)
  split
  · exact legal_less I.tbl (In.inv_unlink I.tbl _ _) L (In.less_unlink _ _)
  rename_i k1 k2 k3
  have hq : p.kind = 10 ∨ p.kind = 12 → Pt.isPath p.dest = true := fun hk => by
    unfold Pt.right at hr
    rw [if_neg (by omega), if_neg (by omega), if_pos (by omega)] at hr
    simp only [Bool.and_eq_true] at hr
    exact hr.2
  split
  · rename_i hk
    split
    · exact L
    split
    · exact L
    · rename_i hw2
      exact legal_link I.tbl L _ (hq (.inl hk)) (Decidable.not_not.1 hw2)
  rename_i k4
  split
  · exact L
  · rename_i hw2
    have hk12 : p.kind = 12 := by
      unfold Pt.right at hr
      rw [if_neg (by omega), if_neg (by omega)] at hr
      split at hr
      · omega
      · first
        | cases hr
        | (split at hr
           · omega
           · cases hr)
    exact legal_rename I.tbl L _ _ (hq (.inr hk12)) (Decidable.not_not.1 hw2)
theorem legal_exitL (o : Int) : ∀ (l : List Int) (n : Nat) (d : FsD) (N : Nat), Inv N d → Legal d.t → (∀ j, l[j]? = (hOf d.h o)[n + j]?) → Legal (exitL o l n d).t
  | [], _, _, _, _, L, _ => L
  | i :: r, n, d, N, I, L, hl => by
    unfold exitL
    have h0 := hl 0
    rw [List.getElem?_cons_zero, Nat.add_zero] at h0
    split
    · rename_i hi
      refine legal_exitL o r (n + 1) _ N (inv_closes0 I (n := n) (by rw [List.getD_eq_getElem?_getD, ← h0]; exact hi)) (legal_closes I L o n) fun j => ?_
      have hj := hl (j + 1)
      rw [List.getElem?_cons_succ] at hj
      unfold closes
      simp only
      rw [hOf_shut, if_pos rfl, List.getElem?_set_ne (by omega), hj]
      congr 1
      omega
    · refine legal_exitL o r (n + 1) _ N I L fun j => ?_
      have hj := hl (j + 1)
      rw [List.getElem?_cons_succ] at hj
      rw [hj]
      congr 1
      omega
theorem legal_exit (I : Inv N d) (L : Legal d.t) (o : Int) : Legal (exit d o).t := legal_exitL o _ 0 d N I L fun j => by rw [Nat.zero_add]
theorem legal_new (q : Int) : Legal (new q).t := by
  have h0 : ∀ c, (In.at_ (new q).t c).names = [] := fun c => by
    unfold In.at_
    cases h : In.find (new q).t.nodes c with
    | none => rfl
    | some n =>
      have := (In.find_some h).1
      have e : n = ⟨1, true, 1, 0, ByteArray.empty, []⟩ := by simpa [new, In.new] using this
      rw [e]
  refine ⟨fun m hm p hp => ?_, fun l hl hg => ?_⟩
  · have e : m = ⟨1, true, 1, 0, ByteArray.empty, []⟩ := by simpa [new, In.new] using hm
    subst e
    cases hp
  · rcases List.eq_nil_or_concat l with rfl | ⟨l, s, rfl⟩
    · exact absurd rfl hl
    · rw [List.concat_eq_append, In.go_snoc, h0] at hg
      exact absurd rfl hg
end
end Fs
end Go.Proofs.YtcicjklhbnipcaaGreatDoor
namespace Go.Proofs.YtcicjklhbnipcaaGreatDoor
set_option linter.unusedVariables false
set_option linter.unusedSimpArgs false
namespace In
section
variable {N : Nat} {t t' : TabD}
theorem last_gone (k : Int) : (gone t k).last = t.last := by unfold gone; split <;> rfl
theorem last_loses (dir : Int) (s : ByteArray) : (loses t dir s).last = t.last := by unfold loses; rw [last_gone]; rfl
theorem last_drop (k : Int) : (drop t k).2.last = t.last := by
  unfold drop
  split
  · exact last_gone k
  · rfl
/-- Names stay where a handle goes. -/
theorem names_drop (I : Inv N t) (k c : Int) : (at_ (drop t k).2 c).names = (at_ t c).names := by
  have hl := less_drop (t := t) k
  unfold drop at hl ⊢
  split
  · rename_i he
    rw [if_pos he] at hl
    have he' : dropE t k = 0 := by simpa using he
    unfold dropE at he'
    cases hf : find t.nodes k with
    | none => rw [hf] at he'; simp at he'
    | some n =>
      rw [hf] at he'
      have hh : n.holds ≠ 0 := fun e => by simp [e] at he'
      have hnd : n.dir = false := by
        cases hd : n.dir with
        | false => rfl
        | true => exact absurd ((I.dirs n (find_some hf).1 hd).1) hh
      have hnn := I.files n (find_some hf).1 hnd
      by_cases hc : c = k
      · subst hc
        rw [at_some hf, hnn]
        cases hf2 : find (gone (holdsDown t c) c).nodes c with
        | none => unfold at_; rw [hf2]
        | some m =>
          obtain ⟨m1, h1, -, h2⟩ := hl c m hf2
          rw [hf] at h1
          cases h1
          rw [at_some hf2]
          cases hm : m.names with
          | nil => rfl
          | cons p r =>
            have := h2 p (by rw [hm]; exact .head _)
            rw [hnn] at this
            cases this
      · have e : find (gone (holdsDown t k) k).nodes c = find t.nodes c := by rw [find_gone_ne hc, find_holdsDown hf, if_neg hc]
        unfold at_
        rw [e]
  · rfl
end
end In
namespace Fs
section
variable {N : Nat} {d : FsD}
theorem files_closes (I : Inv N d) (L : Legal d.t) (o : Int) (n : Nat) : files (closes d o n) = files d := by
  have L' := legal_closes I L o n
  have I' := In.inv_drop I.tbl ((hOf d.h o).getD n 0)
  rw [files_T L', files_T L]
  have hT : T (closes d o n) = T d := by
    unfold T closes
    simp only
    rw [In.last_drop]
    exact In.tree_congr (fun c => In.names_drop I.tbl _ c) _ _ _
  rw [← hT]
  refine List.map_congr_left fun e he => ?_
  exact fileOf_kin (t := d.t) (t' := (closes d o n).t) I' (In.kin_drop _) (T_mem (d := closes d o n) I' he).2
theorem files_exitL (o : Int) : ∀ (l : List Int) (n : Nat) (d : FsD) (N : Nat), Inv N d → Legal d.t → (∀ j, l[j]? = (hOf d.h o)[n + j]?) → files (exitL o l n d) = files d
  | [], _, _, _, _, _, _ => rfl
  | i :: r, n, d, N, I, L, hl => by
    unfold exitL
    have h0 := hl 0
    rw [List.getElem?_cons_zero, Nat.add_zero] at h0
    split
    · rename_i hi
      rw [files_exitL o r (n + 1) _ N (inv_closes0 I (n := n) (by rw [List.getD_eq_getElem?_getD, ← h0]; exact hi)) (legal_closes I L o n) fun j => ?_, files_closes I L]
      have hj := hl (j + 1)
      rw [List.getElem?_cons_succ] at hj
      unfold closes
      simp only
      rw [hOf_shut, if_pos rfl, List.getElem?_set_ne (by omega), hj]
      congr 1
      omega
    · refine files_exitL o r (n + 1) _ N I L fun j => ?_
      have hj := hl (j + 1)
      rw [List.getElem?_cons_succ] at hj
      rw [hj]
      congr 1
      omega
theorem files_exit (I : Inv N d) (L : Legal d.t) (o : Int) : files (exit d o) = files d := files_exitL o _ 0 d N I L fun j => by rw [Nat.zero_add]
theorem files_exits : ∀ (l : List Int) (d : FsD), Inv N d → Legal d.t → files (l.foldl exit d) = files d ∧ Legal (l.foldl exit d).t
  | [], _, _, L => ⟨rfl, L⟩
  | o :: r, d, I, L => by
    rw [List.foldl_cons]
    have := files_exits r (exit d o) (inv_exit I o) (legal_exit I L o)
    rw [files_exit I L] at this
    exact this
/-- A name that leads to a file, or to a directory without names, is taken away. -/
theorem out_one (I : Ol.FInv N d) (L : Legal d.t) {A B : List (List ByteArray × Int)} {x : List ByteArray × Int} (hT : T d = A ++ x :: B) (hc : (In.at_ d.t x.2).names = []) :
    let d' := (do_ d 0 (opK (if (fileOf d.t x).dir then 2 else 11) (fileOf d.t x).path)).2
    Legal d'.t ∧ T d' = A ++ B ∧ ∀ e ∈ T d', fileOf d'.t e = fileOf d.t e := by
  have It := I.inv.tbl
  obtain ⟨x1, x2⟩ := x
  have hx := T_mem It (e := (x1, x2)) (by rw [hT]; simp)
  obtain ⟨hne, hg, h0⟩ := hx
  simp only at hne hg h0 hc
  rcases List.eq_nil_or_concat x1 with rfl | ⟨q, s, rfl⟩
  · exact absurd rfl hne
  rw [List.concat_eq_append] at hT hne hg ⊢
  have hok := L.paths _ hne (by rw [hg]; exact h0)
  have hs := hok.names s (by simp)
  have hgs : In.leads (In.at_ d.t (In.go d.t 1 q)).names s = x2 := by rw [← hg, In.go_snoc]
  have hD0 : In.go d.t 1 q ≠ 0 := In.go_front It (b := [s]) (by rw [hg]; exact h0)
  have hDd : (In.at_ d.t (In.go d.t 1 q)).dir = true := In.snoc_dir It (s := s) (by rw [hg]; exact h0)
  obtain ⟨f1, f2⟩ := find_yes It hs (id := In.go d.t 1 q) (by rw [hgs]; exact h0)
  rw [hgs] at f2
  obtain ⟨n, hn⟩ := In.go_there It (q := q ++ [s]) (by rw [hg]; exact h0)
  rw [hg] at hn
  have hat := In.at_some hn
  have hpath : (fileOf d.t (q ++ [s], x2)).path = Pt.joined (q ++ [s]) := rfl
  have hdir : (fileOf d.t (q ++ [s], x2)).dir = n.dir := by show (In.at_ d.t x2).dir = _; rw [hat]
  rw [hpath, hdir]
  have hw : at_ d (Pt.joined (q ++ [s])) = ((In.go d.t 1 q, s), 0) := by
    unfold at_ walk
    rw [Pt.split_joined hs]
    simp only
    rw [Pt.parts_joined (fun z hz => hok.names z (by simp [hz])), go_walkL It q 1 (fun z hz => hok.names z (by simp [hz])) hD0]
  have hdo : (do_ d 0 (opK (if n.dir then 2 else 11) (Pt.joined (q ++ [s])))).2 = ⟨In.loses d.t (In.go d.t 1 q) s, d.h⟩ := by
    have hpp : Pt.isPath (Pt.joined (q ++ [s])) = true := Pt.isPath_joined hok
    cases hnd : n.dir with
    | true =>
      rw [if_pos rfl]
      have hr : Pt.right (opK 2 (Pt.joined (q ++ [s]))) = true := hpp
      unfold do_
      rw [if_neg (by rw [hr]; simp), if_neg (by show ¬ ((2 : Int) = 3 ∨ (2 : Int) = 4); decide), if_neg (by show ¬ ((2 : Int) = 5 ∨ (2 : Int) = 6 ∨ (2 : Int) = 7 ∨ (2 : Int) = 8 ∨ (2 : Int) = 9); decide), if_neg (by show ¬ ((2 : Int) = 13); decide)]
      show (⟨(named d (opK 2 (Pt.joined (q ++ [s])))).2, d.h⟩ : FsD) = _
      have hE : In.removeE d.t (In.go d.t 1 q) s = 0 := by
        unfold In.removeE
        rw [f1, f2]
        have : In.getE d.t x2 true = 0 := by unfold In.getE; rw [hn]; simp [hnd]
        rw [this, hc]
        rfl
      unfold named
      rw [show (opK 2 (Pt.joined (q ++ [s]))).path = Pt.joined (q ++ [s]) from rfl, hw, if_neg (by simp)]
      unfold namedAt
      rw [if_neg (by show ¬ ((2 : Int) = 1); decide), if_pos (by rfl)]
      unfold In.remove
      rw [hE]
      rfl
    | false =>
      rw [if_neg (by simp)]
      have hr : Pt.right (opK 11 (Pt.joined (q ++ [s]))) = true := hpp
      unfold do_
      rw [if_neg (by rw [hr]; simp), if_neg (by show ¬ ((11 : Int) = 3 ∨ (11 : Int) = 4); decide), if_neg (by show ¬ ((11 : Int) = 5 ∨ (11 : Int) = 6 ∨ (11 : Int) = 7 ∨ (11 : Int) = 8 ∨ (11 : Int) = 9); decide), if_neg (by show ¬ ((11 : Int) = 13); decide)]
      show (⟨(named d (opK 11 (Pt.joined (q ++ [s])))).2, d.h⟩ : FsD) = _
      have hE : In.unlinkE d.t (In.go d.t 1 q) s = 0 := by
        unfold In.unlinkE
        rw [f1, f2]
        have : In.getE d.t x2 false = 0 := by unfold In.getE; rw [hn]; simp [hnd]
        rw [this]
        rfl
      unfold named
      rw [show (opK 11 (Pt.joined (q ++ [s]))).path = Pt.joined (q ++ [s]) from rfl, hw, if_neg (by simp)]
      unfold namedAt
      rw [if_neg (by show ¬ ((11 : Int) = 1); decide), if_neg (by show ¬ ((11 : Int) = 2); decide), if_pos (by rfl)]
      unfold In.unlink
      rw [hE]
      rfl
  have hdf := In.dir_found hDd
  have hl' : In.leads (In.at_ d.t (In.go d.t 1 q)).names s ≠ 0 := by rw [hgs]; exact h0
  have It' : In.Inv N (In.loses d.t (In.go d.t 1 q) s) := In.inv_loses It hdf hDd hl' (o := n) (by rw [hgs]; exact hn) (fun _ => by rw [← hat]; exact hc)
  have hless := In.less_loses (t := d.t) (In.go d.t 1 q) s
  have L' : Legal (In.loses d.t (In.go d.t 1 q) s) := legal_less It It' L hless
  have hxD : x2 ≠ In.go d.t 1 q := fun e => by
    have hm := In.leads_mem hl'
    rw [← e, hc] at hm
    cases hm
  have hnames : ∀ c, c ≠ In.go d.t 1 q → (In.at_ (In.loses d.t (In.go d.t 1 q) s) c).names = (In.at_ d.t c).names := fun c hcD => by
    by_cases hcx : c = x2
    · rw [hcx, hc]
      cases hf : In.find (In.loses d.t (In.go d.t 1 q) s).nodes x2 with
      | none => unfold In.at_; rw [hf]
      | some m =>
        obtain ⟨m1, h1, -, h2⟩ := hless x2 m hf
        rw [In.at_some hf]
        cases hm : m.names with
        | nil => rfl
        | cons p r =>
          have := h2 p (by rw [hm]; exact .head _)
          rw [← In.at_some h1, hc] at this
          cases this
    · have e := In.find_loses (x := c) hdf (n := n) (by rw [hgs]; exact hn) (by rw [hgs]; exact hcx)
      rw [if_neg hcD] at e
      unfold In.at_
      rw [e]
  have hD : (In.at_ (In.loses d.t (In.go d.t 1 q) s) (In.go d.t 1 q)).names = In.without (In.at_ d.t (In.go d.t 1 q)).names s := by
    have e := In.find_loses (x := In.go d.t 1 q) hdf (n := n) (by rw [hgs]; exact hn) (by rw [hgs]; exact hxD.symm)
    rw [if_pos rfl] at e
    rw [In.at_some e]
    rfl
  rw [hdo]
  refine ⟨L', ?_, fun e he => fileOf_kin (t := d.t) (t' := In.loses d.t (In.go d.t 1 q) s) It' (In.kin_loses _ _) (T_mem (d := ⟨In.loses d.t (In.go d.t 1 q) s, d.h⟩) It' he).2⟩
  have h1 := In.tree_out It (s := s) (PD := q) rfl hD0 hDd (by rw [hgs]; exact hc) hnames hD d.t.last.toNat 1 [] rfl (by decide)
  have hp := In.tree_pre It d.t.last.toNat 1 []
  have hT' : In.tree d.t d.t.last.toNat 1 [] = A ++ (q ++ [s], x2) :: B := hT
  unfold T
  simp only
  rw [In.last_loses, h1, hT']
  rw [hT'] at hp
  obtain ⟨-, hp2, hp3⟩ := List.pairwise_append.1 hp
  obtain ⟨hp4, -⟩ := List.pairwise_cons.1 hp2
  rw [List.filter_append, List.filter_cons, if_neg (by simp)]
  have e1 : A.filter (fun e => decide (e.1 ≠ q ++ [s])) = A := List.filter_eq_self.2 fun a ha => by
    simp only [ne_eq, decide_not, Bool.not_eq_true', decide_eq_false_iff_not]
    intro e
    exact hp3 a ha _ (.head _) (by rw [e]; exact List.prefix_refl _)
  have e2 : B.filter (fun e => decide (e.1 ≠ q ++ [s])) = B := List.filter_eq_self.2 fun a ha => by
    simp only [ne_eq, decide_not, Bool.not_eq_true', decide_eq_false_iff_not]
    intro e
    exact hp4 a ha (by rw [e]; exact List.prefix_refl _)
  rw [e1, e2]
end
end Fs
namespace Ol
section
variable {N : Nat} {d : FsD}
def keep (e : List ByteArray × Int) : Bool := !Pt.under (Pt.joined e.1) Pt.run
theorem run_parts : Pt.parts Pt.run = [Pt.run] := by
  have h : ∀ s ∈ [Pt.run], Pt.NameOk s := fun s hs => by
    rcases List.mem_singleton.1 hs with rfl
    exact ⟨by decide, by decide⟩
  have := Pt.parts_joined h
  rwa [Pt.joined_one] at this
theorem under_names {l : List ByteArray} (h : ∀ s ∈ l, Pt.NameOk s) : Pt.under (Pt.joined l) Pt.run = (decide (1 < l.length) && decide (l.take 1 = [Pt.run])) := by
  unfold Pt.under
  rw [run_parts, Pt.parts_joined h]
  rfl
theorem under_longer {l r : List ByteArray} (h : ∀ s ∈ l ++ r, Pt.NameOk s) (hu : Pt.under (Pt.joined l) Pt.run = true) : Pt.under (Pt.joined (l ++ r)) Pt.run = true := by
  rw [under_names fun s hs => h s (by simp [hs])] at hu
  rw [under_names h]
  simp only [Bool.and_eq_true, decide_eq_true_eq] at hu ⊢
  obtain ⟨h1, h2⟩ := hu
  refine ⟨by rw [List.length_append]; omega, ?_⟩
  rw [List.take_append_of_le_length (by omega)]
  exact h2
/-- All that lies under a directory is taken away, from the end on. -/
theorem empties_fold {f0 : List ByteArray × Int → FileD} {T0 : List (List ByteArray × Int)} (h0 : T0.Pairwise fun a b => ¬ b.1 <+: a.1) (hf : ∀ e, (f0 e).path = Pt.joined e.1) : ∀ (n : Nat) (A S : List (List ByteArray × Int)) (d : FsD), A.length = n → T0 = A ++ S → FInv N d → Fs.Legal d.t → Fs.T d = A ++ S.filter keep → (∀ e ∈ Fs.T d, Fs.fileOf d.t e = f0 e) →
    Fs.Legal ((A.map f0).reverse.foldl empty1 d).t ∧ Fs.T ((A.map f0).reverse.foldl empty1 d) = T0.filter keep ∧ ∀ e ∈ T0.filter keep, Fs.fileOf ((A.map f0).reverse.foldl empty1 d).t e = f0 e := by
  intro n
  induction n with
  | zero =>
    intro A S d hA hS I L hT he
    obtain rfl := List.length_eq_zero_iff.1 hA
    rw [List.nil_append] at hS hT
    rw [hT] at he
    rw [hS]
    exact ⟨L, hT, he⟩
  | succ n ih =>
    intro A S d hA hS I L hT he
    rcases List.eq_nil_or_concat A with rfl | ⟨A, x, rfl⟩
    · cases hA
    rw [List.concat_eq_append] at hA hS hT ⊢
    have hA' : A.length = n := by simpa using hA
    rw [List.append_assoc, List.singleton_append] at hS hT
    rw [List.map_append, List.map_singleton, List.reverse_append, List.reverse_singleton, List.singleton_append, List.foldl_cons]
    have hx := Fs.T_mem I.inv.tbl (e := x) (by rw [hT]; simp)
    have hfx := he x (by rw [hT]; simp)
    have hok := L.paths x.1 hx.1 (by rw [hx.2.1]; exact hx.2.2)
    by_cases hk : Pt.under (Pt.joined x.1) Pt.run = true
    · have hkx : keep x = false := by unfold keep; rw [hk]; rfl
      have hc : (In.at_ d.t x.2).names = [] := by
        cases hcn : (In.at_ d.t x.2).names with
        | nil => rfl
        | cons p r =>
          exfalso
          have hp : p ∈ (In.at_ d.t x.2).names := by rw [hcn]; exact .head _
          have hcd := In.names_dir I.inv.tbl (id := x.2) (by rw [hcn]; simp)
          have hgx : In.go d.t 1 (x.1 ++ [p.1]) = p.2 := by rw [In.go_snoc, hx.2.1]; exact In.leads_of I.inv.tbl hp
          have hp0 := In.name_ne I.inv.tbl hp
          have hdep := In.depth I.inv.tbl I.up _ (q := x.1) rfl (by rw [hx.2.1]; exact hx.2.2) (by rw [hx.2.1]; exact hcd)
          rw [hx.2.1] at hdep
          have hlast := (In.find_pos' I.inv.tbl (In.dir_found hcd)).2
          have hm := In.mem_tree I.inv.tbl d.t.last.toNat 1 [] (x.1 ++ [p.1]) (by simp) (by rw [List.length_append, List.length_singleton]; omega) (by rw [hgx]; exact hp0)
          rw [List.nil_append, hgx] at hm
          have hm' : (x.1 ++ [p.1], p.2) ∈ A ++ x :: S.filter keep := by rw [← hT]; exact hm
          rw [hS] at h0
          obtain ⟨-, -, h3⟩ := List.pairwise_append.1 h0
          rcases List.mem_append.1 hm' with h4 | h4
          · exact h3 _ h4 x (.head _) (List.prefix_append _ _)
          · rcases List.mem_cons.1 h4 with h5 | h5
            · have := congrArg (fun e : List ByteArray × Int => e.1.length) h5
              simp at this
            · have h6 := (List.mem_filter.1 h5).2
              have hok2 := L.paths (x.1 ++ [p.1]) (by simp) (by rw [hgx]; exact hp0)
              unfold keep at h6
              rw [under_longer hok2.names hk] at h6
              cases h6
      obtain ⟨L', hT', hf'⟩ := Fs.out_one I L hT hc
      have he1 : empty1 d (f0 x) = (Fs.do_ d 0 (opK (if (Fs.fileOf d.t x).dir then 2 else 11) (Fs.fileOf d.t x).path)).2 := by
        unfold empty1
        rw [if_pos (by rw [hf]; exact hk), hfx]
      have I' : FInv N (empty1 d (f0 x)) := finv_empty1 I _
      rw [he1] at I' ⊢
      refine ih A (x :: S) _ hA' hS I' L' ?_ fun e hem => ?_
      · rw [hT', List.filter_cons, hkx]
        rfl
      · rw [hf' e hem]
        refine he e ?_
        rw [hT'] at hem
        rw [hT]
        rcases List.mem_append.1 hem with h | h
        · exact List.mem_append_left _ h
        · exact List.mem_append_right _ (.tail _ h)
    · have hkx : keep x = true := by
        unfold keep
        cases h : Pt.under (Pt.joined x.1) Pt.run with
        | true => exact absurd h hk
        | false => rfl
      have he1 : empty1 d (f0 x) = d := by
        unfold empty1
        rw [if_neg (by rw [hf]; exact hk)]
      rw [he1]
      refine ih A (x :: S) d hA' hS I L ?_ he
      rw [hT, List.filter_cons, hkx]
      rfl
/-- Files that do not lie under the directory that a power failure empties. -/
def bare (l : List FileD) : List FileD := l.filter fun x => !Pt.under x.path Pt.run
theorem files_empties (I : FInv N d) (L : Fs.Legal d.t) : Fs.files (empties d) = bare (Fs.files d) ∧ Fs.Legal (empties d).t := by
  have hF := Fs.files_T L
  obtain ⟨h1, h2, h3⟩ := empties_fold (N := N) (f0 := Fs.fileOf d.t) (In.tree_pre I.inv.tbl d.t.last.toNat 1 []) (fun _ => rfl) _ (Fs.T d) [] d rfl (List.append_nil _).symm I L (List.append_nil _).symm fun _ _ => rfl
  rw [← hF] at h1 h2 h3
  refine ⟨?_, h1⟩
  have e : Fs.files (empties d) = (Fs.T (empties d)).map (Fs.fileOf (empties d).t) := Fs.files_T h1
  have h2' : Fs.T (empties d) = (Fs.T d).filter keep := h2
  rw [e, h2']
  unfold bare
  rw [hF, List.filter_map]
  exact List.map_congr_left h3
theorem legal_again (I : FInv N d) (L : Fs.Legal d.t) (l : LogD) : Fs.Legal (again d l).t := by
  obtain ⟨o, _ | p⟩ := l
  · exact Fs.legal_exit I.inv L o
  · exact Fs.legal_do I.inv L o p
theorem legal_replay : ∀ (l : List LogD) {N : Nat} {d : FsD}, (∀ x ∈ l, LogOk x) → FInv N d → N + 3 * l.length ≤ 999999990 → Fs.Legal d.t → Fs.Legal (replay d l).t
  | [], _, _, _, _, _, h => h
  | x :: r, N, d, hl, I, hN, h => by
    rw [List.length_cons] at hN
    exact legal_replay r (fun y hy => hl y (.tail _ hy)) (finv_again I (by omega) (hl x (.head _))) (by omega) (legal_again I h x)
/-- Every path of what is and of what is sure is one that may be. -/
structure Lawful (D : DskD) : Prop where
  now : Fs.Legal D.now.t
  base : Fs.Legal D.base.t
variable {D : DskD} {o : Int} {p : OpD}
theorem lawful_new (q : Int) : Lawful (new q) := ⟨Fs.legal_new q, Fs.legal_new q⟩
theorem lawful_do (I : Inv N D) (h : Lawful D) : Lawful (do_ D o p).2 := by
  unfold do_
  split
  · exact ⟨h.now, h.now⟩
  · exact ⟨Fs.legal_do I.now.inv h.now o p, h.base⟩
theorem lawful_exit (I : Inv N D) (h : Lawful D) : Lawful (exit D o) := by
  unfold exit
  split
  · exact ⟨Fs.legal_exit I.now.inv h.now o, h.base⟩
  · exact h
theorem cut_files (I : Inv N D) (h : Lawful D) (hN : N ≤ 999999990) (k : Int) : Fs.files (cutFs D k) = bare (Fs.files (replay D.base (D.log.take (max 0 (min k D.log.length)).toNat))) ∧ Fs.Legal (cutFs D k).t := by
  obtain ⟨K, h1, h2⟩ := I.base
  have h3 := take_len D k
  have hf := finv_replay (D.log.take (max 0 (min k D.log.length)).toNat) (fun x hx => I.ok x (List.mem_of_mem_take hx)) h1 (by omega)
  have hl := legal_replay (D.log.take (max 0 (min k D.log.length)).toNat) (fun x hx => I.ok x (List.mem_of_mem_take hx)) h1 (by omega) h.base
  obtain ⟨e1, e2⟩ := Fs.files_exits (N := _) (Fs.owners (replay D.base (D.log.take (max 0 (min k D.log.length)).toNat))) _ hf.inv hl
  obtain ⟨e3, e4⟩ := files_empties (finv_exits hf) e2
  refine ⟨?_, e4⟩
  unfold cutFs
  rw [e3]
  show bare (Fs.files (exits (replay D.base (D.log.take (max 0 (min k D.log.length)).toNat)))) = _
  unfold exits
  rw [e1]
theorem lawful_cut (I : Inv N D) (h : Lawful D) (hN : N ≤ 999999990) (k : Int) : Lawful (cut D k) := ⟨(cut_files I h hN k).2, (cut_files I h hN k).2⟩
/-- A cut that keeps all loses just what lies under that directory; one that keeps nothing is what was sure. -/
theorem cut_all (I : Inv N D) (h : Lawful D) (hG : Good D) (hN : N ≤ 999999990) : Fs.files (cutFs D D.log.length) = bare (Fs.files D.now) := by
  rw [(cut_files I h hN _).1]
  have e : (max 0 (min (D.log.length : Int) D.log.length)).toNat = D.log.length := by omega
  rw [e, List.take_length, ← hG.is]
theorem cut_none (I : Inv N D) (h : Lawful D) (hN : N ≤ 999999990) {k : Int} (hk : k ≤ 0) : Fs.files (cutFs D k) = bare (Fs.files D.base) := by
  rw [(cut_files I h hN _).1]
  have e : (max 0 (min k (D.log.length : Int))).toNat = 0 := by omega
  rw [e, List.take_zero]
  rfl
end
end Ol
end Go.Proofs.YtcicjklhbnipcaaGreatDoor
namespace Go.Proofs.YtcicjklhbnipcaaGreatDoor
set_option linter.unusedVariables false
set_option linter.unusedSimpArgs false
open Go.RowKit Go.Maps
def nodM (zs : List NodV) : List (Lit × Value) := zs.map fun z => (.int .i64 z.1.id, .agg z.cells.toArray)
theorem zs_mem {zs : List NodV} {t : TabD} (hz : zs.map (·.1) = t.nodes) {z : NodV} (h : z ∈ zs) : z.1 ∈ t.nodes := by rw [← hz]; exact List.mem_map_of_mem h
theorem look_nod {N : Nat} {t : TabD} (I : In.Inv N t) {zs : List NodV} (hz : zs.map (·.1) = t.nodes) {z : NodV} (h : z ∈ zs) (v : Value) : lookL (nodM zs) (.int .i64 z.1.id) v = .agg z.cells.toArray := by
  have key : ∀ zs : List NodV, (zs.map fun z => z.1).Pairwise (fun a b => a.id < b.id) → z ∈ zs → ((nodM zs).find? fun p => p.1.sameKey (.int .i64 z.1.id)) = some (.int .i64 z.1.id, .agg z.cells.toArray) := by
    intro zs hs hm
    induction zs with
    | nil => cases hm
    | cons y r ih =>
      rw [List.map_cons] at hs
      obtain ⟨h1, h2⟩ := List.pairwise_cons.1 hs
      unfold nodM
      rw [List.map_cons, List.find?_cons]
      rcases List.mem_cons.1 hm with rfl | hm'
      · have : (Lit.int .i64 z.1.id).sameKey (.int .i64 z.1.id) = true := by
          show decide (IntKind.i64 = IntKind.i64 ∧ z.1.id = z.1.id) = true
          simp
        rw [this]
      · have hlt := h1 z.1 (List.mem_map_of_mem hm')
        have : (Lit.int .i64 y.1.id).sameKey (.int .i64 z.1.id) = false := by
          show decide (IntKind.i64 = IntKind.i64 ∧ y.1.id = z.1.id) = false
          simp
          omega
        rw [this]
        exact ih h2 hm'
  unfold lookL
  rw [key zs (by rw [hz]; exact I.asc) h]
theorem ents_flag (zs : List NodV) : flagged (zs.flatMap NodV.ents) := fun x hx => by
  obtain ⟨z, -, hx⟩ := List.mem_flatMap.1 hx
  exact slL_flag _ _ _ _ x hx
/-- Where Files' variables lie. -/
structure UndX where
  t3 : Nat
  t6 : Nat
  t7 : Nat
  m : Nat
def undH (u : UndX) (n : Nat) (s : Option (Nat × Nat)) : List Ent := [(u.t7, true, .cells [.func (.func 70) #[] #[.pointer (some ⟨u.t3, 0, none⟩), .pointer (some ⟨u.t6, 0, none⟩), .pointer (some ⟨u.t7, 0, none⟩)]] 125), (u.t6, true, .cells [slV s n] 47), (u.t3, true, .cells [.map (some u.m)] 119)]
abbrev fileL (s : Option (Nat × Nat)) (xs : List FileD) : List Ent := slL s (xs.flatMap FileD.cells) 112 3
abbrev FileOK (s : Option (Nat × Nat)) (xs : List FileD) : Prop := SlOK s xs.length (xs.flatMap FileD.cells) 3
def undL (u : UndX) (zs : List NodV) (s : Option (Nat × Nat)) (xs : List FileD) : List Ent := undH u xs.length s ++ ((u.m, true, mapR Tryz.prog 3 (nodM zs)) :: (fileL s xs ++ zs.flatMap NodV.ents))
theorem undL_flag (u : UndX) (zs : List NodV) (s : Option (Nat × Nat)) (xs : List FileD) : flagged (undL u zs s xs) := fun x hx => by
  unfold undL undH at hx
  simp only [List.cons_append, List.nil_append, List.mem_cons, List.mem_append] at hx
  rcases hx with rfl | rfl | rfl | rfl | hx | hx
  · rfl
  · rfl
  · rfl
  · rfl
  · exact slL_flag _ _ _ _ x hx
  · exact ents_flag zs x hx
/-- Files are appended to what was found. -/
def UndGoes (u : UndX) (zs : List NodV) (s : Option (Nat × Nat)) (xs ys : List FileD) (w : World) (e : Ending) (w' : World) : Prop :=
  e = .returned (.tuple #[]) ∧ ∃ s', FileOK s' (xs ++ ys) ∧ St w (keysOf (undL u zs s xs)) w' (undL u zs s' (xs ++ ys))
def fileOf (t : TabD) (dir : ByteArray) (p : ByteArray × Int) : FileD := ⟨Pt.join dir p.1, (In.at_ t p.2).dir, (In.at_ t p.2).data⟩
theorem ent_at {d : List (ByteArray × Int)} {j : Nat} {nm : ByteArray} {idv : Int} (h : d[j]? = some (nm, idv)) : ((entC d).drop (j * 2)).take 2 = [.string nm, .int .i64 idv] := by
  induction d generalizing j with
  | nil => simp at h
  | cons p r ih =>
    cases j with
    | zero =>
      rw [List.getElem?_cons_zero] at h
      cases h
      rfl
    | succ j =>
      rw [List.getElem?_cons_succ] at h
      have := ih h
      rw [show (j + 1) * 2 = j * 2 + 2 by omega]
      exact this
theorem entC_len (d : List (ByteArray × Int)) : (entC d).length = d.length * 2 := by
  unfold entC
  induction d with
  | nil => rfl
  | cons p r ih => rw [List.flatMap_cons, List.length_append, ih, List.length_cons]; simp; omega
section
variable {N : Nat} {t : TabD} {zs : List NodV} {u : UndX} {w : World}
/-- One inode's names lie ahead, the others' behind. -/
theorem und_perm {A B : List NodV} {z : NodV} {g cap : Nat} (hz : z.2 = some (g, cap)) (n : Nat) (s : Option (Nat × Nat)) (xs : List FileD) :
    (undH u n s ++ ((u.m, true, mapR Tryz.prog 3 (nodM zs)) :: (fileL s xs ++ (A ++ z :: B).flatMap NodV.ents))).Perm
      ((g, true, .pre (entC z.1.names) 127 (cap * 2)) :: (undH u n s ++ ((u.m, true, mapR Tryz.prog 3 (nodM zs)) :: (fileL s xs ++ (A.flatMap NodV.ents ++ B.flatMap NodV.ents))))) := by
  have e : z.ents = [(g, true, .pre (entC z.1.names) 127 (cap * 2))] := by unfold NodV.ents; rw [hz]; rfl
  rw [List.flatMap_append, List.flatMap_cons, e]
  have h1 : (A.flatMap NodV.ents ++ ([(g, true, Res.pre (entC z.1.names) 127 (cap * 2))] ++ B.flatMap NodV.ents)).Perm ((g, true, Res.pre (entC z.1.names) 127 (cap * 2)) :: (A.flatMap NodV.ents ++ B.flatMap NodV.ents)) := List.perm_middle
  refine (List.Perm.append_left _ ((h1.append_left _).cons _)).trans ?_
  refine (List.Perm.append_left _ ((List.perm_middle).cons _)).trans ?_
  refine (List.Perm.append_left _ (List.Perm.swap _ _ _)).trans ?_
  exact List.perm_middle
set_option maxHeartbeats 16000000 in
set_option maxRecDepth 100000 in
/-- What lies below a directory, if each name's walk is known. -/
theorem under_step (hz : zs.map (·.1) = t.nodes) (I : In.Inv N t) (hN : N ≤ 1000000000) (hks : ∀ z ∈ zs, SlOK z.2 z.1.names.length (entC z.1.names) 2)
    {z : NodV} (hzm : z ∈ zs) {dir : ByteArray} (hd : dir.size ≤ 4611686018427387904) (U : ByteArray × Int → List FileD) {Bd : Nat} (hBd : Bd ≤ 1000000000)
    (IH : ∀ p ∈ z.1.names, ∀ (xs : List FileD) (s : Option (Nat × Nat)) (W : World), xs.length + (U p).length ≤ Bd → FileOK s xs → At (undL u zs s xs) W →
      Calls Tryz.prog 70 #[.int .i64 p.2, .string (Pt.join dir p.1), .pointer (some ⟨u.t3, 0, none⟩), .pointer (some ⟨u.t6, 0, none⟩), .pointer (some ⟨u.t7, 0, none⟩)] W (UndGoes u zs s xs (U p) W))
    (xs : List FileD) (s : Option (Nat × Nat)) (hB : xs.length + (z.1.names.flatMap fun p => fileOf t dir p :: U p).length ≤ Bd) (hok : FileOK s xs) (hA : At (undL u zs s xs) w) :
    Calls Tryz.prog 70 #[.int .i64 z.1.id, .string dir, .pointer (some ⟨u.t3, 0, none⟩), .pointer (some ⟨u.t6, 0, none⟩), .pointer (some ⟨u.t7, 0, none⟩)] w (UndGoes u zs s xs (z.1.names.flatMap fun p => fileOf t dir p :: U p) w) := by
  have hM := hA.st
  unfold UndGoes
  obtain ⟨F, hF⟩ : ∃ F, keysOf (undL u zs s xs) = F := ⟨_, rfl⟩
  rw [hF] at hM ⊢
  clear hF hA
  have hfid : ∀ z' ∈ zs, Fits z'.1.id := fun z' hz' => by
    have := I.pos _ (zs_mem hz hz')
    have := I.last
    exact fits_of (by omega) (by omega)
  have hid := hfid z hzm
  obtain ⟨sa, sc, hsv, hsa⟩ := slV_open (hks z hzm)
  have hl : lookL (nodM zs) (.int .i64 z.1.id) zN = .agg #[.int .i64 z.1.id, .bool z.1.dir, .int .i64 z.1.links, .int .i64 z.1.holds, .string z.1.data, .slice sa z.1.names.length sc] := by
    rw [look_nod I hz hzm zN]
    unfold NodV.cells
    rw [hsv]
  obtain ⟨A, B, hAB⟩ := List.append_of_mem hzm
  have hnl : z.1.names.length ≤ 1000000000 := by
    have h1 := In.le_sum (f := fun n => n.names.length) (zs_mem hz hzm)
    have h2 := I.tot
    unfold In.tot at h2
    omega
  have HOK := Lib.hid hok
  have HZ := Lib.hid (hks z hzm)
  have CJ := Lib.hid (fun (nm : ByteArray) (W : World) (hn : nm.size ≤ 1000000) => Join_any dir nm W hd hn)
  unfold undL at hM
  clear hok hd
  rcases hz2 : z.2 with _ | ⟨g, cap⟩
  · have h0 : z.1.names = [] := by
      have := HZ.out
      rw [hz2] at this
      exact List.eq_nil_of_length_eq_zero this.2
    have h0l : z.1.names.length = 0 := by rw [h0]; rfl
    rw [h0l] at hl
    rw [h0]
    unfold undH at hM
    simp only [List.cons_append, List.nil_append] at hM
    go_enter Tryz.func70, Tryz.ntmps70
    (repeat (first | ((with_reducible show wpSeq _ _ _ _ _ _ _); ((first | (refine St.copy (v := ?_) (by exact .inl rfl) rfl rfl ?_ ?_; rotate_left; (focus ((try simp only [Act.eval, getD_lit, qGz, qGs]); with_reducible rfl))) | refine St.load rfl hM rfl rfl rfl rfl (by repeat constructor) (by rfl) (by kernel_rfl) ?_); (try simp only [Act.put, qSa, qSz, qSs]))) | (first | (refine wp_seq_shut (fun K hK => ?_)) | (refine wp_text hM (fun Kr hKr => ?_); simp only [inText]))))
    refine St.lookup rfl hM rfl rfl rfl rfl (by repeat constructor) key_int Tryz.underlying119 zero_node (keyOf_int_mk Tryz.underlying3 hid) hl ?_
    (try simp only [Act.put, qSa, qSz, qSs])
    refine St.field (off := 5) rfl rfl rfl rfl (by kernel_rfl) rfl ?_
    (try simp only [Act.put, qSa, qSz, qSs])
    (repeat (first | ((with_reducible show wpSeq _ _ _ _ _ _ _); first | ((with_reducible refine wpSeq_nil ?_); refine hKr.out _ _ ?_; clear hKr Kr) | ((first | (refine St.copy (v := ?_) (by exact .inl rfl) rfl rfl ?_ ?_; rotate_left; (focus ((try simp only [Act.eval, getD_lit, qGz, qGs]); with_reducible rfl))) | (refine St.pure (v := ?_) rfl rfl rfl (fun w => ?_) ?_; rotate_left; (focus (go_simp; all_goals with_reducible rfl)))); (try simp only [Act.put, qSa, qSz, qSs]))) | (first | refine wp_block ?_ | ((refine hK.out _ _ ?_); clear hK K))))
    refine wp_loop_rounds 1 ?_
    (refine rounds_shut (fun K hK => ?_))
    (repeat (first | ((with_reducible show wpSeq _ _ _ _ _ _ _); first | ((with_reducible refine wpSeq_nil ?_); refine hKr.out _ _ ?_; clear hKr Kr) | (((refine St.pure (v := ?_) rfl rfl rfl (fun w => ?_) ?_; rotate_left; (focus (go_simp; all_goals with_reducible rfl)))); (try simp only [Act.put, qSa, qSz, qSs]))) | (first | (refine wp_seq_shut (fun K hK => ?_)) | (refine wp_text hM (fun Kr hKr => ?_); simp only [inText]) | (refine wp_cond_false rfl ?_) | (refine wp_exit ?_; simp only [Exit.then, Exit.inBlock, if_true, if_false, reduceCtorEq, Nat.reduceEqDiff, Nat.succ_ne_zero]) | ((refine hK.out _ _ ?_); clear hK K))))
    ((refine St.fin hM rfl (by repeat (exact Outs.nil)) rfl ?_))
    refine ⟨rfl, s, by rw [List.flatMap_nil, List.append_nil]; exact HOK.out, ?_⟩
    rw [List.flatMap_nil, List.append_nil]
    exact hM
  · obtain ⟨rfl, rfl⟩ := hsa g cap hz2
    rw [show zs.flatMap NodV.ents = (A ++ z :: B).flatMap NodV.ents by rw [← hAB]] at hM
    replace hM := hM.perm (und_perm hz2 _ _ _)
    have HP := Lib.hid (fun (n : Nat) (s : Option (Nat × Nat)) (xs : List FileD) => und_perm (u := u) (zs := zs) (A := A) (B := B) hz2 n s xs)
    have HAB := Lib.hid (show (A ++ z :: B).flatMap NodV.ents = zs.flatMap NodV.ents by rw [← hAB])
    generalize (A ++ z :: B).flatMap NodV.ents = E1 at *
    generalize A.flatMap NodV.ents ++ B.flatMap NodV.ents = E2 at *
    have HI := Lib.hid I
    have HZZ := Lib.hid hz
    have HKS := Lib.hid hks
    have HFD := Lib.hid hfid
    have HIH := Lib.hid IH
    have HBB := Lib.hid hB
    clear hAB hz2 hsa hsv I hz hks hfid IH hB
    unfold undH at hM
    simp only [List.cons_append, List.nil_append] at hM
    go_enter Tryz.func70, Tryz.ntmps70
    (repeat (first | ((with_reducible show wpSeq _ _ _ _ _ _ _); ((first | (refine St.copy (v := ?_) (by exact .inl rfl) rfl rfl ?_ ?_; rotate_left; (focus ((try simp only [Act.eval, getD_lit, qGz, qGs]); with_reducible rfl))) | refine St.load rfl hM rfl rfl rfl rfl (by repeat constructor) (by rfl) (by kernel_rfl) ?_); (try simp only [Act.put, qSa, qSz, qSs]))) | (first | (refine wp_seq_shut (fun K hK => ?_)) | (refine wp_text hM (fun Kr hKr => ?_); simp only [inText]))))
    refine St.lookup rfl hM rfl rfl rfl rfl (by repeat constructor) key_int Tryz.underlying119 zero_node (keyOf_int_mk Tryz.underlying3 hid) hl ?_
    (try simp only [Act.put, qSa, qSz, qSs])
    refine St.field (off := 5) rfl rfl rfl rfl (by kernel_rfl) rfl ?_
    (try simp only [Act.put, qSa, qSz, qSs])
    (repeat (first | ((with_reducible show wpSeq _ _ _ _ _ _ _); first | ((with_reducible refine wpSeq_nil ?_); refine hKr.out _ _ ?_; clear hKr Kr) | ((first | (refine St.copy (v := ?_) (by exact .inl rfl) rfl rfl ?_ ?_; rotate_left; (focus ((try simp only [Act.eval, getD_lit, qGz, qGs]); with_reducible rfl))) | (refine St.pure (v := ?_) rfl rfl rfl (fun w => ?_) ?_; rotate_left; (focus (go_simp; all_goals with_reducible rfl)))); (try simp only [Act.put, qSa, qSz, qSs]))) | (first | refine wp_block ?_ | ((refine hK.out _ _ ?_); clear hK K))))
    go_loopw [16] (fun i wr => ∃ (k : Nat) (s' : Option (Nat × Nat)) (ys : List FileD), k ≤ z.1.names.length ∧ i = .int .i64 k ∧ ys = xs ++ (z.1.names.take k).flatMap (fun p => fileOf t dir p :: U p) ∧ FileOK s' ys ∧ St w F wr ((g, true, .pre (entC z.1.names) 127 (sc * 2)) :: (u.t7, true, .cells [.func (.func 70) #[] #[.pointer (some ⟨u.t3, 0, none⟩), .pointer (some ⟨u.t6, 0, none⟩), .pointer (some ⟨u.t7, 0, none⟩)]] 125) :: (u.t6, true, .cells [slV s' ys.length] 47) :: (u.t3, true, .cells [.map (some u.m)] 119) :: (u.m, true, mapR Tryz.prog 3 (nodM zs)) :: (fileL s' ys ++ E2))) (fun i _ => z.1.names.length - (intOf i).toNat)
    case atStart => exact ⟨0, s, xs, by omega, rfl, by simp, HOK.out, hM⟩
    case round =>
      clear hM
      obtain ⟨k, s', ys, hk, rfl, hys, hok', hM⟩ := hrel
      have HYS := Lib.hid hys
      have HOK' := Lib.hid hok'
      clear hys hok'
      by_cases hlt : k < z.1.names.length
      · obtain ⟨p, hp⟩ := get_at hlt
        obtain ⟨nm, idv⟩ := p
        have hpm := List.mem_of_getElem? hp
        have hzi := zs_mem HZZ.out hzm
        have hns := HI.out.short _ hzi _ hpm
        obtain ⟨n2, hn2⟩ := HI.out.leads _ hzi _ hpm
        simp only at hns hn2
        obtain ⟨hn2m, hn2i⟩ := In.find_some hn2
        obtain ⟨zc, hzc, hzce⟩ : ∃ zc ∈ zs, zc.1 = n2 := by
          rw [← HZZ.out] at hn2m
          obtain ⟨zc, h1, h2⟩ := List.mem_map.1 hn2m
          exact ⟨zc, h1, h2⟩
        have hat : In.at_ t idv = zc.1 := by rw [In.at_some hn2, hzce]
        have hidv : zc.1.id = idv := by rw [hzce]; exact hn2i
        obtain ⟨ca, cc, hcv, -⟩ := slV_open (HKS.out zc hzc)
        have hl2 : lookL (nodM zs) (.int .i64 idv) zN = .agg #[.int .i64 idv, .bool zc.1.dir, .int .i64 zc.1.links, .int .i64 zc.1.holds, .string zc.1.data, .slice ca zc.1.names.length cc] := by
          rw [← hidv, look_nod HI.out HZZ.out hzc zN]
          unfold NodV.cells
          rw [hcv]
        have hfv : Fits idv := by rw [← hidv]; exact HFD.out zc hzc
        have hent := ent_at hp
        have hfile : fileOf t dir (nm, idv) = ⟨Pt.join dir nm, zc.1.dir, zc.1.data⟩ := by unfold fileOf; rw [hat]
        have htake : (z.1.names.take (k + 1)).flatMap (fun p => fileOf t dir p :: U p) = (z.1.names.take k).flatMap (fun p => fileOf t dir p :: U p) ++ (⟨Pt.join dir nm, zc.1.dir, zc.1.data⟩ :: U (nm, idv)) := by
          rw [List.take_add_one, hp, Option.toList_some, List.flatMap_append, List.flatMap_singleton, hfile]
        have hys2 : (ys ++ [⟨Pt.join dir nm, zc.1.dir, zc.1.data⟩]) ++ U (nm, idv) = xs ++ (z.1.names.take (k + 1)).flatMap (fun p => fileOf t dir p :: U p) := by
          rw [htake, HYS.out]
          simp
        have hlen : ys.length + 1 + (U (nm, idv)).length ≤ Bd := by
          have h1 := congrArg List.length hys2
          have h2 : ((z.1.names.take (k + 1)).flatMap (fun p => fileOf t dir p :: U p)).length ≤ (z.1.names.flatMap fun p => fileOf t dir p :: U p).length := by
            conv => rhs; rw [← List.take_append_drop (k + 1) z.1.names]
            rw [List.flatMap_append, List.length_append]
            omega
          have h3 := HBB.out
          rw [List.length_append, List.length_append, List.length_append, List.length_singleton] at h1
          omega
        have CI := Lib.hid (fun s' W h1 h2 => HIH.out (nm, idv) hpm (ys ++ [⟨Pt.join dir nm, zc.1.dir, zc.1.data⟩]) s' W (by rw [List.length_append, List.length_singleton]; exact hlen) h1 h2)
        have CJ' := Lib.hid (fun W => CJ.out nm W (by omega))
        have HY2 := Lib.hid hys2
        have k1 : (k : Int) < (z.1.names.length : Int) := by omega
        have hel : k * 2 + 2 ≤ (entC z.1.names).length := by rw [entC_len]; omega
        have hyl : ys.length + 1 ≤ 1000000000 := by omega
        simp only at CI
        generalize Pt.join dir nm = J at *
        generalize U (nm, idv) = UP at *
        generalize zc.1.names.length = cn at *
        generalize zc.1.dir = zd at *
        generalize zc.1.links = zl at *
        generalize zc.1.holds = zh at *
        generalize zc.1.data = zt at *
        clear hp hpm hzi hns hn2 hn2m hn2i hzce hat hidv hcv hfile htake hys2 hlen hzc HBB HIH CJ
        (repeat (first | ((with_reducible show wpSeq _ _ _ _ _ _ _); first | ((with_reducible refine wpSeq_nil ?_); refine hKr.out _ _ ?_; clear hKr Kr) | (((refine St.pure (v := ?_) rfl rfl rfl (fun w => ?_) ?_; rotate_left; (focus (go_simp; all_goals with_reducible rfl)))); (try simp only [Act.put, qSa, qSz, qSs]))) | (first | (refine wp_seq_shut (fun K hK => ?_)) | (refine wp_text hM (fun Kr hKr => ?_); simp only [inText]) | refine wp_block ?_ | refine wp_skip ?_ | (refine wp_cond_true rfl ?_) | ((refine hK.out _ _ ?_); clear hK K))))
        refine St.loadRow rfl hM rfl rfl rfl rfl (by repeat constructor) (by exact hel) (by kernel_rfl) ?_
        simp only [Res.known]
        rw [hent]
        (try simp only [Act.put, qSa, qSz, qSs])
        (repeat (first | ((with_reducible show wpSeq _ _ _ _ _ _ _); first | ((with_reducible refine wpSeq_nil ?_); refine hKr.out _ _ ?_; clear hKr Kr) | ((first | (refine St.pure (v := ?_) rfl rfl rfl (fun w => ?_) ?_; rotate_left; (focus (go_simp; all_goals with_reducible rfl))) | refine St.load rfl hM rfl rfl rfl rfl (by repeat constructor) (by rfl) (by kernel_rfl) ?_ | ((((refine St.storeRow rfl hM rfl rfl rfl rfl rfl (by repeat constructor) (Nat.le_of_ble_eq_true rfl) (Nat.le_of_ble_eq_true rfl) (by kernel_rfl) rfl ?_ ?_); (focus ((intro h; cases h; done))); clear hM; intro w hM)); (try simp only [Res.put, Res.known, Act.eval, Value.cells, getD_lit, qGz, qGs, List.toList_toArray, qSz, qSs, over, Nat.reduceAdd] at hM))); (try simp only [Act.put, qSa, qSz, qSs])) | (((refine St.alloc (ty := 127) (z := .agg #[.string ⟨#[]⟩, .int .i64 0]) rfl hM rfl rfl (by kernel_rfl) ?_); clear hM; intro w bk hM); (try simp only [Res.put, Res.known, Act.eval, Value.cells, getD_lit, qGz, qGs, List.toList_toArray, qSz, qSs, over, Nat.reduceAdd] at hM); (try simp only [Act.put, qSa, qSz, qSs]))) | (first | (refine wp_seq_shut (fun K hK => ?_)) | (refine wp_text hM (fun Kr hKr => ?_); simp only [inText]) | ((refine hK.out _ _ ?_); clear hK K))))
        refine St.lookup rfl hM rfl rfl rfl rfl (by repeat constructor) key_int Tryz.underlying119 zero_node (keyOf_int_mk Tryz.underlying3 hfv) hl2 ?_
        (try simp only [Act.put, qSa, qSz, qSs])
        (repeat (first | ((with_reducible show wpSeq _ _ _ _ _ _ _); first | ((with_reducible refine wpSeq_nil ?_); refine hKr.out _ _ ?_; clear hKr Kr) | ((first | (refine St.copy (v := ?_) (by exact .inl rfl) rfl rfl ?_ ?_; rotate_left; (focus ((try simp only [Act.eval, getD_lit, qGz, qGs]); with_reducible rfl))) | (refine St.pure (v := ?_) rfl rfl rfl (fun w => ?_) ?_; rotate_left; (focus (go_simp; all_goals with_reducible rfl))) | refine St.load rfl hM rfl rfl rfl rfl (by repeat constructor) (by rfl) (by kernel_rfl) ?_ | ((((refine St.storeRow rfl hM rfl rfl rfl rfl rfl (by repeat constructor) (Nat.le_of_ble_eq_true rfl) (Nat.le_of_ble_eq_true rfl) (by kernel_rfl) rfl ?_ ?_); (focus ((intro h; cases h; done))); clear hM; intro w hM)); (try simp only [Res.put, Res.known, Act.eval, Value.cells, getD_lit, qGz, qGs, List.toList_toArray, qSz, qSs, over, Nat.reduceAdd] at hM))); (try simp only [Act.put, qSa, qSz, qSs])) | (((refine St.alloc (ty := 124) (z := .agg #[.int .i64 0, .bool false, .int .i64 0, .int .i64 0, .string ⟨#[]⟩, .slice none 0 0]) rfl hM rfl rfl (by kernel_rfl) ?_); clear hM; intro w bk hM); (try simp only [Res.put, Res.known, Act.eval, Value.cells, getD_lit, qGz, qGs, List.toList_toArray, qSz, qSs, over, Nat.reduceAdd] at hM); (try simp only [Act.put, qSa, qSz, qSs]))) | (first | (refine wp_seq_shut (fun K hK => ?_)) | (refine wp_text hM (fun Kr hKr => ?_); simp only [inText]) | ((refine hK.out _ _ ?_); clear hK K))))
        (refine St.call3 rfl rfl (by kernel_rfl) (fun R hR => ?_); simp only [List.map_toArray, List.map_cons, List.map_nil, Act.eval, getD_lit, qGz, qGs])
        refine (CJ'.out _).mono ?_
        rintro e w' ⟨rfl, rfl⟩; refine hR.out _ _ ?_; clear hR R; (try simp only [Act.put, qSa, qSz, qSs])
        (repeat (first | ((with_reducible show wpSeq _ _ _ _ _ _ _); first | ((with_reducible refine wpSeq_nil ?_); refine hKr.out _ _ ?_; clear hKr Kr) | ((first | (refine St.copy (v := ?_) (by first | exact .inl rfl | exact .inr rfl) rfl rfl ?_ ?_; rotate_left; (focus ((try simp only [Act.eval, getD_lit, qGz, qGs]); with_reducible rfl))) | (refine St.pure (v := ?_) rfl rfl rfl (fun w => ?_) ?_; rotate_left; (focus (go_simp; all_goals with_reducible rfl))) | refine St.load rfl hM rfl rfl rfl rfl (by repeat constructor) (by rfl) (by kernel_rfl) ?_ | (((((refine St.buildSlice (cells := ?_) (e := ?_) rfl hM rfl rfl (fun w => ?_) ?_; rotate_left 2; (focus (go_simp; all_goals with_reducible rfl)))); clear hM; intro w bk hM)); (try simp only [Res.put, Res.known, Act.eval, Value.cells, getD_lit, qGz, qGs, List.toList_toArray, qSz, qSs, over, Nat.reduceAdd] at hM))); (try simp only [Act.put, qSa, qSz, qSs]))) | (first | (refine wp_seq_shut (fun K hK => ?_)) | (refine wp_text hM (fun Kr hKr => ?_); simp only [inText]) | ((refine hK.out _ _ ?_); clear hK K))))
        refine St.append (s := s') (n := ys.length) (xs := ys.flatMap FileD.cells) rfl hM rfl rfl rfl rfl rfl (by kernel_rfl) (by intro s'; repeat (first | exact Swap.here | apply Swap.skip)) HOK'.out rfl (hM.news (by repeat constructor)) rfl (by rw [maxLen_val]; omega) (by omega) (fun h => by cases h) ?_
        clear hM; intro w s2 hM hk2 _
        have e1 : ys.flatMap FileD.cells ++ [.string J, .bool zd, .string zt] = (ys ++ [(⟨J, zd, zt⟩ : FileD)]).flatMap FileD.cells := by rw [List.flatMap_append, List.flatMap_singleton]; rfl
        have e2 : ys.length + 1 = (ys ++ [(⟨J, zd, zt⟩ : FileD)]).length := by simp
        simp only [Res.known] at hM hk2
        rw [e1] at hM hk2
        rw [e2] at hk2 ⊢
        have HK2 := Lib.hid hk2
        generalize ys ++ [(⟨J, zd, zt⟩ : FileD)] = ys2 at *
        obtain ⟨a2, c2, hv2, -⟩ := slV_open hk2
        rw [hv2]
        clear e1 e2 hk2
        (try simp only [Act.put, qSa, qSz, qSs])
        (repeat (first | ((with_reducible show wpSeq _ _ _ _ _ _ _); first | ((with_reducible refine wpSeq_nil ?_); refine hKr.out _ _ ?_; clear hKr Kr) | ((first | (refine St.copy (v := ?_) (by exact .inl rfl) rfl rfl ?_ ?_; rotate_left; (focus ((try simp only [Act.eval, getD_lit, qGz, qGs]); with_reducible rfl))) | (refine St.pure (v := ?_) rfl rfl rfl (fun w => ?_) ?_; rotate_left; (focus (go_simp; all_goals with_reducible rfl))) | refine St.load rfl hM rfl rfl rfl rfl (by repeat constructor) (by rfl) (by kernel_rfl) ?_ | ((((refine St.store rfl hM rfl rfl rfl rfl rfl (by repeat constructor) (Nat.le_of_ble_eq_true rfl) (by kernel_rfl) rfl ?_ ?_); (focus ((intro h; cases h; done))); clear hM; intro w hM)); (try simp only [Res.put, Res.known, Act.eval, Value.cells, getD_lit, qGz, qGs, List.toList_toArray, qSz, qSs, over, Nat.reduceAdd] at hM))); (try simp only [Act.put, qSa, qSz, qSs]))) | (first | (refine wp_text hM (fun Kr hKr => ?_); simp only [inText]) | ((refine hK.out _ _ ?_); clear hK K))))
        (refine St.callv rfl rfl rfl rfl (by kernel_rfl) (fun R hR => ?_); simp only [List.map_toArray, List.map_cons, List.map_nil, Act.eval, getD_lit, qGz, qGs, Array.append_empty, Array.empty_append])
        rw [← hv2] at hM
        have hU := hM.forget.forget.forget.perm (L' := undH u _ s2 ++ ((u.m, true, mapR Tryz.prog 3 (nodM zs)) :: (fileL s2 _ ++ E1))) (HP.out _ _ _).symm
        rw [HAB.out] at hU
        clear hM
        change St _ F w (undL u zs s2 ys2) at hU
        refine (CI.out s2 w HK2.out hU.whole).mono ?_
        rintro e w' ⟨rfl, s3, hk3, hN3⟩
        have hM := hU.backM Swap.all (undL_flag _ _ _ _) hN3 (undL_flag _ _ _ _)
        refine hR.out _ _ (fun _ => ⟨hM.only, nofun⟩) ?_
        clear hR R hU hN3 CI HK2 HOK'
        rw [HY2.out] at hM hk3
        have HK3 := Lib.hid hk3
        clear hk3
        unfold undL at hM
        rw [← HAB.out] at hM
        replace hM := hM.perm (HP.out _ _ _)
        unfold undH at hM
        simp only [List.cons_append, List.nil_append] at hM
        (try simp only [Act.put, qSa, qSz, qSs])
        (repeat (first | ((with_reducible show wpSeq _ _ _ _ _ _ _); first | ((with_reducible refine wpSeq_nil ?_); refine hKr.out _ _ ?_; clear hKr Kr) | ((first | (refine St.copy (v := ?_) (by exact .inl rfl) rfl rfl ?_ ?_; rotate_left; (focus ((try simp only [Act.eval, getD_lit, qGz, qGs]); with_reducible rfl))) | refine St.inc rfl rfl rfl rfl rfl (by omega) ?_); (try simp only [Act.put, qSa, qSz, qSs]))) | (first | (refine wp_text hM (fun Kr hKr => ?_); simp only [inText]) | ((refine hK.out _ _ ?_); clear hK K))))
        (refine ⟨?_, ?_⟩; (focus (repeat (first | exact ⟨⟨k + 1, s3, _, by omega, rfl, rfl, HK3.out, hM⟩, rfl⟩ | apply Exists.intro))); (simp only [getD_lit, qGz, qGs, intOf]; omega))
      · have k0 : ¬ ((k : Int) < (z.1.names.length : Int)) := by omega
        obtain rfl : k = z.1.names.length := by omega
        have hys := HYS.out
        rw [List.take_length] at hys
        subst hys
        clear hlt hk HYS
        (repeat (first | ((with_reducible show wpSeq _ _ _ _ _ _ _); first | ((with_reducible refine wpSeq_nil ?_); refine hKr.out _ _ ?_; clear hKr Kr) | (((refine St.pure (v := ?_) rfl rfl rfl (fun w => ?_) ?_; rotate_left; (focus (go_simp; all_goals with_reducible rfl)))); (try simp only [Act.put, qSa, qSz, qSs]))) | (first | (refine wp_seq_shut (fun K hK => ?_)) | (refine wp_text hM (fun Kr hKr => ?_); simp only [inText]) | (refine wp_cond_false rfl ?_) | (refine wp_exit ?_; simp only [Exit.then, Exit.inBlock, if_true, if_false, reduceCtorEq, Nat.reduceEqDiff, Nat.succ_ne_zero]) | ((refine hK.out _ _ ?_); clear hK K))))
        ((refine St.fin hM rfl (by repeat (exact Outs.nil)) rfl ?_))
        refine ⟨rfl, s', HOK'.out, ?_⟩
        have := hM.perm (L' := undH u _ s' ++ ((u.m, true, mapR Tryz.prog 3 (nodM zs)) :: (fileL s' _ ++ E1))) (HP.out _ _ _).symm
        rw [HAB.out] at this
        exact this
theorem join_size (d n : ByteArray) : (Pt.join d n).size ≤ d.size + n.size + 1 := by
  unfold Pt.join
  split
  · rw [ByteArray.size_append]; omega
  · rw [ByteArray.size_append, ByteArray.size_append]
    have : Pt.slash.size = 1 := rfl
    omega
theorem at_zs (hz : zs.map (·.1) = t.nodes) (I : In.Inv N t) {z : NodV} (h : z ∈ zs) : In.at_ t z.1.id = z.1 := In.at_some (In.find_asc I.asc (zs_mem hz h))
/-- All that lies below a directory. -/
theorem under_any (hz : zs.map (·.1) = t.nodes) (I : In.Inv N t) (hup : In.Up t) (hN : N ≤ 1000000000) (hks : ∀ z ∈ zs, SlOK z.2 z.1.names.length (entC z.1.names) 2) :
    ∀ (k : Nat) (z : NodV), z ∈ zs → (z.1.names = [] ∨ t.last + 1 ≤ z.1.id + k) → ∀ (dir : ByteArray), dir.size + 33 * k ≤ 4611686018427387904 → ∀ (xs : List FileD) (s : Option (Nat × Nat)) (W : World), xs.length + (Fs.under t k z.1.id dir).length ≤ 1000000000 → FileOK s xs → At (undL u zs s xs) W →
      Calls Tryz.prog 70 #[.int .i64 z.1.id, .string dir, .pointer (some ⟨u.t3, 0, none⟩), .pointer (some ⟨u.t6, 0, none⟩), .pointer (some ⟨u.t7, 0, none⟩)] W (UndGoes u zs s xs (Fs.under t k z.1.id dir) W)
  | 0, z, hzm, hl, dir, hd, xs, s, W, hB, hok, hA => by
    have h0 : z.1.names = [] := by
      rcases hl with h | h
      · exact h
      · have := (I.pos _ (zs_mem hz hzm)).2
        omega
    have := under_step hz I hN hks hzm (dir := dir) (by omega) (fun _ => []) (Bd := 1000000000) (Nat.le_refl _) (fun p hp => by rw [h0] at hp; cases hp) xs s (by rw [h0, List.flatMap_nil]; exact hB) hok hA
    rw [h0] at this
    exact this
  | k + 1, z, hzm, hl, dir, hd, xs, s, W, hB, hok, hA => by
    have e : Fs.under t (k + 1) z.1.id dir = z.1.names.flatMap fun p => fileOf t dir p :: Fs.under t k p.2 (Pt.join dir p.1) := by
      show ((In.at_ t z.1.id).names.flatMap fun p => fileOf t dir p :: Fs.under t k p.2 (Pt.join dir p.1)) = _
      rw [at_zs hz I hzm]
    rw [e] at hB ⊢
    refine under_step hz I hN hks hzm (by omega) (fun p => Fs.under t k p.2 (Pt.join dir p.1)) (Bd := 1000000000) (Nat.le_refl _) (fun p hp xs' s' W' hB' hok' hA' => ?_) xs s hB hok hA
    have hzi := zs_mem hz hzm
    have hns := I.short _ hzi _ hp
    obtain ⟨n2, hn2⟩ := I.leads _ hzi _ hp
    obtain ⟨hn2m, hn2i⟩ := In.find_some hn2
    obtain ⟨zc, hzc, hzce⟩ : ∃ zc ∈ zs, zc.1 = n2 := by
      rw [← hz] at hn2m
      obtain ⟨zc, h1, h2⟩ := List.mem_map.1 hn2m
      exact ⟨zc, h1, h2⟩
    have hidv : zc.1.id = p.2 := by rw [hzce]; exact hn2i
    have hj := join_size dir p.1
    have key := under_any hz I hup hN hks k zc hzc ?_ (Pt.join dir p.1) (by omega) xs' s' W' (by rw [hidv]; exact hB') hok' hA'
    · rw [hidv] at key
      exact key
    · cases hdr : zc.1.dir with
      | false => exact .inl (I.files _ (zs_mem hz hzc) hdr)
      | true =>
        refine .inr ?_
        have hlt := hup z.1.id z.1 p n2 (In.find_asc I.asc hzi) hp hn2 (by rw [← hzce]; exact hdr)
        rcases hl with h | h
        · rw [h] at hp; cases hp
        · omega
theorem put_nod (I : In.Inv N t) (hz : zs.map (·.1) = t.nodes) {k : Nat} {z : NodV} (h : zs[k]? = some z) : putL (.int .i64 z.1.id) (.agg z.cells.toArray) (nodM (zs.take k)) = nodM (zs.take (k + 1)) := by
  have hs : (zs.map fun z => z.1).Pairwise (fun a b => a.id < b.id) := by rw [hz]; exact I.asc
  have key : ∀ (l : List NodV), (∀ y ∈ l, y.1.id < z.1.id) → putL (.int .i64 z.1.id) (.agg z.cells.toArray) (nodM l) = nodM (l ++ [z]) := fun l hl => by
    have hdel : delL (.int .i64 z.1.id) (nodM l) = nodM l := by
      unfold delL
      rw [List.filter_eq_self]
      intro x hx
      obtain ⟨y, hy, rfl⟩ := List.mem_map.1 hx
      have := hl y hy
      show (!decide (IntKind.i64 = IntKind.i64 ∧ y.1.id = z.1.id)) = true
      have hne : y.1.id ≠ z.1.id := by omega
      simp [hne]
    unfold putL
    rw [hdel]
    clear hdel
    induction l with
    | nil => rfl
    | cons y r ih =>
      have h1 := hl y (.head _)
      have ih' := ih fun y' hy' => hl y' (.tail _ hy')
      unfold nodM at ih' ⊢
      rw [List.map_cons, List.cons_append, List.map_cons]
      unfold insL
      rw [if_neg (show ¬ (Lit.int .i64 z.1.id).before (.int .i64 y.1.id) = true by simp [Lit.before]; omega)]
      rw [ih']
  rw [key _ (fun y hy => ?_)]
  · rw [List.take_add_one, h]
    rfl
  · obtain ⟨i, hi, rfl⟩ := List.mem_take_iff_getElem.1 hy
    obtain ⟨hk, rfl⟩ := List.getElem?_eq_some_iff.1 h
    rw [List.pairwise_map] at hs
    exact List.pairwise_iff_getElem.1 hs i k (by omega) hk (by omega)
theorem row_at {k : Nat} {z : NodV} (h : zs[k]? = some z) : ((zs.flatMap NodV.cells).drop (k * 6)).take 6 = z.cells := by
  induction zs generalizing k with
  | nil => simp at h
  | cons p r ih =>
    cases k with
    | zero =>
      rw [List.getElem?_cons_zero] at h
      cases h
      rfl
    | succ k =>
      rw [List.getElem?_cons_succ] at h
      have := ih h
      rw [show (k + 1) * 6 = k * 6 + 6 by omega]
      exact this
theorem asc_len : ∀ (l : List NodeD) (lo hi : Int), In.asc l → (∀ n ∈ l, lo < n.id ∧ n.id ≤ hi) → lo ≤ hi → (l.length : Int) ≤ hi - lo
  | [], lo, hi, _, _, h => by simp; omega
  | y :: r, lo, hi, hs, hb, _ => by
    obtain ⟨h1, h2⟩ := List.pairwise_cons.1 hs
    have hy := hb y (.head _)
    have := asc_len r y.id hi h2 (fun n hn => ⟨h1 n hn, (hb n (.tail _ hn)).2⟩) (by omega)
    rw [List.length_cons]
    omega
theorem nodes_most (I : In.Inv N t) : t.nodes.length ≤ N := by
  have := asc_len t.nodes 0 t.last I.asc (fun n hn => by have := I.pos n hn; omega) (by have := I.last; omega)
  have := I.last
  omega
theorem names_most (I : In.Inv N t) {n : NodeD} (hn : n ∈ t.nodes) : n.names.length ≤ N := by
  have h1 := In.le_sum (f := fun n => n.names.length) hn
  have h2 := I.tot
  unfold In.tot at h2
  exact Nat.le_trans h1 h2
/-- It answers these files, in a slice of its own. -/
def SomeFiles (xs : List FileD) (w : World) (e : Ending) (w' : World) : Prop := ∃ s, e = .returned (slV s xs.length) ∧ FileOK s xs ∧ St w [] w' (fileL s xs)
end
section
variable {N : Nat} {x : FsX} {β : Int → Nat × Nat} {d : FsD} {w : World}
set_option maxHeartbeats 16000000 in
set_option maxRecDepth 100000 in
theorem fFiles_any {w0 : World} (h : FsAt N x β d w0) (hup : In.Up d.t) (hN : N ≤ 1000000) : Calls Tryz.prog 20 #[.pointer (some ⟨x.f, 0, none⟩)] w0 (SomeFiles (Fs.files d) w0) := by
  have hM := h.at_.ro
  unfold fsL at hM
  simp only [List.map_cons, unflag] at hM
  have HF := Lib.hid h
  have HFL := Lib.hid (Fs.files_len h.inv hup)
  have HUP := Lib.hid hup
  have HI := Lib.hid h.inv.tbl
  clear h hup
  generalize List.map unflag (tblL x.g x.mb β d.t) = E0 at *
  go_enter Tryz.func20, Tryz.ntmps20
  (repeat (first | ((with_reducible show wpSeq _ _ _ _ _ _ _); first | ((with_reducible refine wpSeq_nil ?_); refine hKr.out _ _ ?_; clear hKr Kr) | (((refine St.copy (v := ?_) (by first | exact .inl rfl | exact .inr rfl) rfl rfl ?_ ?_; rotate_left; (focus ((try simp only [Act.eval, getD_lit, qGz, qGs]); with_reducible rfl)))); (try simp only [Act.put, qSa, qSz, qSs]))) | (first | (refine wp_seq_shut (fun K hK => ?_)) | (refine wp_text hM (fun Kr hKr => ?_); simp only [inText]) | ((refine hK.out _ _ ?_); clear hK K))))
  (refine St.call3 rfl rfl (by kernel_rfl) (fun R hR => ?_); simp only [List.map_toArray, List.map_cons, List.map_nil, Act.eval, getD_lit, qGz, qGs])
  refine (fgiven_any (HF.out.below hM.to_below)).mono ?_
  rintro e w' ⟨rfl, rfl⟩; refine hR.out _ _ ?_; clear hR R; (try simp only [Act.put, qSa, qSz, qSs])
  (repeat (first | ((with_reducible show wpSeq _ _ _ _ _ _ _); first | ((with_reducible refine wpSeq_nil ?_); refine hKr.out _ _ ?_; clear hKr Kr) | (((refine St.pure (v := ?_) rfl rfl rfl (fun w => ?_) ?_; rotate_left; (focus (go_simp; all_goals with_reducible rfl)))); (try simp only [Act.put, qSa, qSz, qSs]))) | (first | (refine wp_seq_shut (fun K hK => ?_)) | (refine wp_text hM (fun Kr hKr => ?_); simp only [inText]) | refine wp_skip ?_ | (refine wp_cond_false rfl ?_) | ((refine hK.out _ _ ?_); clear hK K))))
  refine St.makeMap (kt := 3) rfl hM rfl rfl (fun w => ?_) ?_
  · go_simp
    simp [Instr.makeMap, newObj, Sem.run]
  clear hM; intro w b hM
  (try simp only [Act.put, qSa, qSz, qSs])
  (repeat (first | ((with_reducible show wpSeq _ _ _ _ _ _ _); first | ((with_reducible refine wpSeq_nil ?_); refine hKr.out _ _ ?_; clear hKr Kr) | ((first | (refine St.copy (v := ?_) (by exact .inl rfl) rfl rfl ?_ ?_; rotate_left; (focus ((try simp only [Act.eval, getD_lit, qGz, qGs]); with_reducible rfl))) | (refine St.pure (v := ?_) rfl rfl rfl (fun w => ?_) ?_; rotate_left; (focus (go_simp; all_goals with_reducible rfl))) | refine St.load rfl hM rfl rfl rfl rfl (by repeat constructor) (by rfl) (by kernel_rfl) ?_ | ((((refine St.store rfl hM rfl rfl rfl rfl rfl (by repeat constructor) (Nat.le_of_ble_eq_true rfl) (by kernel_rfl) rfl ?_ ?_); (focus ((intro h; cases h; done))); clear hM; intro w hM)); (try simp only [Res.put, Res.known, Act.eval, Value.cells, getD_lit, qGz, qGs, List.toList_toArray, qSz, qSs, over, Nat.reduceAdd] at hM))); (try simp only [Act.put, qSa, qSz, qSs])) | (((refine St.alloc (ty := 119) (z := .map none) rfl hM rfl rfl (by kernel_rfl) ?_); clear hM; intro w bk hM); (try simp only [Res.put, Res.known, Act.eval, Value.cells, getD_lit, qGz, qGs, List.toList_toArray, qSz, qSs, over, Nat.reduceAdd] at hM); (try simp only [Act.put, qSa, qSz, qSs]))) | (first | (refine wp_seq_shut (fun K hK => ?_)) | (refine wp_text hM (fun Kr hKr => ?_); simp only [inText]) | ((refine hK.out _ _ ?_); clear hK K))))
  (refine St.call3 rfl rfl (by kernel_rfl) (fun R hR => ?_); simp only [List.map_toArray, List.map_cons, List.map_nil, Act.eval, getD_lit, qGz, qGs])
  refine (Nodes9_any (HF.out.below hM.to_below).tbl (by have := HI.out.q0; omega) (fun n hn => fits_of (by have := HI.out.pos n hn; omega) (by have := HI.out.pos n hn; have := HI.out.last; omega)) (Nat.le_trans (nodes_most HI.out) hN) (fun n hn => Nat.le_trans (names_most HI.out hn) hN) (fun n hn => HI.out.sorted n hn)).mono ?_
  rintro e w' ⟨s0, zs, rfl, hz, hs0, hks, hN2⟩
  have HZ := Lib.hid hz
  have HKS := Lib.hid hks
  replace hM := hM.madeM hN2 (fun y hy => (List.mem_append.1 hy).elim (slL_flag _ _ _ _ y) (ents_flag zs y))
  refine hR.out _ _ ?_; clear hR R hN2
  obtain ⟨va, vc, hsv, hsa⟩ := slV_open hs0
  rw [hsv]
  have HS0 := Lib.hid hs0
  have hzl : zs.length ≤ 1000000 := by
    have h1 := nodes_most HI.out
    rw [← hz, List.length_map] at h1
    omega
  clear hz hks hs0 hsv
  replace hM := hM.perm (L' := slL s0 (zs.flatMap NodV.cells) 124 6 ++ ((bk, true, .cells [.map (some b)] 119) :: (b, true, mapR Tryz.prog 3 []) :: (zs.flatMap NodV.ents ++ ((x.f, false, .cells [.pointer (some ⟨x.g, 0, none⟩), .map (some x.hb)] 44) :: (x.hb, false, mapR Tryz.prog 3 (handL d.h)) :: E0)))) (perm_by (by intro _ x; simp only [List.append_eq, List.count_append, List.count_cons, List.count_nil, List.cons_append, List.nil_append]; omega))
  generalize (x.f, false, Res.cells [Value.pointer (some ⟨x.g, 0, none⟩), .map (some x.hb)] 44) :: (x.hb, false, mapR Tryz.prog 3 (handL d.h)) :: E0 = E1 at *
  generalize bk = t3b at *
  (try simp only [Act.put, qSa, qSz, qSs])
  (repeat (first | ((with_reducible show wpSeq _ _ _ _ _ _ _); first | ((with_reducible refine wpSeq_nil ?_); refine hKr.out _ _ ?_; clear hKr Kr) | ((first | (refine St.copy (v := ?_) (by exact .inl rfl) rfl rfl ?_ ?_; rotate_left; (focus ((try simp only [Act.eval, getD_lit, qGz, qGs]); with_reducible rfl))) | (refine St.pure (v := ?_) rfl rfl rfl (fun w => ?_) ?_; rotate_left; (focus (go_simp; all_goals with_reducible rfl)))); (try simp only [Act.put, qSa, qSz, qSs]))) | (first | refine wp_block ?_ | ((refine hK.out _ _ ?_); clear hK K))))
  go_loopw [18] (fun i wr => ∃ k : Nat, k ≤ zs.length ∧ i = .int .i64 k ∧ St w0 [] wr (slL s0 (zs.flatMap NodV.cells) 124 6 ++ ((t3b, true, .cells [.map (some b)] 119) :: (b, true, mapR Tryz.prog 3 (nodM (zs.take k))) :: (zs.flatMap NodV.ents ++ E1)))) (fun i _ => zs.length - (intOf i).toNat)
  case atStart => exact ⟨0, by omega, rfl, by rw [List.take_zero]; exact hM⟩
  case round =>
    clear hM
    obtain ⟨k, hk, rfl, hM⟩ := hrel
    by_cases hlt : k < zs.length
    · obtain ⟨z, hzk⟩ := get_at hlt
      cases s0 with
      | none => exact absurd HS0.out.2 (by omega)
      | some gc =>
      obtain ⟨g0, cap0⟩ := gc
      obtain ⟨rfl, rfl⟩ := hsa g0 cap0 rfl
      have hzm := List.mem_of_getElem? hzk
      have hrow := row_at hzk
      have hput := put_nod HI.out HZ.out hzk
      have hfv : Fits z.1.id := by
        have := HI.out.pos _ (zs_mem HZ.out hzm)
        have := HI.out.last
        exact fits_of (by omega) (by omega)
      obtain ⟨ca, cc, hcv, -⟩ := slV_open (HKS.out z hzm)
      have hcells : z.cells = [.int .i64 z.1.id, .bool z.1.dir, .int .i64 z.1.links, .int .i64 z.1.holds, .string z.1.data, .slice ca z.1.names.length cc] := by
        unfold NodV.cells
        rw [hcv]
      rw [hcells] at hrow hput
      have hlen : k * 6 + 6 ≤ (zs.flatMap NodV.cells).length := by
        have := HS0.out.1
        omega
      have k1 : (k : Int) < (zs.length : Int) := by omega
      have hml : (nodM (zs.take k)).length < maxLen := by
        unfold nodM
        rw [List.length_map, List.length_take, maxLen_val]
        omega
      clear hzk hzm hcv hlt hcells
      simp only [slL, List.cons_append, List.nil_append] at hM
      (repeat (first | ((with_reducible show wpSeq _ _ _ _ _ _ _); first | ((with_reducible refine wpSeq_nil ?_); refine hKr.out _ _ ?_; clear hKr Kr) | (((refine St.pure (v := ?_) rfl rfl rfl (fun w => ?_) ?_; rotate_left; (focus (go_simp; all_goals with_reducible rfl)))); (try simp only [Act.put, qSa, qSz, qSs]))) | (first | (refine wp_seq_shut (fun K hK => ?_)) | (refine wp_text hM (fun Kr hKr => ?_); simp only [inText]) | refine wp_block ?_ | refine wp_skip ?_ | (refine wp_cond_true rfl ?_) | ((refine hK.out _ _ ?_); clear hK K))))
      refine St.loadRow rfl hM rfl rfl rfl rfl (by repeat constructor) (by exact hlen) (by kernel_rfl) ?_
      simp only [Res.known]
      rw [hrow]
      (try simp only [Act.put, qSa, qSz, qSs])
      (repeat (first | ((with_reducible show wpSeq _ _ _ _ _ _ _); first | ((with_reducible refine wpSeq_nil ?_); refine hKr.out _ _ ?_; clear hKr Kr) | ((first | (refine St.pure (v := ?_) rfl rfl rfl (fun w => ?_) ?_; rotate_left; (focus (go_simp; all_goals with_reducible rfl))) | refine St.load rfl hM rfl rfl rfl rfl (by repeat constructor) (by rfl) (by kernel_rfl) ?_ | ((refine St.loadRow rfl hM rfl rfl rfl rfl (by repeat constructor) (Nat.le_of_ble_eq_true rfl) (by kernel_rfl) ?_); (try simp only [Res.known, List.drop_succ_cons, List.drop_zero, List.take_succ_cons, List.take_zero])) | ((((refine St.storeRow rfl hM rfl rfl rfl rfl rfl (by repeat constructor) (Nat.le_of_ble_eq_true rfl) (Nat.le_of_ble_eq_true rfl) (by kernel_rfl) rfl ?_ ?_); (focus ((intro h; cases h; done))); clear hM; intro w hM)); (try simp only [Res.put, Res.known, Act.eval, Value.cells, getD_lit, qGz, qGs, List.toList_toArray, qSz, qSs, over, Nat.reduceAdd] at hM))); (try simp only [Act.put, qSa, qSz, qSs])) | (((refine St.alloc (ty := 124) (z := .agg #[.int .i64 0, .bool false, .int .i64 0, .int .i64 0, .string ⟨#[]⟩, .slice none 0 0]) rfl hM rfl rfl (by kernel_rfl) ?_); clear hM; intro w bk hM); (try simp only [Res.put, Res.known, Act.eval, Value.cells, getD_lit, qGz, qGs, List.toList_toArray, qSz, qSs, over, Nat.reduceAdd] at hM); (try simp only [Act.put, qSa, qSz, qSs]))) | (first | (refine wp_text hM (fun Kr hKr => ?_); simp only [inText]) | ((refine hK.out _ _ ?_); clear hK K))))
      refine St.mapUpdate (kl := .int .i64 z.1.id) (key := .int .i64 z.1.id) (val := .agg #[.int .i64 z.1.id, .bool z.1.dir, .int .i64 z.1.links, .int .i64 z.1.holds, .string z.1.data, .slice ca z.1.names.length cc]) (m' := nodM (zs.take (k + 1))) rfl hM rfl rfl rfl rfl rfl (by repeat constructor) hput key_int Tryz.underlying119 hml (keyOf_int_mk Tryz.underlying3 hfv) (fun h => by cases h) ?_
      clear hM; intro w hM
      (try simp only [Act.put, qSa, qSz, qSs])
      (repeat (first | ((with_reducible show wpSeq _ _ _ _ _ _ _); first | ((with_reducible refine wpSeq_nil ?_); refine hKr.out _ _ ?_; clear hKr Kr) | ((first | (refine St.copy (v := ?_) (by exact .inl rfl) rfl rfl ?_ ?_; rotate_left; (focus ((try simp only [Act.eval, getD_lit, qGz, qGs]); with_reducible rfl))) | refine St.inc rfl rfl rfl rfl rfl (by omega) ?_); (try simp only [Act.put, qSa, qSz, qSs]))) | (first | (refine wp_text hM (fun Kr hKr => ?_); simp only [inText]) | ((refine hK.out _ _ ?_); clear hK K))))
      replace hM := hM.forget
      (refine ⟨?_, ?_⟩; (focus (repeat (first | exact ⟨⟨k + 1, by omega, rfl, hM⟩, rfl⟩ | apply Exists.intro))); (simp only [getD_lit, qGz, qGs, intOf]; omega))
    · have k0 : ¬ ((k : Int) < (zs.length : Int)) := by omega
      obtain rfl : k = zs.length := by omega
      rw [List.take_length] at hM
      clear hlt hk
      (repeat (first | ((with_reducible show wpSeq _ _ _ _ _ _ _); first | ((with_reducible refine wpSeq_nil ?_); refine hKr.out _ _ ?_; clear hKr Kr) | ((first | (refine St.pure (v := ?_) rfl rfl rfl (fun w => ?_) ?_; rotate_left; (focus (go_simp; all_goals with_reducible rfl))) | refine St.load rfl hM rfl rfl rfl rfl (by repeat constructor) (by rfl) (by kernel_rfl) ?_ | ((((refine St.store rfl hM rfl rfl rfl rfl rfl (by repeat constructor) (Nat.le_of_ble_eq_true rfl) (by kernel_rfl) rfl ?_ ?_); (focus ((intro h; cases h; done))); clear hM; intro w hM)); (try simp only [Res.put, Res.known, Act.eval, Value.cells, getD_lit, qGz, qGs, List.toList_toArray, qSz, qSs, over, Nat.reduceAdd] at hM))); (try simp only [Act.put, qSa, qSz, qSs])) | (((first | refine St.alloc (ty := 47) (z := .slice none 0 0) rfl hM rfl rfl (by kernel_rfl) ?_ | refine St.alloc (ty := 125) (z := .nilFunc) rfl hM rfl rfl (by kernel_rfl) ?_); clear hM; intro w bk hM); (try simp only [Res.put, Res.known, Act.eval, Value.cells, getD_lit, qGz, qGs, List.toList_toArray, qSz, qSs, over, Nat.reduceAdd] at hM); (try simp only [Act.put, qSa, qSz, qSs]))) | (first | (refine wp_seq_shut (fun K hK => ?_)) | (refine wp_text hM (fun Kr hKr => ?_); simp only [inText]) | (refine wp_cond_false rfl ?_) | (refine wp_exit ?_; simp only [Exit.then, Exit.inBlock, if_true, if_false, reduceCtorEq, Nat.reduceEqDiff, Nat.succ_ne_zero]) | ((first | refine hK.out _ _ ?_ | (clear hK K; refine hK.out _ _ ?_)); clear hK K))))
      rename_i t6b wx
      generalize bk = t7b at *
      (refine St.callv rfl rfl rfl rfl (by kernel_rfl) (fun R hR => ?_); simp only [List.map_toArray, List.map_cons, List.map_nil, Act.eval, getD_lit, qGz, qGs, Array.append_empty, Array.empty_append])
      replace hM := hM.perm (L' := ((t7b, true, .cells [.func (.func 70) #[] #[.pointer (some ⟨t3b, 0, none⟩), .pointer (some ⟨t6b, 0, none⟩), .pointer (some ⟨t7b, 0, none⟩)]] 125) :: (t6b, true, .cells [.slice none 0 0] 47) :: (t3b, true, .cells [.map (some b)] 119) :: (b, true, mapR Tryz.prog 3 (nodM zs)) :: zs.flatMap NodV.ents) ++ (slL s0 (zs.flatMap NodV.cells) 124 6 ++ E1)) (perm_by (by intro _ x; simp only [List.append_eq, List.count_append, List.count_cons, List.count_nil, List.cons_append, List.nil_append]; omega))
      obtain ⟨r, hr, hrd⟩ := HI.out.root
      obtain ⟨hrm, hri⟩ := In.find_some hr
      obtain ⟨z, hzm, hze⟩ : ∃ z ∈ zs, z.1 = r := by
        rw [← HZ.out] at hrm
        obtain ⟨z, h1, h2⟩ := List.mem_map.1 hrm
        exact ⟨z, h1, h2⟩
      have hz1 : z.1.id = 1 := by rw [hze]; exact hri
      have CU := Lib.hid (under_any (u := ⟨t3b, t6b, t7b, b⟩) HZ.out HI.out HUP.out (Nat.le_trans hN (by decide)) HKS.out d.t.last.toNat z hzm (.inr (by have := HI.out.last; omega)) ⟨#[]⟩ (by
        have := HI.out.last
        have e : (⟨#[]⟩ : ByteArray).size = 0 := rfl
        omega) [] none w (by
        rw [hz1]
        have := HFL.out
        unfold Fs.files at this
        rw [List.length_nil]
        omega) ⟨rfl, rfl⟩ (hM.part Part.here))
      have e1 : Fs.under d.t d.t.last.toNat z.1.id ⟨#[]⟩ = Fs.files d := by rw [hz1]; rfl
      rw [hz1] at CU
      refine CU.out.mono ?_
      rintro e w' ⟨rfl, s3, hk3, hN3⟩
      rw [← hz1, e1, List.nil_append] at hk3 hN3
      have hM := hM.backM Swap.here (undL_flag ⟨t3b, t6b, t7b, b⟩ zs none []) hN3 (undL_flag _ _ _ _)
      refine hR.out _ _ (fun _ => ⟨hM.only, nofun⟩) ?_
      clear hR R hN3 CU
      obtain ⟨a3, c3, hv3, -⟩ := slV_open hk3
      have HK3 := Lib.hid hk3
      clear hk3
      unfold undL undH at hM
      rw [hv3] at hM
      simp only [List.cons_append, List.nil_append] at hM
      (try simp only [Act.put, qSa, qSz, qSs])
      (repeat (first | ((with_reducible show wpSeq _ _ _ _ _ _ _); first | ((with_reducible refine wpSeq_nil ?_); refine hKr.out _ _ ?_; clear hKr Kr) | ((first | (refine St.copy (v := ?_) (by exact .inr rfl) rfl rfl ?_ ?_; rotate_left; (focus ((try simp only [Act.eval, getD_lit, qGz, qGs]); with_reducible rfl))) | refine St.load rfl hM rfl rfl rfl rfl (by repeat constructor) (by rfl) (by kernel_rfl) ?_); (try simp only [Act.put, qSa, qSz, qSs]))) | (first | (refine wp_seq_shut (fun K hK => ?_)) | (refine wp_text hM (fun Kr hKr => ?_); simp only [inText]) | ((refine hK.out _ _ ?_); clear hK K))))
      rw [← hv3] at hM
      ((refine wp_ret ?_; (try simp only [Exit.then, Exit.inBlock]); refine St.ret hM rfl (by repeat (first | exact Outs.nil | apply Outs.tmp rfl)) rfl ?_))
      refine ⟨s3, by rw [← hv3]; rfl, HK3.out, St.front (M := fileL s3 (Fs.files d)) (R := (t7b, true, .cells [.func (.func 70) #[] #[.pointer (some ⟨t3b, 0, none⟩), .pointer (some ⟨t6b, 0, none⟩), .pointer (some ⟨t7b, 0, none⟩)]] 125) :: (t6b, true, .cells [slV s3 (Fs.files d).length] 47) :: (t3b, true, .cells [.map (some b)] 119) :: (b, true, mapR Tryz.prog 3 (nodM zs)) :: (zs.flatMap NodV.ents ++ (slL s0 (zs.flatMap NodV.cells) 124 6 ++ E1))) (hM.perm (perm_by (by intro _ x; simp only [List.append_eq, List.count_append, List.count_cons, List.count_nil, List.cons_append, List.nil_append]; omega)))⟩
end
end Go.Proofs.YtcicjklhbnipcaaGreatDoor
namespace Go.Proofs.YtcicjklhbnipcaaGreatDoor
set_option linter.unusedVariables false
set_option linter.unusedSimpArgs false
open Go.RowKit Go.Maps
/-- What is logged, and where its variables lie. -/
abbrev LogV := LogD × (Nat × Nat)
def LogV.val (z : LogV) : Value := match z.1.2 with
  | some _ => .func (.func 83) #[] #[.pointer (some ⟨z.2.1, 0, none⟩), .pointer (some ⟨z.2.2, 0, none⟩)]
  | none => .func (.func 90) #[] #[.pointer (some ⟨z.2.1, 0, none⟩)]
def LogV.ents (z : LogV) : List Ent := match z.1.2 with
  | some p => [(z.2.1, true, .cells [.int .i64 z.1.1] 3), (z.2.2, true, .cells p.cells 34)]
  | none => [(z.2.1, true, .cells [.int .i64 z.1.1] 3)]
theorem logE_flag (zs : List LogV) : flagged (zs.flatMap LogV.ents) := fun x hx => by
  obtain ⟨z, -, hx⟩ := List.mem_flatMap.1 hx
  unfold LogV.ents at hx
  split at hx
  · simp only [List.mem_cons, List.not_mem_nil, or_false] at hx
    rcases hx with rfl | rfl <;> rfl
  · simp only [List.mem_cons, List.not_mem_nil, or_false] at hx
    subst hx
    rfl
/-- Where a disk lies. -/
structure DskX where
  b : Nat
  now : FsX
  sure : FsX
  s : Option (Nat × Nat)
  zs : List LogV
def dskE (b f g : Nat) (s : Option (Nat × Nat)) (n : Nat) : Ent := (b, true, .cells [.pointer (some ⟨f, 0, none⟩), .pointer (some ⟨g, 0, none⟩), slV s n] 81)
abbrev logL (s : Option (Nat × Nat)) (vs : List Value) : List Ent := slL s vs 138 1
def dskL (X : DskX) (β γ : Int → Nat × Nat) (D : DskD) : List Ent := dskE X.b X.now.f X.sure.f X.s X.zs.length :: (fsL X.now β D.now ++ (logL X.s (X.zs.map LogV.val) ++ (fsL X.sure γ D.base ++ X.zs.flatMap LogV.ents)))
structure DskOk (X : DskX) (D : DskD) : Prop where
  log : X.zs.map (·.1) = D.log
  sl : SlOK X.s X.zs.length (X.zs.map LogV.val) 1
theorem dskL_flag (X : DskX) (β γ : Int → Nat × Nat) (D : DskD) : flagged (dskL X β γ D) := fun y hy => by
  unfold dskL at hy
  rcases List.mem_cons.1 hy with rfl | hy
  · rfl
  rcases List.mem_append.1 hy with hy | hy
  · exact fsL_flag _ _ _ y hy
  rcases List.mem_append.1 hy with hy | hy
  · exact slL_flag _ _ _ _ y hy
  rcases List.mem_append.1 hy with hy | hy
  · exact fsL_flag _ _ _ y hy
  · exact logE_flag _ y hy
/-- A disk that is right stands here. -/
structure DskAt (N : Nat) (X : DskX) (β γ : Int → Nat × Nat) (D : DskD) (w : World) : Prop where
  at_ : At (dskL X β γ D) w
  ok : DskOk X D
  inv : Ol.Inv N D
  mx : Mx w
  zero : 0 ∉ keysOf (dskL X β γ D)
/-- Since 'w' the disk has become this one. -/
def DGoes (w : World) (X : DskX) (β γ : Int → Nat × Nat) (D : DskD) (w' : World) (D' : DskD) : Prop := ∃ X' β' γ', DskX.b X' = X.b ∧ DskOk X' D' ∧ St w (keysOf (dskL X β γ D)) w' (dskL X' β' γ' D')
section
variable {N : Nat} {X : DskX} {x y : FsX} {β γ : Int → Nat × Nat} {D : DskD} {d : FsD} {w w' w0 : World} {F : List Nat} {L L' M M' : List Ent} {b f g n : Nat} {s : Option (Nat × Nat)}
theorem At.sub (h : At L w) (hs : M.Sublist L) : At M w := ⟨fun x hx => h.has x (hs.subset hx), (hs.map _).nodup h.nd⟩
theorem keys_sub {M L : List Ent} (hs : M.Sublist L) {k : Nat} (h : k ∉ keysOf L) : k ∉ keysOf M := fun hm => h ((hs.map _).subset hm)
theorem DskAt.below (h : DskAt N X β γ D w) (hb : Below w.heap.size w w') : DskAt N X β γ D w' := ⟨h.at_.below hb, h.ok, h.inv, h.mx.below hb, h.zero⟩
theorem now_sub : (fsL X.now β D.now).Sublist (dskL X β γ D) := by
  unfold dskL
  exact ((List.sublist_append_left _ _)).cons _
theorem DskAt.now (h : DskAt N X β γ D w) : FsAt N X.now β D.now w := ⟨h.at_.sub now_sub, h.inv.now.inv, h.mx, keys_sub now_sub h.zero⟩
theorem DskAt.row (h : DskAt N X β γ D w) : (dskE X.b X.now.f X.sure.f X.s X.zs.length).2.2.holds w.heap[X.b]? := h.at_.has (dskE X.b X.now.f X.sure.f X.s X.zs.length) (by unfold dskL; exact .head _)
/-- The disk that a state holds. -/
theorem St.dsk (hM : St w0 F w L) (hs : Part L (dskL X β γ D)) (hk : DskOk X D) (hI : Ol.Inv N D) (hm : Mx w0) (h0 : 0 ∉ F) : DskAt N X β γ D w := by
  refine ⟨hM.part hs, hk, hI, hM.mx hm h0, fun h => ?_⟩
  obtain ⟨y, hy, e⟩ := List.mem_map.1 h
  obtain ⟨A, B, rfl⟩ := hs.split
  rcases hM.own y (by simp [hy]) (dskL_flag X β γ D y hy) with h1 | h1
  · rw [e] at h1; exact h0 h1
  · have := hm.pos
    omega
/-- One block that is read. -/
theorem St.one {r : Res} (h : r.holds w.heap[b]?) : St w [] w [(b, false, r)] := (St.start w []).learn h nofun nofun
set_option maxHeartbeats 4000000 in
set_option maxRecDepth 100000 in
theorem dgiven_any (h : (dskE b f g s n).2.2.holds w.heap[b]?) : Calls Tryz.prog 76 #[.pointer (some ⟨b, 0, none⟩)] w fun e w' => e = .returned (.bool true) ∧ w = w' := by
  have hM := St.one h
  clear h
  unfold dskE at hM
  go_enter Tryz.func76, Tryz.ntmps76
  (repeat (first | ((with_reducible show wpSeq _ _ _ _ _ _ _); first | ((with_reducible refine wpSeq_nil ?_); refine hKr.out _ _ ?_; clear hKr Kr) | ((first | (refine St.copy (v := ?_) (by first | exact .inl rfl | exact .inr rfl) rfl rfl ?_ ?_; rotate_left; (focus ((try simp only [Act.eval, getD_lit, qGz, qGs]); with_reducible rfl))) | (refine St.pure (v := ?_) rfl rfl rfl (fun w => ?_) ?_; rotate_left; (focus (go_simp; all_goals with_reducible rfl))) | refine St.load rfl hM rfl rfl rfl rfl (by repeat constructor) (by rfl) (by kernel_rfl) ?_); (try simp only [Act.put, qSa, qSz, qSs]))) | (first | (refine wp_seq_shut (fun K hK => ?_)) | (refine wp_text hM (fun Kr hKr => ?_); simp only [inText]) | ((refine hK.out _ _ ?_); clear hK K))))
  (refine wp_ret ?_; (try simp only [Exit.then, Exit.inBlock]); refine St.ret hM rfl (by repeat (first | exact Outs.nil | apply Outs.tmp rfl)) rfl ?_)
  exact ⟨rfl, rfl⟩
set_option maxHeartbeats 4000000 in
set_option maxRecDepth 100000 in
theorem dLogged_any (h : (dskE b f g s n).2.2.holds w.heap[b]?) {xs : List Value} (hk : SlOK s n xs 1) : Calls Tryz.prog 31 #[.pointer (some ⟨b, 0, none⟩)] w fun e w' => e = .returned (.int .i64 n) ∧ Below w.heap.size w w' := by
  have hM := St.one h
  clear h
  unfold dskE at hM
  obtain ⟨va, vc, hv, -⟩ := slV_open hk
  rw [hv] at hM
  go_enter Tryz.func31, Tryz.ntmps31
  (repeat (first | ((with_reducible show wpSeq _ _ _ _ _ _ _); first | ((with_reducible refine wpSeq_nil ?_); refine hKr.out _ _ ?_; clear hKr Kr) | ((first | (refine St.copy (v := ?_) (by first | exact .inl rfl | exact .inr rfl) rfl rfl ?_ ?_; rotate_left; (focus ((try simp only [Act.eval, getD_lit, qGz, qGs]); with_reducible rfl))) | (refine St.pure (v := ?_) rfl rfl rfl (fun w => ?_) ?_; rotate_left; (focus (go_simp; all_goals with_reducible rfl))) | refine St.load rfl hM rfl rfl rfl rfl (by repeat constructor) (by rfl) (by kernel_rfl) ?_); (try simp only [Act.put, qSa, qSz, qSs]))) | (first | (refine wp_seq_shut (fun K hK => ?_)) | (refine wp_text hM (fun Kr hKr => ?_); simp only [inText]) | refine wp_skip ?_ | (refine wp_cond_false rfl ?_) | ((refine hK.out _ _ ?_); clear hK K))))
  (refine wp_ret ?_; (try simp only [Exit.then, Exit.inBlock]); refine St.ret hM rfl (by repeat (first | exact Outs.nil | apply Outs.tmp rfl)) rfl ?_)
  exact ⟨rfl, hM.to_below⟩
set_option maxHeartbeats 4000000 in
set_option maxRecDepth 100000 in
theorem dOwners_any (h : (dskE b x.f g s n).2.2.holds w.heap[b]?) (hA : FsAt N x β d w) (hN : N ≤ 1000000000) : Calls Tryz.prog 33 #[.pointer (some ⟨b, 0, none⟩)] w (SomeInts (Fs.owners d) w) := by
  have hM := St.one h
  have HW := Lib.hid h
  unfold dskE at hM
  go_enter Tryz.func33, Tryz.ntmps33
  (repeat (first | ((with_reducible show wpSeq _ _ _ _ _ _ _); first | ((with_reducible refine wpSeq_nil ?_); refine hKr.out _ _ ?_; clear hKr Kr) | (((refine St.copy (v := ?_) (by first | exact .inl rfl | exact .inr rfl) rfl rfl ?_ ?_; rotate_left; (focus ((try simp only [Act.eval, getD_lit, qGz, qGs]); with_reducible rfl)))); (try simp only [Act.put, qSa, qSz, qSs]))) | (first | (refine wp_seq_shut (fun K hK => ?_)) | (refine wp_text hM (fun Kr hKr => ?_); simp only [inText]) | ((refine hK.out _ _ ?_); clear hK K))))
  ((refine St.call rfl rfl rfl (by kernel_rfl) (fun R hR => ?_); simp only [List.map_toArray, List.map_cons, List.map_nil, Act.eval, getD_lit, qGz, qGs]))
  refine (dgiven_any (hM.only.holds HW.out)).mono ?_
  rintro e w' ⟨rfl, rfl⟩; refine hR.out _ _ (fun h => h) ?_; clear hR R; (try simp only [Act.put, qSa, qSz, qSs])
  (repeat (first | ((with_reducible show wpSeq _ _ _ _ _ _ _); first | ((with_reducible refine wpSeq_nil ?_); refine hKr.out _ _ ?_; clear hKr Kr) | ((first | (refine St.copy (v := ?_) (by exact .inl rfl) rfl rfl ?_ ?_; rotate_left; (focus ((try simp only [Act.eval, getD_lit, qGz, qGs]); with_reducible rfl))) | (refine St.pure (v := ?_) rfl rfl rfl (fun w => ?_) ?_; rotate_left; (focus (go_simp; all_goals with_reducible rfl))) | refine St.load rfl hM rfl rfl rfl rfl (by repeat constructor) (by rfl) (by kernel_rfl) ?_); (try simp only [Act.put, qSa, qSz, qSs]))) | (first | (refine wp_seq_shut (fun K hK => ?_)) | (refine wp_text hM (fun Kr hKr => ?_); simp only [inText]) | refine wp_skip ?_ | (refine wp_cond_false rfl ?_) | ((refine hK.out _ _ ?_); clear hK K))))
  ((refine St.call rfl rfl rfl (by kernel_rfl) (fun R hR => ?_); simp only [List.map_toArray, List.map_cons, List.map_nil, Act.eval, getD_lit, qGz, qGs]))
  refine (fOwners_any (hA.below hM.to_below) hN).mono ?_
  rintro e w' ⟨s1, rfl, hk, hN2⟩
  replace hM := hM.madeM hN2 (slL_flag _ _ _ _)
  refine hR.out _ _ (fun h => ⟨hM.only, nofun⟩) ?_; clear hR R hN2; (try simp only [Act.put, qSa, qSz, qSs])
  (repeat (first | ((with_reducible show wpSeq _ _ _ _ _ _ _); first | ((with_reducible refine wpSeq_nil ?_); refine hKr.out _ _ ?_; clear hKr Kr) | (((refine St.copy (v := ?_) (by exact .inr rfl) rfl rfl ?_ ?_; rotate_left; (focus ((try simp only [Act.eval, getD_lit, qGz, qGs]); with_reducible rfl)))); (try simp only [Act.put, qSa, qSz, qSs]))) | (((refine hK.out _ _ ?_); clear hK K))))
  ((refine wp_ret ?_; (try simp only [Exit.then, Exit.inBlock]); refine St.ret hM rfl (by repeat (first | exact Outs.nil | apply Outs.tmp rfl)) rfl ?_))
  exact ⟨s1, rfl, hk, St.front hM⟩
set_option maxHeartbeats 4000000 in
set_option maxRecDepth 100000 in
/-- What is now is what is sure. -/
theorem syncs_any (hA : FsAt N x β d w) (hN : N ≤ 1000000000) (h : At (dskE b x.f g s n :: fsL x β d) w) : Calls Tryz.prog 80 #[.pointer (some ⟨b, 0, none⟩)] w fun e w' => e = .returned (.tuple #[]) ∧ ∃ x' γ', St w [b] w' (dskE b x.f (FsX.f x') none 0 :: fsL x' γ' d) := by
  have hM : St w [b] w [dskE b x.f g s n] := (h.sub (M := [dskE b x.f g s n]) (by simp)).st
  have hap : ∀ k ∈ keysOf (fsL x β d), k ∉ [b] := fun k hk hm => by
    have := h.nd
    unfold keysOf at this hk
    rw [List.map_cons, List.nodup_cons] at this
    rcases List.mem_singleton.1 hm with rfl
    exact this.1 hk
  have HF := Lib.hid hA
  clear h hA
  unfold dskE at hM
  go_enter Tryz.func80, Tryz.ntmps80
  (repeat (first | ((with_reducible show wpSeq _ _ _ _ _ _ _); ((first | (refine St.copy (v := ?_) (by exact .inl rfl) rfl rfl ?_ ?_; rotate_left; (focus ((try simp only [Act.eval, getD_lit, qGz, qGs]); with_reducible rfl))) | (refine St.pure (v := ?_) rfl rfl rfl (fun w => ?_) ?_; rotate_left; (focus (go_simp; all_goals with_reducible rfl))) | refine St.load rfl hM rfl rfl rfl rfl (by repeat constructor) (by rfl) (by kernel_rfl) ?_); (try simp only [Act.put, qSa, qSz, qSs]))) | ((refine wp_text hM (fun Kr hKr => ?_); simp only [inText]))))
  ((refine St.call rfl rfl rfl (by kernel_rfl) (fun R hR => ?_); simp only [List.map_toArray, List.map_cons, List.map_nil, Act.eval, getD_lit, qGz, qGs]))
  refine (fClone_any HF.out hN).mono ?_
  rintro e w' ⟨x', γ', rfl, hN2⟩
  replace hM := hM.madeM hN2 (fsL_flag _ _ _)
  refine hR.out _ _ (fun h => h.below hN2.to_below) ?_; clear hR R hN2
  replace hM := hM.perm (L' := _ :: fsL x' γ' d) (List.perm_append_comm)
  (try simp only [Act.put, qSa, qSz, qSs])
  (repeat (((with_reducible show wpSeq _ _ _ _ _ _ _); first | ((with_reducible refine wpSeq_nil ?_); refine hKr.out _ _ ?_; clear hKr Kr) | ((first | (refine St.pure (v := ?_) rfl rfl rfl (fun w => ?_) ?_; rotate_left; (focus (go_simp; all_goals with_reducible rfl))) | ((((refine St.store rfl hM rfl rfl rfl rfl rfl (by repeat constructor) (Nat.le_of_ble_eq_true rfl) (by kernel_rfl) rfl ?_ ?_); (focus ((intro h; cases h; done))); clear hM; intro w hM)); (try simp only [Res.put, Res.known, Act.eval, Value.cells, getD_lit, qGz, qGs, List.toList_toArray, qSz, qSs, over, Nat.reduceAdd] at hM))); (try simp only [Act.put, qSa, qSz, qSs])))))
  ((refine St.fin hM rfl (by repeat (exact Outs.nil)) rfl ?_))
  exact ⟨rfl, x', γ', hM⟩
set_option maxHeartbeats 4000000 in
set_option maxRecDepth 100000 in
/-- Something is logged. -/
theorem logs_any {vs : List Value} {fid : FuncId} {caps : Array Value} (hk : SlOK s n vs 1) (hn : n ≤ 1000000000) (h : At (dskE b f g s n :: logL s vs) w) : Calls Tryz.prog 82 #[.pointer (some ⟨b, 0, none⟩), .func (.func fid) #[] caps] w fun e w' => e = .returned (.tuple #[]) ∧ ∃ s', SlOK s' (n + 1) (vs ++ [.func (.func fid) #[] caps]) 1 ∧ St w (keysOf (dskE b f g s n :: logL s vs)) w' (dskE b f g s' (n + 1) :: logL s' (vs ++ [.func (.func fid) #[] caps])) := by
  have hM := h.st
  obtain ⟨F, hF⟩ : ∃ F, keysOf (dskE b f g s n :: logL s vs) = F := ⟨_, rfl⟩
  rw [hF] at hM ⊢
  have HK := Lib.hid hk
  clear hF h hk
  unfold dskE at hM
  go_enter Tryz.func82, Tryz.ntmps82
  (repeat (first | ((with_reducible show wpSeq _ _ _ _ _ _ _); ((first | (refine St.copy (v := ?_) (by exact .inl rfl) rfl rfl ?_ ?_; rotate_left; (focus ((try simp only [Act.eval, getD_lit, qGz, qGs]); with_reducible rfl))) | (refine St.pure (v := ?_) rfl rfl rfl (fun w => ?_) ?_; rotate_left; (focus (go_simp; all_goals with_reducible rfl))) | refine St.load rfl hM rfl rfl rfl rfl (by repeat constructor) (by rfl) (by kernel_rfl) ?_ | (((((refine St.buildSlice (cells := ?_) (e := ?_) rfl hM rfl rfl (fun w => ?_) ?_; rotate_left 2; (focus (go_simp; all_goals with_reducible rfl)))); clear hM; intro w bk hM)); (try simp only [Res.put, Res.known, Act.eval, Value.cells, getD_lit, qGz, qGs, List.toList_toArray, qSz, qSs, over, Nat.reduceAdd] at hM))); (try simp only [Act.put, qSa, qSz, qSs]))) | ((refine wp_text hM (fun Kr hKr => ?_); simp only [inText]))))
  refine St.append (s := s) (n := n) (xs := vs) rfl hM rfl rfl rfl rfl rfl (by kernel_rfl) (by intro s'; repeat (first | exact Swap.all | apply Swap.skip)) HK.out rfl (hM.news (by repeat constructor)) rfl (by rw [maxLen_val]; omega) (by omega) (fun h => by cases h) ?_
  clear hM; intro w s' hM hk' hs'
  simp only [Res.known] at hM hk'
  obtain ⟨va, vc, hv, -⟩ := slV_open hk'
  rw [hv]
  have HK' := Lib.hid hk'
  clear hk' hs'
  (try simp only [Act.put, qSa, qSz, qSs])
  (repeat (((with_reducible show wpSeq _ _ _ _ _ _ _); first | ((with_reducible refine wpSeq_nil ?_); refine hKr.out _ _ ?_; clear hKr Kr) | ((first | (refine St.pure (v := ?_) rfl rfl rfl (fun w => ?_) ?_; rotate_left; (focus (go_simp; all_goals with_reducible rfl))) | ((((refine St.store rfl hM rfl rfl rfl rfl rfl (by repeat constructor) (Nat.le_of_ble_eq_true rfl) (by kernel_rfl) rfl ?_ ?_); (focus ((intro h; cases h; done))); clear hM; intro w hM)); (try simp only [Res.put, Res.known, Act.eval, Value.cells, getD_lit, qGz, qGs, List.toList_toArray, qSz, qSs, over, Nat.reduceAdd] at hM))); (try simp only [Act.put, qSa, qSz, qSs])))))
  rw [← hv] at hM
  ((refine St.fin hM rfl (by repeat (exact Outs.nil)) rfl ?_))
  exact ⟨rfl, s', HK'.out, hM.forget⟩
set_option maxHeartbeats 4000000 in
set_option maxRecDepth 100000 in
theorem dFiles_any (h : (dskE b x.f g s n).2.2.holds w.heap[b]?) (hA : FsAt N x β d w) (hup : In.Up d.t) (hN : N ≤ 1000000) : Calls Tryz.prog 29 #[.pointer (some ⟨b, 0, none⟩)] w (SomeFiles (Fs.files d) w) := by
  have hM := St.one h
  have HW := Lib.hid h
  unfold dskE at hM
  go_enter Tryz.func29, Tryz.ntmps29
  (repeat (first | ((with_reducible show wpSeq _ _ _ _ _ _ _); first | ((with_reducible refine wpSeq_nil ?_); refine hKr.out _ _ ?_; clear hKr Kr) | (((refine St.copy (v := ?_) (by first | exact .inl rfl | exact .inr rfl) rfl rfl ?_ ?_; rotate_left; (focus ((try simp only [Act.eval, getD_lit, qGz, qGs]); with_reducible rfl)))); (try simp only [Act.put, qSa, qSz, qSs]))) | (first | (refine wp_seq_shut (fun K hK => ?_)) | (refine wp_text hM (fun Kr hKr => ?_); simp only [inText]) | ((refine hK.out _ _ ?_); clear hK K))))
  ((refine St.call rfl rfl rfl (by kernel_rfl) (fun R hR => ?_); simp only [List.map_toArray, List.map_cons, List.map_nil, Act.eval, getD_lit, qGz, qGs]))
  refine (dgiven_any (hM.only.holds HW.out)).mono ?_
  rintro e w' ⟨rfl, rfl⟩; refine hR.out _ _ (fun h => h) ?_; clear hR R; (try simp only [Act.put, qSa, qSz, qSs])
  (repeat (first | ((with_reducible show wpSeq _ _ _ _ _ _ _); first | ((with_reducible refine wpSeq_nil ?_); refine hKr.out _ _ ?_; clear hKr Kr) | ((first | (refine St.copy (v := ?_) (by exact .inl rfl) rfl rfl ?_ ?_; rotate_left; (focus ((try simp only [Act.eval, getD_lit, qGz, qGs]); with_reducible rfl))) | (refine St.pure (v := ?_) rfl rfl rfl (fun w => ?_) ?_; rotate_left; (focus (go_simp; all_goals with_reducible rfl))) | refine St.load rfl hM rfl rfl rfl rfl (by repeat constructor) (by rfl) (by kernel_rfl) ?_); (try simp only [Act.put, qSa, qSz, qSs]))) | (first | (refine wp_seq_shut (fun K hK => ?_)) | (refine wp_text hM (fun Kr hKr => ?_); simp only [inText]) | refine wp_skip ?_ | (refine wp_cond_false rfl ?_) | ((refine hK.out _ _ ?_); clear hK K))))
  ((refine St.call rfl rfl rfl (by kernel_rfl) (fun R hR => ?_); simp only [List.map_toArray, List.map_cons, List.map_nil, Act.eval, getD_lit, qGz, qGs]))
  refine (fFiles_any (hA.below hM.to_below) hup hN).mono ?_
  rintro e w' ⟨s1, rfl, hk, hN2⟩
  replace hM := hM.madeM hN2 (slL_flag _ _ _ _)
  refine hR.out _ _ (fun h => ⟨hM.only, nofun⟩) ?_; clear hR R hN2; (try simp only [Act.put, qSa, qSz, qSs])
  (repeat (first | ((with_reducible show wpSeq _ _ _ _ _ _ _); first | ((with_reducible refine wpSeq_nil ?_); refine hKr.out _ _ ?_; clear hKr Kr) | (((refine St.copy (v := ?_) (by exact .inr rfl) rfl rfl ?_ ?_; rotate_left; (focus ((try simp only [Act.eval, getD_lit, qGz, qGs]); with_reducible rfl)))); (try simp only [Act.put, qSa, qSz, qSs]))) | (((refine hK.out _ _ ?_); clear hK K))))
  ((refine wp_ret ?_; (try simp only [Exit.then, Exit.inBlock]); refine St.ret hM rfl (by repeat (first | exact Outs.nil | apply Outs.tmp rfl)) rfl ?_))
  exact ⟨s1, rfl, hk, St.front hM⟩
set_option maxHeartbeats 4000000 in
set_option maxRecDepth 100000 in
theorem dNew_any (q : Int) (w : World) (hq : In.newE q = 0) (hX : Mx w) : Calls Tryz.prog 23 #[.int .i64 q] w fun e w' => ∃ X β γ, e = .returned (.tuple #[.pointer (some ⟨DskX.b X, 0, none⟩), .int .i64 0]) ∧ DskOk X (Ol.new q) ∧ St w [] w' (dskL X β γ (Ol.new q)) := by
  have hM := St.start w []
  have HX := Lib.hid hX
  have F0 : 0 ∉ ([] : List Nat) := nofun
  have CN := Lib.hid (fun W : World => fNew_any q W hq)
  have I0 := Lib.hid (show Fs.Inv 1 (Fs.new q) from by
    unfold In.newE at hq
    by_cases c : (decide (q < 64) || decide (1099511627776 < q)) = true
    · rw [if_pos c] at hq; cases hq
    · simp only [Bool.or_eq_true, decide_eq_true_eq] at c
      exact Fs.inv_new (by omega) (by omega))
  clear hq hX
  go_enter Tryz.func23, Tryz.ntmps23
  (repeat (first | ((with_reducible show wpSeq _ _ _ _ _ _ _); first | ((with_reducible refine wpSeq_nil ?_); refine hKr.out _ _ ?_; clear hKr Kr) | (((refine St.copy (v := ?_) (by first | exact .inl rfl | exact .inr rfl) rfl rfl ?_ ?_; rotate_left; (focus ((try simp only [Act.eval, getD_lit, qGz, qGs]); with_reducible rfl)))); (try simp only [Act.put, qSa, qSz, qSs]))) | (first | (refine wp_seq_shut (fun K hK => ?_)) | (refine wp_text hM (fun Kr hKr => ?_); simp only [inText]) | ((refine hK.out _ _ ?_); clear hK K))))
  ((refine St.call rfl rfl rfl (by kernel_rfl) (fun R hR => ?_); simp only [List.map_toArray, List.map_cons, List.map_nil, Act.eval, getD_lit, qGz, qGs]))
  refine (CN.out _).mono ?_
  rintro e w' ⟨x, β, rfl, hN⟩
  replace hM := hM.madeM hN (fsL_flag _ _ _)
  refine hR.out _ _ (fun h => h.below hN.to_below) ?_; clear hR R hN
  (try simp only [Act.put, qSa, qSz, qSs])
  (repeat (first | ((with_reducible show wpSeq _ _ _ _ _ _ _); first | ((with_reducible refine wpSeq_nil ?_); refine hKr.out _ _ ?_; clear hKr Kr) | ((first | (refine St.copy (v := ?_) (by first | exact .inl rfl | exact .inr rfl) rfl rfl ?_ ?_; rotate_left; (focus ((try simp only [Act.eval, getD_lit, qGz, qGs]); with_reducible rfl))) | (refine St.pure (v := ?_) rfl rfl rfl (fun w => ?_) ?_; rotate_left; (focus (go_simp; all_goals with_reducible rfl)))); (try simp only [Act.put, qSa, qSz, qSs]))) | (first | (refine wp_seq_shut (fun K hK => ?_)) | (refine wp_text hM (fun Kr hKr => ?_); simp only [inText]) | refine wp_skip ?_ | (refine wp_cond_false rfl ?_) | ((refine hK.out _ _ ?_); clear hK K))))
  ((refine St.call rfl rfl rfl (by kernel_rfl) (fun R hR => ?_); simp only [List.map_toArray, List.map_cons, List.map_nil, Act.eval, getD_lit, qGz, qGs]))
  refine (fClone_any (hM.fs (x := x) (β := β) (d := Fs.new q) (by repeat (exact Part.all)) I0.out HX.out F0) (by decide)).mono ?_
  rintro e w' ⟨x', γ, rfl, hN⟩
  replace hM := hM.madeM hN (fsL_flag _ _ _)
  refine hR.out _ _ (fun h => h.below hN.to_below) ?_; clear hR R hN
  (try simp only [Act.put, qSa, qSz, qSs])
  (repeat (first | ((with_reducible show wpSeq _ _ _ _ _ _ _); first | ((with_reducible refine wpSeq_nil ?_); refine hKr.out _ _ ?_; clear hKr Kr) | ((first | (refine St.copy (v := ?_) (by exact .inr rfl) rfl rfl ?_ ?_; rotate_left; (focus ((try simp only [Act.eval, getD_lit, qGz, qGs]); with_reducible rfl))) | (refine St.pure (v := ?_) rfl rfl rfl (fun w => ?_) ?_; rotate_left; (focus (go_simp; all_goals with_reducible rfl))) | ((((refine St.box rfl hM rfl rfl rfl ?_); clear hM; intro w bk hM)); (try simp only [Res.put, Res.known, Act.eval, Value.cells, getD_lit, qGz, qGs, List.toList_toArray, qSz, qSs, over, Nat.reduceAdd] at hM))); (try simp only [Act.put, qSa, qSz, qSs]))) | (((refine hK.out _ _ ?_); clear hK K))))
  ((refine wp_ret ?_; (try simp only [Exit.then, Exit.inBlock]); refine St.ret hM rfl (by repeat (first | exact Outs.nil | apply Outs.tmp rfl)) rfl ?_))
  refine ⟨⟨bk, x, x', none, []⟩, β, γ, rfl, ⟨rfl, ⟨rfl, rfl⟩⟩, ?_⟩
  exact hM.perm (L' := (bk, true, .cells [.pointer (some ⟨x.f, 0, none⟩), .pointer (some ⟨x'.f, 0, none⟩), .slice none 0 0] 81) :: (fsL x β (Fs.new q) ++ ([] ++ (fsL x' γ (Fs.new q) ++ [])))) (perm_by (by intro _ x; simp only [List.append_eq, List.count_append, List.count_cons, List.count_nil, List.cons_append, List.nil_append]; omega))
end
end Go.Proofs.YtcicjklhbnipcaaGreatDoor
namespace Go.Proofs.YtcicjklhbnipcaaGreatDoor
set_option linter.unusedVariables false
set_option linter.unusedSimpArgs false
open Go.RowKit Go.Maps
section
variable {P : Program} {K : Act → World → Prop} {a : Act} {w w0 : World} {ops : Array Oper} {l : List (Oper × Nat)} {o : Oper} {F : List Nat} {L Lr : List Ent} {ty : TypeId}
theorem Held.backM {A B M M' : List Ent} {w' : World} (hM : St w0 F w (A ++ (M ++ B))) (hs : Sub Lr A) (hw : flagged M) (h' : St w (keysOf M) w' M') (hh : Held w0 F Lr w) : Held w0 F Lr w' := by
  have hnd := hM.nd
  simp only [List.map_append, List.nodup_append] at hnd
  obtain ⟨n1, ⟨n2, n3, n4⟩, n5⟩ := hnd
  refine ⟨hh.only.then h'.only (fun k hk => ?_), fun z hz => ?_⟩
  · obtain ⟨z, hz, rfl⟩ := List.mem_map.1 hk
    exact hM.own z (by simp [hz]) (hw z hz)
  · rw [h'.only.block z.1 (hh.has.lt hz) (fun hm => n5 z.1 (List.mem_map_of_mem (hs.mem z hz)) z.1 (by rw [List.mem_append]; exact .inl hm) rfl)]
    exact hh.has z hz
/-- A call that turns a chunk, and a variable that is made beside it, in either order. -/
theorem St.callAllocM {o' : Oper} {c : Nat} {f : FuncId} {ags : Array Operand} {ts : Array TypeId} {args : Array Value} (hx : o.op = .call { callee := .value (.func f), args := ags, argTypes := ts }) (hx' : o'.op = .alloc ty) {A M B : List Ent} (hM : St w0 F w (A ++ (M ++ B))) (hg : o.guard = none) (hg' : o'.guard = none) (hd : ∀ d, o.dst = some d → o'.dst ≠ some d)
    (hf : bodyB P f = true) (he : ags.map a.eval = args) (he' : ∀ p, ags.map (a.put o'.dst p).eval = args) {z : Value} (hz : ((P.info? ty).bind (·.zero)) = some z) (hs : Sub Lr A) (hw : flagged M) {R : Value → List Ent → Prop}
    (hC : ∀ W, St w0 F W (A ++ (M ++ B)) → Calls P f args W fun e w' => ∃ v M', R v M' ∧ e = .returned v ∧ flagged M' ∧ St W (keysOf M) w' M')
    (h : ∀ w' b v M', R v M' → St w0 F w' ((b, true, .cells z.cells.toList ty) :: (A ++ (M' ++ B))) → wpSeq P ops K (Held w0 F Lr) l ((a.put o.dst v).put o'.dst (.pointer (some ⟨b, 0, none⟩))) w') : wpSeq P ops K (Held w0 F Lr) ((o, 4) :: (o', c) :: l) a w := by
  have hsw : ∀ M', Swap (A ++ (M ++ B)) M M' (A ++ (M' ++ B)) := fun M' => .past .here
  refine wpSeq_pair hg hg' ?_ ?_
  · unfold Oper.wp
    rw [run_call w hx hf he, Oper.upon_enter]
    refine (hC w hM).mono fun e w' ⟨v, M', hR, h1, hf', hN⟩ => ?_
    subst h1
    refine ⟨Held.backM hM hs hw hN, ?_⟩
    rw [run_alloc _ hx' hz]
    exact ⟨fun hh => ⟨hh.only.alloc _, hh.has.push _⟩, h _ _ v M' hR ((hM.backM (hsw M') hw hN hf').push _ (by simp [Res.holds]))⟩
  · unfold Oper.wp
    rw [run_alloc w hx' hz]
    refine ⟨fun hh => ⟨hh.only.alloc _, hh.has.push _⟩, ?_⟩
    have hp := hM.push (r := .cells z.cells.toList ty) (.cells z.cells ty) (by simp [Res.holds])
    rw [run_call _ hx hf (he' _), Oper.upon_enter]
    refine (hC _ hp.forget).mono fun e w' ⟨v, M', hR, h1, hf', hN⟩ => ?_
    subst h1
    refine ⟨Held.backM hp.forget hs hw hN, ?_⟩
    rw [← Act.put_comm _ _ _ hd]
    exact h _ _ v M' hR (hp.backM (.skip (hsw M')) hw hN hf')
end
theorem perm_log {α : Type} (a b c d e : α) (t f g h : List α) : (a :: b :: c :: d :: e :: (t ++ (f ++ (g ++ h)))).Perm ((e :: g) ++ (a :: b :: c :: d :: (t ++ (f ++ h)))) := (perm_by (by intro _ x; simp only [List.append_eq, List.count_append, List.count_cons, List.count_nil, List.cons_append, List.nil_append]; omega))
theorem perm_log2 {α : Type} (a b c d e : α) (g r : List α) : ((e :: g) ++ (a :: b :: c :: d :: r)).Perm (a :: b :: c :: d :: e :: (g ++ r)) := (perm_by (by intro _ x; simp only [List.append_eq, List.count_append, List.count_cons, List.count_nil, List.cons_append, List.nil_append]; omega))
theorem perm_log3 {α : Type} (q o e : α) (g t f h l : List α) : (q :: o :: e :: (g ++ (t ++ (f ++ (h ++ l))))).Perm (t ++ (e :: (f ++ (g ++ (h ++ (l ++ [o, q])))))) := (perm_by (by intro _ x; simp only [List.append_eq, List.count_append, List.count_cons, List.count_nil, List.cons_append, List.nil_append]; omega))
theorem dskL_snoc (b : Nat) (x y : FsX) (s : Option (Nat × Nat)) (zs : List LogV) (z : LogV) (β γ : Int → Nat × Nat) (D : DskD) : dskL ⟨b, x, y, s, zs ++ [z]⟩ β γ D = dskE b x.f y.f s (zs.length + 1) :: (fsL x β D.now ++ (logL s (zs.map LogV.val ++ [LogV.val z]) ++ (fsL y γ D.base ++ (zs.flatMap LogV.ents ++ LogV.ents z)))) := by
  unfold dskL
  simp only [List.length_append, List.length_singleton, List.map_append, List.map_singleton, List.flatMap_append, List.flatMap_singleton]
section
variable {N : Nat} {X : DskX} {x y : FsX} {β γ : Int → Nat × Nat} {D : DskD} {d : FsD} {w w' w0 : World} {F : List Nat} {L L' M M' : List Ent} {b f g n : Nat} {s : Option (Nat × Nat)}
/-- What a disk answers, and what it has become. -/
def DDid (w : World) (X : DskX) (β γ : Int → Nat × Nat) (D : DskD) (r : ResD × DskD) (e : Ending) (w' : World) : Prop :=
  ∃ s X' β' γ', e = .returned (.agg #[.int .i64 r.1.err, .int .i64 r.1.n, .string r.1.data, slV s r.1.names.length]) ∧ TxOK s r.1.names ∧ DskX.b X' = X.b ∧ DskOk X' r.2 ∧ St w (keysOf (dskL X β γ D)) w' (txL s r.1.names ++ dskL X' β' γ' r.2)
theorem has369 (k : Int) : (([6, 9, 13] : List Int).take 3).contains k = decide (k = 6 ∨ k = 9 ∨ k = 13) := by
  simp only [List.take_succ_cons, List.take_zero, List.contains_cons, List.contains_nil, Bool.or_false]
  by_cases h1 : k = 6
  · simp [h1]
  by_cases h2 : k = 9
  · simp [h2]
  by_cases h3 : k = 13
  · simp [h3]
  simp [h1, h2, h3]
set_option maxHeartbeats 16000000 in
set_option maxRecDepth 100000 in
theorem dDo_any (h : DskAt N X β γ D w) (hN : N ≤ 999999980) {o : Int} (ho : Fits o) (p : OpD) (hp : p.Ok) :
    Calls Tryz.prog 34 #[.pointer (some ⟨X.b, 0, none⟩), .int .i64 o, .agg p.cells.toArray] w (DDid w X β γ D (Ol.do_ D o p)) := by
  have hM := h.at_.st
  unfold DDid
  obtain ⟨F, hF⟩ : ∃ F, keysOf (dskL X β γ D) = F := ⟨_, rfl⟩
  rw [hF] at hM ⊢
  have F0 : 0 ∉ F := hF ▸ h.zero
  clear hF
  have HI := Lib.hid h.inv
  have HX := Lib.hid h.mx
  have HK := Lib.hid h.ok
  have HP := Lib.hid hp
  by_cases hk : p.kind = 14
  · have e1 : Ol.do_ D o p = (Fs.errR 0, Ol.sync D) := if_pos hk
    rw [e1]
    obtain ⟨pk, pp, pd, ph, pa, pn, px, py, pb⟩ := p
    simp only [OpD.cells] at hk ⊢
    subst hk
    clear h hp e1
    unfold dskL at hM
    unfold dskE at hM
    go_enter Tryz.func34, Tryz.ntmps34
    (repeat (first | ((with_reducible show wpSeq _ _ _ _ _ _ _); first | ((with_reducible refine wpSeq_nil ?_); refine hKr.out _ _ ?_; clear hKr Kr) | ((first | (refine St.copy (v := ?_) (by exact .inl rfl) rfl rfl ?_ ?_; rotate_left; (focus ((try simp only [Act.eval, getD_lit, qGz, qGs]); with_reducible rfl))) | ((((refine St.box rfl hM rfl rfl rfl ?_); clear hM; intro w bk hM)); (try simp only [Res.put, Res.known, Act.eval, Value.cells, getD_lit, qGz, qGs, List.toList_toArray, qSz, qSs, over, Nat.reduceAdd] at hM))); (try simp only [Act.put, qSa, qSz, qSs])) | ((((refine St.alloc (ty := 31) (z := .agg #[.int .i64 0, .int .i64 0, .string ⟨#[]⟩, .slice none 0 0]) rfl hM rfl rfl (by kernel_rfl) ?_); clear hM; intro w bk hM)); (try simp only [Res.put, Res.known, Act.eval, Value.cells, getD_lit, qGz, qGs, List.toList_toArray, qSz, qSs, over, Nat.reduceAdd] at hM); (try simp only [Act.put, qSa, qSz, qSs]))) | (first | (refine wp_seq_shut (fun K hK => ?_)) | (refine wp_text hM (fun Kr hKr => ?_); simp only [inText]) | ((refine hK.out _ _ ?_); clear hK K))))
    ((refine St.call rfl rfl rfl (by kernel_rfl) (fun R hR => ?_); simp only [List.map_toArray, List.map_cons, List.map_nil, Act.eval, getD_lit, qGz, qGs]))
    refine (dgiven_any (hM.holds (dskE X.b X.now.f X.sure.f X.s X.zs.length) (by repeat constructor))).mono ?_
    rintro e w' ⟨rfl, rfl⟩; refine hR.out _ _ (fun h => h) ?_; clear hR R; (try simp only [Act.put, qSa, qSz, qSs])
    (repeat (first | ((with_reducible show wpSeq _ _ _ _ _ _ _); first | ((with_reducible refine wpSeq_nil ?_); refine hKr.out _ _ ?_; clear hKr Kr) | ((first | (refine St.copy (v := ?_) (by exact .inl rfl) rfl rfl ?_ ?_; rotate_left; (focus ((try simp only [Act.eval, getD_lit, qGz, qGs]); with_reducible rfl))) | (refine St.pure (v := ?_) rfl rfl rfl (fun w => ?_) ?_; rotate_left; (focus (go_simp; all_goals with_reducible rfl))) | refine St.load rfl hM rfl rfl rfl rfl (by repeat constructor) (by rfl) (by kernel_rfl) ?_); (try simp only [Act.put, qSa, qSz, qSs]))) | (first | (refine wp_seq_shut (fun K hK => ?_)) | (refine wp_text hM (fun Kr hKr => ?_); simp only [inText]) | refine wp_skip ?_ | (first | refine wp_cond_true rfl ?_ | refine wp_cond_false rfl ?_) | ((refine hK.out _ _ ?_); clear hK K))))
    ((refine St.call rfl rfl rfl (by kernel_rfl) (fun R hR => ?_); simp only [List.map_toArray, List.map_cons, List.map_nil, Act.eval, getD_lit, qGz, qGs]))
    have hM' : St _ F w (_ :: _ :: _ :: ((dskE X.b X.now.f X.sure.f X.s X.zs.length :: fsL X.now β D.now) ++ (logL X.s (X.zs.map LogV.val) ++ (fsL X.sure γ D.base ++ X.zs.flatMap LogV.ents)))) := hM
    refine (syncs_any (hM.fs (x := X.now) (β := β) (d := D.now) (by repeat (first | exact Part.here | apply Part.skip)) HI.out.now.inv HX.out F0) (by omega) (hM'.part (.skip (.skip (.skip .here))))).mono ?_
    rintro e w' ⟨rfl, x', γ', hN2⟩
    replace hM := hM'.backM (.skip (.skip (.skip .one))) (flag_1 _ _) hN2 (fun y hy => by
      rcases List.mem_cons.1 hy with rfl | hy
      · rfl
      · exact fsL_flag _ _ _ y hy)
    clear hM'
    clear hN2
    refine hR.out _ _ (fun _ => ⟨hM.only, nofun⟩) ?_; clear hR R
    unfold dskE at hM
    (try simp only [Act.put, qSa, qSz, qSs])
    (repeat (first | ((with_reducible show wpSeq _ _ _ _ _ _ _); first | ((with_reducible refine wpSeq_nil ?_); refine hKr.out _ _ ?_; clear hKr Kr) | ((first | (refine St.pure (v := ?_) rfl rfl rfl (fun w => ?_) ?_; rotate_left; (focus (go_simp; all_goals with_reducible rfl))) | ((((refine St.storeRow rfl hM rfl rfl rfl rfl rfl (by repeat constructor) (Nat.le_of_ble_eq_true rfl) (Nat.le_of_ble_eq_true rfl) (by kernel_rfl) rfl ?_ ?_); (focus ((intro h; cases h; done))); clear hM; intro w hM)); (try simp only [Res.put, Res.known, Act.eval, Value.cells, getD_lit, qGz, qGs, List.toList_toArray, qSz, qSs, over, Nat.reduceAdd] at hM))); (try simp only [Act.put, qSa, qSz, qSs]))) | (first | (refine wp_seq_shut (fun K hK => ?_)) | (refine wp_text hM (fun Kr hKr => ?_); simp only [inText]) | ((refine hK.out _ _ ?_); clear hK K))))
    ((refine wp_ret ?_; (try simp only [Exit.then, Exit.inBlock]); refine St.ret hM rfl (by repeat (first | exact Outs.nil | (apply Outs.row rfl rfl (by repeat constructor) (by kernel_rfl)))) rfl ?_))
    have hS : St _ F w ((dskE X.b X.now.f x'.f none 0 :: fsL x' γ' D.now) ++ fsL X.now β D.now) := hM.subM ((((List.Sublist.append_left (List.sublist_append_left _ _) _).cons _).cons _).cons _)
    refine ⟨none, ⟨X.b, X.now, x', none, []⟩, β, γ', rfl, ⟨rfl, rfl⟩, rfl, ⟨rfl, ⟨rfl, rfl⟩⟩, ?_⟩
    exact hS.perm (L' := dskE X.b X.now.f x'.f none 0 :: (fsL X.now β D.now ++ ([] ++ (fsL x' γ' D.now ++ [])))) (perm_by (by intro _ x; simp only [List.append_eq, List.count_append, List.count_cons, List.count_nil, List.cons_append, List.nil_append]; omega))
  · have e1 : Ol.do_ D o p = ((Fs.do_ D.now o p).1, Ol.doN D o p) := if_neg hk
    rw [e1]
    have C := Lib.hid (fun (W : World) (β' : Int → Nat × Nat) (hA : FsAt N X.now β' D.now W) => fDo_any hA (by omega) ho p hp)
    have HD := Lib.hid (show Ol.doN D o p = ⟨(Fs.do_ D.now o p).2, D.base, if Ol.logs (Fs.do_ D.now o p).1 p then D.log ++ [(o, some p)] else D.log⟩ from rfl)
    obtain ⟨G, hG⟩ : ∃ G, Fs.do_ D.now o p = G := ⟨_, rfl⟩
    rw [hG] at C HD ⊢
    generalize Ol.doN D o p = DN at *
    obtain ⟨⟨er, n, da, ns⟩, d'⟩ := G
    have HO := Lib.hid ho
    have hq : (p.kind == 14) = false := beq_eq_false_iff_ne.2 hk
    obtain ⟨p', hp'⟩ : ∃ p', p = p' := ⟨_, rfl⟩
    obtain ⟨pk, pp, pd, ph, pa, pn, px, py, pb⟩ := p
    simp only [OpD.cells] at C hq ⊢
    clear h hp e1 hk hG ho
    unfold dskL at hM
    unfold dskE at hM
    go_enter Tryz.func34, Tryz.ntmps34
    (repeat (first | ((with_reducible show wpSeq _ _ _ _ _ _ _); first | ((with_reducible refine wpSeq_nil ?_); refine hKr.out _ _ ?_; clear hKr Kr) | ((first | (refine St.copy (v := ?_) (by exact .inl rfl) rfl rfl ?_ ?_; rotate_left; (focus ((try simp only [Act.eval, getD_lit, qGz, qGs]); with_reducible rfl))) | ((((refine St.box rfl hM rfl rfl rfl ?_); clear hM; intro w bk hM)); (try simp only [Res.put, Res.known, Act.eval, Value.cells, getD_lit, qGz, qGs, List.toList_toArray, qSz, qSs, over, Nat.reduceAdd] at hM))); (try simp only [Act.put, qSa, qSz, qSs])) | ((((refine St.alloc (ty := 31) (z := .agg #[.int .i64 0, .int .i64 0, .string ⟨#[]⟩, .slice none 0 0]) rfl hM rfl rfl (by kernel_rfl) ?_); clear hM; intro w bk hM)); (try simp only [Res.put, Res.known, Act.eval, Value.cells, getD_lit, qGz, qGs, List.toList_toArray, qSz, qSs, over, Nat.reduceAdd] at hM); (try simp only [Act.put, qSa, qSz, qSs]))) | (first | (refine wp_seq_shut (fun K hK => ?_)) | (refine wp_text hM (fun Kr hKr => ?_); simp only [inText]) | ((refine hK.out _ _ ?_); clear hK K))))
    rename_i w0 wx ob wy qb K hK
    generalize bk = rb at *
    ((refine St.call rfl rfl rfl (by kernel_rfl) (fun R hR => ?_); simp only [List.map_toArray, List.map_cons, List.map_nil, Act.eval, getD_lit, qGz, qGs]))
    refine (dgiven_any (hM.holds (dskE X.b X.now.f X.sure.f X.s X.zs.length) (by repeat constructor))).mono ?_
    rintro e w' ⟨rfl, rfl⟩; refine hR.out _ _ (fun h => h) ?_; clear hR R; (try simp only [Act.put, qSa, qSz, qSs])
    (repeat (first | ((with_reducible show wpSeq _ _ _ _ _ _ _); first | ((with_reducible refine wpSeq_nil ?_); refine hKr.out _ _ ?_; clear hKr Kr) | ((first | (refine St.copy (v := ?_) (by exact .inl rfl) rfl rfl ?_ ?_; rotate_left; (focus ((try simp only [Act.eval, getD_lit, qGz, qGs]); with_reducible rfl))) | (refine St.pure (v := ?_) rfl rfl rfl (fun w => ?_) ?_; rotate_left; (focus (go_simp; all_goals with_reducible rfl))) | refine St.load rfl hM rfl rfl rfl rfl (by repeat constructor) (by rfl) (by kernel_rfl) ?_ | refine St.load1 rfl rfl rfl rfl (by repeat constructor) (by rfl) (by kernel_rfl) ?_ | ((refine St.loadRow1 rfl rfl rfl rfl (by repeat constructor) (Nat.le_of_ble_eq_true rfl) (by kernel_rfl) ?_); (try simp only [Res.known, List.drop_succ_cons, List.drop_zero, List.take_succ_cons, List.take_zero]))); (try simp only [Act.put, qSa, qSz, qSs]))) | (first | (refine wp_seq_shut (fun K hK => ?_)) | (refine wp_text hM (fun Kr hKr => ?_); simp only [inText]) | refine wp_skip ?_ | (refine wp_cond_false rfl ?_) | ((refine hK.out _ _ ?_); clear hK K)) | ((refine wp_drawn (id := 6) hM (Sub.take (Sub.take (Sub.take (Sub.take Sub.nil)))) [3, 4, 5] [(0, 0), (1, 0), (2, 0), (3, 1), (4, 1), (5, 1), (6, 4), (7, 4), (8, 3)] (by kernel_rfl) (by kernel_rfl) ?_); (clear hM; intro w hM Kr hKr); simp only [opsOf, qGz, qGs])))
    refine St.callAllocM (A := [_, _, _, _]) (M := fsL X.now β D.now) (R := fun v M' => ∃ s β', v = .agg #[.int .i64 er, .int .i64 n, .string da, slV s ns.length] ∧ TxOK s ns ∧ M' = txL s ns ++ fsL X.now β' d') rfl rfl hM rfl rfl (fun d h => by cases h; decide) (by kernel_rfl) (by simp only [Act.put, qSa, qSz, qSs, List.map_toArray, List.map_cons, List.map_nil, Act.eval, getD_lit, qGz, qGs] <;> rfl) (fun p => (by simp only [Act.put, qSa, qSz, qSs, List.map_toArray, List.map_cons, List.map_nil, Act.eval, getD_lit, qGz, qGs] <;> rfl)) rfl (Sub.all _) (fsL_flag _ _ _) (fun W hW => ?_) ?_
    · refine (C.out W β (hW.fs (.past .here) HI.out.now.inv HX.out F0)).mono ?_
      rintro e w' ⟨s, β', rfl, hs, hN2⟩
      exact ⟨_, _, ⟨s, β', rfl, hs, rfl⟩, rfl, fun y hy => (List.mem_append.1 hy).elim (txL_flag _ _ y) (fsL_flag _ _ _ y), hN2⟩
    clear hM
    rintro w bk v M' ⟨s, β', rfl, hs, rfl⟩ hM
    obtain ⟨sa, sc, hsv, -⟩ := slV_open hs
    rw [hsv]
    have HS := Lib.hid hs
    have HSV := Lib.hid hsv
    have HP' := Lib.hid hp'
    clear hs C hsv hp'
    simp only [List.cons_append, List.nil_append, List.append_assoc] at hM
    generalize bk = ab at *
    by_cases h0 : er = 0
    · have q0 : (er == 0) = true := by rw [h0]; rfl
      (try simp only [Act.put, qSa, qSz, qSs])
      (repeat (first | ((with_reducible show wpSeq _ _ _ _ _ _ _); first | ((with_reducible refine wpSeq_nil ?_); refine hKr.out _ _ ?_; clear hKr Kr) | ((first | (refine St.copy (v := ?_) (by exact .inl rfl) rfl rfl ?_ ?_; rotate_left; (focus ((try simp only [Act.eval, getD_lit, qGz, qGs]); with_reducible rfl))) | (refine St.pure (v := ?_) rfl rfl rfl (fun w => ?_) ?_; rotate_left; (focus (go_simp; all_goals with_reducible rfl))) | refine St.load rfl hM rfl rfl rfl rfl (by repeat constructor) (by rfl) (by kernel_rfl) ?_ | ((first | ((refine St.storeRow rfl hM rfl rfl rfl rfl rfl (by repeat constructor) (Nat.le_of_ble_eq_true rfl) (Nat.le_of_ble_eq_true rfl) (by kernel_rfl) rfl ?_ ?_); (focus ((intro h; cases h; done))); clear hM; intro w hM) | (((refine St.buildSlice (cells := ?_) (e := ?_) rfl hM rfl rfl (fun w => ?_) ?_; rotate_left 2; (focus (go_simp; all_goals with_reducible rfl)))); clear hM; intro w bk hM)); (try simp only [Res.put, Res.known, Act.eval, Value.cells, getD_lit, qGz, qGs, List.toList_toArray, qSz, qSs, over, Nat.reduceAdd] at hM))); (try simp only [Act.put, qSa, qSz, qSs]))) | (first | (refine wp_seq_shut (fun K hK => ?_)) | (refine wp_text hM (fun Kr hKr => ?_); simp only [inText]) | ((refine hK.out _ _ ?_); clear hK K))))
      ((refine St.call rfl rfl rfl (by kernel_rfl) (fun R hR => ?_); simp only [List.map_toArray, List.map_cons, List.map_nil, Act.eval, getD_lit, qGz, qGs]))
      have C3 := Tryz.slices_Contains_int bk 0 3 3 [6, 9, 13] pk w (by decide) (by decide) (fun j hj => Res.cell (hM.holds _ (.head _)) (by
        have : j = 0 ∨ j = 1 ∨ j = 2 := by simp only [List.length_cons, List.length_nil] at hj; omega
        rcases this with rfl | rfl | rfl <;> rfl))
      rw [has369] at C3
      refine C3.mono ?_
      rintro e w' ⟨rfl, rfl⟩; refine hR.out _ _ (fun h => h) ?_; clear hR R C3
      replace hM := hM.forget
      by_cases h1 : pk = 6 ∨ pk = 9 ∨ pk = 13
      · rw [decide_eq_true h1]
        (try simp only [Act.put, qSa, qSz, qSs])
        (repeat (first | ((with_reducible show wpSeq _ _ _ _ _ _ _); first | ((with_reducible refine wpSeq_nil ?_); refine hKr.out _ _ ?_; clear hKr Kr) | ((first | (refine St.pure (v := ?_) rfl rfl rfl (fun w => ?_) ?_; rotate_left; (focus (go_simp; all_goals with_reducible rfl))) | ((refine St.loadRow rfl hM rfl rfl rfl rfl (by repeat constructor) (Nat.le_of_ble_eq_true rfl) (by kernel_rfl) ?_); (try simp only [Res.known, List.drop_succ_cons, List.drop_zero, List.take_succ_cons, List.take_zero])) | ((((refine St.storeRow rfl hM rfl rfl rfl rfl rfl (by repeat constructor) (Nat.le_of_ble_eq_true rfl) (Nat.le_of_ble_eq_true rfl) (by kernel_rfl) rfl ?_ ?_); (focus ((intro h; cases h; done))); clear hM; intro w hM)); (try simp only [Res.put, Res.known, Act.eval, Value.cells, getD_lit, qGz, qGs, List.toList_toArray, qSz, qSs, over, Nat.reduceAdd] at hM))); (try simp only [Act.put, qSa, qSz, qSs]))) | (first | (refine wp_seq_shut (fun K hK => ?_)) | (refine wp_text hM (fun Kr hKr => ?_); simp only [inText]) | refine wp_skip ?_ | (refine wp_cond_false rfl ?_) | ((refine hK.out _ _ ?_); clear hK K))))
        ((refine wp_ret ?_; (try simp only [Exit.then, Exit.inBlock]); refine St.ret hM rfl (by repeat (first | exact Outs.nil | (apply Outs.row rfl rfl (by repeat constructor) (by kernel_rfl)))) rfl ?_))
        have e2 : DN = ⟨d', D.base, D.log⟩ := by rw [HD.out]; show DskD.mk d' D.base _ = _; rw [if_neg (fun h => by
          obtain ⟨-, g1, g2, g3⟩ := h
          have g1' : pk ≠ 6 := g1
          have g2' : pk ≠ 9 := g2
          have g3' : pk ≠ 13 := g3
          omega)]
        rw [e2]
        have hS : St _ F _ (dskE X.b X.now.f X.sure.f X.s X.zs.length :: (txL s ns ++ (fsL X.now β' d' ++ (logL X.s (X.zs.map LogV.val) ++ (fsL X.sure γ D.base ++ X.zs.flatMap LogV.ents))))) := hM.forget.forget.forget.forget
        refine ⟨s, X, β', γ, by rw [HSV.out]; rfl, HS.out, rfl, ⟨HK.out.log, HK.out.sl⟩, ?_⟩
        exact hS.perm (L' := txL s ns ++ (dskE X.b X.now.f X.sure.f X.s X.zs.length :: (fsL X.now β' d' ++ (logL X.s (X.zs.map LogV.val) ++ (fsL X.sure γ D.base ++ X.zs.flatMap LogV.ents))))) (perm_by (by intro _ x; simp only [List.append_eq, List.count_append, List.count_cons, List.count_nil, List.cons_append, List.nil_append]; omega))
      · rw [decide_eq_false h1]
        (try simp only [Act.put, qSa, qSz, qSs])
        (repeat (first | ((with_reducible show wpSeq _ _ _ _ _ _ _); first | ((with_reducible refine wpSeq_nil ?_); refine hKr.out _ _ ?_; clear hKr Kr) | ((first | (refine St.copy (v := ?_) (by exact .inl rfl) rfl rfl ?_ ?_; rotate_left; (focus ((try simp only [Act.eval, getD_lit, qGz, qGs]); with_reducible rfl))) | (refine St.pure (v := ?_) rfl rfl rfl (fun w => ?_) ?_; rotate_left; (focus (go_simp; all_goals with_reducible rfl)))); (try simp only [Act.put, qSa, qSz, qSs]))) | (first | (refine wp_text hM (fun Kr hKr => ?_); simp only [inText]) | (refine wp_cond_true rfl ?_) | ((refine hK.out _ _ ?_); clear hK K))))
        ((refine St.call rfl rfl rfl (by kernel_rfl) (fun R hR => ?_); simp only [List.map_toArray, List.map_cons, List.map_nil, Act.eval, getD_lit, qGz, qGs]))
        have hS : St w0 F _ (_ :: _ :: _ :: _ :: dskE X.b X.now.f X.sure.f X.s X.zs.length :: (txL s ns ++ (fsL X.now β' d' ++ (logL X.s (X.zs.map LogV.val) ++ (fsL X.sure γ D.base ++ X.zs.flatMap LogV.ents))))) := hM
        clear hM
        replace hS := hS.perm (perm_log _ _ _ _ _ _ _ _ _)
        have hzl : X.zs.length ≤ 1000000000 := by
          have g1 := congrArg List.length HK.out.log
          rw [List.length_map] at g1
          obtain ⟨M0, -, g2⟩ := HI.out.base
          omega
        refine (logs_any HK.out.sl hzl (hS.part .here)).mono ?_
        rintro e w' ⟨rfl, s', hk', hN2⟩
        have hM := (hS.backM .here (fun y hy => by
          rcases List.mem_cons.1 hy with rfl | hy
          · rfl
          · exact slL_flag _ _ _ _ y hy) hN2 (fun y hy => by
          rcases List.mem_cons.1 hy with rfl | hy
          · rfl
          · exact slL_flag _ _ _ _ y hy)).perm (perm_log2 _ _ _ _ _ _ _)
        refine hR.out _ _ (fun _ => ⟨hM.only, nofun⟩) ?_; clear hR R hS hN2
        have HK' := Lib.hid hk'
        clear hk'
        (try simp only [Act.put, qSa, qSz, qSs])
        (repeat (first | ((with_reducible show wpSeq _ _ _ _ _ _ _); first | ((with_reducible refine wpSeq_nil ?_); refine hKr.out _ _ ?_; clear hKr Kr) | ((first | ((refine St.loadRow rfl hM rfl rfl rfl rfl (by repeat constructor) (Nat.le_of_ble_eq_true rfl) (by kernel_rfl) ?_); (try simp only [Res.known, List.drop_succ_cons, List.drop_zero, List.take_succ_cons, List.take_zero])) | ((((refine St.storeRow rfl hM rfl rfl rfl rfl rfl (by repeat constructor) (Nat.le_of_ble_eq_true rfl) (Nat.le_of_ble_eq_true rfl) (by kernel_rfl) rfl ?_ ?_); (focus ((intro h; cases h; done))); clear hM; intro w hM)); (try simp only [Res.put, Res.known, Act.eval, Value.cells, getD_lit, qGz, qGs, List.toList_toArray, qSz, qSs, over, Nat.reduceAdd] at hM))); (try simp only [Act.put, qSa, qSz, qSs]))) | (first | (refine wp_seq_shut (fun K hK => ?_)) | (refine wp_text hM (fun Kr hKr => ?_); simp only [inText]) | ((refine hK.out _ _ ?_); clear hK K))))
        ((refine wp_ret ?_; (try simp only [Exit.then, Exit.inBlock]); refine St.ret hM rfl (by repeat (first | exact Outs.nil | (apply Outs.row rfl rfl (by repeat constructor) (by kernel_rfl)))) rfl ?_))
        have e2 : DN = ⟨d', D.base, D.log ++ [(o, some ⟨pk, pp, pd, ph, pa, pn, px, py, pb⟩)]⟩ := by rw [HD.out]; show DskD.mk d' D.base _ = _; rw [if_pos ⟨h0, fun h => h1 (.inl h), fun h => h1 (.inr (.inl h)), fun h => h1 (.inr (.inr h))⟩]
        rw [e2]
        refine ⟨s, ⟨X.b, X.now, X.sure, s', X.zs ++ [((o, some ⟨pk, pp, pd, ph, pa, pn, px, py, pb⟩), (ob, qb))]⟩, β', γ, by rw [HSV.out]; rfl, HS.out, rfl, ⟨?_, ?_⟩, ?_⟩
        · show List.map (fun z : LogV => z.1) (X.zs ++ [_]) = D.log ++ [_]
          rw [List.map_append, HK.out.log]
          rfl
        · show SlOK s' (X.zs ++ [_]).length ((X.zs ++ [_]).map LogV.val) 1
          rw [List.length_append, List.map_append]
          exact HK'.out
        · rw [dskL_snoc]
          exact hM.forget.forget.perm (perm_log3 _ _ _ _ _ _ _ _)
    · have q0 : (er == 0) = false := beq_eq_false_iff_ne.2 h0
      (try simp only [Act.put, qSa, qSz, qSs])
      (repeat (first | ((with_reducible show wpSeq _ _ _ _ _ _ _); first | ((with_reducible refine wpSeq_nil ?_); refine hKr.out _ _ ?_; clear hKr Kr) | ((first | (refine St.copy (v := ?_) (by exact .inl rfl) rfl rfl ?_ ?_; rotate_left; (focus ((try simp only [Act.eval, getD_lit, qGz, qGs]); with_reducible rfl))) | (refine St.pure (v := ?_) rfl rfl rfl (fun w => ?_) ?_; rotate_left; (focus (go_simp; all_goals with_reducible rfl))) | refine St.load rfl hM rfl rfl rfl rfl (by repeat constructor) (by rfl) (by kernel_rfl) ?_ | ((refine St.loadRow rfl hM rfl rfl rfl rfl (by repeat constructor) (Nat.le_of_ble_eq_true rfl) (by kernel_rfl) ?_); (try simp only [Res.known, List.drop_succ_cons, List.drop_zero, List.take_succ_cons, List.take_zero])) | refine wpSeq_off rfl rfl ?_ | ((((refine St.storeRow rfl hM rfl rfl rfl rfl rfl (by repeat constructor) (Nat.le_of_ble_eq_true rfl) (Nat.le_of_ble_eq_true rfl) (by kernel_rfl) rfl ?_ ?_); (focus ((intro h; cases h; done))); clear hM; intro w hM)); (try simp only [Res.put, Res.known, Act.eval, Value.cells, getD_lit, qGz, qGs, List.toList_toArray, qSz, qSs, over, Nat.reduceAdd] at hM))); (try simp only [Act.put, qSa, qSz, qSs]))) | (first | (refine wp_seq_shut (fun K hK => ?_)) | (refine wp_text hM (fun Kr hKr => ?_); simp only [inText]) | refine wp_skip ?_ | (refine wp_cond_false rfl ?_) | ((refine hK.out _ _ ?_); clear hK K))))
      ((refine wp_ret ?_; (try simp only [Exit.then, Exit.inBlock]); refine St.ret hM rfl (by repeat (first | exact Outs.nil | (apply Outs.row rfl rfl (by repeat constructor) (by kernel_rfl)))) rfl ?_))
      have e2 : DN = ⟨d', D.base, D.log⟩ := by rw [HD.out]; show DskD.mk d' D.base _ = _; rw [if_neg (fun h => h0 h.1)]
      rw [e2]
      have hS : St _ F w (dskE X.b X.now.f X.sure.f X.s X.zs.length :: (txL s ns ++ (fsL X.now β' d' ++ (logL X.s (X.zs.map LogV.val) ++ (fsL X.sure γ D.base ++ X.zs.flatMap LogV.ents))))) := hM.forget.forget.forget.forget
      refine ⟨s, X, β', γ, by rw [HSV.out]; rfl, HS.out, rfl, ⟨HK.out.log, HK.out.sl⟩, ?_⟩
      exact hS.perm (L' := txL s ns ++ (dskE X.b X.now.f X.sure.f X.s X.zs.length :: (fsL X.now β' d' ++ (logL X.s (X.zs.map LogV.val) ++ (fsL X.sure γ D.base ++ X.zs.flatMap LogV.ents))))) (perm_by (by intro _ x; simp only [List.append_eq, List.count_append, List.count_cons, List.count_nil, List.cons_append, List.nil_append]; omega))
end
end Go.Proofs.YtcicjklhbnipcaaGreatDoor
namespace Go.Proofs.YtcicjklhbnipcaaGreatDoor
set_option linter.unusedVariables false
set_option linter.unusedSimpArgs false
open Go.RowKit Go.Maps
theorem perm_ex1 {α : Type} (a e : α) (t f g h : List α) : (a :: e :: (t ++ (f ++ (g ++ h)))).Perm ((e :: g) ++ (a :: (t ++ (f ++ h)))) := (perm_by (by intro _ x; simp only [List.append_eq, List.count_append, List.count_cons, List.count_nil, List.cons_append, List.nil_append]; omega))
theorem perm_ex3 {α : Type} (o e : α) (g t f h l : List α) : ((e :: g) ++ (o :: (t ++ (f ++ (h ++ l))))).Perm ((e :: (f ++ (g ++ (h ++ (l ++ [o]))))) ++ t) := (perm_by (by intro _ x; simp only [List.append_eq, List.count_append, List.count_cons, List.count_nil, List.cons_append, List.nil_append]; omega))
section
variable {N : Nat} {X : DskX} {x y : FsX} {β γ : Int → Nat × Nat} {D : DskD} {d : FsD} {w w' w0 : World} {F : List Nat} {L L' M M' : List Ent} {b f g n : Nat} {s : Option (Nat × Nat)}
theorem contains_any {xs : List Int} (hM : St w0 F w (slL s (xs.map (Value.int .i64)) 3 1 ++ L)) (hk : SlOK s xs.length (xs.map (Value.int .i64)) 1) (x : Int) : Calls Tryz.prog 81 #[slV s xs.length, .int .i64 x] w fun e w' => e = .returned (.bool (xs.contains x)) ∧ w' = w := by
  rcases s with _ | ⟨g, cap⟩
  · have h0 : xs = [] := List.eq_nil_of_length_eq_zero hk.2
    subst h0
    exact Tryz.slices_Contains_int_empty none 0 x w
  · have := Tryz.slices_Contains_int g 0 xs.length cap xs x w (Nat.le_refl _) (by have := hk.2.1; have := hk.2.2; rw [maxLen_val] at this; omega) (fun j hj => by
      refine Res.cell (hM.holds (g, true, .pre (xs.map (Value.int .i64)) 3 (cap * 1)) (by simp [slL])) ?_
      show (xs.map (Value.int .i64))[0 + j]? = _
      rw [Nat.zero_add, List.getElem?_map, List.getElem?_eq_getElem hj, List.getD_eq_getElem?_getD, List.getElem?_eq_getElem hj]
      rfl)
    rw [List.take_length] at this
    exact this
set_option maxHeartbeats 16000000 in
set_option maxRecDepth 100000 in
theorem dExit_any (h : DskAt N X β γ D w) (hN : N ≤ 999999980) {o : Int} (ho : Fits o) :
    Calls Tryz.prog 44 #[.pointer (some ⟨X.b, 0, none⟩), .int .i64 o] w fun e w' => e = .returned (.tuple #[]) ∧ DGoes w X β γ D w' (Ol.exit D o) := by
  have hM := h.at_.st
  unfold DGoes
  obtain ⟨F, hF⟩ : ∃ F, keysOf (dskL X β γ D) = F := ⟨_, rfl⟩
  rw [hF] at hM ⊢
  have F0 : 0 ∉ F := hF ▸ h.zero
  clear hF
  have HI := Lib.hid h.inv
  have HX := Lib.hid h.mx
  have HK := Lib.hid h.ok
  have HO := Lib.hid ho
  clear h ho
  generalize hDN : Ol.exit D o = DN
  have HD := Lib.hid hDN
  clear hDN
  have hol : (Fs.owners D.now).length ≤ 1000000000 := by
    have := HI.out.now.inv.len
    unfold Fs.owners
    rw [List.length_map]
    omega
  unfold dskL at hM
  unfold dskE at hM
  go_enter Tryz.func44, Tryz.ntmps44
  (repeat (first | ((with_reducible show wpSeq _ _ _ _ _ _ _); first | ((with_reducible refine wpSeq_nil ?_); refine hKr.out _ _ ?_; clear hKr Kr) | ((first | (refine St.copy (v := ?_) (by exact .inl rfl) rfl rfl ?_ ?_; rotate_left; (focus ((try simp only [Act.eval, getD_lit, qGz, qGs]); with_reducible rfl))) | ((((refine St.box rfl hM rfl rfl rfl ?_); clear hM; intro w bk hM)); (try simp only [Res.put, Res.known, Act.eval, Value.cells, getD_lit, qGz, qGs, List.toList_toArray, qSz, qSs, over, Nat.reduceAdd] at hM))); (try simp only [Act.put, qSa, qSz, qSs]))) | (first | (refine wp_seq_shut (fun K hK => ?_)) | (refine wp_text hM (fun Kr hKr => ?_); simp only [inText]) | ((refine hK.out _ _ ?_); clear hK K)) | ((refine wp_drawn (id := 1) hM (Sub.all _) [7, 9] [(0, 2), (1, 2), (2, 2), (3, 2), (4, 0), (5, 0), (6, 0), (7, 1), (9, 1), (8, 2), (10, 2), (11, 2), (12, 2)] (by kernel_rfl) (by kernel_rfl) ?_); (clear hM; intro w hM Kr hKr); simp only [opsOf, qGz, qGs])))
  generalize bk = ob at *
  ((refine St.call rfl rfl rfl (by kernel_rfl) (fun R hR => ?_); simp only [List.map_toArray, List.map_cons, List.map_nil, Act.eval, getD_lit, qGz, qGs]))
  refine (dgiven_any (hM.holds (dskE X.b X.now.f X.sure.f X.s X.zs.length) (by repeat constructor))).mono ?_
  rintro e w' ⟨rfl, rfl⟩; refine hR.out _ _ (fun h => h) ?_; clear hR R; (try simp only [Act.put, qSa, qSz, qSs])
  (repeat (((with_reducible show wpSeq _ _ _ _ _ _ _); ((first | (refine St.copy (v := ?_) (by exact .inl rfl) rfl rfl ?_ ?_; rotate_left; (focus ((try simp only [Act.eval, getD_lit, qGz, qGs]); with_reducible rfl))) | (refine St.pure (v := ?_) rfl rfl rfl (fun w => ?_) ?_; rotate_left; (focus (go_simp; all_goals with_reducible rfl))) | refine St.load1 rfl rfl rfl rfl (by repeat constructor) (by rfl) (by kernel_rfl) ?_); (try simp only [Act.put, qSa, qSz, qSs])))))
  ((refine St.call rfl rfl rfl (by kernel_rfl) (fun R hR => ?_); simp only [List.map_toArray, List.map_cons, List.map_nil, Act.eval, getD_lit, qGz, qGs]))
  refine (fOwners_any (hM.fs (x := X.now) (β := β) (d := D.now) (by repeat (first | exact Part.here | apply Part.skip)) HI.out.now.inv HX.out F0) (by omega)).mono ?_
  rintro e w' ⟨s1, rfl, hk1, hN2⟩
  replace hM := hM.madeM hN2 (slL_flag _ _ _ _)
  refine hR.out _ _ (fun h => h.below hN2.to_below) ?_; clear hR R hN2
  (try simp only [Act.put, qSa, qSz, qSs])
  (repeat (fail))
  ((refine St.call rfl rfl rfl (by kernel_rfl) (fun R hR => ?_); simp only [List.map_toArray, List.map_cons, List.map_nil, Act.eval, getD_lit, qGz, qGs]))
  refine (contains_any hM hk1 o).mono ?_
  rintro e w' ⟨rfl, rfl⟩; refine hR.out _ _ (fun h => h) ?_; clear hR R hk1
  replace hM : St _ F _ ((ob, true, .cells [.int .i64 o] 3) :: (X.b, true, .cells [.pointer (some ⟨X.now.f, 0, none⟩), .pointer (some ⟨X.sure.f, 0, none⟩), slV X.s X.zs.length] 81) :: (fsL X.now β D.now ++ (logL X.s (X.zs.map LogV.val) ++ (fsL X.sure γ D.base ++ X.zs.flatMap LogV.ents)))) := hM.subM (List.sublist_append_right _ _)
  by_cases ho : o ∈ Fs.owners D.now
  · rw [List.contains_iff_mem.2 ho]
    (try simp only [Act.put, qSa, qSz, qSs])
    (repeat (first | ((with_reducible show wpSeq _ _ _ _ _ _ _); first | ((with_reducible refine wpSeq_nil ?_); refine hKr.out _ _ ?_; clear hKr Kr) | ((first | (refine St.copy (v := ?_) (by exact .inl rfl) rfl rfl ?_ ?_; rotate_left; (focus ((try simp only [Act.eval, getD_lit, qGz, qGs]); with_reducible rfl))) | (refine St.pure (v := ?_) rfl rfl rfl (fun w => ?_) ?_; rotate_left; (focus (go_simp; all_goals with_reducible rfl))) | refine St.load rfl hM rfl rfl rfl rfl (by repeat constructor) (by rfl) (by kernel_rfl) ?_ | refine St.load1 rfl rfl rfl rfl (by repeat constructor) (by rfl) (by kernel_rfl) ?_); (try simp only [Act.put, qSa, qSz, qSs]))) | (first | (refine wp_seq_shut (fun K hK => ?_)) | refine wp_skip ?_ | (refine wp_cond_false rfl ?_) | ((refine hK.out _ _ ?_); clear hK K)) | ((refine wp_drawn (id := 2) hM (Sub.all _) [3] [(0, 0), (1, 0), (2, 0), (3, 1), (4, 2), (5, 3)] (by kernel_rfl) (by kernel_rfl) ?_); (clear hM; intro w hM Kr hKr); simp only [opsOf, qGz, qGs])))
    (refine St.call3 rfl rfl (by kernel_rfl) (fun R hR => ?_); simp only [List.map_toArray, List.map_cons, List.map_nil, Act.eval, getD_lit, qGz, qGs])
    refine (fExit_any (hM.fs (x := X.now) (β := β) (d := D.now) (by repeat (first | exact Part.here | apply Part.skip)) HI.out.now.inv HX.out F0) hN HO.out).mono ?_
    rintro e w' ⟨rfl, ⟨β', hN2⟩, -⟩
    replace hM := hM.backM (M := fsL X.now β D.now) (by repeat (first | exact Swap.here | apply Swap.skip)) (fsL_flag _ _ _) hN2 (fsL_flag _ _ _)
    refine hR.out _ _ ?_; clear hR R hN2
    (try simp only [Act.put, qSa, qSz, qSs])
    (repeat (first | ((with_reducible show wpSeq _ _ _ _ _ _ _); first | ((with_reducible refine wpSeq_nil ?_); refine hKr.out _ _ ?_; clear hKr Kr) | ((first | (refine St.copy (v := ?_) (by exact .inl rfl) rfl rfl ?_ ?_; rotate_left; (focus ((try simp only [Act.eval, getD_lit, qGz, qGs]); with_reducible rfl))) | (refine St.pure (v := ?_) rfl rfl rfl (fun w => ?_) ?_; rotate_left; (focus (go_simp; all_goals with_reducible rfl)))); (try simp only [Act.put, qSa, qSz, qSs]))) | (first | (refine wp_text hM (fun Kr hKr => ?_); simp only [inText]) | ((refine hK.out _ _ ?_); clear hK K))))
    ((refine St.call rfl rfl rfl (by kernel_rfl) (fun R hR => ?_); simp only [List.map_toArray, List.map_cons, List.map_nil, Act.eval, getD_lit, qGz, qGs]))
    have hS : St _ F _ (_ :: dskE X.b X.now.f X.sure.f X.s X.zs.length :: ([] ++ (fsL X.now β' (Fs.exit D.now o) ++ (logL X.s (X.zs.map LogV.val) ++ (fsL X.sure γ D.base ++ X.zs.flatMap LogV.ents))))) := hM
    clear hM
    replace hS := hS.perm (perm_ex1 _ _ _ _ _ _)
    have hzl : X.zs.length ≤ 1000000000 := by
      have g1 := congrArg List.length HK.out.log
      rw [List.length_map] at g1
      obtain ⟨M0, -, g2⟩ := HI.out.base
      omega
    refine (logs_any HK.out.sl hzl (hS.part .here)).mono ?_
    rintro e w' ⟨rfl, s', hk', hN2⟩
    have hM := (hS.backM .here (fun y hy => by
      rcases List.mem_cons.1 hy with rfl | hy
      · rfl
      · exact slL_flag _ _ _ _ y hy) hN2 (fun y hy => by
      rcases List.mem_cons.1 hy with rfl | hy
      · rfl
      · exact slL_flag _ _ _ _ y hy))
    (refine hR.out _ _ (fun _ => ⟨hM.only, nofun⟩) ?_); clear hR R hS hN2
    have HK' := Lib.hid hk'
    clear hk'
    (try simp only [Act.put, qSa, qSz, qSs])
    (repeat (((with_reducible show wpSeq _ _ _ _ _ _ _); ((with_reducible refine wpSeq_nil ?_); refine hKr.out _ _ ?_; clear hKr Kr))))
    ((refine St.fin hM rfl (by repeat (exact Outs.nil)) rfl ?_))
    have e2 : DN = ⟨Fs.exit D.now o, D.base, D.log ++ [(o, none)]⟩ := by rw [← HD.out]; exact if_pos ho
    rw [e2]
    refine ⟨rfl, ⟨X.b, X.now, X.sure, s', X.zs ++ [((o, none), (ob, ob))]⟩, β', γ, rfl, ⟨?_, ?_⟩, ?_⟩
    · show List.map (fun z : LogV => z.1) (X.zs ++ [_]) = D.log ++ [_]
      rw [List.map_append, HK.out.log]
      rfl
    · show SlOK s' (X.zs ++ [_]).length ((X.zs ++ [_]).map LogV.val) 1
      rw [List.length_append, List.map_append]
      exact HK'.out
    · rw [dskL_snoc]
      exact (hM.perm (perm_ex3 _ _ _ [] _ _ _)).front
  · have hc : (Fs.owners D.now).contains o = false := by
      cases hq : (Fs.owners D.now).contains o with
      | false => rfl
      | true => exact absurd (List.contains_iff_mem.1 hq) ho
    rw [hc]
    have e2 : DN = D := by rw [← HD.out]; exact if_neg ho
    subst e2
    (try simp only [Act.put, qSa, qSz, qSs])
    (repeat (first | ((with_reducible show wpSeq _ _ _ _ _ _ _); first | ((with_reducible refine wpSeq_nil ?_); refine hKr.out _ _ ?_; clear hKr Kr) | (((refine St.pure (v := ?_) rfl rfl rfl (fun w => ?_) ?_; rotate_left; (focus (go_simp; all_goals with_reducible rfl)))); (try simp only [Act.put, qSa, qSz, qSs]))) | (first | (refine wp_cond_true rfl ?_) | ((refine hK.out _ _ ?_); clear hK K))))
    ((refine wp_ret ?_; (try simp only [Exit.then, Exit.inBlock]); refine St.ret hM rfl (by repeat (exact Outs.nil)) rfl ?_))
    exact ⟨rfl, X, β, γ, rfl, HK.out, hM.forget⟩
theorem perm_cl {α : Type} (n : α) (a b r : List α) : (n :: (a ++ (b ++ r))).Perm ((n :: (b ++ a)) ++ r) := (perm_by (by intro _ x; simp only [List.append_eq, List.count_append, List.count_cons, List.count_nil, List.cons_append, List.nil_append]; omega))
set_option maxHeartbeats 16000000 in
set_option maxRecDepth 100000 in
/-- A slice of logged entries, copied. -/
theorem cloneE_any {vs : List Value} (hk : SlOK s n vs 1) (h1 : vs.all (·.oneCell') = true) (hn : n ≤ 1000000000) (hA : At (logL s vs) w) : Calls Tryz.prog 77 #[slV s n] w fun e w' => ∃ s', e = .returned (slV s' n) ∧ SlOK s' n vs 1 ∧ St w [] w' (logL s' vs) := by
  have hM := hA.ro
  rcases s with _ | ⟨g, cap⟩
  · obtain ⟨hl, rfl⟩ := hk
    have hv : vs = [] := List.eq_nil_of_length_eq_zero (by omega)
    subst hv
    clear hM
    have hM := St.start w []
    simp only [slV]
    go_enter Tryz.func77, Tryz.ntmps77
    (repeat (first | ((with_reducible show wpSeq _ _ _ _ _ _ _); first | ((with_reducible refine wpSeq_nil ?_); refine hKr.out _ _ ?_; clear hKr Kr) | (((refine St.copy (v := ?_) (by first | exact .inl rfl | exact .inr rfl) rfl rfl ?_ ?_; rotate_left; (focus ((try simp only [Act.eval, getD_lit, qGz, qGs]); with_reducible rfl)))); (try simp only [Act.put, qSa, qSz, qSs]))) | (first | (refine wp_seq_shut (fun K hK => ?_)) | (refine wp_text hM (fun Kr hKr => ?_); simp only [inText]) | ((refine hK.out _ _ ?_); clear hK K))))
    refine St.pure (v := .bool true) rfl rfl rfl (fun w => ?_) ?_
    · go_simp
      rw [Lib.run_eql_slice_nil (h := Tryz.underlying79)]
      rfl
    (try simp only [Act.put, qSa, qSz, qSs])
    (repeat (first | ((with_reducible show wpSeq _ _ _ _ _ _ _); first | ((with_reducible refine wpSeq_nil ?_); refine hKr.out _ _ ?_; clear hKr Kr) | (((refine St.copy (v := ?_) (by exact .inr rfl) rfl rfl ?_ ?_; rotate_left; (focus ((try simp only [Act.eval, getD_lit, qGz, qGs]); with_reducible rfl)))); (try simp only [Act.put, qSa, qSz, qSs]))) | (first | (refine wp_seq_shut (fun K hK => ?_)) | (refine wp_text hM (fun Kr hKr => ?_); simp only [inText]) | (refine wp_cond_true rfl ?_) | ((refine hK.out _ _ ?_); clear hK K))))
    ((refine wp_ret ?_; (try simp only [Exit.then, Exit.inBlock]); refine St.ret hM rfl (by repeat (first | exact Outs.nil | apply Outs.tmp rfl)) rfl ?_))
    exact ⟨none, rfl, ⟨rfl, rfl⟩, hM⟩
  · have HK := Lib.hid hk
    clear hk
    simp only [slL, List.map_cons, List.map_nil, unflag] at hM
    simp only [slV]
    go_enter Tryz.func77, Tryz.ntmps77
    (repeat (first | ((with_reducible show wpSeq _ _ _ _ _ _ _); first | ((with_reducible refine wpSeq_nil ?_); refine hKr.out _ _ ?_; clear hKr Kr) | (((refine St.copy (v := ?_) (by first | exact .inl rfl | exact .inr rfl) rfl rfl ?_ ?_; rotate_left; (focus ((try simp only [Act.eval, getD_lit, qGz, qGs]); with_reducible rfl)))); (try simp only [Act.put, qSa, qSz, qSs]))) | (first | (refine wp_seq_shut (fun K hK => ?_)) | (refine wp_text hM (fun Kr hKr => ?_); simp only [inText]) | ((refine hK.out _ _ ?_); clear hK K))))
    refine St.pure (v := .bool false) rfl rfl rfl (fun w => ?_) ?_
    · go_simp
      rw [Lib.run_eql_slice_nil (h := Tryz.underlying79)]
      rfl
    (try simp only [Act.put, qSa, qSz, qSs])
    (repeat (first | ((with_reducible show wpSeq _ _ _ _ _ _ _); first | ((with_reducible refine wpSeq_nil ?_); refine hKr.out _ _ ?_; clear hKr Kr) | ((first | (refine St.copy (v := ?_) (by exact .inl rfl) rfl rfl ?_ ?_; rotate_left; (focus ((try simp only [Act.eval, getD_lit, qGz, qGs]); with_reducible rfl))) | (((((refine St.buildSlice (cells := ?_) (e := ?_) rfl hM rfl rfl (fun w => ?_) ?_; rotate_left 2; (focus (go_simp; all_goals with_reducible rfl)))); clear hM; intro w bk hM)); (try simp only [Res.put, Res.known, Act.eval, Value.cells, getD_lit, qGz, qGs, List.toList_toArray, qSz, qSs, over, Nat.reduceAdd] at hM))); (try simp only [Act.put, qSa, qSz, qSs]))) | (first | (refine wp_seq_shut (fun K hK => ?_)) | (refine wp_text hM (fun Kr hKr => ?_); simp only [inText]) | refine wp_skip ?_ | (refine wp_cond_false rfl ?_) | ((refine hK.out _ _ ?_); clear hK K))))
    replace hM := hM.weaken (r' := .pre [] 138 (0 * 1)) (L' := slL (some (bk, 0)) [] 138 1 ++ [(g, false, Res.pre vs 138 (cap * 1))]) Upd.head (Res.toPre rfl)
    have hlen := HK.out.1
    refine St.append (s := some (bk, 0)) (n := 0) (xs := []) (m := n) (news := vs) rfl hM rfl rfl rfl rfl rfl (by kernel_rfl) (by intro s'; repeat (exact Swap.here)) ⟨rfl, Nat.le_refl _, Nat.zero_le _⟩ hlen (hM.news (b := g) (ow := false) (r := .pre vs 138 (cap * 1)) (.tail _ (.head _))) h1 (by rw [maxLen_val]; omega) (by omega) (fun h => by cases h) ?_
    clear hM; intro w s' hM hk' _
    rw [List.nil_append] at hM hk'
    rw [Nat.zero_add] at hk' ⊢
    (try simp only [Act.put, qSa, qSz, qSs])
    (repeat (first | ((with_reducible show wpSeq _ _ _ _ _ _ _); first | ((with_reducible refine wpSeq_nil ?_); refine hKr.out _ _ ?_; clear hKr Kr) | (((refine St.copy (v := ?_) (by exact .inr rfl) rfl rfl ?_ ?_; rotate_left; (focus ((try simp only [Act.eval, getD_lit, qGz, qGs]); with_reducible rfl)))); (try simp only [Act.put, qSa, qSz, qSs]))) | (((refine hK.out _ _ ?_); clear hK K))))
    ((refine wp_ret ?_; (try simp only [Exit.then, Exit.inBlock]); refine St.ret hM rfl (by repeat (first | exact Outs.nil | apply Outs.tmp rfl)) rfl ?_))
    exact ⟨s', rfl, hk', hM.front⟩
set_option maxHeartbeats 16000000 in
set_option maxRecDepth 100000 in
/-- A disk of its own with the same files, what is sure shared. -/
theorem dClone_any {vs : List Value} (hk : SlOK s n vs 1) (h1 : vs.all (·.oneCell') = true) (hn : n ≤ 1000000000) (hN : N ≤ 1000000000) (h : (dskE b x.f g s n).2.2.holds w.heap[b]?) (hA : FsAt N x β d w) (hL : At (logL s vs) w) :
    Calls Tryz.prog 27 #[.pointer (some ⟨b, 0, none⟩)] w fun e w' => ∃ c x' γ s', e = .returned (.pointer (some ⟨c, 0, none⟩)) ∧ SlOK s' n vs 1 ∧ St w [] w' (dskE c (FsX.f x') g s' n :: (fsL x' γ d ++ logL s' vs)) := by
  have hM := St.one h
  have HW := Lib.hid h
  unfold dskE at hM
  obtain ⟨va, vc, hv, -⟩ := slV_open hk
  rw [hv] at hM
  go_enter Tryz.func27, Tryz.ntmps27
  (repeat (first | ((with_reducible show wpSeq _ _ _ _ _ _ _); first | ((with_reducible refine wpSeq_nil ?_); refine hKr.out _ _ ?_; clear hKr Kr) | (((refine St.copy (v := ?_) (by first | exact .inl rfl | exact .inr rfl) rfl rfl ?_ ?_; rotate_left; (focus ((try simp only [Act.eval, getD_lit, qGz, qGs]); with_reducible rfl)))); (try simp only [Act.put, qSa, qSz, qSs]))) | (first | (refine wp_seq_shut (fun K hK => ?_)) | (refine wp_text hM (fun Kr hKr => ?_); simp only [inText]) | ((refine hK.out _ _ ?_); clear hK K))))
  ((refine St.call rfl rfl rfl (by kernel_rfl) (fun R hR => ?_); simp only [List.map_toArray, List.map_cons, List.map_nil, Act.eval, getD_lit, qGz, qGs]))
  refine (dgiven_any (hM.only.holds HW.out)).mono ?_
  rintro e w' ⟨rfl, rfl⟩; refine hR.out _ _ (fun h => h) ?_; clear hR R; (try simp only [Act.put, qSa, qSz, qSs])
  (repeat (first | ((with_reducible show wpSeq _ _ _ _ _ _ _); first | ((with_reducible refine wpSeq_nil ?_); refine hKr.out _ _ ?_; clear hKr Kr) | ((first | (refine St.copy (v := ?_) (by exact .inl rfl) rfl rfl ?_ ?_; rotate_left; (focus ((try simp only [Act.eval, getD_lit, qGz, qGs]); with_reducible rfl))) | (refine St.pure (v := ?_) rfl rfl rfl (fun w => ?_) ?_; rotate_left; (focus (go_simp; all_goals with_reducible rfl))) | refine St.load1 rfl rfl rfl rfl (by repeat constructor) (by rfl) (by kernel_rfl) ?_); (try simp only [Act.put, qSa, qSz, qSs]))) | (first | (refine wp_seq_shut (fun K hK => ?_)) | refine wp_skip ?_ | (refine wp_cond_false rfl ?_) | ((refine hK.out _ _ ?_); clear hK K)) | ((refine wp_drawn (id := 3) hM (Sub.all _) [3, 8, 12] [(0, 0), (1, 0), (2, 0), (3, 1), (5, 0), (6, 0), (7, 0), (8, 1), (9, 0), (10, 0), (11, 0), (12, 1), (4, 2), (13, 2), (14, 2), (15, 2), (16, 3)] (by kernel_rfl) (by kernel_rfl) ?_); (clear hM; intro w hM Kr hKr); simp only [opsOf, qGz, qGs])))
  ((refine St.call rfl rfl rfl (by kernel_rfl) (fun R hR => ?_); simp only [List.map_toArray, List.map_cons, List.map_nil, Act.eval, getD_lit, qGz, qGs]))
  refine (fClone_any (hA.below hM.to_below) hN).mono ?_
  rintro e w' ⟨x', γ, rfl, hN2⟩
  replace hM := hM.madeM hN2 (fsL_flag _ _ _)
  refine hR.out _ _ (fun h => h.below hN2.to_below) ?_; clear hR R hN2; (try simp only [Act.put, qSa, qSz, qSs])
  (repeat (fail))
  ((refine St.call rfl rfl rfl (by kernel_rfl) (fun R hR => ?_); simp only [List.map_toArray, List.map_cons, List.map_nil, Act.eval, getD_lit, qGz, qGs]))
  rw [← hv]
  refine (cloneE_any hk h1 hn (hL.below hM.to_below)).mono ?_
  rintro e w' ⟨s', rfl, hk', hN2⟩
  replace hM := hM.madeM hN2 (slL_flag _ _ _ _)
  refine hR.out _ _ (fun h => h.below hN2.to_below) ?_; clear hR R hN2
  obtain ⟨va', vc', hv', -⟩ := slV_open hk'
  rw [hv']
  (try simp only [Act.put, qSa, qSz, qSs])
  (repeat (first | ((with_reducible show wpSeq _ _ _ _ _ _ _); first | ((with_reducible refine wpSeq_nil ?_); refine hKr.out _ _ ?_; clear hKr Kr) | ((first | (refine St.copy (v := ?_) (by exact .inr rfl) rfl rfl ?_ ?_; rotate_left; (focus ((try simp only [Act.eval, getD_lit, qGz, qGs]); with_reducible rfl))) | (refine St.pure (v := ?_) rfl rfl rfl (fun w => ?_) ?_; rotate_left; (focus (go_simp; all_goals with_reducible rfl))) | ((((refine St.box rfl hM rfl rfl rfl ?_); clear hM; intro w bk hM)); (try simp only [Res.put, Res.known, Act.eval, Value.cells, getD_lit, qGz, qGs, List.toList_toArray, qSz, qSs, over, Nat.reduceAdd] at hM))); (try simp only [Act.put, qSa, qSz, qSs]))) | (((refine hK.out _ _ ?_); clear hK K))))
  ((refine wp_ret ?_; (try simp only [Exit.then, Exit.inBlock]); refine St.ret hM rfl (by repeat (first | exact Outs.nil | apply Outs.tmp rfl)) rfl ?_))
  rw [← hv'] at hM
  refine ⟨bk, x', γ, s', rfl, hk', ?_⟩
  exact St.front (M := dskE bk x'.f g s' n :: (fsL x' γ d ++ logL s' vs)) (hM.perm (perm_cl _ _ _ _))
end
end Go.Proofs.YtcicjklhbnipcaaGreatDoor
