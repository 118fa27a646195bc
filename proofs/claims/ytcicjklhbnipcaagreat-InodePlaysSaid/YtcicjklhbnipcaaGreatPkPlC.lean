/-
  Texts laid one behind the other: what RgS asks for.
-/
import Derived.Test.YtcicjklhbnipcaaGreatPkPlB
import Derived.ChangeKeysEq
namespace Go.Proofs.YtcicjklhbnipcaaGreat
set_option linter.unusedVariables false
set_option linter.unusedSimpArgs false
open Go.RowKit Go.Maps
section
variable {w w' w0 : World} {zs : List NodV} {x : RX} {q nx : Int}
theorem sum_step {zs : List NodV} {k : Nat} {z : NodV} (h : zs[k]? = some z) : In.sum ((zs.take (k + 1)).map (·.1)) = In.sum ((zs.take k).map (·.1)) + (64 + z.1.data.size) := by
  unfold In.sum In.cost
  rw [List.take_add_one, h, Option.toList_some, List.map_append, List.map_append, List.sum_append]
  simp
theorem sum_bound : ∀ {zs : List NodV}, (∀ z ∈ zs, z.1.data.size ≤ 1048576) → In.sum (zs.map (·.1)) ≤ zs.length * 1048640
  | [], _ => Nat.le_refl _
  | z :: r, h => by
    have := sum_bound (zs := r) fun y hy => h y (.tail _ hy)
    have h1 := h z (.head _)
    unfold In.sum In.cost at this ⊢
    rw [List.map_cons, List.map_cons, List.sum_cons, List.length_cons]
    omega
set_option maxHeartbeats 8000000 in
set_option maxRecDepth 100000 in
/-- What is taken. -/
theorem rUsed_any (h : RRaw x q nx zs w0) (hd : ∀ z ∈ zs, z.1.data.size ≤ 1048576) : Calls Tryz.prog 12 #[.pointer (some ⟨x.g, 0, none⟩)] w0 fun e w' => e = .returned (.int .i64 (In.sum (zs.map (·.1)) : Nat)) ∧ Below w0.heap.size w0 w' := by
  have hM := St.start w0 []
  have hrow := h.row
  have hln := h.len
  have hsl := h.sl
  have hnd := h.nod
  have HNM := Lib.hid h.names
  have HD := Lib.hid hd
  clear h hd
  obtain ⟨xg, xs⟩ := x
  simp only at hrow hsl hnd ⊢
  obtain ⟨va, vc, hv, hva⟩ := slV_open hsl
  rw [hv] at hrow
  have c2 : w0.cell? ⟨xg, 2, none⟩ = some (.slice va zs.length vc) := hrow 2 _ rfl
  have HN := Lib.hid hnd
  have HS := Lib.hid hsl
  clear hrow hnd hsl hv
  go_enter Tryz.func12, Tryz.ntmps12
  (repeat (first | ((with_reducible show wpSeq _ _ _ _ _ _ _); first | ((with_reducible refine wpSeq_nil ?_); refine hKr.out _ _ ?_; clear hKr Kr) | (((refine St.copy (v := ?_) (by exact .inr rfl) rfl rfl ?_ ?_; rotate_left; (focus ((try simp only [Act.eval, getD_lit, qGz, qGs]); with_reducible rfl)))); (try simp only [Act.put, qSa, qSz, qSs]))) | (first | (refine wp_seq_shut (fun K hK => ?_)) | (refine wp_text hM (fun Kr hKr => ?_); simp only [List.append_eq, List.cons_append, List.nil_append, inText]) | refine wp_block ?_ | ((refine hK.out _ _ ?_); clear hK K))))
  go_loopw [3, 4] (fun n i wr => ∃ k : Nat, k ≤ zs.length ∧ i = .int .i64 k ∧ n = .int .i64 (In.sum ((zs.take k).map (·.1)) : Nat) ∧ St w0 [] wr []) (fun _ i _ => zs.length - (intOf i).toNat)
  case atStart => exact ⟨0, by omega, rfl, rfl, hM⟩
  case round =>
    clear hM
    obtain ⟨k, hk, rfl, rfl, hM⟩ := hrel
    by_cases hlt : k < zs.length
    · obtain ⟨z, hz⟩ := get_at hlt
      have k1 : (k : Int) < (zs.length : Int) := by omega
      rcases xs with _ | ⟨g1, cap1⟩
      · exact absurd HS.out.2 (by omega)
      obtain ⟨rfl, rfl⟩ := hva g1 cap1 rfl
      have r1 := node_row HN.out hz
      unfold NodV.cells at r1
      have c4 : w0.cell? ⟨g1, k * 6 + 4, none⟩ = some (.string z.1.data) := r1 4 _ rfl
      have HSM := Lib.hid (sum_step hz)
      have b1 := sum_bound (zs := zs.take k) fun y hy => HD.out y (List.take_subset _ _ hy)
      rw [List.length_take] at b1
      have b2 := HD.out z (List.mem_of_getElem? hz)
      clear hz r1
      generalize In.sum ((zs.take k).map (·.1)) = S at *
      have HSV := Lib.hid (show IntKind.i64.wrap (IntKind.i64.wrap ((S : Int) + 64) + (z.1.data.size : Int)) = ((In.sum ((zs.take (k + 1)).map (·.1)) : Nat) : Int) from by
        rw [HSM.out, wrap_in ((S : Int) + 64) (by omega), wrap_in _ (by omega)]
        omega)
      clear HSM
      (repeat (first | ((with_reducible show wpSeq _ _ _ _ _ _ _); first | ((with_reducible refine wpSeq_nil ?_); refine hKr.out _ _ ?_; clear hKr Kr) | ((first | (refine St.copy (v := ?_) (by first | exact .inl rfl | exact .inr rfl) rfl rfl ?_ ?_; rotate_left; (focus ((try simp only [Act.eval, getD_lit, qGz, qGs]); with_reducible rfl))) | refine St.inc rfl rfl rfl rfl rfl (by omega) ?_ | (refine St.pure (v := ?_) rfl rfl rfl (fun w => ?_) ?_; rotate_left; (focus (go_simp; all_goals with_reducible rfl))) | refine St.loadF rfl rfl rfl rfl rfl (only_cell hM.only (by assumption) (by exact List.not_mem_nil)) (by kernel_rfl) ?_); (try simp only [Act.put, qSa, qSz, qSs]))) | (first | (refine wp_seq_shut (fun K hK => ?_)) | (refine wp_text hM (fun Kr hKr => ?_); simp only [List.append_eq, List.cons_append, List.nil_append, inText]) | refine wp_block ?_ | refine wp_skip ?_ | (refine wp_cond_true rfl ?_) | ((refine hK.out _ _ ?_); clear hK K))))
      (try simp only [Exit.then])
      (refine ⟨?_, ?_⟩; (focus (repeat (first | exact ⟨⟨k + 1, by omega, rfl, by rw [HSV.out], hM⟩, rfl⟩ | apply Exists.intro))); (simp only [getD_lit, qGz, qGs, intOf]; omega))
    · have k0 : ¬ ((k : Int) < (zs.length : Int)) := by omega
      obtain rfl : k = zs.length := by omega
      rw [List.take_length]
      clear hlt hk
      (repeat (first | ((with_reducible show wpSeq _ _ _ _ _ _ _); first | ((with_reducible refine wpSeq_nil ?_); refine hKr.out _ _ ?_; clear hKr Kr) | ((first | (refine St.copy (v := ?_) (by first | exact .inl rfl | exact .inr rfl) rfl rfl ?_ ?_; rotate_left; (focus ((try simp only [Act.eval, getD_lit, qGz, qGs]); with_reducible rfl))) | (refine St.pure (v := ?_) rfl rfl rfl (fun w => ?_) ?_; rotate_left; (focus (go_simp; all_goals with_reducible rfl))) | refine St.loadF rfl rfl rfl rfl rfl (only_cell hM.only (by assumption) (by exact List.not_mem_nil)) (by kernel_rfl) ?_); (try simp only [Act.put, qSa, qSz, qSs]))) | (first | (refine wp_seq_shut (fun K hK => ?_)) | (refine wp_text hM (fun Kr hKr => ?_); simp only [List.append_eq, List.cons_append, List.nil_append, inText]) | (refine wp_cond_false rfl ?_) | (refine wp_exit ?_; simp only [Exit.then, Exit.inBlock, if_true, if_false, reduceCtorEq, Nat.reduceEqDiff, Nat.succ_ne_zero]) | ((first | refine hK.out _ _ ?_ | (clear hK K; refine hK.out _ _ ?_)); clear hK K))))
      ((refine wp_ret ?_; (try simp only [Exit.then, Exit.inBlock]); refine St.ret hM rfl (by repeat (first | exact Outs.nil | apply Outs.tmp rfl)) rfl ?_))
      exact ⟨rfl, hM.to_below⟩
end
end Go.Proofs.YtcicjklhbnipcaaGreat
namespace Go.Proofs.YtcicjklhbnipcaaGreat
set_option linter.unusedVariables false
set_option linter.unusedSimpArgs false
open Go.RowKit Go.Maps
section
variable {w w' w0 : World} {zs : List NodV} {x : RX} {q nx : Int}
def badN (c : UInt8) : Bool := c == 0 || c == 47
theorem isName_bad {s : ByteArray} (h : s.data.toList.any badN = true) : In.isName s = false := by
  unfold In.isName
  rw [show (s.data.toList.any fun c => c == 0 || c == 47) = true from h]
  simp
theorem isName_good {s : ByteArray} (h : s.data.toList.any badN = false) : In.isName s = (decide (1 ≤ s.size) && decide (s.size ≤ 32) && !(s.data.toList == [46]) && !(s.data.toList == [46, 46])) := by
  unfold In.isName
  rw [show (s.data.toList.any fun c => c == 0 || c == 47) = false from h]
  simp
set_option maxHeartbeats 8000000 in
set_option maxRecDepth 100000 in
theorem rIsName_any (s : ByteArray) (w : World) (hs : s.size ≤ 1000000000) : Calls Tryz.prog 70 #[.string s] w fun e w' => e = .returned (.bool (In.isName s)) ∧ Below w.heap.size w w' := by
  have hM := St.start w []
  have hz : s.size = s.data.toList.length := Lib.size_eq s
  obtain ⟨B, hB⟩ : ∃ B, In.isName s = B := ⟨_, rfl⟩
  rw [hB]
  have HB := Lib.hid hB
  clear hB
  generalize hl : s.data.toList = l at *
  have HL := Lib.hid hl
  have HZ := Lib.hid hz
  clear hz
  go_enter Tryz.func70, Tryz.ntmps70
  (repeat (first | ((with_reducible show wpSeq _ _ _ _ _ _ _); first | ((with_reducible refine wpSeq_nil ?_); refine hKr.out _ _ ?_; clear hKr Kr) | (((refine St.copy (v := ?_) (by exact .inr rfl) rfl rfl ?_ ?_; rotate_left; (focus ((try simp only [Act.eval, getD_lit, qGz, qGs]); with_reducible rfl)))); (try simp only [Act.put, qSa, qSz, qSs]))) | (first | (refine wp_seq_shut (fun K hK => ?_)) | (refine wp_text hM (fun Kr hKr => ?_); simp only [inText]) | refine wp_block ?_ | ((refine hK.out _ _ ?_); clear hK K))))
  go_loopw [3] (fun i wr => ∃ k : Nat, k ≤ l.length ∧ i = .int .i64 k ∧ Hid ((l.take k).any badN = false) ∧ St w [] wr []) (fun i _ => l.length - (intOf i).toNat)
  case atStart => exact ⟨0, by omega, rfl, Lib.hid rfl, hM⟩
  case round =>
    clear hM
    obtain ⟨k, hk, rfl, HF, hM⟩ := hrel
    by_cases hlt : k < l.length
    · obtain ⟨c, hc⟩ := get_at hlt
      have hc' : s.data.toList[k]? = some c := by rw [hl]; exact hc
      have k1 : (k : Int) < (s.size : Int) := by have := HZ.out; omega
      have hkp : k < s.size := by have := HZ.out; omega
      have hpc : s[k]'hkp = c := by
        have := (List.getElem?_eq_some_iff.1 hc').2
        rw [← this]
        rfl
      have ht : (l.take (k + 1)).any badN = ((l.take k).any badN || badN c) := by rw [List.take_add_one, hc, Option.toList_some, List.any_append]; simp
      rw [HF.out, Bool.false_or] at ht
      by_cases h0 : c = 0
      · subst h0
        have q0 : (((s[k]'hkp).toNat : Int) == 0) = true := by rw [hpc]; rfl
        have HE := Lib.hid (show B = false by
          rw [← HB.out]
          refine isName_bad ?_
          rw [HL.out, List.any_eq_true]
          exact ⟨0, List.mem_of_getElem? hc, rfl⟩)
        clear hpc hc hc' ht HF
        (repeat (first | ((with_reducible show wpSeq _ _ _ _ _ _ _); first | ((with_reducible refine wpSeq_nil ?_); refine hKr.out _ _ ?_; clear hKr Kr) | ((first | (refine St.copy (v := ?_) (by first | exact .inl rfl | exact .inr rfl) rfl rfl ?_ ?_; rotate_left; (focus ((try simp only [Act.eval, getD_lit, qGz, qGs]); with_reducible rfl))) | (refine St.pure (v := ?_) rfl rfl rfl (fun w => ?_) ?_; rotate_left; (focus (go_simp; all_goals with_reducible rfl))) | refine wpSeq_off rfl rfl ?_); (try simp only [Act.put, qSa, qSz, qSs]))) | (first | (refine wp_seq_shut (fun K hK => ?_)) | (refine wp_text hM (fun Kr hKr => ?_); simp only [inText]) | refine wp_block ?_ | refine wp_skip ?_ | (refine wp_cond_true rfl ?_) | ((refine hK.out _ _ ?_); clear hK K))))
        ((refine wp_ret ?_; (try simp only [Exit.then, Exit.inBlock]); refine St.ret hM rfl (by repeat (first | exact Outs.nil | apply Outs.tmp rfl)) rfl ?_))
        exact ⟨by rw [HE.out]; rfl, hM.to_below⟩
      · have q0 : (((s[k]'hkp).toNat : Int) == 0) = false := by
          rw [hpc, beq_eq_false_iff_ne]
          intro e
          apply h0
          have : c.toNat = 0 := by omega
          exact UInt8.toNat_inj.1 this
        by_cases h47 : c = 47
        · subst h47
          have q1 : (((s[k]'hkp).toNat : Int) == 47) = true := by rw [hpc]; rfl
          have HE := Lib.hid (show B = false by
            rw [← HB.out]
            refine isName_bad ?_
            rw [HL.out, List.any_eq_true]
            exact ⟨47, List.mem_of_getElem? hc, rfl⟩)
          clear hpc hc hc' ht HF h0
          (repeat (first | ((with_reducible show wpSeq _ _ _ _ _ _ _); first | ((with_reducible refine wpSeq_nil ?_); refine hKr.out _ _ ?_; clear hKr Kr) | ((first | (refine St.copy (v := ?_) (by first | exact .inl rfl | exact .inr rfl) rfl rfl ?_ ?_; rotate_left; (focus ((try simp only [Act.eval, getD_lit, qGz, qGs]); with_reducible rfl))) | (refine St.pure (v := ?_) rfl rfl rfl (fun w => ?_) ?_; rotate_left; (focus (go_simp; all_goals with_reducible rfl)))); (try simp only [Act.put, qSa, qSz, qSs]))) | (first | (refine wp_seq_shut (fun K hK => ?_)) | (refine wp_text hM (fun Kr hKr => ?_); simp only [inText]) | refine wp_block ?_ | refine wp_skip ?_ | (refine wp_cond_true rfl ?_) | ((refine hK.out _ _ ?_); clear hK K))))
          ((refine wp_ret ?_; (try simp only [Exit.then, Exit.inBlock]); refine St.ret hM rfl (by repeat (first | exact Outs.nil | apply Outs.tmp rfl)) rfl ?_))
          exact ⟨by rw [HE.out]; rfl, hM.to_below⟩
        · have q1 : (((s[k]'hkp).toNat : Int) == 47) = false := by
            rw [hpc, beq_eq_false_iff_ne]
            intro e
            apply h47
            have : c.toNat = 47 := by omega
            exact UInt8.toNat_inj.1 this
          have HF2 := Lib.hid (show (l.take (k + 1)).any badN = false by rw [ht]; simp [badN, h0, h47])
          clear hpc hc hc' ht HF h0 h47
          (repeat (first | ((with_reducible show wpSeq _ _ _ _ _ _ _); first | ((with_reducible refine wpSeq_nil ?_); refine hKr.out _ _ ?_; clear hKr Kr) | ((first | (refine St.copy (v := ?_) (by first | exact .inl rfl | exact .inr rfl) rfl rfl ?_ ?_; rotate_left; (focus ((try simp only [Act.eval, getD_lit, qGz, qGs]); with_reducible rfl))) | refine St.inc rfl rfl rfl rfl rfl (by omega) ?_ | (refine St.pure (v := ?_) rfl rfl rfl (fun w => ?_) ?_; rotate_left; (focus (go_simp; all_goals with_reducible rfl)))); (try simp only [Act.put, qSa, qSz, qSs]))) | (first | (refine wp_seq_shut (fun K hK => ?_)) | (refine wp_text hM (fun Kr hKr => ?_); simp only [inText]) | refine wp_block ?_ | refine wp_skip ?_ | (first | refine wp_cond_true rfl ?_ | refine wp_cond_false rfl ?_) | ((refine hK.out _ _ ?_); clear hK K))))
          (try simp only [Exit.then])
          (refine ⟨?_, ?_⟩; (focus (repeat (first | exact ⟨⟨k + 1, by omega, rfl, HF2, hM⟩, rfl⟩ | apply Exists.intro))); (simp only [getD_lit, qGz, qGs, intOf]; omega))
    · have k0 : ¬ ((k : Int) < (s.size : Int)) := by have := HZ.out; omega
      obtain rfl : k = l.length := by omega
      have HF' := HF.out
      rw [List.take_length] at HF'
      have hg := isName_good (s := s) (by rw [HL.out]; exact HF')
      rw [HB.out, HL.out] at hg
      have HG := Lib.hid hg
      clear hlt hk HF HF' hg hl
      by_cases h1 : 1 ≤ s.size
      · have e1 : decide ((1 : Int) ≤ (s.size : Int)) = true := decide_eq_true (by omega)
        by_cases h2 : s.size ≤ 32
        · have e2 : decide ((s.size : Int) ≤ (32 : Int)) = true := decide_eq_true (by omega)
          by_cases h3 : s = ⟨#[46]⟩
          · have e3 := beqs_yes (s := s) (l := [46]) (by rw [h3])
            have HE := Lib.hid (show B = false by rw [HG.out, ← HL.out, h3]; simp)
            clear h1 h2 h3
            (repeat (first | ((with_reducible show wpSeq _ _ _ _ _ _ _); first | ((with_reducible refine wpSeq_nil ?_); refine hKr.out _ _ ?_; clear hKr Kr) | ((first | (refine St.copy (v := ?_) (by first | exact .inl rfl | exact .inr rfl) rfl rfl ?_ ?_; rotate_left; (focus ((try simp only [Act.eval, getD_lit, qGz, qGs]); with_reducible rfl))) | (refine St.pure (v := ?_) rfl rfl rfl (fun w => ?_) ?_; rotate_left; (focus (go_simp; all_goals with_reducible rfl))) | refine wpSeq_off rfl rfl ?_); (try simp only [Act.put, qSa, qSz, qSs]))) | (first | (refine wp_seq_shut (fun K hK => ?_)) | (refine wp_text hM (fun Kr hKr => ?_); simp only [inText]) | (refine wp_cond_false rfl ?_) | (refine wp_exit ?_; simp only [Exit.then, Exit.inBlock, if_true, if_false, reduceCtorEq, Nat.reduceEqDiff, Nat.succ_ne_zero]) | ((first | refine hK.out _ _ ?_ | (clear hK K; refine hK.out _ _ ?_)); clear hK K))))
            ((refine wp_ret ?_; (try simp only [Exit.then, Exit.inBlock]); refine St.ret hM rfl (by repeat (first | exact Outs.nil | apply Outs.tmp rfl)) rfl ?_))
            exact ⟨by rw [HE.out]; rfl, hM.to_below⟩
          · have e3 := beqs_no (s := s) (l := [46]) (fun e => h3 (Pt.ba_ext e))
            by_cases h4 : s = ⟨#[46, 46]⟩
            · have e4 := beqs_yes (s := s) (l := [46, 46]) (by rw [h4])
              have HE := Lib.hid (show B = false by rw [HG.out, ← HL.out, h4]; simp)
              clear h1 h2 h3 h4
              (repeat (first | ((with_reducible show wpSeq _ _ _ _ _ _ _); first | ((with_reducible refine wpSeq_nil ?_); refine hKr.out _ _ ?_; clear hKr Kr) | ((first | (refine St.copy (v := ?_) (by first | exact .inl rfl | exact .inr rfl) rfl rfl ?_ ?_; rotate_left; (focus ((try simp only [Act.eval, getD_lit, qGz, qGs]); with_reducible rfl))) | (refine St.pure (v := ?_) rfl rfl rfl (fun w => ?_) ?_; rotate_left; (focus (go_simp; all_goals with_reducible rfl)))); (try simp only [Act.put, qSa, qSz, qSs]))) | (first | (refine wp_seq_shut (fun K hK => ?_)) | (refine wp_text hM (fun Kr hKr => ?_); simp only [inText]) | (refine wp_cond_false rfl ?_) | (refine wp_exit ?_; simp only [Exit.then, Exit.inBlock, if_true, if_false, reduceCtorEq, Nat.reduceEqDiff, Nat.succ_ne_zero]) | ((first | refine hK.out _ _ ?_ | (clear hK K; refine hK.out _ _ ?_)); clear hK K))))
              ((refine wp_ret ?_; (try simp only [Exit.then, Exit.inBlock]); refine St.ret hM rfl (by repeat (first | exact Outs.nil | apply Outs.tmp rfl)) rfl ?_))
              exact ⟨by rw [HE.out]; rfl, hM.to_below⟩
            · have e4 := beqs_no (s := s) (l := [46, 46]) (fun e => h4 (Pt.ba_ext e))
              have HE := Lib.hid (show B = true by
                have n3 : l ≠ [46] := fun e => h3 (Pt.ba_ext (by rw [HL.out, e]))
                have n4 : l ≠ [46, 46] := fun e => h4 (Pt.ba_ext (by rw [HL.out, e]))
                rw [HG.out]
                simp [h1, h2, n3, n4])
              clear h1 h2 h3 h4
              (repeat (first | ((with_reducible show wpSeq _ _ _ _ _ _ _); first | ((with_reducible refine wpSeq_nil ?_); refine hKr.out _ _ ?_; clear hKr Kr) | ((first | (refine St.copy (v := ?_) (by first | exact .inl rfl | exact .inr rfl) rfl rfl ?_ ?_; rotate_left; (focus ((try simp only [Act.eval, getD_lit, qGz, qGs]); with_reducible rfl))) | (refine St.pure (v := ?_) rfl rfl rfl (fun w => ?_) ?_; rotate_left; (focus (go_simp; all_goals with_reducible rfl)))); (try simp only [Act.put, qSa, qSz, qSs]))) | (first | (refine wp_seq_shut (fun K hK => ?_)) | (refine wp_text hM (fun Kr hKr => ?_); simp only [inText]) | (refine wp_cond_false rfl ?_) | (refine wp_exit ?_; simp only [Exit.then, Exit.inBlock, if_true, if_false, reduceCtorEq, Nat.reduceEqDiff, Nat.succ_ne_zero]) | ((first | refine hK.out _ _ ?_ | (clear hK K; refine hK.out _ _ ?_)); clear hK K))))
              ((refine wp_ret ?_; (try simp only [Exit.then, Exit.inBlock]); refine St.ret hM rfl (by repeat (first | exact Outs.nil | apply Outs.tmp rfl)) rfl ?_))
              exact ⟨by rw [HE.out]; rfl, hM.to_below⟩
        · have e2 : decide ((s.size : Int) ≤ (32 : Int)) = false := decide_eq_false (by omega)
          have HE := Lib.hid (show B = false by rw [HG.out]; simp [h2])
          clear h1 h2
          (repeat (first | ((with_reducible show wpSeq _ _ _ _ _ _ _); first | ((with_reducible refine wpSeq_nil ?_); refine hKr.out _ _ ?_; clear hKr Kr) | ((first | (refine St.copy (v := ?_) (by first | exact .inl rfl | exact .inr rfl) rfl rfl ?_ ?_; rotate_left; (focus ((try simp only [Act.eval, getD_lit, qGz, qGs]); with_reducible rfl))) | (refine St.pure (v := ?_) rfl rfl rfl (fun w => ?_) ?_; rotate_left; (focus (go_simp; all_goals with_reducible rfl))) | refine wpSeq_off rfl rfl ?_); (try simp only [Act.put, qSa, qSz, qSs]))) | (first | (refine wp_seq_shut (fun K hK => ?_)) | (refine wp_text hM (fun Kr hKr => ?_); simp only [inText]) | (refine wp_cond_false rfl ?_) | (refine wp_exit ?_; simp only [Exit.then, Exit.inBlock, if_true, if_false, reduceCtorEq, Nat.reduceEqDiff, Nat.succ_ne_zero]) | ((first | refine hK.out _ _ ?_ | (clear hK K; refine hK.out _ _ ?_)); clear hK K))))
          ((refine wp_ret ?_; (try simp only [Exit.then, Exit.inBlock]); refine St.ret hM rfl (by repeat (first | exact Outs.nil | apply Outs.tmp rfl)) rfl ?_))
          exact ⟨by rw [HE.out]; rfl, hM.to_below⟩
      · have e1 : decide ((1 : Int) ≤ (s.size : Int)) = false := decide_eq_false (by omega)
        have HE := Lib.hid (show B = false by rw [HG.out]; simp [h1])
        clear h1
        (repeat (first | ((with_reducible show wpSeq _ _ _ _ _ _ _); first | ((with_reducible refine wpSeq_nil ?_); refine hKr.out _ _ ?_; clear hKr Kr) | ((first | (refine St.copy (v := ?_) (by first | exact .inl rfl | exact .inr rfl) rfl rfl ?_ ?_; rotate_left; (focus ((try simp only [Act.eval, getD_lit, qGz, qGs]); with_reducible rfl))) | (refine St.pure (v := ?_) rfl rfl rfl (fun w => ?_) ?_; rotate_left; (focus (go_simp; all_goals with_reducible rfl))) | refine wpSeq_off rfl rfl ?_); (try simp only [Act.put, qSa, qSz, qSs]))) | (first | (refine wp_seq_shut (fun K hK => ?_)) | (refine wp_text hM (fun Kr hKr => ?_); simp only [inText]) | (refine wp_cond_false rfl ?_) | (refine wp_exit ?_; simp only [Exit.then, Exit.inBlock, if_true, if_false, reduceCtorEq, Nat.reduceEqDiff, Nat.succ_ne_zero]) | ((first | refine hK.out _ _ ?_ | (clear hK K; refine hK.out _ _ ?_)); clear hK K))))
        ((refine wp_ret ?_; (try simp only [Exit.then, Exit.inBlock]); refine St.ret hM rfl (by repeat (first | exact Outs.nil | apply Outs.tmp rfl)) rfl ?_))
        exact ⟨by rw [HE.out]; rfl, hM.to_below⟩
end
end Go.Proofs.YtcicjklhbnipcaaGreat
namespace Go.Proofs.YtcicjklhbnipcaaGreat
set_option linter.unusedVariables false
set_option linter.unusedSimpArgs false
open Go.RowKit Go.Maps
section
variable {w w' w0 : World} {zs : List NodV} {x : RX} {q nx : Int}
/-- An inode's names stand here. -/
structure NmAt (z : NodV) (w : World) : Prop where
  ok : SlOK z.2 z.1.names.length (entC z.1.names) 2
  has : Has z.ents w
  len : z.1.names.length ≤ 1000000
theorem RRaw.nm (h : RRaw x q nx zs w) (hl : ∀ z ∈ zs, z.1.names.length ≤ 1000000) {z : NodV} (hz : z ∈ zs) : NmAt z w := ⟨h.names z hz, fun y hy => h.ents.has y (List.mem_flatMap.2 ⟨z, hz, hy⟩), hl z hz⟩
theorem NmAt.below {z : NodV} (h : NmAt z w) (hb : Below w.heap.size w w') : NmAt z w' := ⟨h.ok, h.has.below hb, h.len⟩
theorem ent_row {g cap : Nat} {d : List (ByteArray × Int)} (h : Has (slL (some (g, cap)) (entC d) 70 2) w) {k : Nat} {p : ByteArray × Int} (hp : d[k]? = some p) : w.rangeAt g (k * 2) [.string p.1, .int .i64 p.2] := by
  have hk := (List.getElem?_eq_some_iff.1 hp).1
  have := Res.range (q := k * 2) (n := 2) (h (g, true, .pre (entC d) 70 (cap * 2)) (.head _)) (by show k * 2 + 2 ≤ (entC d).length; rw [entC_len]; omega)
  rw [show (Res.pre (entC d) 70 (cap * 2)).known = entC d from rfl, ent_at (nm := p.1) (idv := p.2) hp] at this
  exact this
theorem leads_cons (p : ByteArray × Int) (r : List (ByteArray × Int)) (s : ByteArray) : In.leads (p :: r) s = if In.same p.1 s then p.2 else In.leads r s := by
  unfold In.leads
  rw [List.find?_cons]
  cases In.same p.1 s <;> rfl
theorem same_go {a b : ByteArray} {v : Bool} (h : In.same a b = v) : (a.toList == b.toList) = v := by rw [ByteArray.toList_eq, ByteArray.toList_eq]; exact h
set_option maxHeartbeats 8000000 in
set_option maxRecDepth 100000 in
theorem rleads_any (z : NodV) (h : NmAt z w0) (s : ByteArray) : Calls Tryz.prog 54 #[.agg z.cells.toArray, .string s] w0 fun e w' => e = .returned (.int .i64 (In.leads z.1.names s)) ∧ Below w0.heap.size w0 w' := by
  have hM := St.start w0 []
  have hln := h.len
  have HH := Lib.hid h.has
  have HK := Lib.hid h.ok
  obtain ⟨va, vc, hv, hva⟩ := slV_open h.ok
  clear h
  obtain ⟨⟨zi, zd, zl, zh, zb, zn⟩, zp⟩ := z
  unfold NodV.cells
  simp only at hv hva hln ⊢
  rw [hv]
  clear hv
  obtain ⟨R0, hR0⟩ : ∃ R0, In.leads zn s = R0 := ⟨_, rfl⟩
  rw [hR0]
  have HR0 := Lib.hid hR0
  clear hR0
  go_enter Tryz.func54, Tryz.ntmps54
  (repeat (first | ((with_reducible show wpSeq _ _ _ _ _ _ _); first | ((with_reducible refine wpSeq_nil ?_); refine hKr.out _ _ ?_; clear hKr Kr) | ((first | (refine St.copy (v := ?_) (by exact .inr rfl) rfl rfl ?_ ?_; rotate_left; (focus ((try simp only [Act.eval, getD_lit, qGz, qGs]); with_reducible rfl))) | ((((refine St.box rfl hM rfl rfl rfl ?_); clear hM; intro w bk hM)); (try simp only [Res.put, Res.known, Act.eval, Value.cells, getD_lit, qGz, qGs, List.toList_toArray, qSz, qSs, over, Nat.reduceAdd] at hM))); (try simp only [Act.put, qSa, qSz, qSs]))) | (first | (refine wp_seq_shut (fun K hK => ?_)) | (refine wp_text hM (fun Kr hKr => ?_); simp only [List.append_eq, List.cons_append, List.nil_append, inText]) | refine wp_block ?_ | ((refine hK.out _ _ ?_); clear hK K))))
  go_loopw [5] (fun i wr => ∃ k : Nat, k ≤ zn.length ∧ i = .int .i64 k ∧ Hid (In.leads (zn.drop k) s = R0) ∧ St w0 [] wr [(bk, true, Res.cells [.int .i64 zi, .bool zd, .int .i64 zl, .int .i64 zh, .string zb, .slice va zn.length vc] 63)]) (fun i _ => zn.length - (intOf i).toNat)
  case atStart => exact ⟨0, by omega, rfl, HR0, hM⟩
  case round =>
    clear hM
    obtain ⟨k, hk, rfl, HF, hM⟩ := hrel
    by_cases hlt : k < zn.length
    · obtain ⟨p, hp⟩ := get_at hlt
      have k1 : (k : Int) < (zn.length : Int) := by omega
      rcases zp with _ | ⟨g1, cap1⟩
      · exact absurd HK.out.2 (by simp only; omega)
      obtain ⟨rfl, rfl⟩ := hva g1 cap1 rfl
      have r1 := ent_row HH.out hp
      have c0 : w0.cell? ⟨g1, k * 2, none⟩ = some (.string p.1) := r1 0 _ rfl
      have c1 : w0.cell? ⟨g1, k * 2 + 1, none⟩ = some (.int .i64 p.2) := r1 1 _ rfl
      have hd : zn.drop k = p :: zn.drop (k + 1) := by rw [List.drop_eq_getElem_cons hlt, (List.getElem?_eq_some_iff.1 hp).2]
      have HF' := HF.out
      rw [hd, leads_cons] at HF'
      cases he : In.same p.1 s with
      | true =>
        have q1 := same_go he
        rw [he, if_pos rfl] at HF'
        have HE := Lib.hid HF'
        clear HF' HF hd he hp r1
        (repeat (first | ((with_reducible show wpSeq _ _ _ _ _ _ _); first | ((with_reducible refine wpSeq_nil ?_); refine hKr.out _ _ ?_; clear hKr Kr) | ((first | (refine St.copy (v := ?_) (by first | exact .inl rfl | exact .inr rfl) rfl rfl ?_ ?_; rotate_left; (focus ((try simp only [Act.eval, getD_lit, qGz, qGs]); with_reducible rfl))) | (refine St.pure (v := ?_) rfl rfl rfl (fun w => ?_) ?_; rotate_left; (focus (go_simp; all_goals with_reducible rfl))) | refine St.load rfl hM rfl rfl rfl rfl (by repeat constructor) (by rfl) (by kernel_rfl) ?_ | refine St.loadF rfl rfl rfl rfl rfl (only_cell hM.only (by assumption) (by exact List.not_mem_nil)) (by kernel_rfl) ?_); (try simp only [Act.put, qSa, qSz, qSs]))) | (first | (refine wp_seq_shut (fun K hK => ?_)) | (refine wp_text hM (fun Kr hKr => ?_); simp only [List.append_eq, List.cons_append, List.nil_append, inText]) | refine wp_block ?_ | refine wp_skip ?_ | (refine wp_cond_true rfl ?_) | ((refine hK.out _ _ ?_); clear hK K))))
        ((refine wp_ret ?_; (try simp only [Exit.then, Exit.inBlock]); refine St.ret hM rfl (by repeat (first | exact Outs.nil | apply Outs.tmp rfl)) rfl ?_))
        exact ⟨by rw [← HE.out]; rfl, hM.to_below⟩
      | false =>
        have q1 := same_go he
        rw [he, if_neg nofun] at HF'
        have HE := Lib.hid HF'
        clear HF' HF hd he hp r1
        (repeat (first | ((with_reducible show wpSeq _ _ _ _ _ _ _); first | ((with_reducible refine wpSeq_nil ?_); refine hKr.out _ _ ?_; clear hKr Kr) | ((first | (refine St.copy (v := ?_) (by first | exact .inl rfl | exact .inr rfl) rfl rfl ?_ ?_; rotate_left; (focus ((try simp only [Act.eval, getD_lit, qGz, qGs]); with_reducible rfl))) | refine St.inc rfl rfl rfl rfl rfl (by omega) ?_ | (refine St.pure (v := ?_) rfl rfl rfl (fun w => ?_) ?_; rotate_left; (focus (go_simp; all_goals with_reducible rfl))) | refine St.load rfl hM rfl rfl rfl rfl (by repeat constructor) (by rfl) (by kernel_rfl) ?_ | refine St.loadF rfl rfl rfl rfl rfl (only_cell hM.only (by assumption) (by exact List.not_mem_nil)) (by kernel_rfl) ?_); (try simp only [Act.put, qSa, qSz, qSs]))) | (first | (refine wp_seq_shut (fun K hK => ?_)) | (refine wp_text hM (fun Kr hKr => ?_); simp only [List.append_eq, List.cons_append, List.nil_append, inText]) | refine wp_block ?_ | refine wp_skip ?_ | (first | refine wp_cond_true rfl ?_ | refine wp_cond_false rfl ?_) | ((refine hK.out _ _ ?_); clear hK K))))
        (try simp only [Exit.then])
        (refine ⟨?_, ?_⟩; (focus (repeat (first | exact ⟨⟨k + 1, by omega, rfl, HE, hM⟩, rfl⟩ | apply Exists.intro))); (simp only [getD_lit, qGz, qGs, intOf]; omega))
    · have k0 : ¬ ((k : Int) < (zn.length : Int)) := by omega
      obtain rfl : k = zn.length := by omega
      have HF' := HF.out
      rw [List.drop_length] at HF'
      have HE := Lib.hid (show 0 = R0 from HF')
      clear hlt hk HF HF'
      (repeat (first | ((with_reducible show wpSeq _ _ _ _ _ _ _); first | ((with_reducible refine wpSeq_nil ?_); refine hKr.out _ _ ?_; clear hKr Kr) | ((first | (refine St.copy (v := ?_) (by first | exact .inl rfl | exact .inr rfl) rfl rfl ?_ ?_; rotate_left; (focus ((try simp only [Act.eval, getD_lit, qGz, qGs]); with_reducible rfl))) | (refine St.pure (v := ?_) rfl rfl rfl (fun w => ?_) ?_; rotate_left; (focus (go_simp; all_goals with_reducible rfl))) | refine St.load rfl hM rfl rfl rfl rfl (by repeat constructor) (by rfl) (by kernel_rfl) ?_); (try simp only [Act.put, qSa, qSz, qSs]))) | (first | (refine wp_seq_shut (fun K hK => ?_)) | (refine wp_text hM (fun Kr hKr => ?_); simp only [List.append_eq, List.cons_append, List.nil_append, inText]) | (refine wp_cond_false rfl ?_) | (refine wp_exit ?_; simp only [Exit.then, Exit.inBlock, if_true, if_false, reduceCtorEq, Nat.reduceEqDiff, Nat.succ_ne_zero]) | ((first | refine hK.out _ _ ?_ | (clear hK K; refine hK.out _ _ ?_)); clear hK K))))
      ((refine wp_ret ?_; (try simp only [Exit.then, Exit.inBlock]); refine St.ret hM rfl (by repeat (first | exact Outs.nil | apply Outs.tmp rfl)) rfl ?_))
      exact ⟨by rw [← HE.out]; rfl, hM.to_below⟩
theorem without_step {d : List (ByteArray × Int)} {k : Nat} {p : ByteArray × Int} (h : d[k]? = some p) (s : ByteArray) : In.without (d.take (k + 1)) s = In.without (d.take k) s ++ (if In.same p.1 s then [] else [p]) := by
  unfold In.without
  rw [List.take_add_one, h, Option.toList_some, List.filter_append]
  cases hs : In.same p.1 s <;> simp [hs]
theorem entC_snoc (d : List (ByteArray × Int)) (p : ByteArray × Int) : entC d ++ [.string p.1, .int .i64 p.2] = entC (d ++ [p]) := by unfold entC; rw [List.flatMap_append, List.flatMap_singleton]
/-- It answers an inode with other names, in a slice of its own. -/
def Renamed (n : NodeD) (d : List (ByteArray × Int)) (w0 : World) (e : Ending) (w' : World) : Prop := ∃ p', e = .returned (.agg (NodV.cells (n.setNames d, p')).toArray) ∧ SlOK p' d.length (entC d) 2 ∧ St w0 [] w' (NodV.ents (n.setNames d, p'))
set_option maxHeartbeats 8000000 in
set_option maxRecDepth 100000 in
theorem rwithout_any (z : NodV) (h : NmAt z w0) (s : ByteArray) : Calls Tryz.prog 58 #[.agg z.cells.toArray, .string s] w0 (Renamed z.1 (In.without z.1.names s) w0) := by
  have hM := St.start w0 []
  have hln := h.len
  have HH := Lib.hid h.has
  have HK := Lib.hid h.ok
  obtain ⟨va, vc, hv, hva⟩ := slV_open h.ok
  clear h
  obtain ⟨⟨zi, zd, zl, zh, zb, zn⟩, zp⟩ := z
  unfold NodV.cells
  simp only at hv hva hln ⊢
  rw [hv]
  clear hv
  go_enter Tryz.func58, Tryz.ntmps58
  (repeat (first | ((with_reducible show wpSeq _ _ _ _ _ _ _); first | ((with_reducible refine wpSeq_nil ?_); refine hKr.out _ _ ?_; clear hKr Kr) | ((first | (refine St.copy (v := ?_) (by exact .inr rfl) rfl rfl ?_ ?_; rotate_left; (focus ((try simp only [Act.eval, getD_lit, qGz, qGs]); with_reducible rfl))) | ((((refine St.box rfl hM rfl rfl rfl ?_); clear hM; intro w bk hM)); (try simp only [Res.put, Res.known, Act.eval, Value.cells, getD_lit, qGz, qGs, List.toList_toArray, qSz, qSs, over, Nat.reduceAdd] at hM))); (try simp only [Act.put, qSa, qSz, qSs])) | (((refine St.alloc (ty := 63) (z := .agg #[.int .i64 0, .bool false, .int .i64 0, .int .i64 0, .string ⟨#[]⟩, .slice none 0 0]) rfl hM rfl rfl (by kernel_rfl) ?_); clear hM; intro w bk hM); (try simp only [Res.put, Res.known, Act.eval, Value.cells, getD_lit, qGz, qGs, List.toList_toArray, qSz, qSs, over, Nat.reduceAdd] at hM); (try simp only [Act.put, qSa, qSz, qSs]))) | (first | (refine wp_seq_shut (fun K hK => ?_)) | (refine wp_text hM (fun Kr hKr => ?_); simp only [List.append_eq, List.cons_append, List.nil_append, inText]) | refine wp_block ?_ | ((refine hK.out _ _ ?_); clear hK K))))
  rename_i bk_1
  go_loopw [5, 6] (fun o i wr => ∃ (k : Nat) (s' : Option (Nat × Nat)) (ys : List (ByteArray × Int)), k ≤ zn.length ∧ o = slV s' ys.length ∧ i = .int .i64 k ∧ ys.length ≤ k ∧ Hid (ys = In.without (zn.take k) s) ∧ SlOK s' ys.length (entC ys) 2 ∧ St w0 [] wr ((bk, true, Res.cells [.int .i64 0, .bool false, .int .i64 0, .int .i64 0, .string ⟨#[]⟩, .slice none 0 0] 63) :: (bk_1, true, Res.cells [.int .i64 zi, .bool zd, .int .i64 zl, .int .i64 zh, .string zb, .slice va zn.length vc] 63) :: slL s' (entC ys) 70 2)) (fun _ i _ => zn.length - (intOf i).toNat)
  case atStart => exact ⟨0, none, [], by omega, rfl, rfl, Nat.le_refl _, Lib.hid rfl, ⟨rfl, rfl⟩, hM⟩
  case round =>
    clear hM
    obtain ⟨k, s', ys, hk, rfl, rfl, hyk, HY, hok, hM⟩ := hrel
    have HOK := Lib.hid hok
    clear hok
    obtain ⟨ua, uc, hu, -⟩ := slV_open HOK.out
    by_cases hlt : k < zn.length
    · obtain ⟨p, hp⟩ := get_at hlt
      have k1 : (k : Int) < (zn.length : Int) := by omega
      rcases zp with _ | ⟨g1, cap1⟩
      · exact absurd HK.out.2 (by simp only; omega)
      obtain ⟨rfl, rfl⟩ := hva g1 cap1 rfl
      have r1 := ent_row HH.out hp
      have c0 : w0.cell? ⟨g1, k * 2, none⟩ = some (.string p.1) := r1 0 _ rfl
      have HS := without_step hp s
      cases he : In.same p.1 s with
      | true =>
        have q1 := same_go he
        rw [he, if_pos rfl, List.append_nil] at HS
        have HE := Lib.hid (show ys = In.without (zn.take (k + 1)) s by rw [HS, HY.out])
        clear HS HY he hp
        rw [hu]
        (repeat (first | ((with_reducible show wpSeq _ _ _ _ _ _ _); first | ((with_reducible refine wpSeq_nil ?_); refine hKr.out _ _ ?_; clear hKr Kr) | ((first | (refine St.copy (v := ?_) (by first | exact .inl rfl | exact .inr rfl) rfl rfl ?_ ?_; rotate_left; (focus ((try simp only [Act.eval, getD_lit, qGz, qGs]); with_reducible rfl))) | refine St.inc rfl rfl rfl rfl rfl (by omega) ?_ | (refine St.pure (v := ?_) rfl rfl rfl (fun w => ?_) ?_; rotate_left; (focus (go_simp; all_goals with_reducible rfl))) | refine St.load rfl hM rfl rfl rfl rfl (by repeat constructor) (by rfl) (by kernel_rfl) ?_ | refine St.loadF rfl rfl rfl rfl rfl (only_cell hM.only (by assumption) (by exact List.not_mem_nil)) (by kernel_rfl) ?_); (try simp only [Act.put, qSa, qSz, qSs]))) | (first | (refine wp_seq_shut (fun K hK => ?_)) | (refine wp_text hM (fun Kr hKr => ?_); simp only [List.append_eq, List.cons_append, List.nil_append, inText]) | refine wp_block ?_ | refine wp_skip ?_ | (first | refine wp_cond_true rfl ?_ | refine wp_cond_false rfl ?_) | ((refine hK.out _ _ ?_); clear hK K))))
        (try simp only [Exit.then])
        rw [← hu]
        (refine ⟨?_, ?_⟩; (focus (repeat (first | exact ⟨⟨k + 1, s', ys, by omega, rfl, rfl, by omega, HE, HOK.out, hM⟩, rfl⟩ | apply Exists.intro))); (simp only [getD_lit, qGz, qGs, intOf]; omega))
      | false =>
        have q1 := same_go he
        rw [he, if_neg nofun] at HS
        have HE := Lib.hid (show ys ++ [p] = In.without (zn.take (k + 1)) s by rw [HS, HY.out])
        clear HS HY he hp
        rw [hu]
        (repeat (first | ((with_reducible show wpSeq _ _ _ _ _ _ _); first | ((with_reducible refine wpSeq_nil ?_); refine hKr.out _ _ ?_; clear hKr Kr) | ((first | (refine St.copy (v := ?_) (by exact .inl rfl) rfl rfl ?_ ?_; rotate_left; (focus ((try simp only [Act.eval, getD_lit, qGz, qGs]); with_reducible rfl))) | (refine St.pure (v := ?_) rfl rfl rfl (fun w => ?_) ?_; rotate_left; (focus (go_simp; all_goals with_reducible rfl))) | refine St.load rfl hM rfl rfl rfl rfl (by repeat constructor) (by rfl) (by kernel_rfl) ?_ | refine St.loadF rfl rfl rfl rfl rfl (only_cell hM.only (by assumption) (by exact List.not_mem_nil)) (by kernel_rfl) ?_ | refine St.loadRowF rfl rfl rfl rfl rfl (only_row hM.only (by assumption) (by exact List.not_mem_nil)) (by kernel_rfl) ?_ | (((((refine St.buildSlice (cells := ?_) (e := ?_) rfl hM rfl rfl (fun w => ?_) ?_; rotate_left 2; (focus (go_simp; all_goals with_reducible rfl)))); clear hM; intro w bk hM)); (try simp only [Res.put, Res.known, Act.eval, Value.cells, getD_lit, qGz, qGs, List.toList_toArray, qSz, qSs, over, Nat.reduceAdd] at hM))); (try simp only [Act.put, qSa, qSz, qSs]))) | (first | (refine wp_seq_shut (fun K hK => ?_)) | (refine wp_text hM (fun Kr hKr => ?_); simp only [List.append_eq, List.cons_append, List.nil_append, inText]) | refine wp_block ?_ | refine wp_skip ?_ | (refine wp_cond_true rfl ?_) | ((refine hK.out _ _ ?_); clear hK K))))
        rw [← hu]
        refine St.append (s := s') (n := ys.length) (xs := entC ys) rfl hM rfl rfl rfl rfl rfl (by kernel_rfl) (by intro s'; repeat (first | exact Swap.all | apply Swap.skip)) HOK.out rfl (hM.news (by repeat constructor)) rfl (by rw [maxLen_val]; omega) (by omega) (fun h => by cases h) ?_
        clear hM; intro w s2 hM hk' hs'
        have e2 : ys.length + 1 = (ys ++ [p]).length := by simp
        simp only [Res.known] at hM hk'
        rw [entC_snoc] at hM hk'
        rw [e2] at hk'
        rw [e2]
        have HK' := Lib.hid hk'
        clear hk' hs' HOK
        have hyl : (ys ++ [p]).length ≤ k + 1 := by rw [List.length_append, List.length_singleton]; omega
        obtain ⟨ub, ud, hu2, -⟩ := slV_open HK'.out
        rw [hu2]
        (try simp only [Act.put, qSa, qSz, qSs])
        (repeat (first | ((with_reducible show wpSeq _ _ _ _ _ _ _); first | ((with_reducible refine wpSeq_nil ?_); refine hKr.out _ _ ?_; clear hKr Kr) | ((first | (refine St.copy (v := ?_) (by first | exact .inl rfl | exact .inr rfl) rfl rfl ?_ ?_; rotate_left; (focus ((try simp only [Act.eval, getD_lit, qGz, qGs]); with_reducible rfl))) | refine St.inc rfl rfl rfl rfl rfl (by omega) ?_); (try simp only [Act.put, qSa, qSz, qSs]))) | (first | (refine wp_text hM (fun Kr hKr => ?_); simp only [List.append_eq, List.cons_append, List.nil_append, inText]) | ((refine hK.out _ _ ?_); clear hK K))))
        replace hM := hM.forget
        (try simp only [Exit.then])
        rw [← hu2]
        (refine ⟨?_, ?_⟩; (focus (repeat (first | exact ⟨⟨k + 1, s2, ys ++ [p], by omega, rfl, rfl, hyl, HE, HK'.out, hM⟩, rfl⟩ | apply Exists.intro))); (simp only [getD_lit, qGz, qGs, intOf]; omega))
    · have k0 : ¬ ((k : Int) < (zn.length : Int)) := by omega
      obtain rfl : k = zn.length := by omega
      have HY2 := HY.out
      rw [List.take_length] at HY2
      subst HY2
      clear hlt hk HY
      rw [hu]
      (repeat (first | ((with_reducible show wpSeq _ _ _ _ _ _ _); first | ((with_reducible refine wpSeq_nil ?_); refine hKr.out _ _ ?_; clear hKr Kr) | ((first | (refine St.copy (v := ?_) (by exact .inl rfl) rfl rfl ?_ ?_; rotate_left; (focus ((try simp only [Act.eval, getD_lit, qGz, qGs]); with_reducible rfl))) | (refine St.pure (v := ?_) rfl rfl rfl (fun w => ?_) ?_; rotate_left; (focus (go_simp; all_goals with_reducible rfl))) | refine St.load rfl hM rfl rfl rfl rfl (by repeat constructor) (by rfl) (by kernel_rfl) ?_ | ((refine St.loadRow rfl hM rfl rfl rfl rfl (by repeat constructor) (Nat.le_of_ble_eq_true rfl) (by kernel_rfl) ?_); (try simp only [Res.known, List.drop_succ_cons, List.drop_zero, List.take_succ_cons, List.take_zero])) | ((((first | refine St.store rfl hM rfl rfl rfl rfl rfl (by repeat constructor) (Nat.le_of_ble_eq_true rfl) (by kernel_rfl) rfl ?_ ?_ | refine St.storeRow rfl hM rfl rfl rfl rfl rfl (by repeat constructor) (Nat.le_of_ble_eq_true rfl) (Nat.le_of_ble_eq_true rfl) (by kernel_rfl) rfl ?_ ?_); (focus ((intro h; cases h; done))); clear hM; intro w hM)); (try simp only [Res.put, Res.known, Act.eval, Value.cells, getD_lit, qGz, qGs, List.toList_toArray, qSz, qSs, over, Nat.reduceAdd] at hM))); (try simp only [Act.put, qSa, qSz, qSs]))) | (first | (refine wp_seq_shut (fun K hK => ?_)) | (refine wp_text hM (fun Kr hKr => ?_); simp only [List.append_eq, List.cons_append, List.nil_append, inText]) | (refine wp_cond_false rfl ?_) | (refine wp_exit ?_; simp only [Exit.then, Exit.inBlock, if_true, if_false, reduceCtorEq, Nat.reduceEqDiff, Nat.succ_ne_zero]) | ((first | refine hK.out _ _ ?_ | (clear hK K; refine hK.out _ _ ?_)); clear hK K))))
      ((refine wp_ret ?_; (try simp only [Exit.then, Exit.inBlock]); refine St.ret hM rfl (by repeat (first | exact Outs.nil | (apply Outs.row rfl rfl (by repeat constructor) (by kernel_rfl)))) rfl ?_))
      refine ⟨s', ?_, HOK.out, hM.forget.forget⟩
      unfold NodV.cells
      show _ = Ending.returned (.agg #[_, _, _, _, _, slV s' (In.without zn s).length])
      rw [hu]
      rfl
end
end Go.Proofs.YtcicjklhbnipcaaGreat
namespace Go.Proofs.YtcicjklhbnipcaaGreat
set_option linter.unusedVariables false
set_option linter.unusedSimpArgs false
open Go.RowKit
section
variable {P : Program} {K : Act → World → Prop} {a : Act} {w : World} {ops : Array Oper} {l : List (Oper × Nat)} {c : Nat} {o : Oper} {ty e : TypeId} {x y z : Operand} {S : World → Prop}
theorem add_zero_addr (b : Option Addr) : b.map (fun d => d.add 0) = b := by cases b <;> rfl
/-- An elements' type, and its cells. -/
def cellB (P : Program) (e : TypeId) (n : Nat) : Bool := match P.info? e with | some i => i.size == n | none => false
theorem run_cells {n : Nat} (h : cellB P e n = true) (w : World) : (sizeOf e).run P w = .ok n w := by
  unfold cellB at h
  cases hi : P.info? e with
  | none => rw [hi] at h; cases h
  | some i =>
    rw [hi] at h
    have hn : i.size = n := by simpa using h
    rw [← hn]
    unfold sizeOf typeInfo
    simp [Sem.run_bind, hi, Sem.run_pure, Result.andThen_ok]
theorem run_slcTo (w : World) (hx : o.op = .slice ty x none (some z) none) {b : Option Addr} {n cp : Nat} (e1 : a.eval x = .slice b n cp) {j : Nat} (e3 : a.eval z = .int .i64 (j : Int)) (ht : P.underlying ty = some (.slice e)) {sz : Nat} (hs : cellB P e sz = true) (hj : j ≤ cp) : (execOp a.eval o).run P w = .ok (.value (.slice b j cp)) w := by
  have h1 : (0 : Int) ≤ (j : Int) := Int.natCast_nonneg j
  have h3 : (j : Int) ≤ (cp : Int) := by omega
  have hc := run_cells hs w
  have hb : (if cp = 0 then b else b.map (fun d => d.add 0)) = b := by rw [add_zero_addr]; split <;> rfl
  unfold execOp
  simp only [hx, e1, e3, Instr.sliceAt, Instr.slice, Instr.sliceBounds, Instr.sliceBound, asIntOf, Sem.run_bind, Sem.run_pure, run_underlying ht, Option.map_none, Option.map_some, h1, h3, and_self, if_true, Int.toNat_natCast, Result.andThen_ok, hc, Nat.zero_mul, Nat.sub_zero, hb]
/-- A slice's front. -/
theorem St.slcTo (hx : o.op = .slice ty x none (some z) none) (hc : (c == 0 || c == 2 || c == 3) = true) (hw : Region.wanted o (yielded ops a.tmps) = true) {b : Option Addr} {n cp : Nat} (e1 : a.eval x = .slice b n cp) {j : Nat} (e3 : a.eval z = .int .i64 (j : Int)) (ht : P.underlying ty = some (.slice e)) {sz : Nat} (hs : cellB P e sz = true) (hj : j ≤ cp) (h : wpSeq P ops K S l (a.put o.dst (.slice b j cp)) w) : wpSeq P ops K S ((o, c) :: l) a w :=
  St.soft hc hw (fun w => run_slcTo w hx e1 e3 ht hs hj) h
end
end Go.Proofs.YtcicjklhbnipcaaGreat
namespace Go.Proofs.YtcicjklhbnipcaaGreat
set_option linter.unusedVariables false
set_option linter.unusedSimpArgs false
open Go.RowKit Go.Maps
/-- A name put behind those before it. -/
def ins (x : ByteArray × Int) : List (ByteArray × Int) → List (ByteArray × Int)
  | [] => [x]
  | y :: r => if In.before y.1 x.1 then y :: ins x r else x :: y :: r
theorem ins_put {x : ByteArray × Int} : ∀ {d : List (ByteArray × Int)}, (∀ p ∈ d, In.same p.1 x.1 = false) → ins x d = In.put x d
  | [], _ => rfl
  | y :: r, h => by
    have h1 := h y (.head _)
    have hne : y.1 ≠ x.1 := fun e => by rw [In.same_iff.2 e] at h1; cases h1
    have ih := ins_put (d := r) fun p hp => h p (.tail _ hp)
    show (if In.before y.1 x.1 then y :: ins x r else x :: y :: r) = if In.before x.1 y.1 then x :: y :: r else y :: In.put x r
    rcases In.before_total hne with hb | hb
    · have hn : In.before x.1 y.1 = false := by
        cases hc : In.before x.1 y.1 with
        | false => rfl
        | true => have := In.before_trans hb hc; rw [In.before_irrefl] at this; cases this
      rw [if_pos hb, hn, if_neg nofun, ih]
    · have hn : In.before y.1 x.1 = false := by
        cases hc : In.before y.1 x.1 with
        | false => rfl
        | true => have := In.before_trans hb hc; rw [In.before_irrefl] at this; cases this
      rw [hn, if_neg nofun, if_pos hb]
theorem ins_at {x : ByteArray × Int} : ∀ (d : List (ByteArray × Int)), ins x d = d.take (d.takeWhile fun p => In.before p.1 x.1).length ++ x :: d.drop (d.takeWhile fun p => In.before p.1 x.1).length
  | [] => rfl
  | y :: r => by
    have ih := ins_at (x := x) r
    show (if In.before y.1 x.1 then y :: ins x r else x :: y :: r) = _
    rw [List.takeWhile_cons]
    cases hb : In.before y.1 x.1 with
    | true => rw [if_pos rfl, if_pos rfl, ih]; rfl
    | false => rw [if_neg nofun, if_neg nofun]; rfl
section
variable {w w' w0 : World}
theorem add_at (g q m : Nat) : (⟨g, q, none⟩ : Addr).add m = ⟨g, q + m, none⟩ := by
  unfold Addr.add
  split
  · rename_i h; subst h; rfl
  · rfl
theorem less_before : ∀ a b : List UInt8, Op.bytesLess a b = bytesBefore a b
  | [], [] => rfl
  | [], _ :: _ => rfl
  | _ :: _, [] => rfl
  | a :: r, b :: t => by
    show (decide (a < b) || (a == b && Op.bytesLess r t)) = (decide (a < b) || (a == b && bytesBefore r t))
    rw [less_before r t]
theorem before_go {a b : ByteArray} {v : Bool} (h : In.before a b = v) : Op.bytesLess a.toList b.toList = v := by rw [less_before, ByteArray.toList_eq, ByteArray.toList_eq]; exact h
theorem entC_take : ∀ (d : List (ByteArray × Int)) (k : Nat), entC (d.take k) = (entC d).take (k * 2)
  | [], k => by cases k <;> rfl
  | p :: r, 0 => rfl
  | p :: r, k + 1 => by
    rw [List.take_succ_cons]
    unfold entC at *
    rw [List.flatMap_cons, List.flatMap_cons]
    have := entC_take r k
    unfold entC at this
    rw [this, show (k + 1) * 2 = k * 2 + 2 by omega]
    rfl
theorem entC_drop : ∀ (d : List (ByteArray × Int)) (k : Nat), entC (d.drop k) = (entC d).drop (k * 2)
  | [], k => by cases k <;> rfl
  | p :: r, 0 => rfl
  | p :: r, k + 1 => by
    rw [List.drop_succ_cons, entC_drop r k, show (k + 1) * 2 = k * 2 + 2 by omega]
    unfold entC
    rw [List.flatMap_cons]
    rfl
theorem entC_one : ∀ d : List (ByteArray × Int), (entC d).all (·.oneCell') = true
  | [] => rfl
  | p :: r => by
    have := entC_one r
    unfold entC at this ⊢
    rw [List.flatMap_cons, List.all_append, this]
    rfl
set_option maxHeartbeats 8000000 in
set_option maxRecDepth 100000 in
theorem rwith_any (z : NodV) (h : NmAt z w0) (nm : ByteArray) (id : Int) : Calls Tryz.prog 56 #[.agg z.cells.toArray, .agg #[.string nm, .int .i64 id]] w0 (Renamed z.1 (ins (nm, id) z.1.names) w0) := by
  have hM := St.start w0 []
  have hln := h.len
  have HH := Lib.hid h.has
  have HK := Lib.hid h.ok
  obtain ⟨va, vc, hv, hva⟩ := slV_open h.ok
  clear h
  obtain ⟨⟨zi, zd, zl, zh, zb, zn⟩, zp⟩ := z
  unfold NodV.cells
  simp only at hv hva hln ⊢
  rw [hv]
  have HC := Lib.hid (show va = none → zn.length = 0 ∧ vc = 0 from fun h => by
    rcases zp with _ | ⟨g1, cap1⟩
    · have h1 := HK.out.2
      unfold slV at hv
      injection hv with _ _ h3
      exact ⟨h1, h3.symm⟩
    · obtain ⟨h1, -⟩ := hva g1 cap1 rfl
      rw [h1] at h
      cases h)
  have HD := Lib.hid (show ∀ ad, va = some ad → ∃ g, ad = ⟨g, 0, none⟩ ∧ ∀ j u, (entC zn)[j]? = some u → w0.cell? ⟨g, j, none⟩ = some u from fun ad h => by
    rcases zp with _ | ⟨g1, cap1⟩
    · unfold slV at hv
      injection hv with h3
      rw [← h3] at h
      cases h
    · obtain ⟨h1, -⟩ := hva g1 cap1 rfl
      rw [h1] at h
      cases h
      exact ⟨g1, rfl, fun j u hj => Res.cell (HH.out (g1, true, .pre (entC zn) 70 (cap1 * 2)) (.head _)) hj⟩)
  have hvl : zn.length ≤ vc := by
    rcases zp with _ | ⟨g1, cap1⟩
    · have h1 := HK.out.2
      simp only at h1
      omega
    · obtain ⟨-, h2⟩ := hva g1 cap1 rfl
      have := HK.out.2.1
      rw [h2]
      exact this
  clear hv
  obtain ⟨R0, hR0⟩ : ∃ R0, (zn.takeWhile fun p => In.before p.1 nm).length = R0 := ⟨_, rfl⟩
  have HR0 := Lib.hid hR0
  clear hR0
  go_enter Tryz.func56, Tryz.ntmps56
  (repeat (first | ((with_reducible show wpSeq _ _ _ _ _ _ _); first | ((with_reducible refine wpSeq_nil ?_); refine hKr.out _ _ ?_; clear hKr Kr) | ((first | (refine St.copy (v := ?_) (by exact .inr rfl) rfl rfl ?_ ?_; rotate_left; (focus ((try simp only [Act.eval, getD_lit, qGz, qGs]); with_reducible rfl))) | ((((refine St.box rfl hM rfl rfl rfl ?_); clear hM; intro w bk hM)); (try simp only [Res.put, Res.known, Act.eval, Value.cells, getD_lit, qGz, qGs, List.toList_toArray, qSz, qSs, over, Nat.reduceAdd] at hM))); (try simp only [Act.put, qSa, qSz, qSs])) | (((refine St.alloc (ty := 63) (z := .agg #[.int .i64 0, .bool false, .int .i64 0, .int .i64 0, .string ⟨#[]⟩, .slice none 0 0]) rfl hM rfl rfl (by kernel_rfl) ?_); clear hM; intro w bk hM); (try simp only [Res.put, Res.known, Act.eval, Value.cells, getD_lit, qGz, qGs, List.toList_toArray, qSz, qSs, over, Nat.reduceAdd] at hM); (try simp only [Act.put, qSa, qSz, qSs]))) | (first | (refine wp_seq_shut (fun K hK => ?_)) | (refine wp_text hM (fun Kr hKr => ?_); simp only [List.append_eq, List.cons_append, List.nil_append, inText]) | refine wp_block ?_ | ((refine hK.out _ _ ?_); clear hK K))))
  rename_i bk_2 w_2 bk_1
  go_loopw [6] (fun i wr => ∃ k : Nat, k ≤ zn.length ∧ i = .int .i64 k ∧ Hid (k + ((zn.drop k).takeWhile fun p => In.before p.1 nm).length = R0) ∧ St w0 [] wr [(bk, true, Res.cells [.int .i64 0, .bool false, .int .i64 0, .int .i64 0, .string ⟨#[]⟩, .slice none 0 0] 63), (bk_1, true, Res.cells [.string nm, .int .i64 id] 70), (bk_2, true, Res.cells [.int .i64 zi, .bool zd, .int .i64 zl, .int .i64 zh, .string zb, .slice va zn.length vc] 63)]) (fun i _ => zn.length - (intOf i).toNat)
  case atStart => exact ⟨0, by omega, rfl, Lib.hid (by rw [List.drop_zero, Nat.zero_add]; exact HR0.out), hM⟩
  case round =>
    clear hM
    obtain ⟨k, hk, rfl, HF, hM⟩ := hrel
    by_cases hlt : k < zn.length
    · obtain ⟨p, hp⟩ := get_at hlt
      have k1 : (k : Int) < (zn.length : Int) := by omega
      obtain ⟨g1, cap1, rfl⟩ : ∃ g1 cap1, zp = some (g1, cap1) := by
        rcases zp with _ | ⟨g1, cap1⟩
        · exact absurd HK.out.2 (by simp only; omega)
        · exact ⟨g1, cap1, rfl⟩
      have hgv := (hva g1 cap1 rfl).1
      have r1 := ent_row HH.out hp
      have c0 : w0.cell? ⟨g1, k * 2, none⟩ = some (.string p.1) := r1 0 _ rfl
      have hd : zn.drop k = p :: zn.drop (k + 1) := by rw [List.drop_eq_getElem_cons hlt, (List.getElem?_eq_some_iff.1 hp).2]
      have HF' := HF.out
      rw [hd, List.takeWhile_cons] at HF'
      cases he : In.before p.1 nm with
      | true =>
        have q1 := before_go he
        rw [he, if_pos rfl, List.length_cons] at HF'
        have HE := Lib.hid (show k + 1 + ((zn.drop (k + 1)).takeWhile fun p => In.before p.1 nm).length = R0 by omega)
        clear HF' HF hd he hp r1
        (repeat (first | ((with_reducible show wpSeq _ _ _ _ _ _ _); first | ((with_reducible refine wpSeq_nil ?_); refine hKr.out _ _ ?_; clear hKr Kr) | ((first | (refine St.copy (v := ?_) (by first | exact .inl rfl | exact .inr rfl) rfl rfl ?_ ?_; rotate_left; (focus ((try simp only [Act.eval, getD_lit, qGz, qGs]); with_reducible rfl))) | refine St.inc rfl rfl rfl rfl rfl (by omega) ?_ | (refine St.pure (v := ?_) rfl rfl rfl (fun w => ?_) ?_; rotate_left; (focus (go_simp; all_goals with_reducible rfl))) | refine St.load rfl hM rfl rfl rfl rfl (by repeat constructor) (by rfl) (by kernel_rfl) ?_ | refine St.load1 rfl rfl rfl rfl (by repeat constructor) (by rfl) (by kernel_rfl) ?_ | refine St.loadF1 rfl rfl rfl rfl (fun w' hS => only_cell hS.only (by assumption) (by exact List.not_mem_nil)) (by kernel_rfl) ?_); (try simp only [Act.put, qSa, qSz, qSs]))) | (first | (refine wp_seq_shut (fun K hK => ?_)) | (refine wp_text hM (fun Kr hKr => ?_); simp only [List.append_eq, List.cons_append, List.nil_append, inText]) | refine wp_block ?_ | refine wp_skip ?_ | (refine wp_cond_true rfl ?_) | ((refine hK.out _ _ ?_); clear hK K)) | ((refine wp_drawn (id := 3) hM (Sub.all _) [7, 11] [(0, 0), (1, 2), (2, 2), (3, 2), (4, 2), (5, 2), (6, 0), (7, 1), (8, 0), (9, 0), (10, 0), (11, 1), (12, 2), (13, 2), (14, 2), (15, 2)] (by kernel_rfl) (by kernel_rfl) ?_); (clear hM; intro w hM Kr hKr); simp only [opsOf, qGz, qGs])))
        (try simp only [Exit.then])
        (refine ⟨?_, ?_⟩; (focus (repeat (first | exact ⟨⟨k + 1, by omega, rfl, HE, hM⟩, rfl⟩ | apply Exists.intro))); (simp only [getD_lit, qGz, qGs, intOf]; omega))
      | false =>
        have q1 := before_go he
        rw [he, if_neg nofun, List.length_nil] at HF'
        have HE := Lib.hid (show k = R0 by omega)
        clear HF' HF hd he hp r1
        (repeat (first | ((with_reducible show wpSeq _ _ _ _ _ _ _); first | ((with_reducible refine wpSeq_nil ?_); refine hKr.out _ _ ?_; clear hKr Kr) | ((first | (refine St.copy (v := ?_) (by exact .inl rfl) rfl rfl ?_ ?_; rotate_left; (focus ((try simp only [Act.eval, getD_lit, qGz, qGs]); with_reducible rfl))) | (refine St.pure (v := ?_) rfl rfl rfl (fun w => ?_) ?_; rotate_left; (focus (go_simp; all_goals with_reducible rfl))) | refine St.load rfl hM rfl rfl rfl rfl (by repeat constructor) (by rfl) (by kernel_rfl) ?_ | refine St.load1 rfl rfl rfl rfl (by repeat constructor) (by rfl) (by kernel_rfl) ?_ | refine St.loadF1 rfl rfl rfl rfl (fun w' hS => only_cell hS.only (by assumption) (by exact List.not_mem_nil)) (by kernel_rfl) ?_); (try simp only [Act.put, qSa, qSz, qSs]))) | (first | (refine wp_seq_shut (fun K hK => ?_)) | (refine wp_text hM (fun Kr hKr => ?_); simp only [List.append_eq, List.cons_append, List.nil_append, inText]) | (refine wp_cond_false rfl ?_) | (refine wp_exit ?_; simp only [Exit.then, Exit.inBlock, if_true, if_false, reduceCtorEq, Nat.reduceEqDiff, Nat.succ_ne_zero]) | ((first | refine hK.out _ _ ?_ | (clear hK K; refine hK.out _ _ ?_)); clear hK K)) | ((refine wp_drawn (id := 3) hM (Sub.all _) [7, 11] [(0, 0), (1, 2), (2, 2), (3, 2), (4, 2), (5, 2), (6, 0), (7, 1), (8, 0), (9, 0), (10, 0), (11, 1), (12, 2), (13, 2), (14, 2), (15, 2)] (by kernel_rfl) (by kernel_rfl) ?_); (clear hM; intro w hM Kr hKr); simp only [opsOf, qGz, qGs])))
        refine St.slcTo rfl rfl rfl rfl rfl Tryz.underlying61 (sz := 2) (by kernel_rfl) (by omega) ?_
        (try simp only [Act.put, qSa, qSz, qSs])
        change St w0 [] _ (_ :: _ :: _ :: slL none (entC []) 70 2) at hM
        refine St.appendAny (s := none) (n := 0) (xs := []) (news := entC (zn.take k)) rfl hM rfl rfl rfl rfl rfl (by kernel_rfl) (by intro s'; repeat (first | exact Swap.all | apply Swap.skip)) ⟨rfl, rfl⟩ (fun h => by have := HC.out h; omega) (by rw [entC_len, List.length_take]; omega) (fun ad h j u hj => by
          obtain ⟨g, rfl, hc⟩ := HD.out ad h
          rw [add_at, Nat.zero_add]
          refine hM.old (hc j u ?_)
          rw [entC_take, List.getElem?_take] at hj
          split at hj
          · exact hj
          · cases hj) (entC_one _) (by rw [maxLen_val]; omega) (by omega) (fun _ => .inr rfl) ?_
        clear hM; intro w s1 hM hk1 _ _
        simp only [List.nil_append, Nat.zero_add] at hM hk1 ⊢
        have HK1 := Lib.hid hk1
        obtain ⟨ua, uc, hu, -⟩ := slV_open hk1
        clear hk1
        rw [hu]
        (try simp only [Act.put, qSa, qSz, qSs])
        (repeat (first | ((with_reducible show wpSeq _ _ _ _ _ _ _); first | ((with_reducible refine wpSeq_nil ?_); refine hKr.out _ _ ?_; clear hKr Kr) | ((first | (refine St.copy (v := ?_) (by first | exact .inl rfl | exact .inr rfl) rfl rfl ?_ ?_; rotate_left; (focus ((try simp only [Act.eval, getD_lit, qGz, qGs]); with_reducible rfl))) | ((refine St.loadRow rfl hM rfl rfl rfl rfl (by repeat constructor) (Nat.le_of_ble_eq_true rfl) (by kernel_rfl) ?_); (try simp only [Res.known, List.drop_succ_cons, List.drop_zero, List.take_succ_cons, List.take_zero])) | (((((refine St.buildSlice (cells := ?_) (e := ?_) rfl hM rfl rfl (fun w => ?_) ?_; rotate_left 2; (focus (go_simp; all_goals with_reducible rfl)))); clear hM; intro w bk hM)); (try simp only [Res.put, Res.known, Act.eval, Value.cells, getD_lit, qGz, qGs, List.toList_toArray, qSz, qSs, over, Nat.reduceAdd] at hM))); (try simp only [Act.put, qSa, qSz, qSs]))) | (first | (refine wp_seq_shut (fun K hK => ?_)) | (refine wp_text hM (fun Kr hKr => ?_); simp only [List.append_eq, List.cons_append, List.nil_append, inText]) | ((refine hK.out _ _ ?_); clear hK K))))
        rw [← hu]
        refine St.append (s := s1) (n := k) (xs := entC (zn.take k)) rfl hM rfl rfl rfl rfl rfl (by kernel_rfl) (by intro s'; repeat (first | exact Swap.all | apply Swap.skip)) HK1.out rfl (hM.news (by repeat constructor)) rfl (by rw [maxLen_val]; omega) (by omega) (fun h => by cases h) ?_
        clear hM; intro w s2 hM hk2 _
        simp only [Res.known] at hM hk2
        have HK2 := Lib.hid hk2
        obtain ⟨ub, ud, hu2, -⟩ := slV_open hk2
        clear hk2
        rw [hu2]
        clear hgv
        (try simp only [Act.put, qSa, qSz, qSs])
        (repeat (first | ((with_reducible show wpSeq _ _ _ _ _ _ _); first | ((with_reducible refine wpSeq_nil ?_); refine hKr.out _ _ ?_; clear hKr Kr) | ((first | (refine St.copy (v := ?_) (by first | exact .inl rfl | exact .inr rfl) rfl rfl ?_ ?_; rotate_left; (focus ((try simp only [Act.eval, getD_lit, qGz, qGs]); with_reducible rfl))) | (refine St.pure (v := ?_) rfl rfl rfl (fun w => ?_) ?_; rotate_left; (focus (go_simp; all_goals with_reducible rfl))) | refine St.load rfl hM rfl rfl rfl rfl (by repeat constructor) (by rfl) (by kernel_rfl) ?_); (try simp only [Act.put, qSa, qSz, qSs]))) | (first | (refine wp_seq_shut (fun K hK => ?_)) | (refine wp_text hM (fun Kr hKr => ?_); simp only [List.append_eq, List.cons_append, List.nil_append, inText]) | ((refine hK.out _ _ ?_); clear hK K))))
        rw [← hu2]
        refine St.appendAny (s := s2) (n := k + 1) (xs := entC (zn.take k) ++ [.string nm, .int .i64 id]) (news := entC (zn.drop k)) rfl hM rfl rfl rfl rfl rfl (by kernel_rfl) (by intro s'; repeat (first | exact Swap.all | apply Swap.skip)) HK2.out (fun h => by
          have h1 : va = none := by
            split at h
            · exact h
            · exact Option.map_eq_none_iff.1 h
          have := HC.out h1
          omega) (by rw [entC_len, List.length_drop]) (fun ad h j u hj => by
          rw [entC_drop, List.getElem?_drop] at hj
          have hb := (List.getElem?_eq_some_iff.1 hj).1
          rw [entC_len] at hb
          rw [if_neg (by omega)] at h
          obtain ⟨ad0, h1, rfl⟩ := Option.map_eq_some_iff.1 h
          obtain ⟨g, rfl, hc⟩ := HD.out ad0 h1
          rw [add_at, add_at, Nat.zero_add]
          exact hM.old (hc _ u hj)) (entC_one _) (by rw [maxLen_val]; omega) (by omega) (fun h => by cases h) ?_
        clear hM; intro w s3 hM hk3 _ _
        have e1 : entC (zn.take k) ++ [.string nm, .int .i64 id] ++ entC (zn.drop k) = entC (ins (nm, id) zn) := by
          rw [ins_at, show (zn.takeWhile fun p => In.before p.1 (nm, id).1).length = k from HR0.out.trans HE.out.symm]
          unfold entC
          rw [List.flatMap_append, List.flatMap_cons, List.append_assoc]
        have e2 : k + 1 + (zn.length - k) = (ins (nm, id) zn).length := by
          rw [ins_at, show (zn.takeWhile fun p => In.before p.1 (nm, id).1).length = k from HR0.out.trans HE.out.symm, List.length_append, List.length_cons, List.length_take, List.length_drop]
          omega
        rw [e1] at hM hk3
        rw [e2] at hk3
        rw [e2]
        have HK3 := Lib.hid hk3
        obtain ⟨uf, ug, hu3, -⟩ := slV_open hk3
        clear hk3 e1 e2
        rw [hu3]
        (try simp only [Act.put, qSa, qSz, qSs])
        (repeat (first | ((with_reducible show wpSeq _ _ _ _ _ _ _); first | ((with_reducible refine wpSeq_nil ?_); refine hKr.out _ _ ?_; clear hKr Kr) | ((first | (refine St.copy (v := ?_) (by first | exact .inl rfl | exact .inr rfl) rfl rfl ?_ ?_; rotate_left; (focus ((try simp only [Act.eval, getD_lit, qGz, qGs]); with_reducible rfl))) | (refine St.pure (v := ?_) rfl rfl rfl (fun w => ?_) ?_; rotate_left; (focus (go_simp; all_goals with_reducible rfl))) | ((refine St.loadRow rfl hM rfl rfl rfl rfl (by repeat constructor) (Nat.le_of_ble_eq_true rfl) (by kernel_rfl) ?_); (try simp only [Res.known, List.drop_succ_cons, List.drop_zero, List.take_succ_cons, List.take_zero])) | ((((first | refine St.store rfl hM rfl rfl rfl rfl rfl (by repeat constructor) (Nat.le_of_ble_eq_true rfl) (by kernel_rfl) rfl ?_ ?_ | refine St.storeRow rfl hM rfl rfl rfl rfl rfl (by repeat constructor) (Nat.le_of_ble_eq_true rfl) (Nat.le_of_ble_eq_true rfl) (by kernel_rfl) rfl ?_ ?_); (focus ((intro h; cases h; done))); clear hM; intro w hM)); (try simp only [Res.put, Res.known, Act.eval, Value.cells, getD_lit, qGz, qGs, List.toList_toArray, qSz, qSs, over, Nat.reduceAdd] at hM))); (try simp only [Act.put, qSa, qSz, qSs]))) | (first | (refine wp_seq_shut (fun K hK => ?_)) | (refine wp_text hM (fun Kr hKr => ?_); simp only [List.append_eq, List.cons_append, List.nil_append, inText]) | ((refine hK.out _ _ ?_); clear hK K))))
        ((refine wp_ret ?_; (try simp only [Exit.then, Exit.inBlock]); refine St.ret hM rfl (by repeat (first | exact Outs.nil | (apply Outs.row rfl rfl (by repeat constructor) (by kernel_rfl)))) rfl ?_))
        refine ⟨s3, ?_, HK3.out, hM.forget.forget.forget.forget⟩
        unfold NodV.cells
        show _ = Ending.returned (.agg #[_, _, _, _, _, slV s3 (ins (nm, id) zn).length])
        rw [hu3]
        rfl
    · have k0 : ¬ ((k : Int) < (zn.length : Int)) := by omega
      obtain rfl : k = zn.length := by omega
      have HF' := HF.out
      rw [List.drop_length] at HF'
      have HE := Lib.hid (show zn.length = R0 from HF')
      clear hlt hk HF HF'
      (repeat (first | ((with_reducible show wpSeq _ _ _ _ _ _ _); first | ((with_reducible refine wpSeq_nil ?_); refine hKr.out _ _ ?_; clear hKr Kr) | ((first | (refine St.copy (v := ?_) (by exact .inl rfl) rfl rfl ?_ ?_; rotate_left; (focus ((try simp only [Act.eval, getD_lit, qGz, qGs]); with_reducible rfl))) | (refine St.pure (v := ?_) rfl rfl rfl (fun w => ?_) ?_; rotate_left; (focus (go_simp; all_goals with_reducible rfl))) | refine St.load rfl hM rfl rfl rfl rfl (by repeat constructor) (by rfl) (by kernel_rfl) ?_ | refine wpSeq_off rfl rfl ?_); (try simp only [Act.put, qSa, qSz, qSs]))) | (first | (refine wp_seq_shut (fun K hK => ?_)) | (refine wp_text hM (fun Kr hKr => ?_); simp only [List.append_eq, List.cons_append, List.nil_append, inText]) | (refine wp_cond_false rfl ?_) | (refine wp_exit ?_; simp only [Exit.then, Exit.inBlock, if_true, if_false, reduceCtorEq, Nat.reduceEqDiff, Nat.succ_ne_zero]) | ((first | refine hK.out _ _ ?_ | (clear hK K; refine hK.out _ _ ?_)); clear hK K)) | ((refine wp_drawn (id := 3) hM (Sub.all _) [7, 11] [(0, 0), (1, 2), (2, 2), (3, 2), (4, 2), (5, 2), (6, 0), (7, 1), (8, 0), (9, 0), (10, 0), (11, 1), (12, 2), (13, 2), (14, 2), (15, 2)] (by kernel_rfl) (by kernel_rfl) ?_); (clear hM; intro w hM Kr hKr); simp only [opsOf, qGz, qGs])))
      change St w0 [] _ (_ :: _ :: _ :: slL none (entC []) 70 2) at hM
      refine St.appendAny (s := none) (n := 0) (xs := []) (news := entC (zn.take zn.length)) rfl hM rfl rfl rfl rfl rfl (by kernel_rfl) (by intro s'; repeat (first | exact Swap.all | apply Swap.skip)) ⟨rfl, rfl⟩ (fun h => by have := HC.out h; omega) (by rw [entC_len, List.length_take]; omega) (fun ad h j u hj => by
        obtain ⟨g, rfl, hc⟩ := HD.out ad h
        rw [add_at, Nat.zero_add]
        refine hM.old (hc j u ?_)
        rw [entC_take, List.getElem?_take] at hj
        split at hj
        · exact hj
        · cases hj) (entC_one _) (by rw [maxLen_val]; omega) (by omega) (fun _ => .inr rfl) ?_
      clear hM; intro w s1 hM hk1 _ _
      simp only [List.nil_append, Nat.zero_add] at hM hk1 ⊢
      have HK1 := Lib.hid hk1
      obtain ⟨ua, uc, hu, -⟩ := slV_open hk1
      clear hk1
      rw [hu]
      (try simp only [Act.put, qSa, qSz, qSs])
      (repeat (first | ((with_reducible show wpSeq _ _ _ _ _ _ _); first | ((with_reducible refine wpSeq_nil ?_); refine hKr.out _ _ ?_; clear hKr Kr) | ((first | (refine St.copy (v := ?_) (by first | exact .inl rfl | exact .inr rfl) rfl rfl ?_ ?_; rotate_left; (focus ((try simp only [Act.eval, getD_lit, qGz, qGs]); with_reducible rfl))) | ((refine St.loadRow rfl hM rfl rfl rfl rfl (by repeat constructor) (Nat.le_of_ble_eq_true rfl) (by kernel_rfl) ?_); (try simp only [Res.known, List.drop_succ_cons, List.drop_zero, List.take_succ_cons, List.take_zero])) | (((((refine St.buildSlice (cells := ?_) (e := ?_) rfl hM rfl rfl (fun w => ?_) ?_; rotate_left 2; (focus (go_simp; all_goals with_reducible rfl)))); clear hM; intro w bk hM)); (try simp only [Res.put, Res.known, Act.eval, Value.cells, getD_lit, qGz, qGs, List.toList_toArray, qSz, qSs, over, Nat.reduceAdd] at hM))); (try simp only [Act.put, qSa, qSz, qSs]))) | (first | (refine wp_seq_shut (fun K hK => ?_)) | (refine wp_text hM (fun Kr hKr => ?_); simp only [List.append_eq, List.cons_append, List.nil_append, inText]) | ((refine hK.out _ _ ?_); clear hK K))))
      rw [← hu]
      refine St.append (s := s1) (n := zn.length) (xs := entC (zn.take zn.length)) rfl hM rfl rfl rfl rfl rfl (by kernel_rfl) (by intro s'; repeat (first | exact Swap.all | apply Swap.skip)) HK1.out rfl (hM.news (by repeat constructor)) rfl (by rw [maxLen_val]; omega) (by omega) (fun h => by cases h) ?_
      clear hM; intro w s2 hM hk2 _
      simp only [Res.known] at hM hk2
      have HK2 := Lib.hid hk2
      obtain ⟨ub, ud, hu2, -⟩ := slV_open hk2
      clear hk2
      rw [hu2]
      (try simp only [Act.put, qSa, qSz, qSs])
      (repeat (first | ((with_reducible show wpSeq _ _ _ _ _ _ _); first | ((with_reducible refine wpSeq_nil ?_); refine hKr.out _ _ ?_; clear hKr Kr) | ((first | (refine St.copy (v := ?_) (by first | exact .inl rfl | exact .inr rfl) rfl rfl ?_ ?_; rotate_left; (focus ((try simp only [Act.eval, getD_lit, qGz, qGs]); with_reducible rfl))) | (refine St.pure (v := ?_) rfl rfl rfl (fun w => ?_) ?_; rotate_left; (focus (go_simp; all_goals with_reducible rfl))) | refine St.load rfl hM rfl rfl rfl rfl (by repeat constructor) (by rfl) (by kernel_rfl) ?_); (try simp only [Act.put, qSa, qSz, qSs]))) | (first | (refine wp_seq_shut (fun K hK => ?_)) | (refine wp_text hM (fun Kr hKr => ?_); simp only [List.append_eq, List.cons_append, List.nil_append, inText]) | ((refine hK.out _ _ ?_); clear hK K))))
      rw [← hu2]
      refine St.appendAny (s := s2) (n := zn.length + 1) (xs := entC (zn.take zn.length) ++ [.string nm, .int .i64 id]) (news := entC (zn.drop zn.length)) rfl hM rfl rfl rfl rfl rfl (by kernel_rfl) (by intro s'; repeat (first | exact Swap.all | apply Swap.skip)) HK2.out (fun h => by
        have h1 : va = none := by
          split at h
          · exact h
          · exact Option.map_eq_none_iff.1 h
        have := HC.out h1
        omega) (by rw [entC_len, List.length_drop]; omega) (fun ad h j u hj => by
        rw [entC_drop, List.getElem?_drop] at hj
        have hb := (List.getElem?_eq_some_iff.1 hj).1
        rw [entC_len] at hb
        rw [if_neg (by omega)] at h
        obtain ⟨ad0, h1, rfl⟩ := Option.map_eq_some_iff.1 h
        obtain ⟨g, rfl, hc⟩ := HD.out ad0 h1
        rw [add_at, add_at, Nat.zero_add]
        exact hM.old (hc _ u hj)) (entC_one _) (by rw [maxLen_val]; omega) (by omega) (fun h => by cases h) ?_
      clear hM; intro w s3 hM hk3 _ _
      have e1 : entC (zn.take zn.length) ++ [.string nm, .int .i64 id] ++ entC (zn.drop zn.length) = entC (ins (nm, id) zn) := by
        rw [ins_at, show (zn.takeWhile fun p => In.before p.1 (nm, id).1).length = zn.length from HR0.out.trans HE.out.symm]
        unfold entC
        rw [List.flatMap_append, List.flatMap_cons, List.append_assoc]
      have e2 : zn.length + 1 + 0 = (ins (nm, id) zn).length := by
        rw [ins_at, show (zn.takeWhile fun p => In.before p.1 (nm, id).1).length = zn.length from HR0.out.trans HE.out.symm, List.length_append, List.length_cons, List.length_take, List.length_drop]
        omega
      rw [e1] at hM hk3
      rw [e2] at hk3
      rw [e2]
      have HK3 := Lib.hid hk3
      obtain ⟨uf, ug, hu3, -⟩ := slV_open hk3
      clear hk3 e1 e2
      rw [hu3]
      (try simp only [Act.put, qSa, qSz, qSs])
      (repeat (first | ((with_reducible show wpSeq _ _ _ _ _ _ _); first | ((with_reducible refine wpSeq_nil ?_); refine hKr.out _ _ ?_; clear hKr Kr) | ((first | (refine St.copy (v := ?_) (by first | exact .inl rfl | exact .inr rfl) rfl rfl ?_ ?_; rotate_left; (focus ((try simp only [Act.eval, getD_lit, qGz, qGs]); with_reducible rfl))) | (refine St.pure (v := ?_) rfl rfl rfl (fun w => ?_) ?_; rotate_left; (focus (go_simp; all_goals with_reducible rfl))) | ((refine St.loadRow rfl hM rfl rfl rfl rfl (by repeat constructor) (Nat.le_of_ble_eq_true rfl) (by kernel_rfl) ?_); (try simp only [Res.known, List.drop_succ_cons, List.drop_zero, List.take_succ_cons, List.take_zero])) | ((((first | refine St.store rfl hM rfl rfl rfl rfl rfl (by repeat constructor) (Nat.le_of_ble_eq_true rfl) (by kernel_rfl) rfl ?_ ?_ | refine St.storeRow rfl hM rfl rfl rfl rfl rfl (by repeat constructor) (Nat.le_of_ble_eq_true rfl) (Nat.le_of_ble_eq_true rfl) (by kernel_rfl) rfl ?_ ?_); (focus ((intro h; cases h; done))); clear hM; intro w hM)); (try simp only [Res.put, Res.known, Act.eval, Value.cells, getD_lit, qGz, qGs, List.toList_toArray, qSz, qSs, over, Nat.reduceAdd] at hM))); (try simp only [Act.put, qSa, qSz, qSs]))) | (first | (refine wp_seq_shut (fun K hK => ?_)) | (refine wp_text hM (fun Kr hKr => ?_); simp only [List.append_eq, List.cons_append, List.nil_append, inText]) | ((refine hK.out _ _ ?_); clear hK K))))
      ((refine wp_ret ?_; (try simp only [Exit.then, Exit.inBlock]); refine St.ret hM rfl (by repeat (first | exact Outs.nil | (apply Outs.row rfl rfl (by repeat constructor) (by kernel_rfl)))) rfl ?_))
      refine ⟨s3, ?_, HK3.out, hM.forget.forget.forget.forget⟩
      unfold NodV.cells
      show _ = Ending.returned (.agg #[_, _, _, _, _, slV s3 (ins (nm, id) zn).length])
      rw [hu3]
      rfl
end
end Go.Proofs.YtcicjklhbnipcaaGreat
namespace Go.Proofs.YtcicjklhbnipcaaGreat
set_option linter.unusedVariables false
set_option linter.unusedSimpArgs false
open Go.RowKit Go.Maps
section
variable {w w' w0 : World} {zs : List NodV} {x : RX} {q nx : Int}
abbrev rfind (zs : List NodV) (id : Int) : Option NodV := zs.find? fun z => z.1.id == id
set_option maxHeartbeats 8000000 in
set_option maxRecDepth 100000 in
theorem rplace_none (h : RRaw x q nx zs w0) {dir : Int} {s : ByteArray} (hf : rfind zs dir = none) : Calls Tryz.prog 53 #[.pointer (some ⟨x.g, 0, none⟩), .int .i64 dir, .string s] w0 fun e w' => e = .returned (.tuple #[nodZ, .int .i64 3]) ∧ Below w0.heap.size w0 w' := by
  have hM := St.start w0 []
  have HC := Lib.hid (show ∀ W, Below w0.heap.size w0 W → Calls Tryz.prog 57 #[.pointer (some ⟨x.g, 0, none⟩), .int .i64 dir] W fun e w' => e = .returned (.tuple #[nodZ, .bool false]) ∧ Below W.heap.size W w' from fun W hb => by
    have C := rget_any (h.below hb) dir
    rw [show (zs.find? fun z => z.1.id == dir) = none from hf] at C
    exact C)
  unfold nodZ at HC
  clear h hf
  go_enter Tryz.func53, Tryz.ntmps53
  (repeat (first | ((with_reducible show wpSeq _ _ _ _ _ _ _); first | ((with_reducible refine wpSeq_nil ?_); refine hKr.out _ _ ?_; clear hKr Kr) | (((refine St.copy (v := ?_) (by first | exact .inl rfl | exact .inr rfl) rfl rfl ?_ ?_; rotate_left; (focus ((try simp only [Act.eval, getD_lit, qGz, qGs]); with_reducible rfl)))); (try simp only [Act.put, qSa, qSz, qSs])) | (((refine St.alloc (ty := 63) (z := .agg #[.int .i64 0, .bool false, .int .i64 0, .int .i64 0, .string ⟨#[]⟩, .slice none 0 0]) rfl hM rfl rfl (by kernel_rfl) ?_); clear hM; intro w bk hM); (try simp only [Res.put, Res.known, Act.eval, Value.cells, getD_lit, qGz, qGs, List.toList_toArray, qSz, qSs, over, Nat.reduceAdd] at hM); (try simp only [Act.put, qSa, qSz, qSs]))) | (first | (refine wp_seq_shut (fun K hK => ?_)) | (refine wp_text hM (fun Kr hKr => ?_); simp only [List.append_eq, List.cons_append, List.nil_append, inText]) | ((refine hK.out _ _ ?_); clear hK K))))
  (refine St.call3 rfl rfl (by kernel_rfl) (fun R hR => ?_); simp only [List.map_toArray, List.map_cons, List.map_nil, Act.eval, getD_lit, qGz, qGs])
  refine (HC.out _ hM.to_below).mono ?_
  (rintro e w' ⟨rfl, hb⟩; refine hR.out _ _ ?_; clear hR R; replace hM := hM.below hb; clear hb; (try simp only [Act.put, qSa, qSz, qSs]))
  (repeat (first | ((with_reducible show wpSeq _ _ _ _ _ _ _); first | ((with_reducible refine wpSeq_nil ?_); refine hKr.out _ _ ?_; clear hKr Kr) | ((first | (refine St.copy (v := ?_) (by first | exact .inl rfl | exact .inr rfl) rfl rfl ?_ ?_; rotate_left; (focus ((try simp only [Act.eval, getD_lit, qGz, qGs]); with_reducible rfl))) | (refine St.pure (v := ?_) rfl rfl rfl (fun w => ?_) ?_; rotate_left; (focus (go_simp; all_goals with_reducible rfl))) | ((refine St.loadRow rfl hM rfl rfl rfl rfl (by repeat constructor) (Nat.le_of_ble_eq_true rfl) (by kernel_rfl) ?_); (try simp only [Res.known, List.drop_succ_cons, List.drop_zero, List.take_succ_cons, List.take_zero])) | ((((refine St.storeRow rfl hM rfl rfl rfl rfl rfl (by repeat constructor) (Nat.le_of_ble_eq_true rfl) (Nat.le_of_ble_eq_true rfl) (by kernel_rfl) rfl ?_ ?_); (focus ((intro h; cases h; done))); clear hM; intro w hM)); (try simp only [Res.put, Res.known, Act.eval, Value.cells, getD_lit, qGz, qGs, List.toList_toArray, qSz, qSs, over, Nat.reduceAdd] at hM))); (try simp only [Act.put, qSa, qSz, qSs])) | (((refine St.alloc (ty := 63) (z := .agg #[.int .i64 0, .bool false, .int .i64 0, .int .i64 0, .string ⟨#[]⟩, .slice none 0 0]) rfl hM rfl rfl (by kernel_rfl) ?_); clear hM; intro w bk hM); (try simp only [Res.put, Res.known, Act.eval, Value.cells, getD_lit, qGz, qGs, List.toList_toArray, qSz, qSs, over, Nat.reduceAdd] at hM); (try simp only [Act.put, qSa, qSz, qSs]))) | (first | (refine wp_seq_shut (fun K hK => ?_)) | (refine wp_text hM (fun Kr hKr => ?_); simp only [List.append_eq, List.cons_append, List.nil_append, inText]) | (refine wp_cond_true rfl ?_) | ((refine hK.out _ _ ?_); clear hK K))))
  ((refine wp_ret ?_; (try simp only [Exit.then, Exit.inBlock]); refine St.ret hM rfl (by repeat (first | exact Outs.nil | apply Outs.tmp rfl | (apply Outs.row rfl rfl (by repeat constructor) (by kernel_rfl)))) rfl ?_))
  exact ⟨rfl, hM.to_below⟩
/-- What a place answers. -/
def placeN (z : NodV) (s : ByteArray) : Int := if z.1.dir then (if In.isName s then 0 else 1) else 12
set_option maxHeartbeats 8000000 in
set_option maxRecDepth 100000 in
theorem rplace_some (h : RRaw x q nx zs w0) {dir : Int} {s : ByteArray} (hs : s.size ≤ 1000000000) {z : NodV} (hf : rfind zs dir = some z) : Calls Tryz.prog 53 #[.pointer (some ⟨x.g, 0, none⟩), .int .i64 dir, .string s] w0 fun e w' => e = .returned (.tuple #[.agg z.cells.toArray, .int .i64 (placeN z s)]) ∧ Below w0.heap.size w0 w' := by
  have hM := St.start w0 []
  have HC := Lib.hid (show ∀ W, Below w0.heap.size w0 W → Calls Tryz.prog 57 #[.pointer (some ⟨x.g, 0, none⟩), .int .i64 dir] W fun e w' => e = .returned (.tuple #[.agg z.cells.toArray, .bool true]) ∧ Below W.heap.size W w' from fun W hb => by
    have C := rget_any (h.below hb) dir
    rw [show (zs.find? fun z => z.1.id == dir) = some z from hf] at C
    exact C)
  have HI := Lib.hid (fun W : World => rIsName_any s W hs)
  obtain ⟨va, vc, hv, -⟩ := slV_open (h.names z (List.mem_of_find?_eq_some hf))
  clear h hf hs
  obtain ⟨⟨zi, zd, zl, zh, zb, zn⟩, zp⟩ := z
  unfold NodV.cells at HC ⊢
  simp only at hv HC ⊢
  rw [hv] at HC ⊢
  clear hv
  unfold placeN
  simp only
  cases zd with
  | false =>
    go_enter Tryz.func53, Tryz.ntmps53
    (repeat (first | ((with_reducible show wpSeq _ _ _ _ _ _ _); first | ((with_reducible refine wpSeq_nil ?_); refine hKr.out _ _ ?_; clear hKr Kr) | (((refine St.copy (v := ?_) (by first | exact .inl rfl | exact .inr rfl) rfl rfl ?_ ?_; rotate_left; (focus ((try simp only [Act.eval, getD_lit, qGz, qGs]); with_reducible rfl)))); (try simp only [Act.put, qSa, qSz, qSs])) | (((refine St.alloc (ty := 63) (z := .agg #[.int .i64 0, .bool false, .int .i64 0, .int .i64 0, .string ⟨#[]⟩, .slice none 0 0]) rfl hM rfl rfl (by kernel_rfl) ?_); clear hM; intro w bk hM); (try simp only [Res.put, Res.known, Act.eval, Value.cells, getD_lit, qGz, qGs, List.toList_toArray, qSz, qSs, over, Nat.reduceAdd] at hM); (try simp only [Act.put, qSa, qSz, qSs]))) | (first | (refine wp_seq_shut (fun K hK => ?_)) | (refine wp_text hM (fun Kr hKr => ?_); simp only [List.append_eq, List.cons_append, List.nil_append, inText]) | ((refine hK.out _ _ ?_); clear hK K))))
    (refine St.call3 rfl rfl (by kernel_rfl) (fun R hR => ?_); simp only [List.map_toArray, List.map_cons, List.map_nil, Act.eval, getD_lit, qGz, qGs])
    refine (HC.out _ hM.to_below).mono ?_
    (rintro e w' ⟨rfl, hb⟩; refine hR.out _ _ ?_; clear hR R; replace hM := hM.below hb; clear hb; (try simp only [Act.put, qSa, qSz, qSs]))
    (repeat (first | ((with_reducible show wpSeq _ _ _ _ _ _ _); first | ((with_reducible refine wpSeq_nil ?_); refine hKr.out _ _ ?_; clear hKr Kr) | ((first | (refine St.copy (v := ?_) (by first | exact .inl rfl | exact .inr rfl) rfl rfl ?_ ?_; rotate_left; (focus ((try simp only [Act.eval, getD_lit, qGz, qGs]); with_reducible rfl))) | (refine St.pure (v := ?_) rfl rfl rfl (fun w => ?_) ?_; rotate_left; (focus (go_simp; all_goals with_reducible rfl))) | refine St.load rfl hM rfl rfl rfl rfl (by repeat constructor) (by rfl) (by kernel_rfl) ?_ | ((refine St.loadRow rfl hM rfl rfl rfl rfl (by repeat constructor) (Nat.le_of_ble_eq_true rfl) (by kernel_rfl) ?_); (try simp only [Res.known, List.drop_succ_cons, List.drop_zero, List.take_succ_cons, List.take_zero])) | ((((refine St.storeRow rfl hM rfl rfl rfl rfl rfl (by repeat constructor) (Nat.le_of_ble_eq_true rfl) (Nat.le_of_ble_eq_true rfl) (by kernel_rfl) rfl ?_ ?_); (focus ((intro h; cases h; done))); clear hM; intro w hM)); (try simp only [Res.put, Res.known, Act.eval, Value.cells, getD_lit, qGz, qGs, List.toList_toArray, qSz, qSs, over, Nat.reduceAdd] at hM))); (try simp only [Act.put, qSa, qSz, qSs])) | (((refine St.alloc (ty := 63) (z := .agg #[.int .i64 0, .bool false, .int .i64 0, .int .i64 0, .string ⟨#[]⟩, .slice none 0 0]) rfl hM rfl rfl (by kernel_rfl) ?_); clear hM; intro w bk hM); (try simp only [Res.put, Res.known, Act.eval, Value.cells, getD_lit, qGz, qGs, List.toList_toArray, qSz, qSs, over, Nat.reduceAdd] at hM); (try simp only [Act.put, qSa, qSz, qSs]))) | (first | (refine wp_seq_shut (fun K hK => ?_)) | (refine wp_text hM (fun Kr hKr => ?_); simp only [List.append_eq, List.cons_append, List.nil_append, inText]) | refine wp_skip ?_ | (first | refine wp_cond_true rfl ?_ | refine wp_cond_false rfl ?_) | ((refine hK.out _ _ ?_); clear hK K))))
    ((refine wp_ret ?_; (try simp only [Exit.then, Exit.inBlock]); refine St.ret hM rfl (by repeat (first | exact Outs.nil | apply Outs.tmp rfl | (apply Outs.row rfl rfl (by repeat constructor) (by kernel_rfl)))) rfl ?_))
    exact ⟨rfl, hM.to_below⟩
  | true =>
    cases hN : In.isName s with
    | false =>
      rw [hN] at HI
      clear hN
      go_enter Tryz.func53, Tryz.ntmps53
      (repeat (first | ((with_reducible show wpSeq _ _ _ _ _ _ _); first | ((with_reducible refine wpSeq_nil ?_); refine hKr.out _ _ ?_; clear hKr Kr) | (((refine St.copy (v := ?_) (by first | exact .inl rfl | exact .inr rfl) rfl rfl ?_ ?_; rotate_left; (focus ((try simp only [Act.eval, getD_lit, qGz, qGs]); with_reducible rfl)))); (try simp only [Act.put, qSa, qSz, qSs])) | (((refine St.alloc (ty := 63) (z := .agg #[.int .i64 0, .bool false, .int .i64 0, .int .i64 0, .string ⟨#[]⟩, .slice none 0 0]) rfl hM rfl rfl (by kernel_rfl) ?_); clear hM; intro w bk hM); (try simp only [Res.put, Res.known, Act.eval, Value.cells, getD_lit, qGz, qGs, List.toList_toArray, qSz, qSs, over, Nat.reduceAdd] at hM); (try simp only [Act.put, qSa, qSz, qSs]))) | (first | (refine wp_seq_shut (fun K hK => ?_)) | (refine wp_text hM (fun Kr hKr => ?_); simp only [List.append_eq, List.cons_append, List.nil_append, inText]) | ((refine hK.out _ _ ?_); clear hK K))))
      (refine St.call3 rfl rfl (by kernel_rfl) (fun R hR => ?_); simp only [List.map_toArray, List.map_cons, List.map_nil, Act.eval, getD_lit, qGz, qGs])
      refine (HC.out _ hM.to_below).mono ?_
      (rintro e w' ⟨rfl, hb⟩; refine hR.out _ _ ?_; clear hR R; replace hM := hM.below hb; clear hb; (try simp only [Act.put, qSa, qSz, qSs]))
      (repeat (first | ((with_reducible show wpSeq _ _ _ _ _ _ _); first | ((with_reducible refine wpSeq_nil ?_); refine hKr.out _ _ ?_; clear hKr Kr) | ((first | (refine St.copy (v := ?_) (by first | exact .inl rfl | exact .inr rfl) rfl rfl ?_ ?_; rotate_left; (focus ((try simp only [Act.eval, getD_lit, qGz, qGs]); with_reducible rfl))) | (refine St.pure (v := ?_) rfl rfl rfl (fun w => ?_) ?_; rotate_left; (focus (go_simp; all_goals with_reducible rfl))) | refine St.load rfl hM rfl rfl rfl rfl (by repeat constructor) (by rfl) (by kernel_rfl) ?_ | ((((refine St.storeRow rfl hM rfl rfl rfl rfl rfl (by repeat constructor) (Nat.le_of_ble_eq_true rfl) (Nat.le_of_ble_eq_true rfl) (by kernel_rfl) rfl ?_ ?_); (focus ((intro h; cases h; done))); clear hM; intro w hM)); (try simp only [Res.put, Res.known, Act.eval, Value.cells, getD_lit, qGz, qGs, List.toList_toArray, qSz, qSs, over, Nat.reduceAdd] at hM))); (try simp only [Act.put, qSa, qSz, qSs])) | (((refine St.alloc (ty := 63) (z := .agg #[.int .i64 0, .bool false, .int .i64 0, .int .i64 0, .string ⟨#[]⟩, .slice none 0 0]) rfl hM rfl rfl (by kernel_rfl) ?_); clear hM; intro w bk hM); (try simp only [Res.put, Res.known, Act.eval, Value.cells, getD_lit, qGz, qGs, List.toList_toArray, qSz, qSs, over, Nat.reduceAdd] at hM); (try simp only [Act.put, qSa, qSz, qSs]))) | (first | (refine wp_seq_shut (fun K hK => ?_)) | (refine wp_text hM (fun Kr hKr => ?_); simp only [List.append_eq, List.cons_append, List.nil_append, inText]) | refine wp_skip ?_ | (refine wp_cond_false rfl ?_) | ((refine hK.out _ _ ?_); clear hK K))))
      (refine St.call3 rfl rfl (by kernel_rfl) (fun R hR => ?_); simp only [List.map_toArray, List.map_cons, List.map_nil, Act.eval, getD_lit, qGz, qGs])
      refine (HI.out _).mono ?_
      (rintro e w' ⟨rfl, hb⟩; refine hR.out _ _ ?_; clear hR R; replace hM := hM.below hb; clear hb; (try simp only [Act.put, qSa, qSz, qSs]))
      (repeat (first | ((with_reducible show wpSeq _ _ _ _ _ _ _); first | ((with_reducible refine wpSeq_nil ?_); refine hKr.out _ _ ?_; clear hKr Kr) | ((first | (refine St.copy (v := ?_) (by exact .inr rfl) rfl rfl ?_ ?_; rotate_left; (focus ((try simp only [Act.eval, getD_lit, qGz, qGs]); with_reducible rfl))) | (refine St.pure (v := ?_) rfl rfl rfl (fun w => ?_) ?_; rotate_left; (focus (go_simp; all_goals with_reducible rfl))) | ((refine St.loadRow rfl hM rfl rfl rfl rfl (by repeat constructor) (Nat.le_of_ble_eq_true rfl) (by kernel_rfl) ?_); (try simp only [Res.known, List.drop_succ_cons, List.drop_zero, List.take_succ_cons, List.take_zero])) | ((((refine St.storeRow rfl hM rfl rfl rfl rfl rfl (by repeat constructor) (Nat.le_of_ble_eq_true rfl) (Nat.le_of_ble_eq_true rfl) (by kernel_rfl) rfl ?_ ?_); (focus ((intro h; cases h; done))); clear hM; intro w hM)); (try simp only [Res.put, Res.known, Act.eval, Value.cells, getD_lit, qGz, qGs, List.toList_toArray, qSz, qSs, over, Nat.reduceAdd] at hM))); (try simp only [Act.put, qSa, qSz, qSs]))) | (first | (refine wp_seq_shut (fun K hK => ?_)) | (refine wp_text hM (fun Kr hKr => ?_); simp only [List.append_eq, List.cons_append, List.nil_append, inText]) | (refine wp_cond_true rfl ?_) | ((refine hK.out _ _ ?_); clear hK K))))
      ((refine wp_ret ?_; (try simp only [Exit.then, Exit.inBlock]); refine St.ret hM rfl (by repeat (first | exact Outs.nil | apply Outs.tmp rfl | (apply Outs.row rfl rfl (by repeat constructor) (by kernel_rfl)))) rfl ?_))
      exact ⟨rfl, hM.to_below⟩
    | true =>
      rw [hN] at HI
      clear hN
      go_enter Tryz.func53, Tryz.ntmps53
      (repeat (first | ((with_reducible show wpSeq _ _ _ _ _ _ _); first | ((with_reducible refine wpSeq_nil ?_); refine hKr.out _ _ ?_; clear hKr Kr) | (((refine St.copy (v := ?_) (by first | exact .inl rfl | exact .inr rfl) rfl rfl ?_ ?_; rotate_left; (focus ((try simp only [Act.eval, getD_lit, qGz, qGs]); with_reducible rfl)))); (try simp only [Act.put, qSa, qSz, qSs])) | (((refine St.alloc (ty := 63) (z := .agg #[.int .i64 0, .bool false, .int .i64 0, .int .i64 0, .string ⟨#[]⟩, .slice none 0 0]) rfl hM rfl rfl (by kernel_rfl) ?_); clear hM; intro w bk hM); (try simp only [Res.put, Res.known, Act.eval, Value.cells, getD_lit, qGz, qGs, List.toList_toArray, qSz, qSs, over, Nat.reduceAdd] at hM); (try simp only [Act.put, qSa, qSz, qSs]))) | (first | (refine wp_seq_shut (fun K hK => ?_)) | (refine wp_text hM (fun Kr hKr => ?_); simp only [List.append_eq, List.cons_append, List.nil_append, inText]) | ((refine hK.out _ _ ?_); clear hK K))))
      (refine St.call3 rfl rfl (by kernel_rfl) (fun R hR => ?_); simp only [List.map_toArray, List.map_cons, List.map_nil, Act.eval, getD_lit, qGz, qGs])
      refine (HC.out _ hM.to_below).mono ?_
      (rintro e w' ⟨rfl, hb⟩; refine hR.out _ _ ?_; clear hR R; replace hM := hM.below hb; clear hb; (try simp only [Act.put, qSa, qSz, qSs]))
      (repeat (first | ((with_reducible show wpSeq _ _ _ _ _ _ _); first | ((with_reducible refine wpSeq_nil ?_); refine hKr.out _ _ ?_; clear hKr Kr) | ((first | (refine St.copy (v := ?_) (by first | exact .inl rfl | exact .inr rfl) rfl rfl ?_ ?_; rotate_left; (focus ((try simp only [Act.eval, getD_lit, qGz, qGs]); with_reducible rfl))) | (refine St.pure (v := ?_) rfl rfl rfl (fun w => ?_) ?_; rotate_left; (focus (go_simp; all_goals with_reducible rfl))) | refine St.load rfl hM rfl rfl rfl rfl (by repeat constructor) (by rfl) (by kernel_rfl) ?_ | ((((refine St.storeRow rfl hM rfl rfl rfl rfl rfl (by repeat constructor) (Nat.le_of_ble_eq_true rfl) (Nat.le_of_ble_eq_true rfl) (by kernel_rfl) rfl ?_ ?_); (focus ((intro h; cases h; done))); clear hM; intro w hM)); (try simp only [Res.put, Res.known, Act.eval, Value.cells, getD_lit, qGz, qGs, List.toList_toArray, qSz, qSs, over, Nat.reduceAdd] at hM))); (try simp only [Act.put, qSa, qSz, qSs])) | (((refine St.alloc (ty := 63) (z := .agg #[.int .i64 0, .bool false, .int .i64 0, .int .i64 0, .string ⟨#[]⟩, .slice none 0 0]) rfl hM rfl rfl (by kernel_rfl) ?_); clear hM; intro w bk hM); (try simp only [Res.put, Res.known, Act.eval, Value.cells, getD_lit, qGz, qGs, List.toList_toArray, qSz, qSs, over, Nat.reduceAdd] at hM); (try simp only [Act.put, qSa, qSz, qSs]))) | (first | (refine wp_seq_shut (fun K hK => ?_)) | (refine wp_text hM (fun Kr hKr => ?_); simp only [List.append_eq, List.cons_append, List.nil_append, inText]) | refine wp_skip ?_ | (refine wp_cond_false rfl ?_) | ((refine hK.out _ _ ?_); clear hK K))))
      (refine St.call3 rfl rfl (by kernel_rfl) (fun R hR => ?_); simp only [List.map_toArray, List.map_cons, List.map_nil, Act.eval, getD_lit, qGz, qGs])
      refine (HI.out _).mono ?_
      (rintro e w' ⟨rfl, hb⟩; refine hR.out _ _ ?_; clear hR R; replace hM := hM.below hb; clear hb; (try simp only [Act.put, qSa, qSz, qSs]))
      (repeat (first | ((with_reducible show wpSeq _ _ _ _ _ _ _); first | ((with_reducible refine wpSeq_nil ?_); refine hKr.out _ _ ?_; clear hKr Kr) | ((first | (refine St.copy (v := ?_) (by exact .inr rfl) rfl rfl ?_ ?_; rotate_left; (focus ((try simp only [Act.eval, getD_lit, qGz, qGs]); with_reducible rfl))) | (refine St.pure (v := ?_) rfl rfl rfl (fun w => ?_) ?_; rotate_left; (focus (go_simp; all_goals with_reducible rfl))) | ((refine St.loadRow rfl hM rfl rfl rfl rfl (by repeat constructor) (Nat.le_of_ble_eq_true rfl) (by kernel_rfl) ?_); (try simp only [Res.known, List.drop_succ_cons, List.drop_zero, List.take_succ_cons, List.take_zero])) | ((((refine St.storeRow rfl hM rfl rfl rfl rfl rfl (by repeat constructor) (Nat.le_of_ble_eq_true rfl) (Nat.le_of_ble_eq_true rfl) (by kernel_rfl) rfl ?_ ?_); (focus ((intro h; cases h; done))); clear hM; intro w hM)); (try simp only [Res.put, Res.known, Act.eval, Value.cells, getD_lit, qGz, qGs, List.toList_toArray, qSz, qSs, over, Nat.reduceAdd] at hM))); (try simp only [Act.put, qSa, qSz, qSs]))) | (first | (refine wp_seq_shut (fun K hK => ?_)) | (refine wp_text hM (fun Kr hKr => ?_); simp only [List.append_eq, List.cons_append, List.nil_append, inText]) | refine wp_skip ?_ | (refine wp_cond_false rfl ?_) | ((refine hK.out _ _ ?_); clear hK K))))
      ((refine wp_ret ?_; (try simp only [Exit.then, Exit.inBlock]); refine St.ret hM rfl (by repeat (first | exact Outs.nil | apply Outs.tmp rfl | (apply Outs.row rfl rfl (by repeat constructor) (by kernel_rfl)))) rfl ?_))
      exact ⟨rfl, hM.to_below⟩
end
end Go.Proofs.YtcicjklhbnipcaaGreat
namespace Go.Proofs.YtcicjklhbnipcaaGreat
set_option linter.unusedVariables false
set_option linter.unusedSimpArgs false
open Go.RowKit Go.Maps
section
variable {w w' w0 : World} {zs : List NodV} {x : RX} {q nx : Int}
/-- What Find answers. -/
def rfindR (zs : List NodV) (dir : Int) (s : ByteArray) : Int × Int :=
  match rfind zs dir with
  | none => (0, 3)
  | some z => if placeN z s = 0 then (if In.leads z.1.names s = 0 then (0, 3) else (In.leads z.1.names s, 0)) else (0, placeN z s)
set_option maxHeartbeats 8000000 in
set_option maxRecDepth 100000 in
theorem rFind_any (h : RRaw x q nx zs w0) (hl : ∀ z ∈ zs, z.1.names.length ≤ 1000000) {dir : Int} {s : ByteArray} (hs : s.size ≤ 1000000000) : Calls Tryz.prog 30 #[.pointer (some ⟨x.g, 0, none⟩), .int .i64 dir, .string s] w0 fun e w' => e = .returned (.tuple #[.int .i64 (rfindR zs dir s).1, .int .i64 (rfindR zs dir s).2]) ∧ Below w0.heap.size w0 w' := by
  have hM := St.start w0 []
  unfold rfindR
  cases hf : rfind zs dir with
  | none =>
    have HC := Lib.hid (fun (W : World) (hb : Below w0.heap.size w0 W) => rplace_none (s := s) (h.below hb) hf)
    unfold nodZ at HC
    clear h hf hs hl
    simp only
    go_enter Tryz.func30, Tryz.ntmps30
    (repeat (first | ((with_reducible show wpSeq _ _ _ _ _ _ _); first | ((with_reducible refine wpSeq_nil ?_); refine hKr.out _ _ ?_; clear hKr Kr) | (((refine St.copy (v := ?_) (by first | exact .inl rfl | exact .inr rfl) rfl rfl ?_ ?_; rotate_left; (focus ((try simp only [Act.eval, getD_lit, qGz, qGs]); with_reducible rfl)))); (try simp only [Act.put, qSa, qSz, qSs]))) | (first | (refine wp_seq_shut (fun K hK => ?_)) | (refine wp_text hM (fun Kr hKr => ?_); simp only [List.append_eq, List.cons_append, List.nil_append, inText]) | ((refine hK.out _ _ ?_); clear hK K))))
    (refine St.call3 rfl rfl (by kernel_rfl) (fun R hR => ?_); simp only [List.map_toArray, List.map_cons, List.map_nil, Act.eval, getD_lit, qGz, qGs])
    refine (HC.out _ hM.to_below).mono ?_
    (rintro e w' ⟨rfl, hb⟩; refine hR.out _ _ ?_; clear hR R; replace hM := hM.below hb; clear hb; (try simp only [Act.put, qSa, qSz, qSs]))
    (repeat (first | ((with_reducible show wpSeq _ _ _ _ _ _ _); first | ((with_reducible refine wpSeq_nil ?_); refine hKr.out _ _ ?_; clear hKr Kr) | ((first | (refine St.copy (v := ?_) (by first | exact .inl rfl | exact .inr rfl) rfl rfl ?_ ?_; rotate_left; (focus ((try simp only [Act.eval, getD_lit, qGz, qGs]); with_reducible rfl))) | (refine St.pure (v := ?_) rfl rfl rfl (fun w => ?_) ?_; rotate_left; (focus (go_simp; all_goals with_reducible rfl))) | ((((refine St.storeRow rfl hM rfl rfl rfl rfl rfl (by repeat constructor) (Nat.le_of_ble_eq_true rfl) (Nat.le_of_ble_eq_true rfl) (by kernel_rfl) rfl ?_ ?_); (focus ((intro h; cases h; done))); clear hM; intro w hM)); (try simp only [Res.put, Res.known, Act.eval, Value.cells, getD_lit, qGz, qGs, List.toList_toArray, qSz, qSs, over, Nat.reduceAdd] at hM))); (try simp only [Act.put, qSa, qSz, qSs])) | (((refine St.alloc (ty := 63) (z := .agg #[.int .i64 0, .bool false, .int .i64 0, .int .i64 0, .string ⟨#[]⟩, .slice none 0 0]) rfl hM rfl rfl (by kernel_rfl) ?_); clear hM; intro w bk hM); (try simp only [Res.put, Res.known, Act.eval, Value.cells, getD_lit, qGz, qGs, List.toList_toArray, qSz, qSs, over, Nat.reduceAdd] at hM); (try simp only [Act.put, qSa, qSz, qSs]))) | (first | (refine wp_seq_shut (fun K hK => ?_)) | (refine wp_text hM (fun Kr hKr => ?_); simp only [List.append_eq, List.cons_append, List.nil_append, inText]) | (refine wp_cond_true rfl ?_) | ((refine hK.out _ _ ?_); clear hK K))))
    ((refine wp_ret ?_; (try simp only [Exit.then, Exit.inBlock]); refine St.ret hM rfl (by repeat (first | exact Outs.nil | apply Outs.tmp rfl)) rfl ?_))
    exact ⟨rfl, hM.to_below⟩
  | some z =>
    have hz := List.mem_of_find?_eq_some hf
    have HC := Lib.hid (fun (W : World) (hb : Below w0.heap.size w0 W) => rplace_some (s := s) (h.below hb) hs hf)
    have HLD := Lib.hid (fun (W : World) (hb : Below w0.heap.size w0 W) => rleads_any z (h.nm hl hz |>.below hb) s)
    obtain ⟨va, vc, hv, -⟩ := slV_open (h.names z hz)
    clear h hf hs hl hz
    simp only
    generalize placeN z s = c at *
    generalize In.leads z.1.names s = i at *
    obtain ⟨⟨zi, zd, zl, zh, zb, zn⟩, zp⟩ := z
    unfold NodV.cells at HC HLD
    simp only at hv HC HLD ⊢
    rw [hv] at HC HLD
    clear hv
    by_cases hc : c = 0
    · subst hc
      rw [if_pos rfl]
      by_cases hi : i = 0
      · subst hi
        rw [if_pos rfl]
        go_enter Tryz.func30, Tryz.ntmps30
        (repeat (first | ((with_reducible show wpSeq _ _ _ _ _ _ _); first | ((with_reducible refine wpSeq_nil ?_); refine hKr.out _ _ ?_; clear hKr Kr) | (((refine St.copy (v := ?_) (by first | exact .inl rfl | exact .inr rfl) rfl rfl ?_ ?_; rotate_left; (focus ((try simp only [Act.eval, getD_lit, qGz, qGs]); with_reducible rfl)))); (try simp only [Act.put, qSa, qSz, qSs]))) | (first | (refine wp_seq_shut (fun K hK => ?_)) | (refine wp_text hM (fun Kr hKr => ?_); simp only [List.append_eq, List.cons_append, List.nil_append, inText]) | ((refine hK.out _ _ ?_); clear hK K))))
        (refine St.call3 rfl rfl (by kernel_rfl) (fun R hR => ?_); simp only [List.map_toArray, List.map_cons, List.map_nil, Act.eval, getD_lit, qGz, qGs])
        refine (HC.out _ hM.to_below).mono ?_
        (rintro e w' ⟨rfl, hb⟩; refine hR.out _ _ ?_; clear hR R; replace hM := hM.below hb; clear hb; (try simp only [Act.put, qSa, qSz, qSs]))
        (repeat (first | ((with_reducible show wpSeq _ _ _ _ _ _ _); first | ((with_reducible refine wpSeq_nil ?_); refine hKr.out _ _ ?_; clear hKr Kr) | ((first | (refine St.copy (v := ?_) (by first | exact .inl rfl | exact .inr rfl) rfl rfl ?_ ?_; rotate_left; (focus ((try simp only [Act.eval, getD_lit, qGz, qGs]); with_reducible rfl))) | (refine St.pure (v := ?_) rfl rfl rfl (fun w => ?_) ?_; rotate_left; (focus (go_simp; all_goals with_reducible rfl))) | ((refine St.loadRow rfl hM rfl rfl rfl rfl (by repeat constructor) (Nat.le_of_ble_eq_true rfl) (by kernel_rfl) ?_); (try simp only [Res.known, List.drop_succ_cons, List.drop_zero, List.take_succ_cons, List.take_zero])) | ((((refine St.storeRow rfl hM rfl rfl rfl rfl rfl (by repeat constructor) (Nat.le_of_ble_eq_true rfl) (Nat.le_of_ble_eq_true rfl) (by kernel_rfl) rfl ?_ ?_); (focus ((intro h; cases h; done))); clear hM; intro w hM)); (try simp only [Res.put, Res.known, Act.eval, Value.cells, getD_lit, qGz, qGs, List.toList_toArray, qSz, qSs, over, Nat.reduceAdd] at hM))); (try simp only [Act.put, qSa, qSz, qSs])) | (((refine St.alloc (ty := 63) (z := .agg #[.int .i64 0, .bool false, .int .i64 0, .int .i64 0, .string ⟨#[]⟩, .slice none 0 0]) rfl hM rfl rfl (by kernel_rfl) ?_); clear hM; intro w bk hM); (try simp only [Res.put, Res.known, Act.eval, Value.cells, getD_lit, qGz, qGs, List.toList_toArray, qSz, qSs, over, Nat.reduceAdd] at hM); (try simp only [Act.put, qSa, qSz, qSs]))) | (first | (refine wp_seq_shut (fun K hK => ?_)) | (refine wp_text hM (fun Kr hKr => ?_); simp only [List.append_eq, List.cons_append, List.nil_append, inText]) | refine wp_skip ?_ | (refine wp_cond_false rfl ?_) | ((refine hK.out _ _ ?_); clear hK K))))
        (refine St.call3 rfl rfl (by kernel_rfl) (fun R hR => ?_); simp only [List.map_toArray, List.map_cons, List.map_nil, Act.eval, getD_lit, qGz, qGs])
        refine (HLD.out _ hM.to_below).mono ?_
        (rintro e w' ⟨rfl, hb⟩; refine hR.out _ _ ?_; clear hR R; replace hM := hM.below hb; clear hb; (try simp only [Act.put, qSa, qSz, qSs]))
        (repeat (first | ((with_reducible show wpSeq _ _ _ _ _ _ _); first | ((with_reducible refine wpSeq_nil ?_); refine hKr.out _ _ ?_; clear hKr Kr) | ((first | (refine St.copy (v := ?_) (by first | exact .inl rfl | exact .inr rfl) rfl rfl ?_ ?_; rotate_left; (focus ((try simp only [Act.eval, getD_lit, qGz, qGs]); with_reducible rfl))) | (refine St.pure (v := ?_) rfl rfl rfl (fun w => ?_) ?_; rotate_left; (focus (go_simp; all_goals with_reducible rfl)))); (try simp only [Act.put, qSa, qSz, qSs]))) | (first | (refine wp_seq_shut (fun K hK => ?_)) | (refine wp_text hM (fun Kr hKr => ?_); simp only [List.append_eq, List.cons_append, List.nil_append, inText]) | (refine wp_cond_true rfl ?_) | ((refine hK.out _ _ ?_); clear hK K))))
        ((refine wp_ret ?_; (try simp only [Exit.then, Exit.inBlock]); refine St.ret hM rfl (by repeat (first | exact Outs.nil | apply Outs.tmp rfl)) rfl ?_))
        exact ⟨rfl, hM.to_below⟩
      · have q1 : (i == 0) = false := beq_eq_false_iff_ne.2 hi
        rw [if_neg hi]
        clear hi
        go_enter Tryz.func30, Tryz.ntmps30
        (repeat (first | ((with_reducible show wpSeq _ _ _ _ _ _ _); first | ((with_reducible refine wpSeq_nil ?_); refine hKr.out _ _ ?_; clear hKr Kr) | (((refine St.copy (v := ?_) (by first | exact .inl rfl | exact .inr rfl) rfl rfl ?_ ?_; rotate_left; (focus ((try simp only [Act.eval, getD_lit, qGz, qGs]); with_reducible rfl)))); (try simp only [Act.put, qSa, qSz, qSs]))) | (first | (refine wp_seq_shut (fun K hK => ?_)) | (refine wp_text hM (fun Kr hKr => ?_); simp only [List.append_eq, List.cons_append, List.nil_append, inText]) | ((refine hK.out _ _ ?_); clear hK K))))
        (refine St.call3 rfl rfl (by kernel_rfl) (fun R hR => ?_); simp only [List.map_toArray, List.map_cons, List.map_nil, Act.eval, getD_lit, qGz, qGs])
        refine (HC.out _ hM.to_below).mono ?_
        (rintro e w' ⟨rfl, hb⟩; refine hR.out _ _ ?_; clear hR R; replace hM := hM.below hb; clear hb; (try simp only [Act.put, qSa, qSz, qSs]))
        (repeat (first | ((with_reducible show wpSeq _ _ _ _ _ _ _); first | ((with_reducible refine wpSeq_nil ?_); refine hKr.out _ _ ?_; clear hKr Kr) | ((first | (refine St.copy (v := ?_) (by first | exact .inl rfl | exact .inr rfl) rfl rfl ?_ ?_; rotate_left; (focus ((try simp only [Act.eval, getD_lit, qGz, qGs]); with_reducible rfl))) | (refine St.pure (v := ?_) rfl rfl rfl (fun w => ?_) ?_; rotate_left; (focus (go_simp; all_goals with_reducible rfl))) | ((refine St.loadRow rfl hM rfl rfl rfl rfl (by repeat constructor) (Nat.le_of_ble_eq_true rfl) (by kernel_rfl) ?_); (try simp only [Res.known, List.drop_succ_cons, List.drop_zero, List.take_succ_cons, List.take_zero])) | ((((refine St.storeRow rfl hM rfl rfl rfl rfl rfl (by repeat constructor) (Nat.le_of_ble_eq_true rfl) (Nat.le_of_ble_eq_true rfl) (by kernel_rfl) rfl ?_ ?_); (focus ((intro h; cases h; done))); clear hM; intro w hM)); (try simp only [Res.put, Res.known, Act.eval, Value.cells, getD_lit, qGz, qGs, List.toList_toArray, qSz, qSs, over, Nat.reduceAdd] at hM))); (try simp only [Act.put, qSa, qSz, qSs])) | (((refine St.alloc (ty := 63) (z := .agg #[.int .i64 0, .bool false, .int .i64 0, .int .i64 0, .string ⟨#[]⟩, .slice none 0 0]) rfl hM rfl rfl (by kernel_rfl) ?_); clear hM; intro w bk hM); (try simp only [Res.put, Res.known, Act.eval, Value.cells, getD_lit, qGz, qGs, List.toList_toArray, qSz, qSs, over, Nat.reduceAdd] at hM); (try simp only [Act.put, qSa, qSz, qSs]))) | (first | (refine wp_seq_shut (fun K hK => ?_)) | (refine wp_text hM (fun Kr hKr => ?_); simp only [List.append_eq, List.cons_append, List.nil_append, inText]) | refine wp_skip ?_ | (refine wp_cond_false rfl ?_) | ((refine hK.out _ _ ?_); clear hK K))))
        (refine St.call3 rfl rfl (by kernel_rfl) (fun R hR => ?_); simp only [List.map_toArray, List.map_cons, List.map_nil, Act.eval, getD_lit, qGz, qGs])
        refine (HLD.out _ hM.to_below).mono ?_
        (rintro e w' ⟨rfl, hb⟩; refine hR.out _ _ ?_; clear hR R; replace hM := hM.below hb; clear hb; (try simp only [Act.put, qSa, qSz, qSs]))
        (repeat (first | ((with_reducible show wpSeq _ _ _ _ _ _ _); first | ((with_reducible refine wpSeq_nil ?_); refine hKr.out _ _ ?_; clear hKr Kr) | ((first | (refine St.copy (v := ?_) (by first | exact .inl rfl | exact .inr rfl) rfl rfl ?_ ?_; rotate_left; (focus ((try simp only [Act.eval, getD_lit, qGz, qGs]); with_reducible rfl))) | (refine St.pure (v := ?_) rfl rfl rfl (fun w => ?_) ?_; rotate_left; (focus (go_simp; all_goals with_reducible rfl)))); (try simp only [Act.put, qSa, qSz, qSs]))) | (first | (refine wp_seq_shut (fun K hK => ?_)) | (refine wp_text hM (fun Kr hKr => ?_); simp only [List.append_eq, List.cons_append, List.nil_append, inText]) | refine wp_skip ?_ | (refine wp_cond_false rfl ?_) | ((refine hK.out _ _ ?_); clear hK K))))
        ((refine wp_ret ?_; (try simp only [Exit.then, Exit.inBlock]); refine St.ret hM rfl (by repeat (first | exact Outs.nil | apply Outs.tmp rfl)) rfl ?_))
        exact ⟨rfl, hM.to_below⟩
    · have q1 : (c != 0) = true := bne_iff_ne.2 hc
      rw [if_neg hc]
      clear hc
      go_enter Tryz.func30, Tryz.ntmps30
      (repeat (first | ((with_reducible show wpSeq _ _ _ _ _ _ _); first | ((with_reducible refine wpSeq_nil ?_); refine hKr.out _ _ ?_; clear hKr Kr) | (((refine St.copy (v := ?_) (by first | exact .inl rfl | exact .inr rfl) rfl rfl ?_ ?_; rotate_left; (focus ((try simp only [Act.eval, getD_lit, qGz, qGs]); with_reducible rfl)))); (try simp only [Act.put, qSa, qSz, qSs]))) | (first | (refine wp_seq_shut (fun K hK => ?_)) | (refine wp_text hM (fun Kr hKr => ?_); simp only [List.append_eq, List.cons_append, List.nil_append, inText]) | ((refine hK.out _ _ ?_); clear hK K))))
      (refine St.call3 rfl rfl (by kernel_rfl) (fun R hR => ?_); simp only [List.map_toArray, List.map_cons, List.map_nil, Act.eval, getD_lit, qGz, qGs])
      refine (HC.out _ hM.to_below).mono ?_
      (rintro e w' ⟨rfl, hb⟩; refine hR.out _ _ ?_; clear hR R; replace hM := hM.below hb; clear hb; (try simp only [Act.put, qSa, qSz, qSs]))
      (repeat (first | ((with_reducible show wpSeq _ _ _ _ _ _ _); first | ((with_reducible refine wpSeq_nil ?_); refine hKr.out _ _ ?_; clear hKr Kr) | ((first | (refine St.copy (v := ?_) (by first | exact .inl rfl | exact .inr rfl) rfl rfl ?_ ?_; rotate_left; (focus ((try simp only [Act.eval, getD_lit, qGz, qGs]); with_reducible rfl))) | (refine St.pure (v := ?_) rfl rfl rfl (fun w => ?_) ?_; rotate_left; (focus (go_simp; all_goals with_reducible rfl))) | ((((refine St.storeRow rfl hM rfl rfl rfl rfl rfl (by repeat constructor) (Nat.le_of_ble_eq_true rfl) (Nat.le_of_ble_eq_true rfl) (by kernel_rfl) rfl ?_ ?_); (focus ((intro h; cases h; done))); clear hM; intro w hM)); (try simp only [Res.put, Res.known, Act.eval, Value.cells, getD_lit, qGz, qGs, List.toList_toArray, qSz, qSs, over, Nat.reduceAdd] at hM))); (try simp only [Act.put, qSa, qSz, qSs])) | (((refine St.alloc (ty := 63) (z := .agg #[.int .i64 0, .bool false, .int .i64 0, .int .i64 0, .string ⟨#[]⟩, .slice none 0 0]) rfl hM rfl rfl (by kernel_rfl) ?_); clear hM; intro w bk hM); (try simp only [Res.put, Res.known, Act.eval, Value.cells, getD_lit, qGz, qGs, List.toList_toArray, qSz, qSs, over, Nat.reduceAdd] at hM); (try simp only [Act.put, qSa, qSz, qSs]))) | (first | (refine wp_seq_shut (fun K hK => ?_)) | (refine wp_text hM (fun Kr hKr => ?_); simp only [List.append_eq, List.cons_append, List.nil_append, inText]) | (refine wp_cond_true rfl ?_) | ((refine hK.out _ _ ?_); clear hK K))))
      ((refine wp_ret ?_; (try simp only [Exit.then, Exit.inBlock]); refine St.ret hM rfl (by repeat (first | exact Outs.nil | apply Outs.tmp rfl)) rfl ?_))
      exact ⟨rfl, hM.to_below⟩
end
end Go.Proofs.YtcicjklhbnipcaaGreat
namespace Go.Proofs.YtcicjklhbnipcaaGreat
set_option linter.unusedVariables false
set_option linter.unusedSimpArgs false
open Go.RowKit Go.Maps
section
variable {w w' w0 w1 w2 : World} {F G : List Nat} {L L' M M' : List Ent} {zs : List NodV} {x : RX} {q nx : Int}
/-- What a callee turned in a chunk's place, not all of which may be written. -/
theorem St.backG (h : St w0 F w L) (hs : Swap L M M' L') (h' : St w G w' M') (hG : ∀ k ∈ G, ∃ r, (k, true, r) ∈ M) (hgr : Grow w (keysOf M) (keysOf M')) : St w0 F w' L' := by
  obtain ⟨A, B, rfl, rfl⟩ := hs.split
  have hnd := h.nd
  simp only [List.map_append, List.nodup_append] at hnd
  obtain ⟨n1, ⟨n2, n3, n4⟩, n5⟩ := hnd
  have hGM : ∀ k ∈ G, k ∈ keysOf M := fun k hk => by
    obtain ⟨r, hr⟩ := hG k hk
    exact List.mem_map_of_mem (f := (·.1)) hr
  have hkeep : ∀ x, x ∈ A ∨ x ∈ B → x.1 < w.heap.size ∧ x.1 ∉ keysOf M := fun x hx => by
    refine ⟨h.lt (by rcases hx with h | h <;> simp [h]), fun hm => ?_⟩
    rcases hx with hx | hx
    · exact n5 x.1 (List.mem_map_of_mem hx) x.1 (by rw [List.mem_append]; exact .inl hm) rfl
    · exact n4 x.1 hm x.1 (List.mem_map_of_mem hx) rfl
  refine ⟨h.only.then h'.only (fun k hk => ?_), fun x hx => ?_, ?_, fun x hx hx1 => ?_⟩
  · obtain ⟨r, hr⟩ := hG k hk
    exact h.own (k, true, r) (by simp [hr]) rfl
  · simp only [List.mem_append] at hx
    rcases hx with hx | hx | hx
    · rw [h'.only.block x.1 (hkeep x (.inl hx)).1 (fun hm => (hkeep x (.inl hx)).2 (hGM _ hm))]
      exact h.holds x (by simp [hx])
    · exact h'.holds x hx
    · rw [h'.only.block x.1 (hkeep x (.inr hx)).1 (fun hm => (hkeep x (.inr hx)).2 (hGM _ hm))]
      exact h.holds x (by simp [hx])
  · simp only [List.map_append, List.nodup_append]
    have hne : ∀ x, x ∈ A ∨ x ∈ B → ∀ y ∈ M', x.1 ≠ y.1 := fun x hx y hy e => by
      rcases hgr y.1 (List.mem_map_of_mem hy) with h1 | h1
      · exact (hkeep x hx).2 (e ▸ h1)
      · have := (hkeep x hx).1
        omega
    refine ⟨n1, ⟨h'.nd, n3, fun a ha b hb => ?_⟩, fun a ha b hb => ?_⟩
    · obtain ⟨y, hy, rfl⟩ := List.mem_map.1 ha
      obtain ⟨x, hx, rfl⟩ := List.mem_map.1 hb
      exact (hne x (.inr hx) y hy).symm
    · obtain ⟨x, hx, rfl⟩ := List.mem_map.1 ha
      rcases List.mem_append.1 hb with hb | hb
      · obtain ⟨y, hy, rfl⟩ := List.mem_map.1 hb
        exact hne x (.inl hx) y hy
      · exact n5 x.1 (List.mem_map_of_mem hx) b (by rw [List.mem_append]; exact .inr hb)
  · simp only [List.mem_append] at hx
    rcases hx with hx | hx | hx
    · exact h.own x (by simp [hx]) hx1
    · rcases h'.own x hx hx1 with h1 | h1
      · obtain ⟨r, hr⟩ := hG _ h1
        exact h.own (x.1, true, r) (by simp [hr]) rfl
      · exact .inr (Nat.le_trans h.only.size h1)
    · exact h.own x (by simp [hx]) hx1
theorem RRaw.of {y : RX} {q' nx' : Int} (hA : At (rL y q' nx' zs) w) (sl : NodOK y.s zs) (names : ∀ z ∈ zs, SlOK z.2 z.1.names.length (entC z.1.names) 2) (len : zs.length ≤ 1000000) : RRaw y q' nx' zs w := ⟨hA, sl, names, len⟩
theorem RRaw.st (h : RRaw x q nx zs w) : St w [x.g] w (rL x q nx zs) := by
  refine ⟨Only.refl _ w, h.at_.has, h.at_.nd, fun y hy h1 => ?_⟩
  unfold rL at hy
  rcases List.mem_cons.1 hy with rfl | hy
  · exact .inl (.head _)
  · obtain ⟨z, -, rfl⟩ := List.mem_map.1 hy
    cases h1
/-- The table stands behind: its own block was written, and what is new. -/
theorem RTo.mk' {g : Nat} {s : Option (Nat × Nat)} {K : List Nat} (h : RRaw ⟨g, s⟩ q nx zs w') (ho : Only [g] w0 w') (hg : Grow w0 K (keysOf (rL ⟨g, s⟩ q nx zs))) : RTo g s q nx zs K w0 w' := by
  refine ⟨h, ⟨ho, h.at_.has, h.at_.nd, fun y hy h1 => ?_⟩, hg⟩
  unfold rL at hy
  rcases List.mem_cons.1 hy with rfl | hy
  · exact .inl (.head _)
  · obtain ⟨z, -, rfl⟩ := List.mem_map.1 hy
    cases h1
theorem RTo.refl (h : RRaw x q nx zs w0) : RTo x.g x.s q nx zs (keysOf (rL x q nx zs)) w0 w0 := RTo.mk' h (Only.refl _ _) (Grow.refl _ _)
theorem RTo.below {g : Nat} {s : Option (Nat × Nat)} {K : List Nat} (h : RTo g s q nx zs K w0 w) (hb : Below w.heap.size w w') : RTo g s q nx zs K w0 w' :=
  RTo.mk' (h.raw.below hb) (h.st.only.below (hb.mono h.st.only.size)) h.grow
theorem RTo.trans {g : Nat} {s s' : Option (Nat × Nat)} {K : List Nat} {q' nx' : Int} {zs' : List NodV} (h : RTo g s q nx zs K w0 w1) (h' : RTo g s' q' nx' zs' (keysOf (rL ⟨g, s⟩ q nx zs)) w1 w2) : RTo g s' q' nx' zs' K w0 w2 :=
  RTo.mk' h'.raw (h.st.only.trans h'.st.only) (h.grow.trans h'.grow h.st.only.size)
theorem RTo.same (h : RRaw x q nx zs w0) (hb : Below w0.heap.size w0 w') : RTo x.g x.s q nx zs (keysOf (rL x q nx zs)) w0 w' := (RTo.refl h).below hb
/-- The table, its nodes' array being the call's own. -/
def rLF (x : RX) (q nx : Int) (zs : List NodV) : List Ent := rE x q nx zs.length :: (nodL x.s zs ++ (zs.flatMap NodV.ents).map unflag)
theorem keys_rLF : keysOf (rLF x q nx zs) = keysOf (rL x q nx zs) := by
  unfold rLF rL
  show x.g :: keysOf _ = x.g :: keysOf _
  rw [keys_unflag, keys_app, keys_unflag, keys_app]
theorem At.unF (h : At (rLF x q nx zs) w) : At (rL x q nx zs) w := by
  refine ⟨fun y hy => ?_, by rw [← keys_rLF]; exact h.nd⟩
  unfold rL at hy
  rcases List.mem_cons.1 hy with rfl | hy
  · exact h.has _ (.head _)
  · obtain ⟨z, hz, rfl⟩ := List.mem_map.1 hy
    rcases List.mem_append.1 hz with hz | hz
    · exact h.has z (.tail _ (List.mem_append_left _ hz))
    · exact h.has (unflag z) (.tail _ (List.mem_append_right _ (List.mem_map_of_mem hz)))
theorem keys_rL : keysOf (rL x q nx zs) = x.g :: (keysOf (nodL x.s zs) ++ keysOf (zs.flatMap NodV.ents)) := by
  unfold rL
  show x.g :: keysOf _ = _
  rw [keys_unflag, keys_app]
/-- The table whose array is the call's own is handed back. -/
theorem RTo.fin {g : Nat} {s : Option (Nat × Nat)} {K : List Nat} (h : St w0 [g] w' (rLF ⟨g, s⟩ q nx zs)) (hg : g ∈ K) (hgr : Grow w0 K (keysOf (zs.flatMap NodV.ents))) (sl : NodOK s zs) (names : ∀ z ∈ zs, SlOK z.2 z.1.names.length (entC z.1.names) 2) (len : zs.length ≤ 1000000) : RTo g s q nx zs K w0 w' := by
  refine RTo.mk' (RRaw.of (At.unF h.whole) sl names len) h.only fun k hk => ?_
  rw [keys_rL] at hk
  rcases List.mem_cons.1 hk with rfl | hk
  · exact .inl hg
  · rcases List.mem_append.1 hk with hk | hk
    · obtain ⟨y, hy, rfl⟩ := List.mem_map.1 hk
      rcases h.own y (.tail _ (List.mem_append_left _ hy)) (slL_flag _ _ _ _ y hy) with h1 | h1
      · rcases List.mem_singleton.1 h1 with e
        exact .inl (e ▸ hg)
      · exact .inr h1
    · exact hgr k hk
/-- set: the table's array is the call's own behind it. -/
theorem rputF_any (h : RRaw x q nx zs w0) (hid : Ids zs) (z0 : NodV) (hz0 : SlOK z0.2 z0.1.names.length (entC z0.1.names) 2) (hE : Has z0.ents w0) (h3 : ∀ z ∈ zs, z.1.id ≠ z0.1.id → ∀ k ∈ keysOf z.ents, k ∉ keysOf z0.ents) (hg : x.g ∉ keysOf z0.ents) :
    Calls Tryz.prog 55 #[.pointer (some ⟨x.g, 0, none⟩), .agg z0.cells.toArray] w0 fun e w' => e = .returned (.tuple #[]) ∧ ∃ s', NodOK s' (rset zs z0) ∧ St w0 [x.g] w' (rLF ⟨x.g, s'⟩ q nx (rset zs z0)) ∧ Grow w0 (keysOf (rL x q nx zs) ++ keysOf z0.ents) (keysOf ((rset zs z0).flatMap NodV.ents)) := by
  refine (rset_any h.set0 h.sl h.names h.len z0 hz0).mono ?_
  rintro e w' ⟨rfl, s', hok, hst⟩
  refine ⟨rfl, s', hok, ?_, fun k hk => ?_⟩
  · have hap := h.apart
    rw [keys_app] at hap
    have hA : At ((rset zs z0).flatMap NodV.ents) w0 := ⟨fun y hy => by
      obtain ⟨z, hz, hy2⟩ := List.mem_flatMap.1 hy
      rcases mem_rset hz with e | ⟨hz, -⟩
      · rw [e] at hy2
        exact hE y hy2
      · exact h.ents.has y (List.mem_flatMap.2 ⟨z, hz, hy2⟩), rset_nd h.ents.nd hid h3⟩
    have hj := hst.join hA (fun k hk hm => by
      rcases List.mem_singleton.1 hm with rfl
      obtain ⟨z, hz, hk2⟩ := keys_mem hk
      rcases mem_rset hz with e | ⟨hz, -⟩
      · rw [e] at hk2
        exact hg hk2
      · exact hap (List.mem_append_right _ (mem_keys hz hk2))) (fun y hy => by
      rcases List.mem_cons.1 hy with rfl | hy
      · rfl
      · exact slL_flag _ _ _ _ y hy)
    exact hj
  · obtain ⟨z, hz, hk2⟩ := keys_mem hk
    rcases mem_rset hz with e | ⟨hz, -⟩
    · rw [e] at hk2
      exact .inl (List.mem_append_right _ hk2)
    · refine .inl (List.mem_append_left _ ?_)
      rw [keys_rL]
      exact .tail _ (List.mem_append_right _ (mem_keys hz hk2))
/-- An inode with names of the call's own. -/
theorem rputN_any {z0 : NodV} (hA : At (z0.ents ++ rL x q nx zs) w0) (sl : NodOK x.s zs) (names : ∀ z ∈ zs, SlOK z.2 z.1.names.length (entC z.1.names) 2) (len : zs.length ≤ 1000000) (hid : Ids zs) (hz0 : SlOK z0.2 z0.1.names.length (entC z0.1.names) 2) :
    Calls Tryz.prog 55 #[.pointer (some ⟨x.g, 0, none⟩), .agg z0.cells.toArray] w0 fun e w' => e = .returned (.tuple #[]) ∧ ∃ s', NodOK s' (rset zs z0) ∧ St w0 [x.g] w' (rLF ⟨x.g, s'⟩ q nx (rset zs z0)) ∧ Grow w0 (keysOf (z0.ents ++ rL x q nx zs)) (keysOf ((rset zs z0).flatMap NodV.ents)) := by
  have hnd := hA.nd
  rw [keys_app] at hnd
  obtain ⟨-, -, n3⟩ := List.nodup_append.1 hnd
  have hR : RRaw x q nx zs w0 := RRaw.of (hA.sub (List.sublist_append_right _ _)) sl names len
  refine (rputF_any hR hid z0 hz0 (fun y hy => hA.has y (List.mem_append_left _ hy)) (fun z hz _ k hk hm => n3 k hm k ?_ rfl) (fun hm => n3 _ hm _ ?_ rfl)).mono ?_
  · rw [keys_rL]
    exact .tail _ (List.mem_append_right _ (mem_keys hz hk))
  · rw [keys_rL]
    exact .head _
  · rintro e w' ⟨rfl, s', a1, a2, a3⟩
    refine ⟨rfl, s', a1, a2, fun k hk => ?_⟩
    rcases a3 k hk with h1 | h1
    · left
      rw [keys_app]
      rcases List.mem_append.1 h1 with h1 | h1
      · exact List.mem_append_right _ h1
      · exact List.mem_append_left _ h1
    · exact .inr h1
/-- Inodes' names, each in its own place. -/
theorem ents_apart : ∀ {zs : List NodV}, (keysOf (zs.flatMap NodV.ents)).Nodup → Ids zs → ∀ {z y : NodV}, z ∈ zs → y ∈ zs → z.1.id ≠ y.1.id → ∀ k ∈ keysOf z.ents, k ∉ keysOf y.ents
  | [], _, _, _, _, hz, _, _, _, _ => nomatch hz
  | a :: r, h1, h2, z, y, hz, hy, hne, k, hk => by
    rw [List.flatMap_cons, keys_app] at h1
    obtain ⟨a1, a2, a3⟩ := List.nodup_append.1 h1
    obtain ⟨b1, b2⟩ := List.pairwise_cons.1 h2
    intro hm
    rcases List.mem_cons.1 hz with e1 | hz2
    · rcases List.mem_cons.1 hy with e2 | hy2
      · exact hne (by rw [e1, e2])
      · rw [e1] at hk
        exact a3 k hk k (mem_keys hy2 hm) rfl
    · rcases List.mem_cons.1 hy with e2 | hy2
      · rw [e2] at hm
        exact a3 k hm k (mem_keys hz2 hk) rfl
      · exact ents_apart a2 b2 hz2 hy2 hne k hk hm
/-- An inode that keeps its names. -/
theorem rputO_any (h : RRaw x q nx zs w0) (hid : Ids zs) {z : NodV} (hz : z ∈ zs) (n : NodeD) (hi : n.id = z.1.id) (hn : n.names = z.1.names) :
    Calls Tryz.prog 55 #[.pointer (some ⟨x.g, 0, none⟩), .agg (NodV.cells (n, z.2)).toArray] w0 fun e w' => e = .returned (.tuple #[]) ∧ ∃ s', NodOK s' (rset zs (n, z.2)) ∧ St w0 [x.g] w' (rLF ⟨x.g, s'⟩ q nx (rset zs (n, z.2))) ∧ Grow w0 (keysOf (rL x q nx zs)) (keysOf ((rset zs (n, z.2)).flatMap NodV.ents)) := by
  have hents : NodV.ents (n, z.2) = z.ents := by unfold NodV.ents; simp only [hn]
  refine (rputF_any h hid (n, z.2) (by simp only [hn]; exact h.names z hz) (by rw [hents]; exact fun y hy => h.ents.has y (List.mem_flatMap.2 ⟨z, hz, hy⟩)) (fun y hy hne k hk => by rw [hents]; exact ents_apart h.ents.nd hid hy hz (by rw [← hi]; exact hne) k hk) (by
    rw [hents]
    intro hm
    refine h.apart ?_
    rw [keys_app]
    exact List.mem_append_right _ (mem_keys hz hm))).mono ?_
  rintro e w' ⟨rfl, s', a1, a2, a3⟩
  refine ⟨rfl, s', a1, a2, fun k hk => ?_⟩
  rcases a3 k hk with h1 | h1
  · left
    rcases List.mem_append.1 h1 with h1 | h1
    · exact h1
    · rw [hents] at h1
      rw [keys_rL]
      exact .tail _ (List.mem_append_right _ (mem_keys hz h1))
  · exact .inr h1
/-- What is known of the table besides its blocks, while a call goes on. -/
structure RP (g : Nat) (s : Option (Nat × Nat)) (q nx : Int) (zs : List NodV) (K : List Nat) (w0 : World) : Prop where
  sl : NodOK s zs
  names : ∀ z ∈ zs, SlOK z.2 z.1.names.length (entC z.1.names) 2
  len : zs.length ≤ 1000000
  grow : Grow w0 K (keysOf (rL ⟨g, s⟩ q nx zs))
section
variable {g : Nat} {s : Option (Nat × Nat)} {K : List Nat} {L' : List Ent → List Ent} {L : List Ent} {z0 : NodV}
theorem RP.start (h : RRaw x q nx zs w0) : RP x.g x.s q nx zs (keysOf (rL x q nx zs)) w0 := ⟨h.sl, h.names, h.len, Grow.refl _ _⟩
theorem RP.raw (h : RP g s q nx zs K w0) (hA : At (rL ⟨g, s⟩ q nx zs) w) : RRaw ⟨g, s⟩ q nx zs w := ⟨hA, h.sl, h.names, h.len⟩
theorem RP.next (h : RP g s q nx zs K w0) (q' nx' : Int) : RP g s q' nx' zs K w0 := ⟨h.sl, h.names, h.len, by have := h.grow; rw [keys_rL] at this ⊢; exact this⟩
theorem RP.to (h : RP g s q nx zs K w0) (hA : At (rL ⟨g, s⟩ q nx zs) w) (ho : Only [g] w0 w) : RTo g s q nx zs K w0 w := RTo.mk' (h.raw hA) ho h.grow
theorem rputX_any (h : RP g s q nx zs K w0) (hM : St w0 [g] w L) (hs : ∀ M', Swap L (z0.ents ++ rL ⟨g, s⟩ q nx zs) M' (L' M')) (hid : Ids zs) (hz0 : SlOK z0.2 z0.1.names.length (entC z0.1.names) 2) :
    Calls Tryz.prog 55 #[.pointer (some ⟨g, 0, none⟩), .agg z0.cells.toArray] w fun e w' => e = .returned (.tuple #[]) ∧ ∃ s', St w0 [g] w' (L' (rLF ⟨g, s'⟩ q nx (rset zs z0))) ∧ RP g s' q nx (rset zs z0) K w0 := by
  obtain ⟨A, B, hL, hL'⟩ := (hs []).split
  have hA : At (z0.ents ++ rL ⟨g, s⟩ q nx zs) w := hM.part (by rw [hL]; exact Part.past Part.here)
  have hfr : ∀ k ∈ keysOf z0.ents, w0.heap.size ≤ k := fun k hk => by
    obtain ⟨y, hy, rfl⟩ := List.mem_map.1 hk
    rcases hM.own y (by rw [hL]; simp [hy]) (slL_flag _ _ _ _ y hy) with h1 | h1
    · rcases List.mem_singleton.1 h1 with e
      have hnd := hA.nd
      rw [keys_app] at hnd
      exact absurd e ((List.nodup_append.1 hnd).2.2 _ hk g (by rw [keys_rL]; exact .head _))
    · exact h1
  refine (rputN_any hA h.sl h.names h.len hid hz0).mono ?_
  rintro e w' ⟨rfl, s', a1, a2, a3⟩
  have hge : ∃ r, (g, true, r) ∈ z0.ents ++ rL ⟨g, s⟩ q nx zs := ⟨_, List.mem_append_right _ (by unfold rL rE; exact .head _)⟩
  have hgr : Grow w (keysOf (z0.ents ++ rL ⟨g, s⟩ q nx zs)) (keysOf (rLF ⟨g, s'⟩ q nx (rset zs z0))) := fun k hk => by
    rw [keys_rLF, keys_rL] at hk
    rcases List.mem_cons.1 hk with rfl | hk
    · left
      obtain ⟨r, hr⟩ := hge
      exact List.mem_map_of_mem (f := (·.1)) hr
    · rcases List.mem_append.1 hk with hk | hk
      · obtain ⟨y, hy, rfl⟩ := List.mem_map.1 hk
        rcases a2.own y (.tail _ (List.mem_append_left _ hy)) (slL_flag _ _ _ _ y hy) with h1 | h1
        · rcases List.mem_singleton.1 h1 with e
          left
          obtain ⟨r, hr⟩ := hge
          rw [show y.1 = g from e]
          exact List.mem_map_of_mem (f := (·.1)) hr
        · exact .inr h1
      · exact a3 k hk
  refine ⟨rfl, s', ?_, a1, fun z hz => ?_, Nat.le_trans (rset_len _ _) h.len, fun k hk => ?_⟩
  · exact hM.backG (hs _) a2 (fun k hk => by rcases List.mem_singleton.1 hk with rfl; exact hge) hgr
  · rcases mem_rset hz with rfl | ⟨hz, -⟩
    · exact hz0
    · exact h.names z hz
  · rw [← keys_rLF] at hk
    rcases hgr k hk with h1 | h1
    · rw [keys_app] at h1
      rcases List.mem_append.1 h1 with h1 | h1
      · exact .inr (hfr k h1)
      · exact h.grow k h1
    · exact .inr (Nat.le_trans hM.only.size h1)
theorem rputY_any (h : RP g s q nx zs K w0) (hM : St w0 [g] w L) (hs : ∀ M', Swap L (rL ⟨g, s⟩ q nx zs) M' (L' M')) (hid : Ids zs) {z : NodV} (hz : z ∈ zs) {n : NodeD} (hi : n.id = z.1.id) (hn : n.names = z.1.names) :
    Calls Tryz.prog 55 #[.pointer (some ⟨g, 0, none⟩), .agg (NodV.cells (n, z.2)).toArray] w fun e w' => e = .returned (.tuple #[]) ∧ ∃ s', St w0 [g] w' (L' (rLF ⟨g, s'⟩ q nx (rset zs (n, z.2)))) ∧ RP g s' q nx (rset zs (n, z.2)) K w0 := by
  obtain ⟨A, B, hL, hL'⟩ := (hs []).split
  have hA : At (rL ⟨g, s⟩ q nx zs) w := hM.part (by rw [hL]; exact Part.past Part.here)
  refine (rputO_any (h.raw hA) hid hz n hi hn).mono ?_
  rintro e w' ⟨rfl, s', a1, a2, a3⟩
  have hge : ∃ r, (g, true, r) ∈ rL ⟨g, s⟩ q nx zs := ⟨_, by unfold rL rE; exact .head _⟩
  have hgr : Grow w (keysOf (rL ⟨g, s⟩ q nx zs)) (keysOf (rLF ⟨g, s'⟩ q nx (rset zs (n, z.2)))) := fun k hk => by
    rw [keys_rLF, keys_rL] at hk
    rcases List.mem_cons.1 hk with rfl | hk
    · left
      obtain ⟨r, hr⟩ := hge
      exact List.mem_map_of_mem (f := (·.1)) hr
    · rcases List.mem_append.1 hk with hk | hk
      · obtain ⟨y, hy, rfl⟩ := List.mem_map.1 hk
        rcases a2.own y (.tail _ (List.mem_append_left _ hy)) (slL_flag _ _ _ _ y hy) with h1 | h1
        · rcases List.mem_singleton.1 h1 with e
          left
          obtain ⟨r, hr⟩ := hge
          rw [show y.1 = g from e]
          exact List.mem_map_of_mem (f := (·.1)) hr
        · exact .inr h1
      · exact a3 k hk
  refine ⟨rfl, s', ?_, a1, fun y hy => ?_, Nat.le_trans (rset_len _ _) h.len, fun k hk => ?_⟩
  · exact hM.backG (hs _) a2 (fun k hk => by rcases List.mem_singleton.1 hk with rfl; exact hge) hgr
  · rcases mem_rset hy with rfl | ⟨hy, -⟩
    · simp only [hn]
      exact h.names z hz
    · exact h.names y hy
  · rw [← keys_rLF] at hk
    rcases hgr k hk with h1 | h1
    · exact h.grow k h1
    · exact .inr (Nat.le_trans hM.only.size h1)
/-- The array need not be known as the call's own. -/
theorem St.unF (h : St w0 F w L) (hs : Swap L (rLF ⟨g, s⟩ q nx zs) (rL ⟨g, s⟩ q nx zs) M) : St w0 F w M := by
  obtain ⟨A, B, rfl, rfl⟩ := hs.split
  have hA : At (rL ⟨g, s⟩ q nx zs) w := At.unF (h.part (Part.past Part.here))
  refine ⟨h.only, fun y hy => ?_, ?_, fun y hy h1 => ?_⟩
  · simp only [List.mem_append] at hy
    rcases hy with hy | hy | hy
    · exact h.holds y (by simp [hy])
    · exact hA.has y hy
    · exact h.holds y (by simp [hy])
  · have := h.nd
    change (keysOf _).Nodup at this
    rw [keys_app, keys_app, keys_rLF] at this
    show (keysOf _).Nodup
    rw [keys_app, keys_app]
    exact this
  · simp only [List.mem_append] at hy
    rcases hy with hy | hy | hy
    · exact h.own y (by simp [hy]) h1
    · unfold rL at hy
      rcases List.mem_cons.1 hy with rfl | hy
      · exact h.own (rE ⟨g, s⟩ q nx zs.length) (by unfold rLF; simp) rfl
      · obtain ⟨z, -, rfl⟩ := List.mem_map.1 hy
        cases h1
    · exact h.own y (by simp [hy]) h1
end
/-! ### as a plain table -/
theorem ids_rset (z0 : NodV) {zs : List NodV} (h : Ids zs) : Ids (rset zs z0) := by
  induction zs with
  | nil => exact List.Pairwise.nil
  | cons z r ih =>
    obtain ⟨b1, b2⟩ := List.pairwise_cons.1 h
    have i2 := ih b2
    have hr : rset (z :: r) z0 = (if z.1.id = z0.1.id then (if 0 < z0.1.links ∨ 0 < z0.1.holds then [z0] else []) else [z]) ++ rset r z0 := by unfold rset; rw [List.flatMap_cons]
    rw [hr]
    by_cases he : z.1.id = z0.1.id
    · rw [if_pos he]
      split
      · refine List.pairwise_cons.2 ⟨fun y hy => ?_, i2⟩
        rcases mem_rset hy with rfl | ⟨hy, hne⟩
        · exfalso
          rw [rset_far (fun y hy e => b1 y hy (he.trans e.symm))] at hy
          exact b1 _ hy he
        · exact fun e => hne e.symm
      · exact i2
    · rw [if_neg he]
      refine List.pairwise_cons.2 ⟨fun y hy => ?_, i2⟩
      rcases mem_rset hy with rfl | ⟨hy, hne⟩
      · exact he
      · exact b1 y hy
/-- An inode is put, or goes. -/
def In.rput (l : List NodeD) (n : NodeD) : List NodeD := if 0 < n.links ∨ 0 < n.holds then In.set l n else In.del l n.id
theorem rput_nodes (zs : List NodV) (z0 : NodV) : (rset zs z0).map (·.1) = In.rput (zs.map (·.1)) z0.1 := rset_nodes z0 zs
theorem rfind_map (id : Int) : ∀ zs : List NodV, In.find (zs.map (·.1)) id = (rfind zs id).map (·.1)
  | [] => rfl
  | z :: r => by
    have ih := rfind_map id r
    unfold In.find rfind at ih ⊢
    rw [List.map_cons, List.find?_cons, List.find?_cons, ih]
    cases z.1.id == id <;> rfl
theorem rfind_mem {zs : List NodV} {id : Int} {z : NodV} (h : rfind zs id = some z) : z ∈ zs ∧ z.1.id = id := ⟨List.mem_of_find?_eq_some h, by have := List.find?_some h; simpa using this⟩
theorem ids_of {zs : List NodV} (h : In.asc (zs.map (·.1))) : Ids zs := by
  unfold In.asc at h
  rw [List.pairwise_map] at h
  exact h.imp fun h => by omega
/-- The document's table stands here: as a plain one. -/
structure RIs (x : RX) (t : TabD) (zs : List NodV) (w : World) : Prop where
  raw : RRaw x t.quota (t.last + 1) zs w
  nodes : zs.map (·.1) = t.nodes
/-- What a call makes of it. -/
def RDid (x : RX) (t : TabD) (zs : List NodV) (t' : TabD) (w w' : World) : Prop := ∃ s' zs', zs'.map (·.1) = t'.nodes ∧ RTo x.g s' t'.quota (t'.last + 1) zs' (keysOf (rL x t.quota (t.last + 1) zs)) w w'
theorem RIs.below {t : TabD} (h : RIs x t zs w) (hb : Below w.heap.size w w') : RIs x t zs w' := ⟨h.raw.below hb, h.nodes⟩
theorem RDid.same {t : TabD} (h : RIs x t zs w) (hb : Below w.heap.size w w') : RDid x t zs t w w' := ⟨x.s, zs, h.nodes, RTo.same h.raw hb⟩
section
variable {t : TabD} {N : Nat}
theorem RIs.ids (h : RIs x t zs w) (I : In.Inv N t) : Ids zs := ids_of (by rw [h.nodes]; exact I.asc)
theorem RIs.mem (h : RIs x t zs w) {z : NodV} (hz : z ∈ zs) : z.1 ∈ t.nodes := by rw [← h.nodes]; exact List.mem_map_of_mem hz
theorem RIs.find (h : RIs x t zs w) (id : Int) : In.find t.nodes id = (rfind zs id).map (·.1) := by rw [← h.nodes]; exact rfind_map id zs
theorem names_le {l : List NodeD} {n : NodeD} (h : n ∈ l) : n.names.length ≤ In.tot l := In.le_sum (f := fun n => n.names.length) h
theorem RIs.nl (h : RIs x t zs w) (I : In.Inv N t) (hN : N ≤ 900000) : ∀ z ∈ zs, z.1.names.length ≤ 1000000 := fun z hz => by
  have := names_le (h.mem hz)
  have := I.tot
  omega
theorem RIs.dl (h : RIs x t zs w) (I : In.Inv N t) : ∀ z ∈ zs, z.1.data.size ≤ 1048576 := fun z hz => I.data _ (h.mem hz)
theorem RIs.sum (h : RIs x t zs w) (I : In.Inv N t) : ((In.sum (zs.map (·.1)) : Nat) : Int) = t.used := by rw [h.nodes, I.used]
end
end
end Go.Proofs.YtcicjklhbnipcaaGreat
namespace Go.Proofs.YtcicjklhbnipcaaGreat
set_option linter.unusedVariables false
set_option linter.unusedSimpArgs false
open Go.RowKit Go.Maps
namespace In
theorem rput_alive {l : List NodeD} {n : NodeD} (h : 0 < n.links ∨ 0 < n.holds) : rput l n = set l n := by unfold rput; rw [if_pos h]
theorem rput_dead {l : List NodeD} {n : NodeD} (h : ¬ (0 < n.links ∨ 0 < n.holds)) : rput l n = del l n.id := by unfold rput; rw [if_neg h]
theorem del_set (n : NodeD) : ∀ l : List NodeD, del (set l n) n.id = del l n.id
  | [] => rfl
  | m :: r => by
    have ih := del_set n r
    unfold del set at ih ⊢
    rw [List.map_cons, List.filter_cons, List.filter_cons, ih]
    by_cases h : m.id = n.id
    · simp [h]
    · simp [h]
section
variable {t : TabD} {N : Nat}
theorem ins_with {δ : Int → Int} {x : Int} (I : InvD δ x N t) {d : NodeD} (hd : d ∈ t.nodes) {s : ByteArray} (hl : leads d.names s = 0) (id : Int) : ins (s, id) d.names = with_ d.names s id := by
  have h1 := has_of_leads (pos_names I hd) hl
  unfold with_
  rw [without_none h1]
  refine ins_put fun p hp => ?_
  cases hs : same p.1 s with
  | false => rfl
  | true => exact absurd ⟨p, hp, hs⟩ h1
/-- A directory with a name more. -/
theorem rput_with (I : Inv N t) {dir : Int} {d : NodeD} (hd : find t.nodes dir = some d) {s : ByteArray} (hl : leads d.names s = 0) (id : Int) : rput t.nodes (d.setNames (ins (s, id) d.names)) = (nameIn t dir s id).nodes := by
  rw [ins_with I (find_some hd).1 hl]
  have ha := (I.alive d (find_some hd).1 (by have := (I.pos d (find_some hd).1).1; omega)).1
  unfold nameIn
  rw [at_some hd]
  exact rput_alive ha
/-- A directory without a name. -/
theorem rput_without (I : Inv N t) {dir : Int} {d : NodeD} (hd : find t.nodes dir = some d) (s : ByteArray) : rput t.nodes (d.setNames (without d.names s)) = (nameOut t dir s).nodes := by
  have ha := (I.alive d (find_some hd).1 (by have := (I.pos d (find_some hd).1).1; omega)).1
  unfold nameOut
  rw [at_some hd]
  exact rput_alive ha
theorem rput_links {dir : Int} {n : NodeD} (hn : find t.nodes dir = some n) (h0 : 0 ≤ n.links) : rput t.nodes (n.setLinks (n.links + 1)) = (linksUp t dir).nodes := by
  unfold linksUp
  rw [at_some hn]
  exact rput_alive (.inl (show 0 < n.links + 1 by omega))
theorem rput_holds {dir : Int} {n : NodeD} (hn : find t.nodes dir = some n) (h0 : 0 ≤ n.holds) : rput t.nodes (n.setHolds (n.holds + 1)) = (holdsUp t dir).nodes := by
  unfold holdsUp
  rw [at_some hn]
  exact rput_alive (.inr (show 0 < n.holds + 1 by omega))
/-- What goes if nothing leads to it. -/
theorem rput_gone {n : NodeD} {k : Int} {o : NodeD} (ho : find t.nodes k = some o) (hk : n.id = k) (hl : 0 ≤ n.links) (hh : 0 ≤ n.holds) : rput t.nodes n = (gone (setN t n) k).nodes := by
  have hf : find (setN t n).nodes k = some n := by rw [find_turn ho hk, if_pos rfl]
  unfold gone
  rw [at_some hf]
  by_cases h : 0 < n.links ∨ 0 < n.holds
  · rw [rput_alive h]
    have : (n.links == 0 && n.holds == 0) = false := by
      rw [Bool.and_eq_false_iff]
      rcases h with h | h
      · left; rw [beq_eq_false_iff_ne]; omega
      · right; rw [beq_eq_false_iff_ne]; omega
    rw [this, if_neg nofun]
    rfl
  · rw [rput_dead h]
    have : (n.links == 0 && n.holds == 0) = true := by
      rw [Bool.and_eq_true, beq_iff_eq, beq_iff_eq]
      omega
    rw [this, if_pos rfl]
    show del t.nodes n.id = del (set t.nodes n) k
    rw [← hk, del_set]
/-- A name taken out of a directory, and what it led to. -/
theorem rput_loses (I : Inv N t) {dir : Int} {d : NodeD} (hd : find t.nodes dir = some d) {s : ByteArray} {k : Int} (hk : leads d.names s = k) {n o : NodeD} (hn : find t.nodes k = some o) (hne : k ≠ dir) (hno : n = o.setLinks (o.links - 1)) (hl : 0 ≤ n.links) : rput (nameOut t dir s).nodes n = (loses t dir s).nodes := by
  have om := (find_some hn).1
  have hf : find (nameOut t dir s).nodes k = some o := by rw [find_nameOut hd, if_neg hne]; exact hn
  have hh := (I.holds o om).1
  unfold loses linksDown
  rw [at_some hd, hk, at_some hf, ← hno]
  exact rput_gone hf (by rw [hno]; exact (find_some hn).2) hl (by rw [hno]; exact hh)
theorem links_pos (I : Inv N t) {dir : Int} {d : NodeD} (hd : find t.nodes dir = some d) (hdd : d.dir = true) {s : ByteArray} (hl : leads d.names s ≠ 0) {o : NodeD} (ho : find t.nodes (leads d.names s) = some o) (hod : o.dir = false) : 1 ≤ o.links := by
  obtain ⟨om, oi⟩ := find_some ho
  obtain ⟨dm, di⟩ := find_some hd
  have h1 := I.links o om
  have h2 : 1 ≤ cnt t.nodes o.id := by
    have : cntN d.names o.id ≤ cnt t.nodes o.id := le_sum (f := fun n => cntN n.names o.id) dm
    have h3 : 0 < cntN d.names o.id := by
      unfold cntN
      rw [List.countP_pos_iff]
      exact ⟨_, leads_some hl, by simp [oi]⟩
    omega
  have h3 : (0 : Int) ≤ rootI o.id := by unfold rootI; split <;> omega
  omega
theorem gone_q (id : Int) : (gone t id).quota = t.quota ∧ (gone t id).last = t.last := by unfold gone; split <;> exact ⟨rfl, rfl⟩
theorem loses_q (dir : Int) (s : ByteArray) : (loses t dir s).quota = t.quota ∧ (loses t dir s).last = t.last := by
  unfold loses
  obtain ⟨h1, h2⟩ := gone_q (t := linksDown (nameOut t dir s) (leads (at_ t dir).names s)) (leads (at_ t dir).names s)
  exact ⟨h1, h2⟩
end
end In
end Go.Proofs.YtcicjklhbnipcaaGreat
namespace Go.Proofs.YtcicjklhbnipcaaGreat
set_option linter.unusedVariables false
set_option linter.unusedSimpArgs false
open Go.RowKit Go.Maps
namespace In
section
variable {t : TabD}
theorem placeE_none {dir : Int} {s : ByteArray} (h : find t.nodes dir = none) : placeE t dir s = 3 := by unfold placeE getE; rw [h]; rfl
theorem placeE_some {dir : Int} {s : ByteArray} {d : NodeD} (h : find t.nodes dir = some d) : placeE t dir s = if d.dir then (if isName s then 0 else 1) else 12 := by
  unfold placeE getE
  rw [h]
  cases hd : d.dir <;> simp [hd]
theorem make_none {dir : Int} {s : ByteArray} {b : Bool} (h : find t.nodes dir = none) : make t dir s b = (0, 3, t) := by
  unfold make makeE emptyE
  rw [placeE_none h]
  rfl
theorem make_bad {dir : Int} {s : ByteArray} {b : Bool} (h : placeE t dir s ≠ 0) : make t dir s b = (0, placeE t dir s, t) := by
  have q : (placeE t dir s == 0) = false := beq_eq_false_iff_ne.2 h
  unfold make makeE emptyE
  simp [q]
theorem make_old {dir : Int} {s : ByteArray} {b : Bool} {d : NodeD} (hd : find t.nodes dir = some d) (h : placeE t dir s = 0) (hl : leads d.names s ≠ 0) : make t dir s b = (0, 4, t) := by
  have q : (leads d.names s == 0) = false := beq_eq_false_iff_ne.2 hl
  unfold make makeE emptyE
  simp [h, at_some hd, q]
theorem make_full {dir : Int} {s : ByteArray} {b : Bool} {d : NodeD} (hd : find t.nodes dir = some d) (h : placeE t dir s = 0) (hl : leads d.names s = 0) (h2 : 4096 ≤ t.nodes.length) : make t dir s b = (0, 5, t) := by
  have q : (4096 : Int) ≤ (t.nodes.length : Int) := by omega
  unfold make makeE emptyE
  simp [h, at_some hd, hl, q]
theorem make_space {dir : Int} {s : ByteArray} {b : Bool} {d : NodeD} (hd : find t.nodes dir = some d) (h : placeE t dir s = 0) (hl : leads d.names s = 0) (h2 : ¬ 4096 ≤ t.nodes.length) (h3 : t.quota - t.used < 64) : make t dir s b = (0, 6, t) := by
  have q : ¬ (4096 : Int) ≤ (t.nodes.length : Int) := by omega
  unfold make makeE emptyE
  simp [h, at_some hd, hl, q, h3]
theorem make_yes {dir : Int} {s : ByteArray} {b : Bool} {d : NodeD} (hd : find t.nodes dir = some d) (h : placeE t dir s = 0) (hl : leads d.names s = 0) (h2 : ¬ 4096 ≤ t.nodes.length) (h3 : ¬ t.quota - t.used < 64) : make t dir s b = (t.last + 1, 0, makeT t dir s b) := by
  have q : ¬ (4096 : Int) ≤ (t.nodes.length : Int) := by omega
  unfold make makeE emptyE
  simp [h, at_some hd, hl, q, h3]
end
end In
section
variable {w w' w0 : World} {F : List Nat} {L M : List Ent} {zs : List NodV} {x : RX} {t : TabD} {N : Nat} {q nx : Int}
/-- The table's block, written out. -/
theorem rL_open {va : Option Addr} {vc : Nat} (hv : slV x.s zs.length = .slice va zs.length vc) (q nx : Int) : rL x q nx zs = (x.g, true, .cells [.int .i64 q, .int .i64 nx, .slice va zs.length vc] 43) :: (nodL x.s zs ++ zs.flatMap NodV.ents).map unflag := by unfold rL rE; rw [hv]
theorem NodV.open {z : NodV} {wa : Option Addr} {wc : Nat} (h : slV z.2 z.1.names.length = .slice wa z.1.names.length wc) : z.cells = [.int .i64 z.1.id, .bool z.1.dir, .int .i64 z.1.links, .int .i64 z.1.holds, .string z.1.data, .slice wa z.1.names.length wc] := by unfold NodV.cells; rw [h]
theorem placeN_E (h : RIs x t zs w) {dir : Int} {z : NodV} (hf : rfind zs dir = some z) (s : ByteArray) : placeN z s = In.placeE t dir s := by
  rw [In.placeE_some (d := z.1) (by rw [h.find dir, hf]; rfl)]
  rfl
set_option maxHeartbeats 8000000 in
set_option maxRecDepth 100000 in
theorem rMake_any (h : RIs x t zs w0) (I : In.Inv N t) (hN : N ≤ 900000) (dir : Int) (s : ByteArray) (isDir : Bool) (hs : s.size ≤ 1000000000) :
    Calls Tryz.prog 29 #[.pointer (some ⟨x.g, 0, none⟩), .int .i64 dir, .string s, .bool isDir] w0 fun e w' => e = .returned (.tuple #[.int .i64 (In.make t dir s isDir).1, .int .i64 (In.make t dir s isDir).2.1]) ∧ RDid x t zs (In.make t dir s isDir).2.2 w0 w' := by
  cases hf : rfind zs dir with
  | none =>
    have hM := St.start w0 []
    have HC := Lib.hid (fun (W : World) (hb : Below w0.heap.size w0 W) => rplace_none (s := s) (h.raw.below hb) hf)
    unfold nodZ at HC
    have HR := Lib.hid (fun (W : World) (hb : Below w0.heap.size w0 W) => RDid.same h hb)
    rw [In.make_none (by rw [h.find dir, hf]; rfl)]
    clear h hf hs I
    simp only
    go_enter Tryz.func29, Tryz.ntmps29
    (repeat (first | ((with_reducible show wpSeq _ _ _ _ _ _ _); first | ((with_reducible refine wpSeq_nil ?_); refine hKr.out _ _ ?_; clear hKr Kr) | (((refine St.copy (v := ?_) (by first | exact .inl rfl | exact .inr rfl) rfl rfl ?_ ?_; rotate_left; (focus ((try simp only [Act.eval, getD_lit, qGz, qGs]); with_reducible rfl)))); (try simp only [Act.put, qSa, qSz, qSs]))) | (first | (refine wp_seq_shut (fun K hK => ?_)) | (refine wp_text hM (fun Kr hKr => ?_); simp only [List.append_eq, List.cons_append, List.nil_append, inText]) | ((refine hK.out _ _ ?_); clear hK K))))
    (refine St.call3 rfl rfl (by kernel_rfl) (fun R hR => ?_); simp only [List.map_toArray, List.map_cons, List.map_nil, Act.eval, getD_lit, qGz, qGs])
    refine (HC.out _ hM.to_below).mono ?_
    (rintro e w' ⟨rfl, hb⟩; refine hR.out _ _ ?_; clear hR R; replace hM := hM.below hb; clear hb; (try simp only [Act.put, qSa, qSz, qSs]))
    (repeat (first | ((with_reducible show wpSeq _ _ _ _ _ _ _); first | ((with_reducible refine wpSeq_nil ?_); refine hKr.out _ _ ?_; clear hKr Kr) | ((first | (refine St.copy (v := ?_) (by first | exact .inl rfl | exact .inr rfl) rfl rfl ?_ ?_; rotate_left; (focus ((try simp only [Act.eval, getD_lit, qGz, qGs]); with_reducible rfl))) | (refine St.pure (v := ?_) rfl rfl rfl (fun w => ?_) ?_; rotate_left; (focus (go_simp; all_goals with_reducible rfl))) | ((((refine St.storeRow rfl hM rfl rfl rfl rfl rfl (by repeat constructor) (Nat.le_of_ble_eq_true rfl) (Nat.le_of_ble_eq_true rfl) (by kernel_rfl) rfl ?_ ?_); (focus ((intro h; cases h; done))); clear hM; intro w hM)); (try simp only [Res.put, Res.known, Act.eval, Value.cells, getD_lit, qGz, qGs, List.toList_toArray, qSz, qSs, over, Nat.reduceAdd] at hM))); (try simp only [Act.put, qSa, qSz, qSs])) | (((refine St.alloc (ty := 63) (z := .agg #[.int .i64 0, .bool false, .int .i64 0, .int .i64 0, .string ⟨#[]⟩, .slice none 0 0]) rfl hM rfl rfl (by kernel_rfl) ?_); clear hM; intro w bk hM); (try simp only [Res.put, Res.known, Act.eval, Value.cells, getD_lit, qGz, qGs, List.toList_toArray, qSz, qSs, over, Nat.reduceAdd] at hM); (try simp only [Act.put, qSa, qSz, qSs]))) | (first | (refine wp_seq_shut (fun K hK => ?_)) | (refine wp_text hM (fun Kr hKr => ?_); simp only [List.append_eq, List.cons_append, List.nil_append, inText]) | (refine wp_cond_true rfl ?_) | ((refine hK.out _ _ ?_); clear hK K))))
    ((refine wp_ret ?_; (try simp only [Exit.then, Exit.inBlock]); refine St.ret hM rfl (by repeat (first | exact Outs.nil | apply Outs.tmp rfl)) rfl ?_))
    exact ⟨rfl, HR.out _ hM.to_below⟩
  | some z =>
    have hz := (rfind_mem hf).1
    have hd : In.find t.nodes dir = some z.1 := by rw [h.find dir, hf]; rfl
    (obtain ⟨g, xs⟩ := x; obtain ⟨va, vc, hv, -⟩ := slV_open h.raw.sl; have hM : St w0 [g] w0 (rL ⟨g, xs⟩ t.quota (t.last + 1) zs) := h.raw.st; have HRP := Lib.hid (RP.start h.raw); have HOP := Lib.hid (fun nx => rL_open (x := ⟨g, xs⟩) (zs := zs) hv t.quota nx); obtain ⟨U, hU⟩ : ∃ U, (nodL xs zs ++ zs.flatMap NodV.ents).map unflag = U := ⟨_, rfl⟩; simp only [hU] at HOP; rw [HOP.out] at hM; have HAT := Lib.hid (fun (W : World) (hA : At ((g, true, Res.cells [.int .i64 t.quota, .int .i64 (t.last + 1), .slice va zs.length vc] 43) :: U) W) => (show RIs ⟨g, xs⟩ t zs W from ⟨RRaw.of (by rw [HOP.out]; exact hA) h.raw.sl h.raw.names h.raw.len, h.nodes⟩)); have HB := Lib.hid (fun (W : World) (hA : At ((g, true, Res.cells [.int .i64 t.quota, .int .i64 (t.last + 1), .slice va zs.length vc] 43) :: U) W) (ho : Only [g] w0 W) => (show RDid ⟨g, xs⟩ t zs t w0 W from ⟨xs, zs, h.nodes, HRP.out.to (by rw [HOP.out]; exact hA) ho⟩)))
    obtain ⟨wa, wc, hwv, -⟩ := slV_open (h.raw.names z hz)
    have HP := Lib.hid (fun (W : World) (hA : At ((g, true, Res.cells [.int .i64 t.quota, .int .i64 (t.last + 1), .slice va zs.length vc] 43) :: U) W) => rplace_some (s := s) (HAT.out W hA).raw hs hf)
    have HLD := Lib.hid (fun (W : World) (hA : At ((g, true, Res.cells [.int .i64 t.quota, .int .i64 (t.last + 1), .slice va zs.length vc] 43) :: U) W) => rleads_any z ((HAT.out W hA).raw.nm (h.nl I hN) hz) s)
    have HWI := Lib.hid (fun (W : World) (hA : At ((g, true, Res.cells [.int .i64 t.quota, .int .i64 (t.last + 1 + 1), .slice va zs.length vc] 43) :: U) W) => rwith_any z (((HRP.out.next t.quota (t.last + 1 + 1)).raw (by rw [HOP.out]; exact hA)).nm (h.nl I hN) hz) s (t.last + 1))
    have HUS := Lib.hid (fun (W : World) (hA : At ((g, true, Res.cells [.int .i64 t.quota, .int .i64 (t.last + 1), .slice va zs.length vc] 43) :: U) W) => rUsed_any (HAT.out W hA).raw (h.dl I))
    rw [h.sum I] at HUS
    rw [NodV.open hwv] at HP HLD HWI
    rw [placeN_E h hf s] at HP
    have hql := I.q1
    have hq0 := I.q0
    have hlast := I.last
    have hused := I.cap
    have hu0 : 0 ≤ t.used := by rw [I.used]; exact Int.natCast_nonneg _
    have hlen := h.raw.len
    have HNL := Lib.hid (show zs.length = t.nodes.length by rw [← h.nodes, List.length_map])
    (have HH := Lib.hid h; have HI := Lib.hid I; clear h I hv hU)
    generalize hc : In.placeE t dir s = c at HP
    generalize hi : In.leads z.1.names s = i at HLD
    go_enter Tryz.func29, Tryz.ntmps29
    (repeat (first | ((with_reducible show wpSeq _ _ _ _ _ _ _); first | ((with_reducible refine wpSeq_nil ?_); refine hKr.out _ _ ?_; clear hKr Kr) | (((refine St.copy (v := ?_) (by first | exact .inl rfl | exact .inr rfl) rfl rfl ?_ ?_; rotate_left; (focus ((try simp only [Act.eval, getD_lit, qGz, qGs]); with_reducible rfl)))); (try simp only [Act.put, qSa, qSz, qSs]))) | (first | (refine wp_seq_shut (fun K hK => ?_)) | (refine wp_text hM (fun Kr hKr => ?_); simp only [List.append_eq, List.cons_append, List.nil_append, inText]) | ((refine hK.out _ _ ?_); clear hK K))))
    ((refine St.call3 rfl rfl (by kernel_rfl) (fun R hR => ?_); simp only [List.map_toArray, List.map_cons, List.map_nil, Act.eval, getD_lit, qGz, qGs]); refine (HP.out _ (hM.part (by repeat (exact Part.all)))).mono ?_; (rintro e w' ⟨rfl, hb⟩; refine hR.out _ _ ?_; clear hR R; replace hM := hM.below hb; clear hb; (try simp only [Act.put, qSa, qSz, qSs])))
    (repeat (first | ((with_reducible show wpSeq _ _ _ _ _ _ _); first | ((with_reducible refine wpSeq_nil ?_); refine hKr.out _ _ ?_; clear hKr Kr) | ((first | (refine St.copy (v := ?_) (by first | exact .inl rfl | exact .inr rfl) rfl rfl ?_ ?_; rotate_left; (focus ((try simp only [Act.eval, getD_lit, qGz, qGs]); with_reducible rfl))) | (refine St.pure (v := ?_) rfl rfl rfl (fun w => ?_) ?_; rotate_left; (focus (go_simp; all_goals with_reducible rfl))) | ((((refine St.storeRow rfl hM rfl rfl rfl rfl rfl (by repeat constructor) (Nat.le_of_ble_eq_true rfl) (Nat.le_of_ble_eq_true rfl) (by kernel_rfl) rfl ?_ ?_); (focus ((intro h; cases h; done))); clear hM; intro w hM)); (try simp only [Res.put, Res.known, Act.eval, Value.cells, getD_lit, qGz, qGs, List.toList_toArray, qSz, qSs, over, Nat.reduceAdd] at hM))); (try simp only [Act.put, qSa, qSz, qSs])) | (((refine St.alloc (ty := 63) (z := .agg #[.int .i64 0, .bool false, .int .i64 0, .int .i64 0, .string ⟨#[]⟩, .slice none 0 0]) rfl hM rfl rfl (by kernel_rfl) ?_); clear hM; intro w bk hM); (try simp only [Res.put, Res.known, Act.eval, Value.cells, getD_lit, qGz, qGs, List.toList_toArray, qSz, qSs, over, Nat.reduceAdd] at hM); (try simp only [Act.put, qSa, qSz, qSs]))) | (first | (refine wp_seq_shut (fun K hK => ?_)) | (refine wp_text hM (fun Kr hKr => ?_); simp only [List.append_eq, List.cons_append, List.nil_append, inText]) | ((refine hK.out _ _ ?_); clear hK K))))
    by_cases hc0 : c = 0
    · subst hc0
      (repeat (first | ((with_reducible show wpSeq _ _ _ _ _ _ _); ((first | (refine St.copy (v := ?_) (by exact .inl rfl) rfl rfl ?_ ?_; rotate_left; (focus ((try simp only [Act.eval, getD_lit, qGz, qGs]); with_reducible rfl))) | ((refine St.loadRow rfl hM rfl rfl rfl rfl (by repeat constructor) (Nat.le_of_ble_eq_true rfl) (by kernel_rfl) ?_); (try simp only [Res.known, List.drop_succ_cons, List.drop_zero, List.take_succ_cons, List.take_zero]))); (try simp only [Act.put, qSa, qSz, qSs]))) | (first | (refine wp_seq_shut (fun K hK => ?_)) | (refine wp_text hM (fun Kr hKr => ?_); simp only [List.append_eq, List.cons_append, List.nil_append, inText]) | refine wp_skip ?_ | (refine wp_cond_false rfl ?_) | ((refine hK.out _ _ ?_); clear hK K))))
      ((refine St.call3 rfl rfl (by kernel_rfl) (fun R hR => ?_); simp only [List.map_toArray, List.map_cons, List.map_nil, Act.eval, getD_lit, qGz, qGs]); refine (HLD.out _ (hM.part (by repeat (first | exact Part.all | apply Part.skip)))).mono ?_; (rintro e w' ⟨rfl, hb⟩; refine hR.out _ _ ?_; clear hR R; replace hM := hM.below hb; clear hb; (try simp only [Act.put, qSa, qSz, qSs])))
      have hip : i = 0 ∨ 0 < i := by
        rw [← hi]
        by_cases h0 : In.leads z.1.names s = 0
        · exact .inl h0
        · right
          obtain ⟨n, hn⟩ := HI.out.leads _ (In.find_some hd).1 _ (In.leads_some h0)
          obtain ⟨n1, n2⟩ := In.find_some hn
          have := (HI.out.pos n n1).1
          simp only at n2
          omega
      rcases hip with hi0 | hi0
      · subst hi0
        by_cases h4 : 4096 ≤ zs.length
        · have k4 : (4096 : Int) ≤ (zs.length : Int) := by omega
          have HE := Lib.hid (In.make_full (b := isDir) hd hc hi (by rw [← HNL.out]; exact h4))
          clear hc hi h4
          (repeat (first | ((with_reducible show wpSeq _ _ _ _ _ _ _); first | ((with_reducible refine wpSeq_nil ?_); refine hKr.out _ _ ?_; clear hKr Kr) | ((first | (refine St.copy (v := ?_) (by first | exact .inl rfl | exact .inr rfl) rfl rfl ?_ ?_; rotate_left; (focus ((try simp only [Act.eval, getD_lit, qGz, qGs]); with_reducible rfl))) | (refine St.pure (v := ?_) rfl rfl rfl (fun w => ?_) ?_; rotate_left; (focus (go_simp; all_goals with_reducible rfl))) | refine St.load rfl hM rfl rfl rfl rfl (by repeat constructor) (by rfl) (by kernel_rfl) ?_); (try simp only [Act.put, qSa, qSz, qSs]))) | (first | (refine wp_seq_shut (fun K hK => ?_)) | (refine wp_text hM (fun Kr hKr => ?_); simp only [List.append_eq, List.cons_append, List.nil_append, inText]) | refine wp_skip ?_ | (first | refine wp_cond_true rfl ?_ | refine wp_cond_false rfl ?_) | ((refine hK.out _ _ ?_); clear hK K))))
          (((refine wp_ret ?_; (try simp only [Exit.then, Exit.inBlock]); refine St.ret hM rfl (by repeat (first | exact Outs.nil | apply Outs.tmp rfl)) rfl ?_)); (rw [HE.out]); exact ⟨rfl, HB.out _ (hM.part (by repeat (first | exact Part.all | apply Part.skip))) hM.only⟩)
        · have k4 : decide ((4096 : Int) ≤ (zs.length : Int)) = false := decide_eq_false (by omega)
          have HL4 := Lib.hid (show zs.length < 4096 by omega)
          have hw64 : IntKind.i64.wrap (t.used + 64) = t.used + 64 := wrap_in _ (by omega)
          by_cases h6 : t.quota - t.used < 64
          · have HE := Lib.hid (In.make_space (b := isDir) hd hc hi (by rw [← HNL.out]; exact h4) h6)
            have k6 : t.quota < t.used + 64 := by omega
            clear hc hi h4 h6
            (repeat (first | ((with_reducible show wpSeq _ _ _ _ _ _ _); first | ((with_reducible refine wpSeq_nil ?_); refine hKr.out _ _ ?_; clear hKr Kr) | ((first | (refine St.copy (v := ?_) (by exact .inl rfl) rfl rfl ?_ ?_; rotate_left; (focus ((try simp only [Act.eval, getD_lit, qGz, qGs]); with_reducible rfl))) | (refine St.pure (v := ?_) rfl rfl rfl (fun w => ?_) ?_; rotate_left; (focus (go_simp; all_goals with_reducible rfl))) | refine St.load rfl hM rfl rfl rfl rfl (by repeat constructor) (by rfl) (by kernel_rfl) ?_ | refine St.load1 rfl rfl rfl rfl (by repeat constructor) (by rfl) (by kernel_rfl) ?_); (try simp only [Act.put, qSa, qSz, qSs]))) | (first | (refine wp_seq_shut (fun K hK => ?_)) | (refine wp_text hM (fun Kr hKr => ?_); simp only [List.append_eq, List.cons_append, List.nil_append, inText]) | refine wp_skip ?_ | (refine wp_cond_false rfl ?_) | ((refine hK.out _ _ ?_); clear hK K)) | ((refine wp_drawn (id := 8) hM (Sub.all _) [6] [(0, 0), (3, 0), (4, 0), (5, 0), (6, 1), (1, 2), (2, 2), (7, 3)] (by kernel_rfl) (by kernel_rfl) ?_); (clear hM; intro w hM Kr hKr); simp only [opsOf, qGz, qGs])))
            (refine St.call rfl rfl rfl (by kernel_rfl) (fun R hR => ?_); simp only [List.map_toArray, List.map_cons, List.map_nil, Act.eval, getD_lit, qGz, qGs])
            refine (HUS.out _ (hM.part (by repeat (first | exact Part.all | apply Part.skip)))).mono ?_
            (rintro e w' ⟨rfl, hb⟩; refine hR.out _ _ (fun h => h.below hb) ?_; clear hR R; replace hM := hM.below hb; clear hb; (try simp only [Act.put, qSa, qSz, qSs]))
            (repeat (first | ((with_reducible show wpSeq _ _ _ _ _ _ _); first | ((with_reducible refine wpSeq_nil ?_); refine hKr.out _ _ ?_; clear hKr Kr) | ((first | (refine St.copy (v := ?_) (by exact .inr rfl) rfl rfl ?_ ?_; rotate_left; (focus ((try simp only [Act.eval, getD_lit, qGz, qGs]); with_reducible rfl))) | (refine St.pure (v := ?_) rfl rfl rfl (fun w => ?_) ?_; rotate_left; (focus (go_simp; all_goals with_reducible rfl)))); (try simp only [Act.put, qSa, qSz, qSs]))) | (first | (refine wp_seq_shut (fun K hK => ?_)) | (refine wp_text hM (fun Kr hKr => ?_); simp only [List.append_eq, List.cons_append, List.nil_append, inText]) | (refine wp_cond_true rfl ?_) | ((refine hK.out _ _ ?_); clear hK K))))
            (((refine wp_ret ?_; (try simp only [Exit.then, Exit.inBlock]); refine St.ret hM rfl (by repeat (first | exact Outs.nil | apply Outs.tmp rfl)) rfl ?_)); (rw [HE.out]); exact ⟨rfl, HB.out _ (hM.part (by repeat (first | exact Part.all | apply Part.skip))) hM.only⟩)
          · have HE := Lib.hid (In.make_yes (b := isDir) hd hc hi (by rw [← HNL.out]; exact h4) h6)
            have k6 : decide (t.quota < t.used + 64) = false := decide_eq_false (by omega)
            have hw1 : IntKind.i64.wrap (t.last + 1 + 1) = t.last + 1 + 1 := wrap_in _ (by omega)
            have hi' := hi
            clear hc hi h4 h6
            (repeat (first | ((with_reducible show wpSeq _ _ _ _ _ _ _); first | ((with_reducible refine wpSeq_nil ?_); refine hKr.out _ _ ?_; clear hKr Kr) | ((first | (refine St.copy (v := ?_) (by exact .inl rfl) rfl rfl ?_ ?_; rotate_left; (focus ((try simp only [Act.eval, getD_lit, qGz, qGs]); with_reducible rfl))) | (refine St.pure (v := ?_) rfl rfl rfl (fun w => ?_) ?_; rotate_left; (focus (go_simp; all_goals with_reducible rfl))) | refine St.load rfl hM rfl rfl rfl rfl (by repeat constructor) (by rfl) (by kernel_rfl) ?_ | refine St.load1 rfl rfl rfl rfl (by repeat constructor) (by rfl) (by kernel_rfl) ?_); (try simp only [Act.put, qSa, qSz, qSs]))) | (first | (refine wp_seq_shut (fun K hK => ?_)) | (refine wp_text hM (fun Kr hKr => ?_); simp only [List.append_eq, List.cons_append, List.nil_append, inText]) | refine wp_skip ?_ | (refine wp_cond_false rfl ?_) | ((refine hK.out _ _ ?_); clear hK K)) | ((refine wp_drawn (id := 8) hM (Sub.all _) [6] [(0, 0), (3, 0), (4, 0), (5, 0), (6, 1), (1, 2), (2, 2), (7, 3)] (by kernel_rfl) (by kernel_rfl) ?_); (clear hM; intro w hM Kr hKr); simp only [opsOf, qGz, qGs])))
            (refine St.call rfl rfl rfl (by kernel_rfl) (fun R hR => ?_); simp only [List.map_toArray, List.map_cons, List.map_nil, Act.eval, getD_lit, qGz, qGs])
            refine (HUS.out _ (hM.part (by repeat (first | exact Part.all | apply Part.skip)))).mono ?_
            (rintro e w' ⟨rfl, hb⟩; refine hR.out _ _ (fun h => h.below hb) ?_; clear hR R; replace hM := hM.below hb; clear hb; (try simp only [Act.put, qSa, qSz, qSs]))
            (repeat (first | ((with_reducible show wpSeq _ _ _ _ _ _ _); first | ((with_reducible refine wpSeq_nil ?_); refine hKr.out _ _ ?_; clear hKr Kr) | ((first | (refine St.copy (v := ?_) (by first | exact .inl rfl | exact .inr rfl) rfl rfl ?_ ?_; rotate_left; (focus ((try simp only [Act.eval, getD_lit, qGz, qGs]); with_reducible rfl))) | (refine St.pure (v := ?_) rfl rfl rfl (fun w => ?_) ?_; rotate_left; (focus (go_simp; all_goals with_reducible rfl))) | refine St.load rfl hM rfl rfl rfl rfl (by repeat constructor) (by rfl) (by kernel_rfl) ?_ | ((refine St.loadRow rfl hM rfl rfl rfl rfl (by repeat constructor) (Nat.le_of_ble_eq_true rfl) (by kernel_rfl) ?_); (try simp only [Res.known, List.drop_succ_cons, List.drop_zero, List.take_succ_cons, List.take_zero])) | ((((refine St.store rfl hM rfl rfl rfl rfl rfl (by repeat constructor) (Nat.le_of_ble_eq_true rfl) (by kernel_rfl) rfl ?_ ?_); (focus ((intro h; cases h; done))); clear hM; intro w hM)); (try simp only [Res.put, Res.known, Act.eval, Value.cells, getD_lit, qGz, qGs, List.toList_toArray, qSz, qSs, over, Nat.reduceAdd] at hM))); (try simp only [Act.put, qSa, qSz, qSs]))) | (first | (refine wp_seq_shut (fun K hK => ?_)) | (refine wp_text hM (fun Kr hKr => ?_); simp only [List.append_eq, List.cons_append, List.nil_append, inText]) | refine wp_skip ?_ | (refine wp_cond_false rfl ?_) | ((refine hK.out _ _ ?_); clear hK K))))
            (refine St.call3 rfl rfl (by kernel_rfl) (fun R hR => ?_); simp only [List.map_toArray, List.map_cons, List.map_nil, Act.eval, getD_lit, qGz, qGs])
            refine (HWI.out _ (hM.part (by repeat (first | exact Part.all | apply Part.skip)))).mono ?_
            rintro e w' ⟨p', rfl, hok, hst⟩; refine hR.out _ _ ?_; clear hR R
            replace hM := hM.madeM hst (slL_flag _ _ _ _)
            clear hst
            rw [← HOP.out] at hM
            replace hM := (St.perm hM List.perm_middle).forget
            (try simp only [Act.put, qSa, qSz, qSs])
            (repeat (fail))
            (refine St.call3 rfl rfl (by kernel_rfl) (fun R hR => ?_); simp only [List.map_toArray, List.map_cons, List.map_nil, Act.eval, getD_lit, qGz, qGs])
            have hp : RP g xs t.quota (t.last + 1 + 1) zs (keysOf (rL ⟨g, xs⟩ t.quota (t.last + 1) zs)) w0 := HRP.out.next _ _
            refine (rputX_any hp hM (by intro s'; repeat (exact Swap.all)) (HH.out.ids HI.out) hok).mono ?_
            rintro e w' ⟨rfl, s1, hM1, hp1⟩; refine hR.out _ _ ?_; clear hR R hM
            have hM := hM1
            clear hM1
            obtain ⟨vb, vd, hvb, -⟩ := slV_open hp1.sl
            have hl1 := rset_len ((z.1.setNames (ins (s, t.last + 1) z.1.names), p') : NodV) zs
            have HNO := Lib.hid (rput_nodes zs ((z.1.setNames (ins (s, t.last + 1) z.1.names), p') : NodV))
            unfold rLF rE at hM
            simp only at hM
            rw [hvb] at hM
            generalize rset zs ((z.1.setNames (ins (s, t.last + 1) z.1.names), p') : NodV) = zs1 at *
            (try simp only [Act.put, qSa, qSz, qSs])
            (repeat (first | ((with_reducible show wpSeq _ _ _ _ _ _ _); first | ((with_reducible refine wpSeq_nil ?_); refine hKr.out _ _ ?_; clear hKr Kr) | ((first | (refine St.copy (v := ?_) (by exact .inl rfl) rfl rfl ?_ ?_; rotate_left; (focus ((try simp only [Act.eval, getD_lit, qGz, qGs]); with_reducible rfl))) | (refine St.pure (v := ?_) rfl rfl rfl (fun w => ?_) ?_; rotate_left; (focus (go_simp; all_goals with_reducible rfl))) | refine St.load rfl hM rfl rfl rfl rfl (by repeat constructor) (by rfl) (by kernel_rfl) ?_ | (((((refine St.buildSlice (cells := ?_) (e := ?_) rfl hM rfl rfl (fun w => ?_) ?_; rotate_left 2; (focus (go_simp; all_goals with_reducible rfl)))); clear hM; intro w bk hM)); (try simp only [Res.put, Res.known, Act.eval, Value.cells, getD_lit, qGz, qGs, List.toList_toArray, qSz, qSs, over, Nat.reduceAdd] at hM))); (try simp only [Act.put, qSa, qSz, qSs]))) | (first | (refine wp_seq_shut (fun K hK => ?_)) | (refine wp_text hM (fun Kr hKr => ?_); simp only [List.append_eq, List.cons_append, List.nil_append, inText]) | ((refine hK.out _ _ ?_); clear hK K))))
            rw [← hvb]
            refine St.append (s := s1) (n := zs1.length) (xs := zs1.flatMap NodV.cells) rfl hM rfl rfl rfl rfl rfl (by kernel_rfl) (by intro s'; repeat (first | exact Swap.here | apply Swap.skip)) hp1.sl rfl (hM.news (by repeat constructor)) rfl (by rw [maxLen_val]; omega) (by omega) (fun h => by cases h) ?_
            clear hM; intro w s2 hM hk2 _
            have e1 : zs1.flatMap NodV.cells ++ [.int .i64 (t.last + 1), .bool isDir, .int .i64 1, .int .i64 0, .string ⟨#[]⟩, .slice none 0 0] = (zs1 ++ [((⟨t.last + 1, isDir, 1, 0, ByteArray.empty, []⟩, none) : NodV)]).flatMap NodV.cells := by rw [← nodC_snoc]; rfl
            have e2 : zs1.length + 1 = (zs1 ++ [((⟨t.last + 1, isDir, 1, 0, ByteArray.empty, []⟩, none) : NodV)]).length := by simp
            have e3 : (zs1 ++ [((⟨t.last + 1, isDir, 1, 0, ByteArray.empty, []⟩, none) : NodV)]).flatMap NodV.ents = zs1.flatMap NodV.ents := by rw [List.flatMap_append, List.flatMap_singleton]; exact List.append_nil _
            simp only [Res.known] at hM hk2
            rw [e1] at hM hk2
            rw [e2] at hk2
            rw [e2]
            have HP2 := Lib.hid (show ∀ y ∈ zs1 ++ [((⟨t.last + 1, isDir, 1, 0, ByteArray.empty, []⟩, none) : NodV)], SlOK y.2 y.1.names.length (entC y.1.names) 2 from fun y hy => by
              rcases List.mem_append.1 hy with hy | hy
              · exact hp1.names y hy
              · rcases List.mem_singleton.1 hy with rfl
                exact ⟨rfl, rfl⟩)
            have HL2 := Lib.hid (show (zs1 ++ [((⟨t.last + 1, isDir, 1, 0, ByteArray.empty, []⟩, none) : NodV)]).length ≤ 1000000 by have := HL4.out; rw [← e2]; omega)
            have HN2 := Lib.hid (show (zs1 ++ [((⟨t.last + 1, isDir, 1, 0, ByteArray.empty, []⟩, none) : NodV)]).map (·.1) = (In.makeT t dir s isDir).nodes by
              rw [List.map_append, HNO.out, HH.out.nodes]
              show In.rput t.nodes (z.1.setNames (ins (s, t.last + 1) z.1.names)) ++ _ = (In.nameIn t dir s (t.last + 1)).nodes ++ _
              rw [In.rput_with HI.out hd hi']
              rfl)
            have HGR := Lib.hid (show Grow w0 (keysOf (rL ⟨g, xs⟩ t.quota (t.last + 1) zs)) (keysOf ((zs1 ++ [((⟨t.last + 1, isDir, 1, 0, ByteArray.empty, []⟩, none) : NodV)]).flatMap NodV.ents)) from fun k hk => by
              rw [e3] at hk
              exact hp1.grow k (by rw [keys_rL]; exact .tail _ (List.mem_append_right _ hk)))
            have HK2 := Lib.hid hk2
            have HE3 := Lib.hid e3
            clear e1 e2 e3 hk2
            generalize zs1 ++ [((⟨t.last + 1, isDir, 1, 0, ByteArray.empty, []⟩, none) : NodV)] = zs2 at *
            obtain ⟨ub, ud, hu2, -⟩ := slV_open HK2.out
            rw [hu2]
            (try simp only [Act.put, qSa, qSz, qSs])
            (repeat (first | ((with_reducible show wpSeq _ _ _ _ _ _ _); first | ((with_reducible refine wpSeq_nil ?_); refine hKr.out _ _ ?_; clear hKr Kr) | ((first | (refine St.copy (v := ?_) (by first | exact .inl rfl | exact .inr rfl) rfl rfl ?_ ?_; rotate_left; (focus ((try simp only [Act.eval, getD_lit, qGz, qGs]); with_reducible rfl))) | (refine St.pure (v := ?_) rfl rfl rfl (fun w => ?_) ?_; rotate_left; (focus (go_simp; all_goals with_reducible rfl))) | ((((refine St.store rfl hM rfl rfl rfl rfl rfl (by repeat constructor) (Nat.le_of_ble_eq_true rfl) (by kernel_rfl) rfl ?_ ?_); (focus ((intro h; cases h; done))); clear hM; intro w hM)); (try simp only [Res.put, Res.known, Act.eval, Value.cells, getD_lit, qGz, qGs, List.toList_toArray, qSz, qSs, over, Nat.reduceAdd] at hM))); (try simp only [Act.put, qSa, qSz, qSs]))) | (first | (refine wp_seq_shut (fun K hK => ?_)) | (refine wp_text hM (fun Kr hKr => ?_); simp only [List.append_eq, List.cons_append, List.nil_append, inText]) | ((refine hK.out _ _ ?_); clear hK K))))
            ((refine wp_ret ?_; (try simp only [Exit.then, Exit.inBlock]); refine St.ret hM rfl (by repeat (first | exact Outs.nil | apply Outs.tmp rfl)) rfl ?_))
            rw [HE.out]
            refine ⟨rfl, s2, zs2, HN2.out, ?_⟩
            have hM2 : St w0 [g] w (rLF ⟨g, s2⟩ t.quota (t.last + 1 + 1) zs2) := by
              unfold rLF rE
              simp only
              rw [hu2, HE3.out]
              exact hM.forget
            exact RTo.fin hM2 (by rw [keys_rL]; exact .head _) HGR.out HK2.out HP2.out HL2.out
      · have HE := Lib.hid (In.make_old (b := isDir) hd hc (by rw [hi]; omega))
        (repeat (first | ((with_reducible show wpSeq _ _ _ _ _ _ _); first | ((with_reducible refine wpSeq_nil ?_); refine hKr.out _ _ ?_; clear hKr Kr) | ((first | (refine St.copy (v := ?_) (by exact .inr rfl) rfl rfl ?_ ?_; rotate_left; (focus ((try simp only [Act.eval, getD_lit, qGz, qGs]); with_reducible rfl))) | (refine St.pure (v := ?_) rfl rfl rfl (fun w => ?_) ?_; rotate_left; (focus (go_simp; all_goals with_reducible rfl)))); (try simp only [Act.put, qSa, qSz, qSs]))) | (first | (refine wp_seq_shut (fun K hK => ?_)) | (refine wp_text hM (fun Kr hKr => ?_); simp only [List.append_eq, List.cons_append, List.nil_append, inText]) | (refine wp_cond_true rfl ?_) | ((refine hK.out _ _ ?_); clear hK K))))
        (((refine wp_ret ?_; (try simp only [Exit.then, Exit.inBlock]); refine St.ret hM rfl (by repeat (first | exact Outs.nil | apply Outs.tmp rfl)) rfl ?_)); (rw [HE.out]); exact ⟨rfl, HB.out _ (hM.part (by repeat (first | exact Part.all | apply Part.skip))) hM.only⟩)
    · have q1 : (c != 0) = true := bne_iff_ne.2 hc0
      have HE := Lib.hid (show In.make t dir s isDir = (0, c, t) by rw [In.make_bad (by rw [hc]; exact hc0), hc])
      clear hc hc0
      rw [q1]
      (repeat (first | ((with_reducible show wpSeq _ _ _ _ _ _ _); first | ((with_reducible refine wpSeq_nil ?_); refine hKr.out _ _ ?_; clear hKr Kr) | (((refine St.copy (v := ?_) (by first | exact .inl rfl | exact .inr rfl) rfl rfl ?_ ?_; rotate_left; (focus ((try simp only [Act.eval, getD_lit, qGz, qGs]); with_reducible rfl)))); (try simp only [Act.put, qSa, qSz, qSs]))) | (first | (refine wp_seq_shut (fun K hK => ?_)) | (refine wp_text hM (fun Kr hKr => ?_); simp only [List.append_eq, List.cons_append, List.nil_append, inText]) | (refine wp_cond_true rfl ?_) | ((refine hK.out _ _ ?_); clear hK K))))
      (((refine wp_ret ?_; (try simp only [Exit.then, Exit.inBlock]); refine St.ret hM rfl (by repeat (first | exact Outs.nil | apply Outs.tmp rfl)) rfl ?_)); (rw [HE.out]); exact ⟨rfl, HB.out _ (hM.part (by repeat (first | exact Part.all | apply Part.skip))) hM.only⟩)
end
end Go.Proofs.YtcicjklhbnipcaaGreat
namespace Go.Proofs.YtcicjklhbnipcaaGreat
set_option linter.unusedVariables false
set_option linter.unusedSimpArgs false
open Go.RowKit Go.Maps
namespace In
section
variable {t : TabD}
theorem getE_none {id : Int} {b : Bool} (h : find t.nodes id = none) : getE t id b = 3 := by unfold getE; rw [h]
theorem getE_some {id : Int} {b : Bool} {n : NodeD} (h : find t.nodes id = some n) : getE t id b = if n.dir == b then 0 else 12 := by unfold getE; rw [h]
theorem emptyE_bad {dir : Int} {s : ByteArray} (h : placeE t dir s ≠ 0) : emptyE t dir s = placeE t dir s := by
  have q : (placeE t dir s == 0) = false := beq_eq_false_iff_ne.2 h
  unfold emptyE
  rw [q]
  rfl
theorem emptyE_at {dir : Int} {s : ByteArray} {d : NodeD} (hd : find t.nodes dir = some d) (h : placeE t dir s = 0) : emptyE t dir s = if leads d.names s = 0 then 0 else 4 := by
  unfold emptyE
  rw [h, at_some hd]
  by_cases hl : leads d.names s = 0
  · rw [hl]; rfl
  · rw [if_neg hl, beq_eq_false_iff_ne.2 hl]; rfl
theorem link_bad {id dir : Int} {s : ByteArray} {e : Int} (he : e ≠ 0) (h : linkE t id dir s = e) : link t id dir s = (e, t) := by
  unfold link
  rw [h, beq_eq_false_iff_ne.2 he]
  rfl
theorem link_yes {id dir : Int} {s : ByteArray} (h : linkE t id dir s = 0) : link t id dir s = (0, linkT t id dir s) := by
  unfold link
  rw [h]
  rfl
theorem linkE_file {id dir : Int} {s : ByteArray} {n : NodeD} (hn : find t.nodes id = some n) (hd : n.dir = false) : linkE t id dir s = emptyE t dir s := by
  unfold linkE
  rw [getE_some hn, hd]
  rfl
end
end In
section
variable {w w' w0 : World} {F : List Nat} {L M : List Ent} {zs : List NodV} {x : RX} {t : TabD} {N : Nat} {q nx : Int}
theorem rget_none (h : RRaw x q nx zs w0) {id : Int} (hf : rfind zs id = none) : Calls Tryz.prog 57 #[.pointer (some ⟨x.g, 0, none⟩), .int .i64 id] w0 fun e w' => e = .returned (.tuple #[nodZ, .bool false]) ∧ Below w0.heap.size w0 w' := by
  have C := rget_any h id
  rw [show (zs.find? fun z => z.1.id == id) = none from hf] at C
  exact C
theorem rget_some (h : RRaw x q nx zs w0) {id : Int} {z : NodV} (hf : rfind zs id = some z) : Calls Tryz.prog 57 #[.pointer (some ⟨x.g, 0, none⟩), .int .i64 id] w0 fun e w' => e = .returned (.tuple #[.agg z.cells.toArray, .bool true]) ∧ Below w0.heap.size w0 w' := by
  have C := rget_any h id
  rw [show (zs.find? fun z => z.1.id == id) = some z from hf] at C
  exact C
theorem St.rot {F : List Nat} {L M : List Ent} {e : Ent} (h : St w0 F w (M ++ (e :: L))) : St w0 F w (e :: (M ++ L)) := h.perm List.perm_middle
theorem St.rot2 {F : List Nat} {L M : List Ent} {e f : Ent} (h : St w0 F w (f :: (M ++ (e :: L)))) : St w0 F w (f :: e :: (M ++ L)) := h.perm (List.perm_middle.cons f)
theorem St.rot3 {F : List Nat} {L M : List Ent} {e f k : Ent} (h : St w0 F w (k :: f :: (M ++ (e :: L)))) : St w0 F w (k :: f :: e :: (M ++ L)) := h.perm ((List.perm_middle.cons f).cons k)
theorem RIs.lead {dir : Int} {d : NodeD} {s : ByteArray} (I : In.Inv N t) (hd : In.find t.nodes dir = some d) : In.leads d.names s = 0 ∨ 0 < In.leads d.names s := by
  by_cases h0 : In.leads d.names s = 0
  · exact .inl h0
  · right
    obtain ⟨n, hn⟩ := I.leads _ (In.find_some hd).1 _ (In.leads_some h0)
    obtain ⟨n1, n2⟩ := In.find_some hn
    have := (I.pos n n1).1
    simp only at n2
    omega
theorem rset_keep {z z0 : NodV} (hz : z ∈ zs) (hne : z.1.id ≠ z0.1.id) : z ∈ rset zs z0 := by
  unfold rset
  refine List.mem_flatMap.2 ⟨z, hz, ?_⟩
  rw [if_neg hne]
  exact .head _
set_option maxHeartbeats 8000000 in
set_option maxRecDepth 100000 in
theorem rLink_any (h : RIs x t zs w0) (I : In.Inv N t) (hN : N ≤ 900000) (id dir : Int) (s : ByteArray) (hs : s.size ≤ 1000000000) :
    Calls Tryz.prog 31 #[.pointer (some ⟨x.g, 0, none⟩), .int .i64 id, .int .i64 dir, .string s] w0 fun e w' => e = .returned (.int .i64 (In.link t id dir s).1) ∧ RDid x t zs (In.link t id dir s).2 w0 w' := by
  cases hf : rfind zs id with
  | none =>
    have hM := St.start w0 []
    have HC := Lib.hid (fun (W : World) (hb : Below w0.heap.size w0 W) => rget_none (h.raw.below hb) hf)
    unfold nodZ at HC
    have HR := Lib.hid (fun (W : World) (hb : Below w0.heap.size w0 W) => RDid.same h hb)
    rw [In.link_bad (e := 3) (by decide) (by unfold In.linkE; rw [In.getE_none (by rw [h.find id, hf]; rfl)]; rfl)]
    clear h hf hs I
    simp only
    go_enter Tryz.func31, Tryz.ntmps31
    (repeat (first | ((with_reducible show wpSeq _ _ _ _ _ _ _); first | ((with_reducible refine wpSeq_nil ?_); refine hKr.out _ _ ?_; clear hKr Kr) | (((refine St.copy (v := ?_) (by first | exact .inl rfl | exact .inr rfl) rfl rfl ?_ ?_; rotate_left; (focus ((try simp only [Act.eval, getD_lit, qGz, qGs]); with_reducible rfl)))); (try simp only [Act.put, qSa, qSz, qSs]))) | (first | (refine wp_seq_shut (fun K hK => ?_)) | (refine wp_text hM (fun Kr hKr => ?_); simp only [List.append_eq, List.cons_append, List.nil_append, inText]) | ((refine hK.out _ _ ?_); clear hK K))))
    (refine St.call3 rfl rfl (by kernel_rfl) (fun R hR => ?_); simp only [List.map_toArray, List.map_cons, List.map_nil, Act.eval, getD_lit, qGz, qGs])
    refine (HC.out _ hM.to_below).mono ?_
    (rintro e w' ⟨rfl, hb⟩; refine hR.out _ _ ?_; clear hR R; replace hM := hM.below hb; clear hb; (try simp only [Act.put, qSa, qSz, qSs]))
    (repeat (first | ((with_reducible show wpSeq _ _ _ _ _ _ _); first | ((with_reducible refine wpSeq_nil ?_); refine hKr.out _ _ ?_; clear hKr Kr) | ((first | (refine St.copy (v := ?_) (by first | exact .inl rfl | exact .inr rfl) rfl rfl ?_ ?_; rotate_left; (focus ((try simp only [Act.eval, getD_lit, qGz, qGs]); with_reducible rfl))) | (refine St.pure (v := ?_) rfl rfl rfl (fun w => ?_) ?_; rotate_left; (focus (go_simp; all_goals with_reducible rfl))) | ((((refine St.storeRow rfl hM rfl rfl rfl rfl rfl (by repeat constructor) (Nat.le_of_ble_eq_true rfl) (Nat.le_of_ble_eq_true rfl) (by kernel_rfl) rfl ?_ ?_); (focus ((intro h; cases h; done))); clear hM; intro w hM)); (try simp only [Res.put, Res.known, Act.eval, Value.cells, getD_lit, qGz, qGs, List.toList_toArray, qSz, qSs, over, Nat.reduceAdd] at hM))); (try simp only [Act.put, qSa, qSz, qSs])) | (((refine St.alloc (ty := 63) (z := .agg #[.int .i64 0, .bool false, .int .i64 0, .int .i64 0, .string ⟨#[]⟩, .slice none 0 0]) rfl hM rfl rfl (by kernel_rfl) ?_); clear hM; intro w bk hM); (try simp only [Res.put, Res.known, Act.eval, Value.cells, getD_lit, qGz, qGs, List.toList_toArray, qSz, qSs, over, Nat.reduceAdd] at hM); (try simp only [Act.put, qSa, qSz, qSs]))) | (first | (refine wp_seq_shut (fun K hK => ?_)) | (refine wp_text hM (fun Kr hKr => ?_); simp only [List.append_eq, List.cons_append, List.nil_append, inText]) | (refine wp_cond_true rfl ?_) | ((refine hK.out _ _ ?_); clear hK K))))
    ((refine wp_ret ?_; (try simp only [Exit.then, Exit.inBlock]); refine St.ret hM rfl (by repeat (first | exact Outs.nil | apply Outs.tmp rfl)) rfl ?_))
    exact ⟨rfl, HR.out _ hM.to_below⟩
  | some y =>
    have hy := (rfind_mem hf).1
    have hn : In.find t.nodes id = some y.1 := by rw [h.find id, hf]; rfl
    (obtain ⟨g, xs⟩ := x; obtain ⟨va, vc, hv, -⟩ := slV_open h.raw.sl; have hM : St w0 [g] w0 (rL ⟨g, xs⟩ t.quota (t.last + 1) zs) := h.raw.st; have HRP := Lib.hid (RP.start h.raw); have HOP := Lib.hid (fun nx => rL_open (x := ⟨g, xs⟩) (zs := zs) hv t.quota nx); obtain ⟨U, hU⟩ : ∃ U, (nodL xs zs ++ zs.flatMap NodV.ents).map unflag = U := ⟨_, rfl⟩; simp only [hU] at HOP; rw [HOP.out] at hM; have HAT := Lib.hid (fun (W : World) (hA : At ((g, true, Res.cells [.int .i64 t.quota, .int .i64 (t.last + 1), .slice va zs.length vc] 43) :: U) W) => (show RIs ⟨g, xs⟩ t zs W from ⟨RRaw.of (by rw [HOP.out]; exact hA) h.raw.sl h.raw.names h.raw.len, h.nodes⟩)); have HB := Lib.hid (fun (W : World) (hA : At ((g, true, Res.cells [.int .i64 t.quota, .int .i64 (t.last + 1), .slice va zs.length vc] 43) :: U) W) (ho : Only [g] w0 W) => (show RDid ⟨g, xs⟩ t zs t w0 W from ⟨xs, zs, h.nodes, HRP.out.to (by rw [HOP.out]; exact hA) ho⟩)))
    obtain ⟨ya, yc, hyv, -⟩ := slV_open (h.raw.names y hy)
    have HG := Lib.hid (fun (W : World) (hA : At ((g, true, Res.cells [.int .i64 t.quota, .int .i64 (t.last + 1), .slice va zs.length vc] 43) :: U) W) => rget_some (HAT.out W hA).raw hf)
    rw [NodV.open hyv] at HG
    cases hyd : y.1.dir with
    | true =>
      have HE := Lib.hid (In.link_bad (t := t) (id := id) (dir := dir) (s := s) (e := 12) (by decide) (by unfold In.linkE; rw [In.getE_some hn, hyd]; rfl))
      rw [hyd] at HG
      (have HH := Lib.hid h; have HI := Lib.hid I; clear h I hv hU)
      go_enter Tryz.func31, Tryz.ntmps31
      (repeat (first | ((with_reducible show wpSeq _ _ _ _ _ _ _); first | ((with_reducible refine wpSeq_nil ?_); refine hKr.out _ _ ?_; clear hKr Kr) | (((refine St.copy (v := ?_) (by first | exact .inl rfl | exact .inr rfl) rfl rfl ?_ ?_; rotate_left; (focus ((try simp only [Act.eval, getD_lit, qGz, qGs]); with_reducible rfl)))); (try simp only [Act.put, qSa, qSz, qSs]))) | (first | (refine wp_seq_shut (fun K hK => ?_)) | (refine wp_text hM (fun Kr hKr => ?_); simp only [List.append_eq, List.cons_append, List.nil_append, inText]) | ((refine hK.out _ _ ?_); clear hK K))))
      ((refine St.call3 rfl rfl (by kernel_rfl) (fun R hR => ?_); simp only [List.map_toArray, List.map_cons, List.map_nil, Act.eval, getD_lit, qGz, qGs]); refine (HG.out _ (hM.part (by repeat (exact Part.all)))).mono ?_; (rintro e w' ⟨rfl, hb⟩; refine hR.out _ _ ?_; clear hR R; replace hM := hM.below hb; clear hb; (try simp only [Act.put, qSa, qSz, qSs])))
      (repeat (first | ((with_reducible show wpSeq _ _ _ _ _ _ _); first | ((with_reducible refine wpSeq_nil ?_); refine hKr.out _ _ ?_; clear hKr Kr) | ((first | (refine St.copy (v := ?_) (by first | exact .inl rfl | exact .inr rfl) rfl rfl ?_ ?_; rotate_left; (focus ((try simp only [Act.eval, getD_lit, qGz, qGs]); with_reducible rfl))) | (refine St.pure (v := ?_) rfl rfl rfl (fun w => ?_) ?_; rotate_left; (focus (go_simp; all_goals with_reducible rfl))) | refine St.load rfl hM rfl rfl rfl rfl (by repeat constructor) (by rfl) (by kernel_rfl) ?_ | ((((refine St.storeRow rfl hM rfl rfl rfl rfl rfl (by repeat constructor) (Nat.le_of_ble_eq_true rfl) (Nat.le_of_ble_eq_true rfl) (by kernel_rfl) rfl ?_ ?_); (focus ((intro h; cases h; done))); clear hM; intro w hM)); (try simp only [Res.put, Res.known, Act.eval, Value.cells, getD_lit, qGz, qGs, List.toList_toArray, qSz, qSs, over, Nat.reduceAdd] at hM))); (try simp only [Act.put, qSa, qSz, qSs])) | (((refine St.alloc (ty := 63) (z := .agg #[.int .i64 0, .bool false, .int .i64 0, .int .i64 0, .string ⟨#[]⟩, .slice none 0 0]) rfl hM rfl rfl (by kernel_rfl) ?_); clear hM; intro w bk hM); (try simp only [Res.put, Res.known, Act.eval, Value.cells, getD_lit, qGz, qGs, List.toList_toArray, qSz, qSs, over, Nat.reduceAdd] at hM); (try simp only [Act.put, qSa, qSz, qSs]))) | (first | (refine wp_seq_shut (fun K hK => ?_)) | (refine wp_text hM (fun Kr hKr => ?_); simp only [List.append_eq, List.cons_append, List.nil_append, inText]) | refine wp_skip ?_ | (first | refine wp_cond_true rfl ?_ | refine wp_cond_false rfl ?_) | ((refine hK.out _ _ ?_); clear hK K))))
      (((refine wp_ret ?_; (try simp only [Exit.then, Exit.inBlock]); refine St.ret hM rfl (by repeat (first | exact Outs.nil | apply Outs.tmp rfl)) rfl ?_)); (rw [HE.out]); exact ⟨rfl, HB.out _ (hM.part (by repeat (first | exact Part.all | apply Part.skip))) hM.only⟩)
    | false =>
      rw [hyd] at HG
      cases hfd : rfind zs dir with
      | none =>
        have HE := Lib.hid (In.link_bad (t := t) (id := id) (dir := dir) (s := s) (e := 3) (by decide) (by rw [In.linkE_file hn hyd, In.emptyE_bad (by rw [In.placeE_none (by rw [h.find dir, hfd]; rfl)]; decide), In.placeE_none (by rw [h.find dir, hfd]; rfl)]))
        have HP := Lib.hid (fun (W : World) (hA : At ((g, true, Res.cells [.int .i64 t.quota, .int .i64 (t.last + 1), .slice va zs.length vc] 43) :: U) W) => rplace_none (s := s) (HAT.out W hA).raw hfd)
        unfold nodZ at HP
        (have HH := Lib.hid h; have HI := Lib.hid I; clear h I hv hU)
        go_enter Tryz.func31, Tryz.ntmps31
        (repeat (first | ((with_reducible show wpSeq _ _ _ _ _ _ _); first | ((with_reducible refine wpSeq_nil ?_); refine hKr.out _ _ ?_; clear hKr Kr) | (((refine St.copy (v := ?_) (by first | exact .inl rfl | exact .inr rfl) rfl rfl ?_ ?_; rotate_left; (focus ((try simp only [Act.eval, getD_lit, qGz, qGs]); with_reducible rfl)))); (try simp only [Act.put, qSa, qSz, qSs]))) | (first | (refine wp_seq_shut (fun K hK => ?_)) | (refine wp_text hM (fun Kr hKr => ?_); simp only [List.append_eq, List.cons_append, List.nil_append, inText]) | ((refine hK.out _ _ ?_); clear hK K))))
        ((refine St.call3 rfl rfl (by kernel_rfl) (fun R hR => ?_); simp only [List.map_toArray, List.map_cons, List.map_nil, Act.eval, getD_lit, qGz, qGs]); refine (HG.out _ (hM.part (by repeat (exact Part.all)))).mono ?_; (rintro e w' ⟨rfl, hb⟩; refine hR.out _ _ ?_; clear hR R; replace hM := hM.below hb; clear hb; (try simp only [Act.put, qSa, qSz, qSs])))
        (repeat (first | ((with_reducible show wpSeq _ _ _ _ _ _ _); first | ((with_reducible refine wpSeq_nil ?_); refine hKr.out _ _ ?_; clear hKr Kr) | ((first | (refine St.copy (v := ?_) (by first | exact .inl rfl | exact .inr rfl) rfl rfl ?_ ?_; rotate_left; (focus ((try simp only [Act.eval, getD_lit, qGz, qGs]); with_reducible rfl))) | (refine St.pure (v := ?_) rfl rfl rfl (fun w => ?_) ?_; rotate_left; (focus (go_simp; all_goals with_reducible rfl))) | refine St.load rfl hM rfl rfl rfl rfl (by repeat constructor) (by rfl) (by kernel_rfl) ?_ | ((((refine St.storeRow rfl hM rfl rfl rfl rfl rfl (by repeat constructor) (Nat.le_of_ble_eq_true rfl) (Nat.le_of_ble_eq_true rfl) (by kernel_rfl) rfl ?_ ?_); (focus ((intro h; cases h; done))); clear hM; intro w hM)); (try simp only [Res.put, Res.known, Act.eval, Value.cells, getD_lit, qGz, qGs, List.toList_toArray, qSz, qSs, over, Nat.reduceAdd] at hM))); (try simp only [Act.put, qSa, qSz, qSs])) | (((refine St.alloc (ty := 63) (z := .agg #[.int .i64 0, .bool false, .int .i64 0, .int .i64 0, .string ⟨#[]⟩, .slice none 0 0]) rfl hM rfl rfl (by kernel_rfl) ?_); clear hM; intro w bk hM); (try simp only [Res.put, Res.known, Act.eval, Value.cells, getD_lit, qGz, qGs, List.toList_toArray, qSz, qSs, over, Nat.reduceAdd] at hM); (try simp only [Act.put, qSa, qSz, qSs]))) | (first | (refine wp_seq_shut (fun K hK => ?_)) | (refine wp_text hM (fun Kr hKr => ?_); simp only [List.append_eq, List.cons_append, List.nil_append, inText]) | refine wp_skip ?_ | (refine wp_cond_false rfl ?_) | ((refine hK.out _ _ ?_); clear hK K))))
        ((refine St.call3 rfl rfl (by kernel_rfl) (fun R hR => ?_); simp only [List.map_toArray, List.map_cons, List.map_nil, Act.eval, getD_lit, qGz, qGs]); refine (HP.out _ (hM.part (by repeat (first | exact Part.all | apply Part.skip)))).mono ?_; (rintro e w' ⟨rfl, hb⟩; refine hR.out _ _ ?_; clear hR R; replace hM := hM.below hb; clear hb; (try simp only [Act.put, qSa, qSz, qSs])))
        (repeat (first | ((with_reducible show wpSeq _ _ _ _ _ _ _); first | ((with_reducible refine wpSeq_nil ?_); refine hKr.out _ _ ?_; clear hKr Kr) | ((first | (refine St.copy (v := ?_) (by first | exact .inl rfl | exact .inr rfl) rfl rfl ?_ ?_; rotate_left; (focus ((try simp only [Act.eval, getD_lit, qGz, qGs]); with_reducible rfl))) | (refine St.pure (v := ?_) rfl rfl rfl (fun w => ?_) ?_; rotate_left; (focus (go_simp; all_goals with_reducible rfl))) | ((((refine St.storeRow rfl hM rfl rfl rfl rfl rfl (by repeat constructor) (Nat.le_of_ble_eq_true rfl) (Nat.le_of_ble_eq_true rfl) (by kernel_rfl) rfl ?_ ?_); (focus ((intro h; cases h; done))); clear hM; intro w hM)); (try simp only [Res.put, Res.known, Act.eval, Value.cells, getD_lit, qGz, qGs, List.toList_toArray, qSz, qSs, over, Nat.reduceAdd] at hM))); (try simp only [Act.put, qSa, qSz, qSs])) | (((refine St.alloc (ty := 63) (z := .agg #[.int .i64 0, .bool false, .int .i64 0, .int .i64 0, .string ⟨#[]⟩, .slice none 0 0]) rfl hM rfl rfl (by kernel_rfl) ?_); clear hM; intro w bk hM); (try simp only [Res.put, Res.known, Act.eval, Value.cells, getD_lit, qGz, qGs, List.toList_toArray, qSz, qSs, over, Nat.reduceAdd] at hM); (try simp only [Act.put, qSa, qSz, qSs]))) | (first | (refine wp_seq_shut (fun K hK => ?_)) | (refine wp_text hM (fun Kr hKr => ?_); simp only [List.append_eq, List.cons_append, List.nil_append, inText]) | (refine wp_cond_true rfl ?_) | ((refine hK.out _ _ ?_); clear hK K))))
        (((refine wp_ret ?_; (try simp only [Exit.then, Exit.inBlock]); refine St.ret hM rfl (by repeat (first | exact Outs.nil | apply Outs.tmp rfl)) rfl ?_)); (rw [HE.out]); exact ⟨rfl, HB.out _ (hM.part (by repeat (first | exact Part.all | apply Part.skip))) hM.only⟩)
      | some z =>
        have hz := (rfind_mem hfd).1
        have hd : In.find t.nodes dir = some z.1 := by rw [h.find dir, hfd]; rfl
        obtain ⟨wa, wc, hwv, -⟩ := slV_open (h.raw.names z hz)
        have HP := Lib.hid (fun (W : World) (hA : At ((g, true, Res.cells [.int .i64 t.quota, .int .i64 (t.last + 1), .slice va zs.length vc] 43) :: U) W) => rplace_some (s := s) (HAT.out W hA).raw hs hfd)
        have HLD := Lib.hid (fun (W : World) (hA : At ((g, true, Res.cells [.int .i64 t.quota, .int .i64 (t.last + 1), .slice va zs.length vc] 43) :: U) W) => rleads_any z ((HAT.out W hA).raw.nm (h.nl I hN) hz) s)
        have HWI := Lib.hid (fun (W : World) (hA : At ((g, true, Res.cells [.int .i64 t.quota, .int .i64 (t.last + 1), .slice va zs.length vc] 43) :: U) W) => rwith_any z ((HAT.out W hA).raw.nm (h.nl I hN) hz) s id)
        rw [NodV.open hwv] at HP HLD HWI
        rw [placeN_E h hfd s] at HP
        have hyl : 0 ≤ y.1.links ∧ y.1.links ≤ 4000000 := by
          have h1 := I.links y.1 (h.mem hy)
          have h2 := In.cnt_le t.nodes y.1.id
          have h3 := I.tot
          unfold In.rootI at h1
          split at h1 <;> omega
        (have HH := Lib.hid h; have HI := Lib.hid I; clear h I hv hU)
        generalize hc : In.placeE t dir s = c at HP
        generalize hi : In.leads z.1.names s = i at HLD
        go_enter Tryz.func31, Tryz.ntmps31
        (repeat (first | ((with_reducible show wpSeq _ _ _ _ _ _ _); first | ((with_reducible refine wpSeq_nil ?_); refine hKr.out _ _ ?_; clear hKr Kr) | (((refine St.copy (v := ?_) (by first | exact .inl rfl | exact .inr rfl) rfl rfl ?_ ?_; rotate_left; (focus ((try simp only [Act.eval, getD_lit, qGz, qGs]); with_reducible rfl)))); (try simp only [Act.put, qSa, qSz, qSs]))) | (first | (refine wp_seq_shut (fun K hK => ?_)) | (refine wp_text hM (fun Kr hKr => ?_); simp only [List.append_eq, List.cons_append, List.nil_append, inText]) | ((refine hK.out _ _ ?_); clear hK K))))
        ((refine St.call3 rfl rfl (by kernel_rfl) (fun R hR => ?_); simp only [List.map_toArray, List.map_cons, List.map_nil, Act.eval, getD_lit, qGz, qGs]); refine (HG.out _ (hM.part (by repeat (exact Part.all)))).mono ?_; (rintro e w' ⟨rfl, hb⟩; refine hR.out _ _ ?_; clear hR R; replace hM := hM.below hb; clear hb; (try simp only [Act.put, qSa, qSz, qSs])))
        (repeat (first | ((with_reducible show wpSeq _ _ _ _ _ _ _); first | ((with_reducible refine wpSeq_nil ?_); refine hKr.out _ _ ?_; clear hKr Kr) | ((first | (refine St.copy (v := ?_) (by first | exact .inl rfl | exact .inr rfl) rfl rfl ?_ ?_; rotate_left; (focus ((try simp only [Act.eval, getD_lit, qGz, qGs]); with_reducible rfl))) | (refine St.pure (v := ?_) rfl rfl rfl (fun w => ?_) ?_; rotate_left; (focus (go_simp; all_goals with_reducible rfl))) | refine St.load rfl hM rfl rfl rfl rfl (by repeat constructor) (by rfl) (by kernel_rfl) ?_ | ((((refine St.storeRow rfl hM rfl rfl rfl rfl rfl (by repeat constructor) (Nat.le_of_ble_eq_true rfl) (Nat.le_of_ble_eq_true rfl) (by kernel_rfl) rfl ?_ ?_); (focus ((intro h; cases h; done))); clear hM; intro w hM)); (try simp only [Res.put, Res.known, Act.eval, Value.cells, getD_lit, qGz, qGs, List.toList_toArray, qSz, qSs, over, Nat.reduceAdd] at hM))); (try simp only [Act.put, qSa, qSz, qSs])) | (((refine St.alloc (ty := 63) (z := .agg #[.int .i64 0, .bool false, .int .i64 0, .int .i64 0, .string ⟨#[]⟩, .slice none 0 0]) rfl hM rfl rfl (by kernel_rfl) ?_); clear hM; intro w bk hM); (try simp only [Res.put, Res.known, Act.eval, Value.cells, getD_lit, qGz, qGs, List.toList_toArray, qSz, qSs, over, Nat.reduceAdd] at hM); (try simp only [Act.put, qSa, qSz, qSs]))) | (first | (refine wp_seq_shut (fun K hK => ?_)) | (refine wp_text hM (fun Kr hKr => ?_); simp only [List.append_eq, List.cons_append, List.nil_append, inText]) | refine wp_skip ?_ | (refine wp_cond_false rfl ?_) | ((refine hK.out _ _ ?_); clear hK K))))
        ((refine St.call3 rfl rfl (by kernel_rfl) (fun R hR => ?_); simp only [List.map_toArray, List.map_cons, List.map_nil, Act.eval, getD_lit, qGz, qGs]); refine (HP.out _ (hM.part (by repeat (first | exact Part.all | apply Part.skip)))).mono ?_; (rintro e w' ⟨rfl, hb⟩; refine hR.out _ _ ?_; clear hR R; replace hM := hM.below hb; clear hb; (try simp only [Act.put, qSa, qSz, qSs])))
        (repeat (first | ((with_reducible show wpSeq _ _ _ _ _ _ _); first | ((with_reducible refine wpSeq_nil ?_); refine hKr.out _ _ ?_; clear hKr Kr) | ((first | (refine St.copy (v := ?_) (by first | exact .inl rfl | exact .inr rfl) rfl rfl ?_ ?_; rotate_left; (focus ((try simp only [Act.eval, getD_lit, qGz, qGs]); with_reducible rfl))) | (refine St.pure (v := ?_) rfl rfl rfl (fun w => ?_) ?_; rotate_left; (focus (go_simp; all_goals with_reducible rfl))) | ((((refine St.storeRow rfl hM rfl rfl rfl rfl rfl (by repeat constructor) (Nat.le_of_ble_eq_true rfl) (Nat.le_of_ble_eq_true rfl) (by kernel_rfl) rfl ?_ ?_); (focus ((intro h; cases h; done))); clear hM; intro w hM)); (try simp only [Res.put, Res.known, Act.eval, Value.cells, getD_lit, qGz, qGs, List.toList_toArray, qSz, qSs, over, Nat.reduceAdd] at hM))); (try simp only [Act.put, qSa, qSz, qSs])) | (((refine St.alloc (ty := 63) (z := .agg #[.int .i64 0, .bool false, .int .i64 0, .int .i64 0, .string ⟨#[]⟩, .slice none 0 0]) rfl hM rfl rfl (by kernel_rfl) ?_); clear hM; intro w bk hM); (try simp only [Res.put, Res.known, Act.eval, Value.cells, getD_lit, qGz, qGs, List.toList_toArray, qSz, qSs, over, Nat.reduceAdd] at hM); (try simp only [Act.put, qSa, qSz, qSs]))) | (first | (refine wp_seq_shut (fun K hK => ?_)) | (refine wp_text hM (fun Kr hKr => ?_); simp only [List.append_eq, List.cons_append, List.nil_append, inText]) | ((refine hK.out _ _ ?_); clear hK K))))
        by_cases hc0 : c = 0
        · subst hc0
          (repeat (first | ((with_reducible show wpSeq _ _ _ _ _ _ _); ((first | (refine St.copy (v := ?_) (by exact .inl rfl) rfl rfl ?_ ?_; rotate_left; (focus ((try simp only [Act.eval, getD_lit, qGz, qGs]); with_reducible rfl))) | ((refine St.loadRow rfl hM rfl rfl rfl rfl (by repeat constructor) (Nat.le_of_ble_eq_true rfl) (by kernel_rfl) ?_); (try simp only [Res.known, List.drop_succ_cons, List.drop_zero, List.take_succ_cons, List.take_zero]))); (try simp only [Act.put, qSa, qSz, qSs]))) | (first | (refine wp_seq_shut (fun K hK => ?_)) | (refine wp_text hM (fun Kr hKr => ?_); simp only [List.append_eq, List.cons_append, List.nil_append, inText]) | refine wp_skip ?_ | (refine wp_cond_false rfl ?_) | ((refine hK.out _ _ ?_); clear hK K))))
          ((refine St.call3 rfl rfl (by kernel_rfl) (fun R hR => ?_); simp only [List.map_toArray, List.map_cons, List.map_nil, Act.eval, getD_lit, qGz, qGs]); refine (HLD.out _ (hM.part (by repeat (first | exact Part.all | apply Part.skip)))).mono ?_; (rintro e w' ⟨rfl, hb⟩; refine hR.out _ _ ?_; clear hR R; replace hM := hM.below hb; clear hb; (try simp only [Act.put, qSa, qSz, qSs])))
          have hip : i = 0 ∨ 0 < i := by rw [← hi]; exact RIs.lead HI.out hd
          rcases hip with hi0 | hi0
          · subst hi0
            have HE := Lib.hid (In.link_yes (t := t) (id := id) (dir := dir) (s := s) (by rw [In.linkE_file hn hyd, In.emptyE_at hd hc, if_pos hi]))
            have hzd : z.1.dir = true := by
              obtain ⟨d, h1, h2, -⟩ := In.placeE_ok hc
              rw [hd] at h1
              cases h1
              exact h2
            have hne : id ≠ dir := fun e => by
              rw [e, hd] at hn
              rw [Option.some.inj hn, hyd] at hzd
              cases hzd
            have hw1 : IntKind.i64.wrap (y.1.links + 1) = y.1.links + 1 := wrap_in _ (by omega)
            have HID := Lib.hid (HH.out.ids HI.out)
            have HKP := Lib.hid (fun p' => rset_keep (z0 := ((z.1.setNames (ins (s, id) z.1.names), p') : NodV)) hy (show y.1.id ≠ z.1.id by rw [(rfind_mem hf).2, (rfind_mem hfd).2]; exact hne))
            have HNO := Lib.hid (fun p' => (show (rset (rset zs ((z.1.setNames (ins (s, id) z.1.names), p') : NodV)) ((y.1.setLinks (y.1.links + 1), y.2) : NodV)).map (·.1) = (In.linkT t id dir s).nodes by
              rw [rput_nodes, rput_nodes, HH.out.nodes]
              show In.rput (In.rput t.nodes (z.1.setNames (ins (s, id) z.1.names))) _ = (In.linksUp (In.nameIn t dir s id) id).nodes
              rw [In.rput_with HI.out hd hi]
              exact In.rput_links (by rw [In.find_nameIn hd, if_neg hne]; exact hn) hyl.1))
            have HYC := Lib.hid (show NodV.cells (y.1.setLinks (y.1.links + 1), y.2) = [.int .i64 y.1.id, .bool false, .int .i64 (y.1.links + 1), .int .i64 y.1.holds, .string y.1.data, .slice ya y.1.names.length yc] by rw [NodV.open (z := (y.1.setLinks (y.1.links + 1), y.2)) hyv, ← hyd]; rfl)
            clear hc hi hyl hyd hzd hne hyv
            (repeat (first | ((with_reducible show wpSeq _ _ _ _ _ _ _); first | ((with_reducible refine wpSeq_nil ?_); refine hKr.out _ _ ?_; clear hKr Kr) | ((first | (refine St.copy (v := ?_) (by exact .inl rfl) rfl rfl ?_ ?_; rotate_left; (focus ((try simp only [Act.eval, getD_lit, qGz, qGs]); with_reducible rfl))) | (refine St.pure (v := ?_) rfl rfl rfl (fun w => ?_) ?_; rotate_left; (focus (go_simp; all_goals with_reducible rfl))) | ((refine St.loadRow rfl hM rfl rfl rfl rfl (by repeat constructor) (Nat.le_of_ble_eq_true rfl) (by kernel_rfl) ?_); (try simp only [Res.known, List.drop_succ_cons, List.drop_zero, List.take_succ_cons, List.take_zero]))); (try simp only [Act.put, qSa, qSz, qSs]))) | (first | (refine wp_seq_shut (fun K hK => ?_)) | (refine wp_text hM (fun Kr hKr => ?_); simp only [List.append_eq, List.cons_append, List.nil_append, inText]) | refine wp_skip ?_ | (refine wp_cond_false rfl ?_) | ((refine hK.out _ _ ?_); clear hK K))))
            (refine St.call3 rfl rfl (by kernel_rfl) (fun R hR => ?_); simp only [List.map_toArray, List.map_cons, List.map_nil, Act.eval, getD_lit, qGz, qGs])
            refine (HWI.out _ (hM.part (by repeat (first | exact Part.all | apply Part.skip)))).mono ?_
            rintro e w' ⟨p', rfl, hok, hst⟩; refine hR.out _ _ ?_; clear hR R
            replace hM := hM.madeM hst (slL_flag _ _ _ _)
            clear hst
            rw [← HOP.out] at hM
            replace hM := (St.rot hM).forget.rot
            (try simp only [Act.put, qSa, qSz, qSs])
            (repeat (fail))
            (refine St.call3 rfl rfl (by kernel_rfl) (fun R hR => ?_); simp only [List.map_toArray, List.map_cons, List.map_nil, Act.eval, getD_lit, qGz, qGs])
            refine (rputX_any HRP.out hM (by intro s'; repeat (first | exact Swap.all | apply Swap.skip)) HID.out hok).mono ?_
            rintro e w' ⟨rfl, s1, hM1, hp1⟩; refine hR.out _ _ ?_; clear hR R hM
            have hM := St.unF hM1 (by repeat (first | exact Swap.all | apply Swap.skip))
            clear hM1
            (try simp only [Act.put, qSa, qSz, qSs])
            (repeat (first | ((with_reducible show wpSeq _ _ _ _ _ _ _); first | ((with_reducible refine wpSeq_nil ?_); refine hKr.out _ _ ?_; clear hKr Kr) | ((first | (refine St.copy (v := ?_) (by exact .inl rfl) rfl rfl ?_ ?_; rotate_left; (focus ((try simp only [Act.eval, getD_lit, qGz, qGs]); with_reducible rfl))) | (refine St.pure (v := ?_) rfl rfl rfl (fun w => ?_) ?_; rotate_left; (focus (go_simp; all_goals with_reducible rfl))) | refine St.load rfl hM rfl rfl rfl rfl (by repeat constructor) (by rfl) (by kernel_rfl) ?_ | ((refine St.loadRow rfl hM rfl rfl rfl rfl (by repeat constructor) (Nat.le_of_ble_eq_true rfl) (by kernel_rfl) ?_); (try simp only [Res.known, List.drop_succ_cons, List.drop_zero, List.take_succ_cons, List.take_zero])) | ((((refine St.store rfl hM rfl rfl rfl rfl rfl (by repeat constructor) (Nat.le_of_ble_eq_true rfl) (by kernel_rfl) rfl ?_ ?_); (focus ((intro h; cases h; done))); clear hM; intro w hM)); (try simp only [Res.put, Res.known, Act.eval, Value.cells, getD_lit, qGz, qGs, List.toList_toArray, qSz, qSs, over, Nat.reduceAdd] at hM))); (try simp only [Act.put, qSa, qSz, qSs]))) | (first | (refine wp_seq_shut (fun K hK => ?_)) | (refine wp_text hM (fun Kr hKr => ?_); simp only [List.append_eq, List.cons_append, List.nil_append, inText]) | ((refine hK.out _ _ ?_); clear hK K))))
            (refine St.call3 rfl rfl (by kernel_rfl) (fun R hR => ?_); simp only [List.map_toArray, List.map_cons, List.map_nil, Act.eval, getD_lit, qGz, qGs])
            have C := rputY_any hp1 hM (by intro s'; repeat (first | exact Swap.all | apply Swap.skip)) (ids_rset _ HID.out) (HKP.out p') (n := y.1.setLinks (y.1.links + 1)) rfl rfl
            rw [HYC.out] at C
            refine C.mono ?_
            clear C
            rintro e w' ⟨rfl, s2, hM1, hp2⟩; refine hR.out _ _ ?_; clear hR R hM
            have hM := hM1
            clear hM1
            (try simp only [Act.put, qSa, qSz, qSs])
            (repeat (first | ((with_reducible show wpSeq _ _ _ _ _ _ _); first | ((with_reducible refine wpSeq_nil ?_); refine hKr.out _ _ ?_; clear hKr Kr) | (((refine St.copy (v := ?_) (by exact .inr rfl) rfl rfl ?_ ?_; rotate_left; (focus ((try simp only [Act.eval, getD_lit, qGz, qGs]); with_reducible rfl)))); (try simp only [Act.put, qSa, qSz, qSs]))) | (first | (refine wp_seq_shut (fun K hK => ?_)) | (refine wp_text hM (fun Kr hKr => ?_); simp only [List.append_eq, List.cons_append, List.nil_append, inText]) | ((refine hK.out _ _ ?_); clear hK K))))
            ((refine wp_ret ?_; (try simp only [Exit.then, Exit.inBlock]); refine St.ret hM rfl (by repeat (first | exact Outs.nil | apply Outs.tmp rfl)) rfl ?_))
            rw [HE.out]
            exact ⟨rfl, s2, _, HNO.out p', hp2.to (At.unF (hM.part (by repeat (first | exact Part.all | apply Part.skip)))) hM.only⟩
          · have HE := Lib.hid (In.link_bad (t := t) (id := id) (dir := dir) (s := s) (e := 4) (by decide) (by rw [In.linkE_file hn hyd, In.emptyE_at hd hc, if_neg (by rw [hi]; omega)]))
            (repeat (first | ((with_reducible show wpSeq _ _ _ _ _ _ _); first | ((with_reducible refine wpSeq_nil ?_); refine hKr.out _ _ ?_; clear hKr Kr) | ((first | (refine St.copy (v := ?_) (by exact .inr rfl) rfl rfl ?_ ?_; rotate_left; (focus ((try simp only [Act.eval, getD_lit, qGz, qGs]); with_reducible rfl))) | (refine St.pure (v := ?_) rfl rfl rfl (fun w => ?_) ?_; rotate_left; (focus (go_simp; all_goals with_reducible rfl)))); (try simp only [Act.put, qSa, qSz, qSs]))) | (first | (refine wp_seq_shut (fun K hK => ?_)) | (refine wp_text hM (fun Kr hKr => ?_); simp only [List.append_eq, List.cons_append, List.nil_append, inText]) | (refine wp_cond_true rfl ?_) | ((refine hK.out _ _ ?_); clear hK K))))
            (((refine wp_ret ?_; (try simp only [Exit.then, Exit.inBlock]); refine St.ret hM rfl (by repeat (first | exact Outs.nil | apply Outs.tmp rfl)) rfl ?_)); (rw [HE.out]); exact ⟨rfl, HB.out _ (hM.part (by repeat (first | exact Part.all | apply Part.skip))) hM.only⟩)
        · have q1 : (c != 0) = true := bne_iff_ne.2 hc0
          have HE := Lib.hid (In.link_bad (t := t) (id := id) (dir := dir) (s := s) (e := c) hc0 (by rw [In.linkE_file hn hyd, In.emptyE_bad (by rw [hc]; exact hc0), hc]))
          clear hc hc0
          rw [q1]
          (repeat (first | ((with_reducible show wpSeq _ _ _ _ _ _ _); first | ((with_reducible refine wpSeq_nil ?_); refine hKr.out _ _ ?_; clear hKr Kr) | (((refine St.copy (v := ?_) (by first | exact .inl rfl | exact .inr rfl) rfl rfl ?_ ?_; rotate_left; (focus ((try simp only [Act.eval, getD_lit, qGz, qGs]); with_reducible rfl)))); (try simp only [Act.put, qSa, qSz, qSs]))) | (first | (refine wp_seq_shut (fun K hK => ?_)) | (refine wp_text hM (fun Kr hKr => ?_); simp only [List.append_eq, List.cons_append, List.nil_append, inText]) | (refine wp_cond_true rfl ?_) | ((refine hK.out _ _ ?_); clear hK K))))
          (((refine wp_ret ?_; (try simp only [Exit.then, Exit.inBlock]); refine St.ret hM rfl (by repeat (first | exact Outs.nil | apply Outs.tmp rfl)) rfl ?_)); (rw [HE.out]); exact ⟨rfl, HB.out _ (hM.part (by repeat (first | exact Part.all | apply Part.skip))) hM.only⟩)
end
end Go.Proofs.YtcicjklhbnipcaaGreat
namespace Go.Proofs.YtcicjklhbnipcaaGreat
set_option linter.unusedVariables false
set_option linter.unusedSimpArgs false
open Go.RowKit Go.Maps
section
variable {w w' w0 : World} {F : List Nat} {L M : List Ent} {zs : List NodV} {x : RX} {t : TabD} {N : Nat} {q nx : Int}
theorem rfindR_E (h : RIs x t zs w) (dir : Int) (s : ByteArray) : rfindR zs dir s = (In.findN t dir s, In.findE t dir s) := by
  unfold rfindR
  cases hf : rfind zs dir with
  | none =>
    have hd : In.find t.nodes dir = none := by rw [h.find dir, hf]; rfl
    have e : In.findE t dir s = 3 := by unfold In.findE; rw [In.placeE_none hd]; rfl
    unfold In.findN
    rw [e]
    rfl
  | some z =>
    have hd : In.find t.nodes dir = some z.1 := by rw [h.find dir, hf]; rfl
    simp only
    rw [placeN_E h hf s]
    unfold In.findN In.findE
    rw [In.at_some hd]
    by_cases hc : In.placeE t dir s = 0
    · rw [hc, if_pos rfl]
      by_cases hl : In.leads z.1.names s = 0
      · rw [hl]; rfl
      · rw [if_neg hl, beq_eq_false_iff_ne.2 hl]; rfl
    · rw [if_neg hc, beq_eq_false_iff_ne.2 hc]
      simp [hc]
theorem rFindE_any (h : RIs x t zs w0) (I : In.Inv N t) (hN : N ≤ 900000) (dir : Int) (s : ByteArray) (hs : s.size ≤ 1000000000) : Calls Tryz.prog 30 #[.pointer (some ⟨x.g, 0, none⟩), .int .i64 dir, .string s] w0 fun e w' => e = .returned (.tuple #[.int .i64 (In.findN t dir s), .int .i64 (In.findE t dir s)]) ∧ Below w0.heap.size w0 w' := by
  have C := rFind_any h.raw (h.nl I hN) (dir := dir) hs
  rw [rfindR_E h dir s] at C
  exact C
theorem RIs.some (h : RIs x t zs w) {id : Int} {n : NodeD} (hn : In.find t.nodes id = some n) : ∃ y, rfind zs id = some y ∧ y.1 = n := by
  rw [h.find id] at hn
  cases hf : rfind zs id with
  | none => rw [hf] at hn; cases hn
  | some y => rw [hf] at hn; exact ⟨y, rfl, Option.some.inj hn⟩
theorem unlink_bad {dir : Int} {s : ByteArray} {e : Int} (he : e ≠ 0) (h : In.unlinkE t dir s = e) : In.unlink t dir s = (e, t) := by
  unfold In.unlink
  rw [h, beq_eq_false_iff_ne.2 he]
  rfl
theorem unlink_yes {dir : Int} {s : ByteArray} (h : In.unlinkE t dir s = 0) : In.unlink t dir s = (0, In.loses t dir s) := by
  unfold In.unlink
  rw [h]
  rfl
theorem unlinkE_find {dir : Int} {s : ByteArray} (h : In.findE t dir s = 0) : In.unlinkE t dir s = In.getE t (In.findN t dir s) false := by
  unfold In.unlinkE
  rw [h]
  rfl
theorem unlinkE_bad {dir : Int} {s : ByteArray} (h : In.findE t dir s ≠ 0) : In.unlinkE t dir s = In.findE t dir s := by
  unfold In.unlinkE
  rw [beq_eq_false_iff_ne.2 h]
  rfl
theorem remove_bad {dir : Int} {s : ByteArray} {e : Int} (he : e ≠ 0) (h : In.removeE t dir s = e) : In.remove t dir s = (e, t) := by
  unfold In.remove
  rw [h, beq_eq_false_iff_ne.2 he]
  rfl
theorem remove_yes {dir : Int} {s : ByteArray} (h : In.removeE t dir s = 0) : In.remove t dir s = (0, In.loses t dir s) := by
  unfold In.remove
  rw [h]
  rfl
theorem removeE_bad {dir : Int} {s : ByteArray} (h : In.findE t dir s ≠ 0) : In.removeE t dir s = In.findE t dir s := by
  unfold In.removeE
  rw [beq_eq_false_iff_ne.2 h]
  rfl
theorem removeE_find {dir : Int} {s : ByteArray} {n : NodeD} (h : In.findE t dir s = 0) (hn : In.find t.nodes (In.findN t dir s) = some n) : In.removeE t dir s = if n.dir then (if 0 < n.names.length then 7 else 0) else 12 := by
  unfold In.removeE
  rw [h, In.getE_some hn, In.at_some hn]
  cases n.dir
  · rfl
  · by_cases hl : 0 < n.names.length
    · simp [hl]
    · simp [hl]
set_option maxHeartbeats 8000000 in
set_option maxRecDepth 100000 in
theorem rUnlink_any (h : RIs x t zs w0) (I : In.Inv N t) (hN : N ≤ 900000) (dir : Int) (s : ByteArray) (hs : s.size ≤ 1000000000) :
    Calls Tryz.prog 32 #[.pointer (some ⟨x.g, 0, none⟩), .int .i64 dir, .string s] w0 fun e w' => e = .returned (.int .i64 (In.unlink t dir s).1) ∧ RDid x t zs (In.unlink t dir s).2 w0 w' := by
  by_cases hF : In.findE t dir s = 0
  · obtain ⟨d, hd, hdd, hl, hfn⟩ := In.findE_ok hF
    obtain ⟨n, hn⟩ := I.leads d (In.find_some hd).1 _ (In.leads_some hl)
    simp only at hn
    obtain ⟨z, hfz, hzd⟩ := h.some hd
    obtain ⟨y, hfy, hyn⟩ := h.some hn
    subst hzd hyn
    have hy := (rfind_mem hfy).1
    have hz := (rfind_mem hfz).1
    (obtain ⟨g, xs⟩ := x; obtain ⟨va, vc, hv, -⟩ := slV_open h.raw.sl; have hM : St w0 [g] w0 (rL ⟨g, xs⟩ t.quota (t.last + 1) zs) := h.raw.st; have HRP := Lib.hid (RP.start h.raw); have HOP := Lib.hid (fun nx => rL_open (x := ⟨g, xs⟩) (zs := zs) hv t.quota nx); obtain ⟨U, hU⟩ : ∃ U, (nodL xs zs ++ zs.flatMap NodV.ents).map unflag = U := ⟨_, rfl⟩; simp only [hU] at HOP; rw [HOP.out] at hM; have HAT := Lib.hid (fun (W : World) (hA : At ((g, true, Res.cells [.int .i64 t.quota, .int .i64 (t.last + 1), .slice va zs.length vc] 43) :: U) W) => (show RIs ⟨g, xs⟩ t zs W from ⟨RRaw.of (by rw [HOP.out]; exact hA) h.raw.sl h.raw.names h.raw.len, h.nodes⟩)); have HB := Lib.hid (fun (W : World) (hA : At ((g, true, Res.cells [.int .i64 t.quota, .int .i64 (t.last + 1), .slice va zs.length vc] 43) :: U) W) (ho : Only [g] w0 W) => (show RDid ⟨g, xs⟩ t zs t w0 W from ⟨xs, zs, h.nodes, HRP.out.to (by rw [HOP.out]; exact hA) ho⟩)))
    obtain ⟨ya, yc, hyv, -⟩ := slV_open (h.raw.names y hy)
    obtain ⟨wa, wc, hwv, -⟩ := slV_open (h.raw.names z hz)
    have HFI := Lib.hid (fun (W : World) (hA : At ((g, true, Res.cells [.int .i64 t.quota, .int .i64 (t.last + 1), .slice va zs.length vc] 43) :: U) W) => rFindE_any (HAT.out W hA) I hN dir s hs)
    have HG := Lib.hid (fun (W : World) (hA : At ((g, true, Res.cells [.int .i64 t.quota, .int .i64 (t.last + 1), .slice va zs.length vc] 43) :: U) W) => rget_some (HAT.out W hA).raw hfy)
    rw [hF, hfn] at HFI
    rw [NodV.open hyv] at HG
    cases hyd : y.1.dir with
    | true =>
      have HE := Lib.hid (unlink_bad (t := t) (dir := dir) (s := s) (e := 12) (by decide) (by rw [unlinkE_find hF, hfn, In.getE_some hn, hyd]; rfl))
      rw [hyd] at HG
      generalize In.leads z.1.names s = k at *
      (have HH := Lib.hid h; have HI := Lib.hid I; clear h I hv hU)
      clear hF hd hdd hl hfn hn
      go_enter Tryz.func32, Tryz.ntmps32
      (repeat (first | ((with_reducible show wpSeq _ _ _ _ _ _ _); first | ((with_reducible refine wpSeq_nil ?_); refine hKr.out _ _ ?_; clear hKr Kr) | (((refine St.copy (v := ?_) (by first | exact .inl rfl | exact .inr rfl) rfl rfl ?_ ?_; rotate_left; (focus ((try simp only [Act.eval, getD_lit, qGz, qGs]); with_reducible rfl)))); (try simp only [Act.put, qSa, qSz, qSs]))) | (first | (refine wp_seq_shut (fun K hK => ?_)) | (refine wp_text hM (fun Kr hKr => ?_); simp only [List.append_eq, List.cons_append, List.nil_append, inText]) | ((refine hK.out _ _ ?_); clear hK K))))
      ((refine St.call3 rfl rfl (by kernel_rfl) (fun R hR => ?_); simp only [List.map_toArray, List.map_cons, List.map_nil, Act.eval, getD_lit, qGz, qGs]); refine (HFI.out _ (hM.part (by repeat (exact Part.all)))).mono ?_; (rintro e w' ⟨rfl, hb⟩; refine hR.out _ _ ?_; clear hR R; replace hM := hM.below hb; clear hb; (try simp only [Act.put, qSa, qSz, qSs])))
      (repeat (first | ((with_reducible show wpSeq _ _ _ _ _ _ _); first | ((with_reducible refine wpSeq_nil ?_); refine hKr.out _ _ ?_; clear hKr Kr) | ((first | (refine St.copy (v := ?_) (by first | exact .inl rfl | exact .inr rfl) rfl rfl ?_ ?_; rotate_left; (focus ((try simp only [Act.eval, getD_lit, qGz, qGs]); with_reducible rfl))) | (refine St.pure (v := ?_) rfl rfl rfl (fun w => ?_) ?_; rotate_left; (focus (go_simp; all_goals with_reducible rfl)))); (try simp only [Act.put, qSa, qSz, qSs]))) | (first | (refine wp_seq_shut (fun K hK => ?_)) | (refine wp_text hM (fun Kr hKr => ?_); simp only [List.append_eq, List.cons_append, List.nil_append, inText]) | refine wp_skip ?_ | (refine wp_cond_false rfl ?_) | ((refine hK.out _ _ ?_); clear hK K))))
      ((refine St.call3 rfl rfl (by kernel_rfl) (fun R hR => ?_); simp only [List.map_toArray, List.map_cons, List.map_nil, Act.eval, getD_lit, qGz, qGs]); refine (HG.out _ (hM.part (by repeat (exact Part.all)))).mono ?_; (rintro e w' ⟨rfl, hb⟩; refine hR.out _ _ ?_; clear hR R; replace hM := hM.below hb; clear hb; (try simp only [Act.put, qSa, qSz, qSs])))
      (repeat (first | ((with_reducible show wpSeq _ _ _ _ _ _ _); first | ((with_reducible refine wpSeq_nil ?_); refine hKr.out _ _ ?_; clear hKr Kr) | ((first | (refine St.copy (v := ?_) (by first | exact .inl rfl | exact .inr rfl) rfl rfl ?_ ?_; rotate_left; (focus ((try simp only [Act.eval, getD_lit, qGz, qGs]); with_reducible rfl))) | (refine St.pure (v := ?_) rfl rfl rfl (fun w => ?_) ?_; rotate_left; (focus (go_simp; all_goals with_reducible rfl))) | refine St.load rfl hM rfl rfl rfl rfl (by repeat constructor) (by rfl) (by kernel_rfl) ?_ | ((((refine St.storeRow rfl hM rfl rfl rfl rfl rfl (by repeat constructor) (Nat.le_of_ble_eq_true rfl) (Nat.le_of_ble_eq_true rfl) (by kernel_rfl) rfl ?_ ?_); (focus ((intro h; cases h; done))); clear hM; intro w hM)); (try simp only [Res.put, Res.known, Act.eval, Value.cells, getD_lit, qGz, qGs, List.toList_toArray, qSz, qSs, over, Nat.reduceAdd] at hM))); (try simp only [Act.put, qSa, qSz, qSs])) | (((refine St.alloc (ty := 63) (z := .agg #[.int .i64 0, .bool false, .int .i64 0, .int .i64 0, .string ⟨#[]⟩, .slice none 0 0]) rfl hM rfl rfl (by kernel_rfl) ?_); clear hM; intro w bk hM); (try simp only [Res.put, Res.known, Act.eval, Value.cells, getD_lit, qGz, qGs, List.toList_toArray, qSz, qSs, over, Nat.reduceAdd] at hM); (try simp only [Act.put, qSa, qSz, qSs]))) | (first | (refine wp_seq_shut (fun K hK => ?_)) | (refine wp_text hM (fun Kr hKr => ?_); simp only [List.append_eq, List.cons_append, List.nil_append, inText]) | (refine wp_cond_true rfl ?_) | ((refine hK.out _ _ ?_); clear hK K))))
      (((refine wp_ret ?_; (try simp only [Exit.then, Exit.inBlock]); refine St.ret hM rfl (by repeat (first | exact Outs.nil | apply Outs.tmp rfl)) rfl ?_)); (rw [HE.out]); exact ⟨rfl, HB.out _ (hM.part (by repeat (first | exact Part.all | apply Part.skip))) hM.only⟩)
    | false =>
      have HE := Lib.hid (unlink_yes (t := t) (dir := dir) (s := s) (by rw [unlinkE_find hF, hfn, In.getE_some hn, hyd]; rfl))
      rw [hyd] at HG
      have hne : In.leads z.1.names s ≠ dir := fun e => by
        rw [e, hd] at hn
        rw [Option.some.inj hn, hyd] at hdd
        cases hdd
      have hy1 := In.links_pos I hd hdd hl hn hyd
      have hy2 : y.1.links ≤ 4000000 := by
        have h1 := I.links y.1 (h.mem hy)
        have h2 := In.cnt_le t.nodes y.1.id
        have h3 := I.tot
        unfold In.rootI at h1
        split at h1 <;> omega
      have HD := Lib.hid (fun (W : World) (hA : At ((g, true, Res.cells [.int .i64 t.quota, .int .i64 (t.last + 1), .slice va zs.length vc] 43) :: U) W) => rget_some (HAT.out W hA).raw hfz)
      have HWO := Lib.hid (fun (W : World) (hA : At ((g, true, Res.cells [.int .i64 t.quota, .int .i64 (t.last + 1), .slice va zs.length vc] 43) :: U) W) => rwithout_any z ((HAT.out W hA).raw.nm (h.nl I hN) hz) s)
      rw [NodV.open hwv] at HD HWO
      have hw1 : IntKind.i64.wrap (y.1.links - 1) = y.1.links - 1 := wrap_in _ (by omega)
      have HID := Lib.hid (h.ids I)
      have HKP := Lib.hid (fun p' => rset_keep (z0 := ((z.1.setNames (In.without z.1.names s), p') : NodV)) hy (show y.1.id ≠ z.1.id by rw [(rfind_mem hfy).2, (rfind_mem hfz).2]; exact hne))
      have HNO := Lib.hid (fun p' => (show (rset (rset zs ((z.1.setNames (In.without z.1.names s), p') : NodV)) ((y.1.setLinks (y.1.links - 1), y.2) : NodV)).map (·.1) = (In.loses t dir s).nodes by
        rw [rput_nodes, rput_nodes, h.nodes]
        show In.rput (In.rput t.nodes (z.1.setNames (In.without z.1.names s))) (y.1.setLinks (y.1.links - 1)) = _
        rw [In.rput_without I hd s]
        exact In.rput_loses I hd rfl hn hne rfl (by show 0 ≤ y.1.links - 1; omega)))
      have HYC := Lib.hid (show NodV.cells (y.1.setLinks (y.1.links - 1), y.2) = [.int .i64 y.1.id, .bool false, .int .i64 (y.1.links - 1), .int .i64 y.1.holds, .string y.1.data, .slice ya y.1.names.length yc] by rw [NodV.open (z := (y.1.setLinks (y.1.links - 1), y.2)) hyv, ← hyd]; rfl)
      (have HH := Lib.hid h; have HI := Lib.hid I; clear h I hv hU)
      generalize hk : In.leads z.1.names s = k at HFI HG
      clear hF hd hdd hl hfn hn hyd hne hy1 hy2 hyv hk
      go_enter Tryz.func32, Tryz.ntmps32
      (repeat (first | ((with_reducible show wpSeq _ _ _ _ _ _ _); first | ((with_reducible refine wpSeq_nil ?_); refine hKr.out _ _ ?_; clear hKr Kr) | (((refine St.copy (v := ?_) (by first | exact .inl rfl | exact .inr rfl) rfl rfl ?_ ?_; rotate_left; (focus ((try simp only [Act.eval, getD_lit, qGz, qGs]); with_reducible rfl)))); (try simp only [Act.put, qSa, qSz, qSs]))) | (first | (refine wp_seq_shut (fun K hK => ?_)) | (refine wp_text hM (fun Kr hKr => ?_); simp only [List.append_eq, List.cons_append, List.nil_append, inText]) | ((refine hK.out _ _ ?_); clear hK K))))
      ((refine St.call3 rfl rfl (by kernel_rfl) (fun R hR => ?_); simp only [List.map_toArray, List.map_cons, List.map_nil, Act.eval, getD_lit, qGz, qGs]); refine (HFI.out _ (hM.part (by repeat (exact Part.all)))).mono ?_; (rintro e w' ⟨rfl, hb⟩; refine hR.out _ _ ?_; clear hR R; replace hM := hM.below hb; clear hb; (try simp only [Act.put, qSa, qSz, qSs])))
      (repeat (first | ((with_reducible show wpSeq _ _ _ _ _ _ _); first | ((with_reducible refine wpSeq_nil ?_); refine hKr.out _ _ ?_; clear hKr Kr) | ((first | (refine St.copy (v := ?_) (by first | exact .inl rfl | exact .inr rfl) rfl rfl ?_ ?_; rotate_left; (focus ((try simp only [Act.eval, getD_lit, qGz, qGs]); with_reducible rfl))) | (refine St.pure (v := ?_) rfl rfl rfl (fun w => ?_) ?_; rotate_left; (focus (go_simp; all_goals with_reducible rfl)))); (try simp only [Act.put, qSa, qSz, qSs]))) | (first | (refine wp_seq_shut (fun K hK => ?_)) | (refine wp_text hM (fun Kr hKr => ?_); simp only [List.append_eq, List.cons_append, List.nil_append, inText]) | refine wp_skip ?_ | (refine wp_cond_false rfl ?_) | ((refine hK.out _ _ ?_); clear hK K))))
      ((refine St.call3 rfl rfl (by kernel_rfl) (fun R hR => ?_); simp only [List.map_toArray, List.map_cons, List.map_nil, Act.eval, getD_lit, qGz, qGs]); refine (HG.out _ (hM.part (by repeat (exact Part.all)))).mono ?_; (rintro e w' ⟨rfl, hb⟩; refine hR.out _ _ ?_; clear hR R; replace hM := hM.below hb; clear hb; (try simp only [Act.put, qSa, qSz, qSs])))
      (repeat (first | ((with_reducible show wpSeq _ _ _ _ _ _ _); first | ((with_reducible refine wpSeq_nil ?_); refine hKr.out _ _ ?_; clear hKr Kr) | ((first | (refine St.copy (v := ?_) (by first | exact .inl rfl | exact .inr rfl) rfl rfl ?_ ?_; rotate_left; (focus ((try simp only [Act.eval, getD_lit, qGz, qGs]); with_reducible rfl))) | (refine St.pure (v := ?_) rfl rfl rfl (fun w => ?_) ?_; rotate_left; (focus (go_simp; all_goals with_reducible rfl))) | refine St.load rfl hM rfl rfl rfl rfl (by repeat constructor) (by rfl) (by kernel_rfl) ?_ | ((((refine St.storeRow rfl hM rfl rfl rfl rfl rfl (by repeat constructor) (Nat.le_of_ble_eq_true rfl) (Nat.le_of_ble_eq_true rfl) (by kernel_rfl) rfl ?_ ?_); (focus ((intro h; cases h; done))); clear hM; intro w hM)); (try simp only [Res.put, Res.known, Act.eval, Value.cells, getD_lit, qGz, qGs, List.toList_toArray, qSz, qSs, over, Nat.reduceAdd] at hM))); (try simp only [Act.put, qSa, qSz, qSs])) | (((refine St.alloc (ty := 63) (z := .agg #[.int .i64 0, .bool false, .int .i64 0, .int .i64 0, .string ⟨#[]⟩, .slice none 0 0]) rfl hM rfl rfl (by kernel_rfl) ?_); clear hM; intro w bk hM); (try simp only [Res.put, Res.known, Act.eval, Value.cells, getD_lit, qGz, qGs, List.toList_toArray, qSz, qSs, over, Nat.reduceAdd] at hM); (try simp only [Act.put, qSa, qSz, qSs]))) | (first | (refine wp_seq_shut (fun K hK => ?_)) | (refine wp_text hM (fun Kr hKr => ?_); simp only [List.append_eq, List.cons_append, List.nil_append, inText]) | refine wp_skip ?_ | (refine wp_cond_false rfl ?_) | ((refine hK.out _ _ ?_); clear hK K))))
      ((refine St.call3 rfl rfl (by kernel_rfl) (fun R hR => ?_); simp only [List.map_toArray, List.map_cons, List.map_nil, Act.eval, getD_lit, qGz, qGs]); refine (HD.out _ (hM.part (by repeat (first | exact Part.all | apply Part.skip)))).mono ?_; (rintro e w' ⟨rfl, hb⟩; refine hR.out _ _ ?_; clear hR R; replace hM := hM.below hb; clear hb; (try simp only [Act.put, qSa, qSz, qSs])))
      (repeat (first | ((with_reducible show wpSeq _ _ _ _ _ _ _); first | ((with_reducible refine wpSeq_nil ?_); refine hKr.out _ _ ?_; clear hKr Kr) | ((first | (refine St.copy (v := ?_) (by first | exact .inl rfl | exact .inr rfl) rfl rfl ?_ ?_; rotate_left; (focus ((try simp only [Act.eval, getD_lit, qGz, qGs]); with_reducible rfl))) | (refine St.pure (v := ?_) rfl rfl rfl (fun w => ?_) ?_; rotate_left; (focus (go_simp; all_goals with_reducible rfl))) | ((refine St.loadRow rfl hM rfl rfl rfl rfl (by repeat constructor) (Nat.le_of_ble_eq_true rfl) (by kernel_rfl) ?_); (try simp only [Res.known, List.drop_succ_cons, List.drop_zero, List.take_succ_cons, List.take_zero])) | ((((refine St.storeRow rfl hM rfl rfl rfl rfl rfl (by repeat constructor) (Nat.le_of_ble_eq_true rfl) (Nat.le_of_ble_eq_true rfl) (by kernel_rfl) rfl ?_ ?_); (focus ((intro h; cases h; done))); clear hM; intro w hM)); (try simp only [Res.put, Res.known, Act.eval, Value.cells, getD_lit, qGz, qGs, List.toList_toArray, qSz, qSs, over, Nat.reduceAdd] at hM))); (try simp only [Act.put, qSa, qSz, qSs])) | (((refine St.alloc (ty := 63) (z := .agg #[.int .i64 0, .bool false, .int .i64 0, .int .i64 0, .string ⟨#[]⟩, .slice none 0 0]) rfl hM rfl rfl (by kernel_rfl) ?_); clear hM; intro w bk hM); (try simp only [Res.put, Res.known, Act.eval, Value.cells, getD_lit, qGz, qGs, List.toList_toArray, qSz, qSs, over, Nat.reduceAdd] at hM); (try simp only [Act.put, qSa, qSz, qSs]))) | (first | (refine wp_seq_shut (fun K hK => ?_)) | (refine wp_text hM (fun Kr hKr => ?_); simp only [List.append_eq, List.cons_append, List.nil_append, inText]) | ((refine hK.out _ _ ?_); clear hK K))))
      (refine St.call3 rfl rfl (by kernel_rfl) (fun R hR => ?_); simp only [List.map_toArray, List.map_cons, List.map_nil, Act.eval, getD_lit, qGz, qGs])
      refine (HWO.out _ (hM.part (by repeat (first | exact Part.all | apply Part.skip)))).mono ?_
      rintro e w' ⟨p', rfl, hok, hst⟩; refine hR.out _ _ ?_; clear hR R
      replace hM := hM.madeM hst (slL_flag _ _ _ _)
      clear hst
      rw [← HOP.out] at hM
      replace hM := (St.rot hM).forget.rot
      (try simp only [Act.put, qSa, qSz, qSs])
      (repeat (fail))
      (refine St.call3 rfl rfl (by kernel_rfl) (fun R hR => ?_); simp only [List.map_toArray, List.map_cons, List.map_nil, Act.eval, getD_lit, qGz, qGs])
      refine (rputX_any HRP.out hM (by intro s'; repeat (first | exact Swap.all | apply Swap.skip)) HID.out hok).mono ?_
      rintro e w' ⟨rfl, s1, hM1, hp1⟩; refine hR.out _ _ ?_; clear hR R hM
      have hM := St.unF hM1 (by repeat (first | exact Swap.all | apply Swap.skip))
      clear hM1
      (try simp only [Act.put, qSa, qSz, qSs])
      (repeat (first | ((with_reducible show wpSeq _ _ _ _ _ _ _); first | ((with_reducible refine wpSeq_nil ?_); refine hKr.out _ _ ?_; clear hKr Kr) | ((first | (refine St.copy (v := ?_) (by exact .inl rfl) rfl rfl ?_ ?_; rotate_left; (focus ((try simp only [Act.eval, getD_lit, qGz, qGs]); with_reducible rfl))) | (refine St.pure (v := ?_) rfl rfl rfl (fun w => ?_) ?_; rotate_left; (focus (go_simp; all_goals with_reducible rfl))) | refine St.load rfl hM rfl rfl rfl rfl (by repeat constructor) (by rfl) (by kernel_rfl) ?_ | ((refine St.loadRow rfl hM rfl rfl rfl rfl (by repeat constructor) (Nat.le_of_ble_eq_true rfl) (by kernel_rfl) ?_); (try simp only [Res.known, List.drop_succ_cons, List.drop_zero, List.take_succ_cons, List.take_zero])) | ((((refine St.store rfl hM rfl rfl rfl rfl rfl (by repeat constructor) (Nat.le_of_ble_eq_true rfl) (by kernel_rfl) rfl ?_ ?_); (focus ((intro h; cases h; done))); clear hM; intro w hM)); (try simp only [Res.put, Res.known, Act.eval, Value.cells, getD_lit, qGz, qGs, List.toList_toArray, qSz, qSs, over, Nat.reduceAdd] at hM))); (try simp only [Act.put, qSa, qSz, qSs]))) | (first | (refine wp_seq_shut (fun K hK => ?_)) | (refine wp_text hM (fun Kr hKr => ?_); simp only [List.append_eq, List.cons_append, List.nil_append, inText]) | ((refine hK.out _ _ ?_); clear hK K))))
      (refine St.call3 rfl rfl (by kernel_rfl) (fun R hR => ?_); simp only [List.map_toArray, List.map_cons, List.map_nil, Act.eval, getD_lit, qGz, qGs])
      have C := rputY_any hp1 hM (by intro s'; repeat (first | exact Swap.all | apply Swap.skip)) (ids_rset _ HID.out) (HKP.out p') (n := y.1.setLinks (y.1.links - 1)) rfl rfl
      rw [HYC.out] at C
      refine C.mono ?_
      clear C
      rintro e w' ⟨rfl, s2, hM1, hp2⟩; refine hR.out _ _ ?_; clear hR R hM
      have hM := hM1
      clear hM1
      (try simp only [Act.put, qSa, qSz, qSs])
      (repeat (first | ((with_reducible show wpSeq _ _ _ _ _ _ _); first | ((with_reducible refine wpSeq_nil ?_); refine hKr.out _ _ ?_; clear hKr Kr) | (((refine St.copy (v := ?_) (by exact .inr rfl) rfl rfl ?_ ?_; rotate_left; (focus ((try simp only [Act.eval, getD_lit, qGz, qGs]); with_reducible rfl)))); (try simp only [Act.put, qSa, qSz, qSs]))) | (first | (refine wp_seq_shut (fun K hK => ?_)) | (refine wp_text hM (fun Kr hKr => ?_); simp only [List.append_eq, List.cons_append, List.nil_append, inText]) | ((refine hK.out _ _ ?_); clear hK K))))
      ((refine wp_ret ?_; (try simp only [Exit.then, Exit.inBlock]); refine St.ret hM rfl (by repeat (first | exact Outs.nil | apply Outs.tmp rfl)) rfl ?_))
      rw [HE.out]
      refine ⟨rfl, s2, _, HNO.out p', ?_⟩
      rw [(In.loses_q dir s).1, (In.loses_q dir s).2]
      exact hp2.to (At.unF (hM.part (by repeat (first | exact Part.all | apply Part.skip)))) hM.only
  · (obtain ⟨g, xs⟩ := x; obtain ⟨va, vc, hv, -⟩ := slV_open h.raw.sl; have hM : St w0 [g] w0 (rL ⟨g, xs⟩ t.quota (t.last + 1) zs) := h.raw.st; have HRP := Lib.hid (RP.start h.raw); have HOP := Lib.hid (fun nx => rL_open (x := ⟨g, xs⟩) (zs := zs) hv t.quota nx); obtain ⟨U, hU⟩ : ∃ U, (nodL xs zs ++ zs.flatMap NodV.ents).map unflag = U := ⟨_, rfl⟩; simp only [hU] at HOP; rw [HOP.out] at hM; have HAT := Lib.hid (fun (W : World) (hA : At ((g, true, Res.cells [.int .i64 t.quota, .int .i64 (t.last + 1), .slice va zs.length vc] 43) :: U) W) => (show RIs ⟨g, xs⟩ t zs W from ⟨RRaw.of (by rw [HOP.out]; exact hA) h.raw.sl h.raw.names h.raw.len, h.nodes⟩)); have HB := Lib.hid (fun (W : World) (hA : At ((g, true, Res.cells [.int .i64 t.quota, .int .i64 (t.last + 1), .slice va zs.length vc] 43) :: U) W) (ho : Only [g] w0 W) => (show RDid ⟨g, xs⟩ t zs t w0 W from ⟨xs, zs, h.nodes, HRP.out.to (by rw [HOP.out]; exact hA) ho⟩)))
    have HFI := Lib.hid (fun (W : World) (hA : At ((g, true, Res.cells [.int .i64 t.quota, .int .i64 (t.last + 1), .slice va zs.length vc] 43) :: U) W) => rFindE_any (HAT.out W hA) I hN dir s hs)
    have HE := Lib.hid (unlink_bad hF (unlinkE_bad hF))
    generalize In.findE t dir s = c at *
    generalize In.findN t dir s = k at *
    have q1 : (c != 0) = true := bne_iff_ne.2 hF
    (have HH := Lib.hid h; have HI := Lib.hid I; clear h I hv hU)
    clear hF
    go_enter Tryz.func32, Tryz.ntmps32
    (repeat (first | ((with_reducible show wpSeq _ _ _ _ _ _ _); first | ((with_reducible refine wpSeq_nil ?_); refine hKr.out _ _ ?_; clear hKr Kr) | (((refine St.copy (v := ?_) (by first | exact .inl rfl | exact .inr rfl) rfl rfl ?_ ?_; rotate_left; (focus ((try simp only [Act.eval, getD_lit, qGz, qGs]); with_reducible rfl)))); (try simp only [Act.put, qSa, qSz, qSs]))) | (first | (refine wp_seq_shut (fun K hK => ?_)) | (refine wp_text hM (fun Kr hKr => ?_); simp only [List.append_eq, List.cons_append, List.nil_append, inText]) | ((refine hK.out _ _ ?_); clear hK K))))
    ((refine St.call3 rfl rfl (by kernel_rfl) (fun R hR => ?_); simp only [List.map_toArray, List.map_cons, List.map_nil, Act.eval, getD_lit, qGz, qGs]); refine (HFI.out _ (hM.part (by repeat (exact Part.all)))).mono ?_; (rintro e w' ⟨rfl, hb⟩; refine hR.out _ _ ?_; clear hR R; replace hM := hM.below hb; clear hb; (try simp only [Act.put, qSa, qSz, qSs])))
    (repeat (first | ((with_reducible show wpSeq _ _ _ _ _ _ _); first | ((with_reducible refine wpSeq_nil ?_); refine hKr.out _ _ ?_; clear hKr Kr) | ((first | (refine St.copy (v := ?_) (by first | exact .inl rfl | exact .inr rfl) rfl rfl ?_ ?_; rotate_left; (focus ((try simp only [Act.eval, getD_lit, qGz, qGs]); with_reducible rfl))) | (refine St.pure (v := ?_) rfl rfl rfl (fun w => ?_) ?_; rotate_left; (focus (go_simp; all_goals with_reducible rfl)))); (try simp only [Act.put, qSa, qSz, qSs]))) | (first | (refine wp_seq_shut (fun K hK => ?_)) | (refine wp_text hM (fun Kr hKr => ?_); simp only [List.append_eq, List.cons_append, List.nil_append, inText]) | (refine wp_cond_true rfl ?_) | ((refine hK.out _ _ ?_); clear hK K))))
    (((refine wp_ret ?_; (try simp only [Exit.then, Exit.inBlock]); refine St.ret hM rfl (by repeat (first | exact Outs.nil | apply Outs.tmp rfl)) rfl ?_)); (rw [HE.out]); exact ⟨rfl, HB.out _ (hM.part (by repeat (exact Part.all))) hM.only⟩)
end
end Go.Proofs.YtcicjklhbnipcaaGreat
