/-
  Texts laid one behind the other: what MorZ asks for.
-/
import Derived.Test.YtcicjklhbnipcaaGreatDoorPkMoF
namespace Go.Proofs.YtcicjklhbnipcaaGreatDoor
set_option linter.unusedVariables false
set_option linter.unusedSimpArgs false
open Go.RowKit Go.Maps
theorem small_ok {x : ActF} (hf : x.Fit) (hs : SmallF x) : x.op.Ok := ⟨hf.op.kind, hf.op.h, hf.op.at_, hf.op.n, by have := hs.path; omega, by have := hs.dest; omega, hf.op.data⟩
theorem zs_len {X : DskX} {D : DskD} (h : DskOk X D) : X.zs.length = D.log.length := by rw [← h.log, List.length_map]
set_option maxHeartbeats 16000000 in
set_option maxRecDepth 100000 in
theorem oplogMore_walk (a : Option Addr) (n c : Nat) (xs : List ActO) (kp : Int) (w0 : World) (hx : RActOs w0 w0.heap.size [.slice a n c] xs) (hkp : (Lit.int .u8 kp).wf = true) (hX : Mx w0) : Calls Tryz.prog 7 #[.slice a n c, .int .u8 kp] w0 fun e w' => e = .returned (.bool true) ∧ Below w0.heap.size w0 w' := by
  have hM := St.start w0 []
  have HX := Lib.hid hX
  have HA := Lib.hid (actOs_in hx)
  have F0 : 0 ∉ ([] : List Nat) := nofun
  obtain rfl : n = xs.length := HA.out.1
  have hn : xs.length ≤ maxLen := HA.out.2.1
  rw [maxLen_val] at hn
  have hkr : 0 ≤ kp ∧ kp ≤ 255 := by
    have h1 : IntKind.u8.min ≤ kp ∧ kp ≤ IntKind.u8.max := by simpa [Lit.wf] using hkp
    have e1 : IntKind.u8.min = 0 := rfl
    have e2 : IntKind.u8.max = 255 := rfl
    omega
  obtain ⟨k0, rfl⟩ : ∃ k0 : Nat, kp = k0 := ⟨kp.toNat, by omega⟩
  have I0 := Lib.hid (Ol.inv_new (q := 1048576) (by decide) (by decide))
  clear hX hx hkp
  go_enter Tryz.func7, Tryz.ntmps7
  (repeat (first | ((with_reducible show wpSeq _ _ _ _ _ _ _); first | ((with_reducible refine wpSeq_nil ?_); refine hKr.out _ _ ?_; clear hKr Kr) | (((refine St.copy (v := ?_) (by exact .inr rfl) rfl rfl ?_ ?_; rotate_left; (focus ((try simp only [Act.eval, getD_lit, List.getD_cons_zero, List.getD_cons_succ]); with_reducible rfl)))); (try simp only [Act.put, List.setIfInBounds_toArray, List.set_cons_zero, List.set_cons_succ]))) | (first | (refine wp_seq_shut (fun K hK => ?_)) | (refine wp_text hM (fun Kr hKr => ?_); simp only [inText]) | ((refine hK.out _ _ ?_); clear hK K))))
  ((refine St.call rfl rfl rfl (by kernel_rfl) (fun R hR => ?_); simp only [List.map_toArray, List.map_cons, List.map_nil, Act.eval, getD_lit, List.getD_cons_zero, List.getD_cons_succ]))
  refine (dNew_any 1048576 _ rfl (hM.mx HX.out F0)).mono ?_
  rintro e w' ⟨X, β, γ, rfl, hkx, hN⟩
  replace hM := hM.madeM hN (dskL_flag _ _ _ _)
  rw [List.append_nil] at hM
  (refine hR.out _ _ (fun _ => ⟨hM.only, nofun⟩) ?_); clear hR R hN
  generalize hbx : DskX.b X = xb
  (try simp only [Act.put, List.setIfInBounds_toArray, List.set_cons_zero, List.set_cons_succ])
  (repeat (first | ((with_reducible show wpSeq _ _ _ _ _ _ _); first | ((with_reducible refine wpSeq_nil ?_); refine hKr.out _ _ ?_; clear hKr Kr) | ((first | (refine St.copy (v := ?_) (by first | exact .inl rfl | exact .inr rfl) rfl rfl ?_ ?_; rotate_left; (focus ((try simp only [Act.eval, getD_lit, List.getD_cons_zero, List.getD_cons_succ]); with_reducible rfl))) | (refine St.pure (v := ?_) rfl rfl rfl (fun w => ?_) ?_; rotate_left; (focus (go_simp; all_goals with_reducible rfl)))); (try simp only [Act.put, List.setIfInBounds_toArray, List.set_cons_zero, List.set_cons_succ]))) | (first | (refine wp_seq_shut (fun K hK => ?_)) | (refine wp_text hM (fun Kr hKr => ?_); simp only [inText]) | ((refine hK.out _ _ ?_); clear hK K))))
  ((refine St.call rfl rfl rfl (by kernel_rfl) (fun R hR => ?_); simp only [List.map_toArray, List.map_cons, List.map_nil, Act.eval, getD_lit, List.getD_cons_zero, List.getD_cons_succ]))
  refine (dNew_any 1048576 _ rfl (hM.mx HX.out F0)).mono ?_
  rintro e w' ⟨Y, βy, γy, rfl, hky, hN⟩
  replace hM := hM.madeM hN (dskL_flag _ _ _ _)
  (refine hR.out _ _ (fun _ => ⟨hM.only, nofun⟩) ?_); clear hR R hN
  generalize hby : DskX.b Y = yb
  (try simp only [Act.put, List.setIfInBounds_toArray, List.set_cons_zero, List.set_cons_succ])
  (repeat (first | ((with_reducible show wpSeq _ _ _ _ _ _ _); first | ((with_reducible refine wpSeq_nil ?_); refine hKr.out _ _ ?_; clear hKr Kr) | ((first | (refine St.copy (v := ?_) (by first | exact .inl rfl | exact .inr rfl) rfl rfl ?_ ?_; rotate_left; (focus ((try simp only [Act.eval, getD_lit, List.getD_cons_zero, List.getD_cons_succ]); with_reducible rfl))) | (refine St.pure (v := ?_) rfl rfl rfl (fun w => ?_) ?_; rotate_left; (focus (go_simp; all_goals with_reducible rfl)))); (try simp only [Act.put, List.setIfInBounds_toArray, List.set_cons_zero, List.set_cons_succ]))) | (first | (refine wp_seq_shut (fun K hK => ?_)) | (refine wp_text hM (fun Kr hKr => ?_); simp only [inText]) | ((refine hK.out _ _ ?_); clear hK K))))
  ((refine St.call rfl rfl rfl (by kernel_rfl) (fun R hR => ?_); simp only [List.map_toArray, List.map_cons, List.map_nil, Act.eval, getD_lit, List.getD_cons_zero, List.getD_cons_succ]))
  refine (small10_any 25 (by decide) (by decide) (HA.out.below hM.to_below)).mono ?_
  rintro e w' ⟨b, rfl, hsm, hb⟩
  replace hM := hM.below hb
  (refine hR.out _ _ (fun _ => ⟨hM.only, nofun⟩) ?_); clear hR R hb
  have HSM := Lib.hid hsm
  clear hsm
  (try simp only [Act.put, List.setIfInBounds_toArray, List.set_cons_zero, List.set_cons_succ])
  cases b with
  | false =>
    (repeat (first | ((with_reducible show wpSeq _ _ _ _ _ _ _); first | ((with_reducible refine wpSeq_nil ?_); refine hKr.out _ _ ?_; clear hKr Kr) | ((first | (refine St.copy (v := ?_) (by exact .inl rfl) rfl rfl ?_ ?_; rotate_left; (focus ((try simp only [Act.eval, getD_lit, List.getD_cons_zero, List.getD_cons_succ]); with_reducible rfl))) | (refine St.pure (v := ?_) rfl rfl rfl (fun w => ?_) ?_; rotate_left; (focus (go_simp; all_goals with_reducible rfl)))); (try simp only [Act.put, List.setIfInBounds_toArray, List.set_cons_zero, List.set_cons_succ]))) | (first | (refine wp_seq_shut (fun K hK => ?_)) | (refine wp_text hM (fun Kr hKr => ?_); simp only [inText]) | (refine wp_cond_true rfl ?_) | ((refine hK.out _ _ ?_); clear hK K))))
    ((refine St.call rfl rfl rfl (by kernel_rfl) (fun R hR => ?_); simp only [List.map_toArray, List.map_cons, List.map_nil, Act.eval, getD_lit, List.getD_cons_zero, List.getD_cons_succ]))
    refine (awake10_any _ (hM.mx HX.out F0)).mono ?_
    rintro e w' ⟨rfl, hb⟩; replace hM := hM.below hb; (refine hR.out _ _ (fun _ => ⟨hM.only, nofun⟩) ?_); clear hR R hb; (try simp only [Act.put, List.setIfInBounds_toArray, List.set_cons_zero, List.set_cons_succ])
    (repeat (first | ((with_reducible show wpSeq _ _ _ _ _ _ _); first | ((with_reducible refine wpSeq_nil ?_); refine hKr.out _ _ ?_; clear hKr Kr) | ((first | (refine St.copy (v := ?_) (by exact .inr rfl) rfl rfl ?_ ?_; rotate_left; (focus ((try simp only [Act.eval, getD_lit, List.getD_cons_zero, List.getD_cons_succ]); with_reducible rfl))) | (refine St.pure (v := ?_) rfl rfl rfl (fun w => ?_) ?_; rotate_left; (focus (go_simp; all_goals with_reducible rfl)))); (try simp only [Act.put, List.setIfInBounds_toArray, List.set_cons_zero, List.set_cons_succ]))) | (((refine hK.out _ _ ?_); clear hK K))))
    ((refine wp_ret ?_; (try simp only [Exit.then, Exit.inBlock]); refine St.ret hM rfl (by repeat (first | exact Outs.nil | apply Outs.tmp rfl)) rfl ?_))
    exact ⟨rfl, hM.to_below⟩
  | true =>
    have hlen : xs.length ≤ 25 := by have := (HSM.out rfl).1; omega
    obtain ⟨kk, hkk⟩ : ∃ kk, kk = k0 % 26 := ⟨_, rfl⟩
    have hk25 : kk ≤ 25 := by omega
    have hrem : (IntKind.i64.wrap (k0 : Int)).tmod 26 = (kk : Int) := by rw [wrap_in _ (by omega), hkk]; rfl
    clear hkk hkr
    have HT0 := Lib.hid (Ol.two_new kk 1048576)
    (repeat (first | ((with_reducible show wpSeq _ _ _ _ _ _ _); first | ((with_reducible refine wpSeq_nil ?_); refine hKr.out _ _ ?_; clear hKr Kr) | ((first | (refine St.copy (v := ?_) (by first | exact .inl rfl | exact .inr rfl) rfl rfl ?_ ?_; rotate_left; (focus ((try simp only [Act.eval, getD_lit, List.getD_cons_zero, List.getD_cons_succ]); with_reducible rfl))) | (refine St.pure (v := ?_) rfl rfl rfl (fun w => ?_) ?_; rotate_left; (focus (go_simp; all_goals with_reducible rfl)))); (try simp only [Act.put, List.setIfInBounds_toArray, List.set_cons_zero, List.set_cons_succ]))) | (first | (refine wp_seq_shut (fun K hK => ?_)) | (refine wp_text hM (fun Kr hKr => ?_); simp only [inText]) | refine wp_block ?_ | refine wp_skip ?_ | (refine wp_cond_false rfl ?_) | ((refine hK.out _ _ ?_); clear hK K))))
    clear hrem
    go_loopw [10, 11, 12] (fun i _ _ wr => ∃ (j : Nat) (X Y : DskX) (β γ βy γy : Int → Nat × Nat) (D E : DskD), j ≤ xs.length ∧ i = .int .i64 j ∧ Ol.Two kk D E ∧ Ol.Inv (1 + 3 * j) D ∧ Ol.Inv (1 + 3 * j) E ∧ DskOk X D ∧ DskOk Y E ∧ X.b = xb ∧ Y.b = yb ∧ St w0 [] wr (dskL Y βy γy E ++ dskL X β γ D)) (fun i _ _ _ => xs.length - (intOf i).toNat)
    case atStart => exact ⟨0, X, Y, β, γ, βy, γy, _, _, by omega, rfl, HT0.out, I0.out, I0.out, hkx, hky, hbx, hby, hM⟩
    case round =>
      clear hM hkx hky hbx hby
      obtain ⟨j, X, Y, β, γ, βy, γy, D, E, hj, rfl, hT, hI, hJ, hkx, hky, hbx, hby, hM⟩ := hrel
      have HT := Lib.hid hT
      have HI := Lib.hid hI
      have HJ := Lib.hid hJ
      have HKX := Lib.hid hkx
      have HKY := Lib.hid hky
      clear hT hI hJ hkx hky
      by_cases hlt : j < xs.length
      · obtain ⟨x, hxj⟩ := get_at hlt
        obtain ⟨hf, bb, off, rfl, -, hc1, hc2⟩ := HA.out.get hxj
        have hsx := (HSM.out rfl).2 j x hxj
        have hop := small_ok hf.f hsx
        have how := hf.f.owner
        have c1 : w0.cell? ⟨bb, off + j * 13, none⟩ = some (.int .i64 x.f.owner) := hc1 0 _ rfl
        have j1 : (j : Int) < (xs.length : Int) := by omega
        have HOP := Lib.hid hop
        have HOW := Lib.hid how
        clear hc1 hxj hf hsx hop how
        obtain ⟨⟨o, xe, p⟩, xc, xk⟩ := x
        simp only at c1 hc2 HOP HOW
        by_cases h14 : p.kind = 14
        · obtain ⟨pk, pp, pd, ph, pa, pn, px, py, pb⟩ := p
          simp only at h14
          subst h14
          simp only [OpD.cells] at hc2
          (repeat (first | ((with_reducible show wpSeq _ _ _ _ _ _ _); first | ((with_reducible refine wpSeq_nil ?_); refine hKr.out _ _ ?_; clear hKr Kr) | ((first | (refine St.copy (v := ?_) (by first | exact .inl rfl | exact .inr rfl) rfl rfl ?_ ?_; rotate_left; (focus ((try simp only [Act.eval, getD_lit, List.getD_cons_zero, List.getD_cons_succ]); with_reducible rfl))) | refine St.inc rfl rfl rfl rfl rfl (by omega) ?_ | (refine St.pure (v := ?_) rfl rfl rfl (fun w => ?_) ?_; rotate_left; (focus (go_simp; all_goals with_reducible rfl))) | refine St.load rfl hM rfl rfl rfl rfl (by repeat constructor) (by rfl) (by kernel_rfl) ?_ | refine St.loadRowF rfl rfl rfl rfl rfl (hM.oldRow (by assumption)) (by kernel_rfl) ?_ | ((((refine St.storeRow rfl hM rfl rfl rfl rfl rfl (by repeat constructor) (Nat.le_of_ble_eq_true rfl) (Nat.le_of_ble_eq_true rfl) (by kernel_rfl) rfl ?_ ?_); (focus ((intro h; cases h; done))); clear hM; intro w hM)); (try simp only [Res.put, Res.known, Act.eval, Value.cells, getD_lit, List.getD_cons_zero, List.getD_cons_succ, List.toList_toArray, List.set_cons_zero, List.set_cons_succ, over, Nat.reduceAdd] at hM))); (try simp only [Act.put, List.setIfInBounds_toArray, List.set_cons_zero, List.set_cons_succ])) | (((refine St.alloc (ty := 34) (z := .agg #[.int .i64 0, .string ⟨#[]⟩, .string ⟨#[]⟩, .int .i64 0, .int .i64 0, .int .i64 0, .string ⟨#[]⟩, .int .i64 0, .int .i64 0]) rfl hM rfl rfl (by kernel_rfl) ?_); clear hM; intro w bk hM); (try simp only [Res.put, Res.known, Act.eval, Value.cells, getD_lit, List.getD_cons_zero, List.getD_cons_succ, List.toList_toArray, List.set_cons_zero, List.set_cons_succ, over, Nat.reduceAdd] at hM); (try simp only [Act.put, List.setIfInBounds_toArray, List.set_cons_zero, List.set_cons_succ]))) | (first | (refine wp_seq_shut (fun K hK => ?_)) | (refine wp_text hM (fun Kr hKr => ?_); simp only [inText]) | refine wp_block ?_ | refine wp_skip ?_ | (refine wp_cond_true rfl ?_) | (refine wp_exit ?_; simp only [Exit.then, Exit.inBlock, if_true, if_false, reduceCtorEq, Nat.reduceEqDiff, Nat.succ_ne_zero]) | ((first | refine hK.out _ _ ?_ | (clear hK K; refine hK.out _ _ ?_)); clear hK K))))
          replace hM := hM.forget
          simp only [Exit.then]
          (refine ⟨?_, ?_⟩; (focus (repeat (first | exact ⟨⟨j + 1, X, Y, β, γ, βy, γy, D, E, by omega, rfl, HT.out, HI.out.more (by omega), HJ.out.more (by omega), HKX.out, HKY.out, hbx, hby, hM⟩, rfl⟩ | apply Exists.intro))); (simp only [getD_lit, List.getD_cons_zero, List.getD_cons_succ, intOf]; omega))
        · have CD := Lib.hid (fun (W : World) (β γ : Int → Nat × Nat) (hA : DskAt (1 + 3 * j) X β γ D W) => dDo_any hA (by omega) HOW.out p HOP.out)
          have CE := Lib.hid (fun (W : World) (β γ : Int → Nat × Nat) (hA : DskAt (1 + 3 * j) Y β γ E W) => dDo_any hA (by omega) HOW.out p HOP.out)
          rw [Ol.do_now h14] at CD
          rw [Ol.do_now h14] at CE
          have HID := Lib.hid (Ol.inv_doN HI.out (by omega) HOW.out HOP.out)
          have HIE := Lib.hid (Ol.inv_doN HJ.out (by omega) HOW.out HOP.out)
          have hq : (p.kind == 14) = false := beq_eq_false_iff_ne.2 h14
          have HNL := Lib.hid (fun (h : ¬ Ol.logs (Fs.do_ D.now o p).1 p) => (⟨Ol.len_doN h, Ol.two_not HT.out HI.out.now h⟩ : (Ol.doN D o p).log = D.log ∧ Ol.Two kk (Ol.doN D o p) E))
          have HMO := Lib.hid (fun (h : Ol.logs (Fs.do_ D.now o p).1 p) (hk : kk ≤ D.log.length) => (⟨Ol.log_doN h, Ol.two_more HT.out h hk⟩ : (Ol.doN D o p).log = D.log ++ [(o, some p)] ∧ Ol.Two kk (Ol.doN D o p) E))
          have HBO := Lib.hid (fun (h : Ol.logs (Fs.do_ D.now o p).1 p) (hk : D.log.length < kk) => (⟨Ol.log_doN h, (Ol.two_both HT.out h hk).2.2⟩ : (Ol.doN D o p).log = D.log ++ [(o, some p)] ∧ Ol.Two kk (Ol.doN D o p) (Ol.doN E o p)))
          by_cases hlg : Ol.logs (Fs.do_ D.now o p).1 p
          · skip
            by_cases hk : D.log.length < kk
            · have HN := Lib.hid (HBO.out hlg hk)
              have g2 : (D.log.length : Int) < (kk : Int) := by omega
              clear HNL HMO HBO hlg h14 hk
              generalize Ol.doN D o p = D2 at *
              generalize Ol.doN E o p = E2 at *
              have g1 : (D.log.length : Int) < (D2.log.length : Int) := by rw [HN.out.1, List.length_append, List.length_singleton]; omega
              obtain ⟨pk, pp, pd, ph, pa, pn, px, py, pb⟩ := p
              simp only [OpD.cells] at hc2 CD CE hq
              (repeat (first | ((with_reducible show wpSeq _ _ _ _ _ _ _); first | ((with_reducible refine wpSeq_nil ?_); refine hKr.out _ _ ?_; clear hKr Kr) | ((first | (refine St.copy (v := ?_) (by exact .inl rfl) rfl rfl ?_ ?_; rotate_left; (focus ((try simp only [Act.eval, getD_lit, List.getD_cons_zero, List.getD_cons_succ]); with_reducible rfl))) | (refine St.pure (v := ?_) rfl rfl rfl (fun w => ?_) ?_; rotate_left; (focus (go_simp; all_goals with_reducible rfl))) | refine St.load rfl hM rfl rfl rfl rfl (by repeat constructor) (by rfl) (by kernel_rfl) ?_ | refine St.loadRowF rfl rfl rfl rfl rfl (hM.oldRow (by assumption)) (by kernel_rfl) ?_ | ((((refine St.storeRow rfl hM rfl rfl rfl rfl rfl (by repeat constructor) (Nat.le_of_ble_eq_true rfl) (Nat.le_of_ble_eq_true rfl) (by kernel_rfl) rfl ?_ ?_); (focus ((intro h; cases h; done))); clear hM; intro w hM)); (try simp only [Res.put, Res.known, Act.eval, Value.cells, getD_lit, List.getD_cons_zero, List.getD_cons_succ, List.toList_toArray, List.set_cons_zero, List.set_cons_succ, over, Nat.reduceAdd] at hM))); (try simp only [Act.put, List.setIfInBounds_toArray, List.set_cons_zero, List.set_cons_succ])) | (((refine St.alloc (ty := 34) (z := .agg #[.int .i64 0, .string ⟨#[]⟩, .string ⟨#[]⟩, .int .i64 0, .int .i64 0, .int .i64 0, .string ⟨#[]⟩, .int .i64 0, .int .i64 0]) rfl hM rfl rfl (by kernel_rfl) ?_); clear hM; intro w bk hM); (try simp only [Res.put, Res.known, Act.eval, Value.cells, getD_lit, List.getD_cons_zero, List.getD_cons_succ, List.toList_toArray, List.set_cons_zero, List.set_cons_succ, over, Nat.reduceAdd] at hM); (try simp only [Act.put, List.setIfInBounds_toArray, List.set_cons_zero, List.set_cons_succ]))) | (first | (refine wp_seq_shut (fun K hK => ?_)) | (refine wp_text hM (fun Kr hKr => ?_); simp only [inText]) | refine wp_block ?_ | refine wp_skip ?_ | (first | refine wp_cond_true rfl ?_ | refine wp_cond_false rfl ?_) | ((refine hK.out _ _ ?_); clear hK K))))
              ((refine St.call rfl rfl rfl (by kernel_rfl) (fun R hR => ?_); simp only [List.map_toArray, List.map_cons, List.map_nil, Act.eval, getD_lit, List.getD_cons_zero, List.getD_cons_succ]))
              have C := dLogged_any (hM.dsk (.skip (.past .all)) HKX.out HI.out HX.out F0).row (HKX.out).sl
              rw [hbx, zs_len HKX.out] at C
              refine C.mono ?_
              rintro e w' ⟨rfl, hb⟩; replace hM := hM.below hb; (refine hR.out _ _ (fun _ => ⟨hM.only, nofun⟩) ?_); clear hR R hb C; (try simp only [Act.put, List.setIfInBounds_toArray, List.set_cons_zero, List.set_cons_succ])
              (repeat (first | ((with_reducible show wpSeq _ _ _ _ _ _ _); first | ((with_reducible refine wpSeq_nil ?_); refine hKr.out _ _ ?_; clear hKr Kr) | ((first | (refine St.copy (v := ?_) (by first | exact .inl rfl | exact .inr rfl) rfl rfl ?_ ?_; rotate_left; (focus ((try simp only [Act.eval, getD_lit, List.getD_cons_zero, List.getD_cons_succ]); with_reducible rfl))) | (refine St.pure (v := ?_) rfl rfl rfl (fun w => ?_) ?_; rotate_left; (focus (go_simp; all_goals with_reducible rfl))) | ((refine St.loadRow rfl hM rfl rfl rfl rfl (by repeat constructor) (Nat.le_of_ble_eq_true rfl) (by kernel_rfl) ?_); (try simp only [Res.known, List.drop_succ_cons, List.drop_zero, List.take_succ_cons, List.take_zero])) | refine St.loadF1 rfl rfl rfl rfl (fun w' hS => hS.old (by assumption)) (by kernel_rfl) ?_); (try simp only [Act.put, List.setIfInBounds_toArray, List.set_cons_zero, List.set_cons_succ]))) | (first | (refine wp_seq_shut (fun K hK => ?_)) | ((refine hK.out _ _ ?_); clear hK K)) | ((refine wp_drawn (id := 12) hM (Sub.all _) [6] [(0, 0), (1, 0), (2, 0), (3, 0), (4, 0), (5, 0), (6, 1), (7, 2), (8, 3)] (by kernel_rfl) (by kernel_rfl) ?_); (clear hM; intro w hM Kr hKr); simp only [opsOf, List.getD_cons_zero, List.getD_cons_succ])))
              (refine St.call3 rfl rfl (by kernel_rfl) (fun R hR => ?_); simp only [List.map_toArray, List.map_cons, List.map_nil, Act.eval, getD_lit, List.getD_cons_zero, List.getD_cons_succ])
              have C := CD.out _ β γ (hM.dsk (.skip (.past .all)) HKX.out HI.out HX.out F0)
              rw [hbx] at C
              refine C.mono ?_
              rintro e w' ⟨s1, X2, β2, γ2, rfl, -, hb2, hk2, hN⟩
              replace hM := hM.backM (.skip (.past .all)) (dskL_flag _ _ _ _) hN (fun y hy => (List.mem_append.1 hy).elim (txL_flag _ _ y) (dskL_flag _ _ _ _ y))
              refine hR.out _ _ ?_; clear hR R hN C
              replace hM := hM.subM (((List.sublist_append_right _ _).append_left _).cons_cons _)
              rw [hbx] at hb2
              have HK2 := Lib.hid hk2
              clear hk2
              (try simp only [Act.put, List.setIfInBounds_toArray, List.set_cons_zero, List.set_cons_succ])
              (repeat (first | ((with_reducible show wpSeq _ _ _ _ _ _ _); first | ((with_reducible refine wpSeq_nil ?_); refine hKr.out _ _ ?_; clear hKr Kr) | (((refine St.copy (v := ?_) (by exact .inl rfl) rfl rfl ?_ ?_; rotate_left; (focus ((try simp only [Act.eval, getD_lit, List.getD_cons_zero, List.getD_cons_succ]); with_reducible rfl)))); (try simp only [Act.put, List.setIfInBounds_toArray, List.set_cons_zero, List.set_cons_succ]))) | (first | (refine wp_seq_shut (fun K hK => ?_)) | (refine wp_text hM (fun Kr hKr => ?_); simp only [inText]) | ((refine hK.out _ _ ?_); clear hK K))))
              ((refine St.call rfl rfl rfl (by kernel_rfl) (fun R hR => ?_); simp only [List.map_toArray, List.map_cons, List.map_nil, Act.eval, getD_lit, List.getD_cons_zero, List.getD_cons_succ]))
              have C := dLogged_any (hM.dsk (.skip (.past .all)) HK2.out HID.out HX.out F0).row (HK2.out).sl
              rw [hb2, zs_len HK2.out] at C
              refine C.mono ?_
              rintro e w' ⟨rfl, hb⟩; replace hM := hM.below hb; (refine hR.out _ _ (fun _ => ⟨hM.only, nofun⟩) ?_); clear hR R hb C; (try simp only [Act.put, List.setIfInBounds_toArray, List.set_cons_zero, List.set_cons_succ])
              (repeat (first | ((with_reducible show wpSeq _ _ _ _ _ _ _); first | ((with_reducible refine wpSeq_nil ?_); refine hKr.out _ _ ?_; clear hKr Kr) | ((first | (refine St.copy (v := ?_) (by exact .inl rfl) rfl rfl ?_ ?_; rotate_left; (focus ((try simp only [Act.eval, getD_lit, List.getD_cons_zero, List.getD_cons_succ]); with_reducible rfl))) | (refine St.pure (v := ?_) rfl rfl rfl (fun w => ?_) ?_; rotate_left; (focus (go_simp; all_goals with_reducible rfl))) | ((refine St.loadRow rfl hM rfl rfl rfl rfl (by repeat constructor) (Nat.le_of_ble_eq_true rfl) (by kernel_rfl) ?_); (try simp only [Res.known, List.drop_succ_cons, List.drop_zero, List.take_succ_cons, List.take_zero])) | refine St.loadF1 rfl rfl rfl rfl (fun w' hS => hS.old (by assumption)) (by kernel_rfl) ?_); (try simp only [Act.put, List.setIfInBounds_toArray, List.set_cons_zero, List.set_cons_succ]))) | (first | (refine wp_cond_true rfl ?_) | ((refine hK.out _ _ ?_); clear hK K)) | ((refine wp_drawn (id := 14) hM (Sub.all _) [6] [(0, 0), (1, 0), (2, 0), (3, 0), (4, 0), (5, 0), (6, 1), (7, 2), (8, 3)] (by kernel_rfl) (by kernel_rfl) ?_); (clear hM; intro w hM Kr hKr); simp only [opsOf, List.getD_cons_zero, List.getD_cons_succ])))
              (refine St.call3 rfl rfl (by kernel_rfl) (fun R hR => ?_); simp only [List.map_toArray, List.map_cons, List.map_nil, Act.eval, getD_lit, List.getD_cons_zero, List.getD_cons_succ])
              have C := CE.out _ βy γy (hM.dsk (.skip .here) HKY.out HJ.out HX.out F0)
              rw [hby] at C
              refine C.mono ?_
              rintro e w' ⟨s3, Y2, β3, γ3, rfl, -, hb3, hk3, hN⟩
              replace hM := hM.backM (.skip .here) (dskL_flag _ _ _ _) hN (fun y hy => (List.mem_append.1 hy).elim (txL_flag _ _ y) (dskL_flag _ _ _ _ y))
              refine hR.out _ _ ?_; clear hR R hN C
              replace hM := hM.subM ((((List.sublist_append_right _ _)).append_right _).cons_cons _)
              rw [hby] at hb3
              have HK3 := Lib.hid hk3
              clear hk3
              (try simp only [Act.put, List.setIfInBounds_toArray, List.set_cons_zero, List.set_cons_succ])
              (repeat (first | ((with_reducible show wpSeq _ _ _ _ _ _ _); first | ((with_reducible refine wpSeq_nil ?_); refine hKr.out _ _ ?_; clear hKr Kr) | ((first | (refine St.copy (v := ?_) (by first | exact .inl rfl | exact .inr rfl) rfl rfl ?_ ?_; rotate_left; (focus ((try simp only [Act.eval, getD_lit, List.getD_cons_zero, List.getD_cons_succ]); with_reducible rfl))) | refine St.inc rfl rfl rfl rfl rfl (by omega) ?_); (try simp only [Act.put, List.setIfInBounds_toArray, List.set_cons_zero, List.set_cons_succ]))) | (first | (refine wp_text hM (fun Kr hKr => ?_); simp only [inText]) | ((refine hK.out _ _ ?_); clear hK K))))
              replace hM := hM.forget
              simp only [Exit.then]
              (refine ⟨?_, ?_⟩; (focus (repeat (first | exact ⟨⟨j + 1, X2, Y2, β2, γ2, β3, γ3, D2, E2, by omega, rfl, HN.out.2, HID.out.more (by omega), HIE.out.more (by omega), HK2.out, HK3.out, hb2, hb3, hM⟩, rfl⟩ | apply Exists.intro))); (simp only [getD_lit, List.getD_cons_zero, List.getD_cons_succ, intOf]; omega))
            · have HN := Lib.hid (HMO.out hlg (by omega))
              have g2 : ¬ ((D.log.length : Int) < (kk : Int)) := by omega
              clear HNL HMO HBO hlg h14 hk
              clear HIE
              generalize Ol.doN D o p = D2 at *
              have g1 : (D.log.length : Int) < (D2.log.length : Int) := by rw [HN.out.1, List.length_append, List.length_singleton]; omega
              clear CE
              obtain ⟨pk, pp, pd, ph, pa, pn, px, py, pb⟩ := p
              simp only [OpD.cells] at hc2 CD hq
              (repeat (first | ((with_reducible show wpSeq _ _ _ _ _ _ _); first | ((with_reducible refine wpSeq_nil ?_); refine hKr.out _ _ ?_; clear hKr Kr) | ((first | (refine St.copy (v := ?_) (by exact .inl rfl) rfl rfl ?_ ?_; rotate_left; (focus ((try simp only [Act.eval, getD_lit, List.getD_cons_zero, List.getD_cons_succ]); with_reducible rfl))) | (refine St.pure (v := ?_) rfl rfl rfl (fun w => ?_) ?_; rotate_left; (focus (go_simp; all_goals with_reducible rfl))) | refine St.load rfl hM rfl rfl rfl rfl (by repeat constructor) (by rfl) (by kernel_rfl) ?_ | refine St.loadRowF rfl rfl rfl rfl rfl (hM.oldRow (by assumption)) (by kernel_rfl) ?_ | ((((refine St.storeRow rfl hM rfl rfl rfl rfl rfl (by repeat constructor) (Nat.le_of_ble_eq_true rfl) (Nat.le_of_ble_eq_true rfl) (by kernel_rfl) rfl ?_ ?_); (focus ((intro h; cases h; done))); clear hM; intro w hM)); (try simp only [Res.put, Res.known, Act.eval, Value.cells, getD_lit, List.getD_cons_zero, List.getD_cons_succ, List.toList_toArray, List.set_cons_zero, List.set_cons_succ, over, Nat.reduceAdd] at hM))); (try simp only [Act.put, List.setIfInBounds_toArray, List.set_cons_zero, List.set_cons_succ])) | (((refine St.alloc (ty := 34) (z := .agg #[.int .i64 0, .string ⟨#[]⟩, .string ⟨#[]⟩, .int .i64 0, .int .i64 0, .int .i64 0, .string ⟨#[]⟩, .int .i64 0, .int .i64 0]) rfl hM rfl rfl (by kernel_rfl) ?_); clear hM; intro w bk hM); (try simp only [Res.put, Res.known, Act.eval, Value.cells, getD_lit, List.getD_cons_zero, List.getD_cons_succ, List.toList_toArray, List.set_cons_zero, List.set_cons_succ, over, Nat.reduceAdd] at hM); (try simp only [Act.put, List.setIfInBounds_toArray, List.set_cons_zero, List.set_cons_succ]))) | (first | (refine wp_seq_shut (fun K hK => ?_)) | (refine wp_text hM (fun Kr hKr => ?_); simp only [inText]) | refine wp_block ?_ | refine wp_skip ?_ | (first | refine wp_cond_true rfl ?_ | refine wp_cond_false rfl ?_) | ((refine hK.out _ _ ?_); clear hK K))))
              ((refine St.call rfl rfl rfl (by kernel_rfl) (fun R hR => ?_); simp only [List.map_toArray, List.map_cons, List.map_nil, Act.eval, getD_lit, List.getD_cons_zero, List.getD_cons_succ]))
              have C := dLogged_any (hM.dsk (.skip (.past .all)) HKX.out HI.out HX.out F0).row (HKX.out).sl
              rw [hbx, zs_len HKX.out] at C
              refine C.mono ?_
              rintro e w' ⟨rfl, hb⟩; replace hM := hM.below hb; (refine hR.out _ _ (fun _ => ⟨hM.only, nofun⟩) ?_); clear hR R hb C; (try simp only [Act.put, List.setIfInBounds_toArray, List.set_cons_zero, List.set_cons_succ])
              (repeat (first | ((with_reducible show wpSeq _ _ _ _ _ _ _); first | ((with_reducible refine wpSeq_nil ?_); refine hKr.out _ _ ?_; clear hKr Kr) | ((first | (refine St.copy (v := ?_) (by first | exact .inl rfl | exact .inr rfl) rfl rfl ?_ ?_; rotate_left; (focus ((try simp only [Act.eval, getD_lit, List.getD_cons_zero, List.getD_cons_succ]); with_reducible rfl))) | (refine St.pure (v := ?_) rfl rfl rfl (fun w => ?_) ?_; rotate_left; (focus (go_simp; all_goals with_reducible rfl))) | ((refine St.loadRow rfl hM rfl rfl rfl rfl (by repeat constructor) (Nat.le_of_ble_eq_true rfl) (by kernel_rfl) ?_); (try simp only [Res.known, List.drop_succ_cons, List.drop_zero, List.take_succ_cons, List.take_zero])) | refine St.loadF1 rfl rfl rfl rfl (fun w' hS => hS.old (by assumption)) (by kernel_rfl) ?_); (try simp only [Act.put, List.setIfInBounds_toArray, List.set_cons_zero, List.set_cons_succ]))) | (first | (refine wp_seq_shut (fun K hK => ?_)) | ((refine hK.out _ _ ?_); clear hK K)) | ((refine wp_drawn (id := 12) hM (Sub.all _) [6] [(0, 0), (1, 0), (2, 0), (3, 0), (4, 0), (5, 0), (6, 1), (7, 2), (8, 3)] (by kernel_rfl) (by kernel_rfl) ?_); (clear hM; intro w hM Kr hKr); simp only [opsOf, List.getD_cons_zero, List.getD_cons_succ])))
              (refine St.call3 rfl rfl (by kernel_rfl) (fun R hR => ?_); simp only [List.map_toArray, List.map_cons, List.map_nil, Act.eval, getD_lit, List.getD_cons_zero, List.getD_cons_succ])
              have C := CD.out _ β γ (hM.dsk (.skip (.past .all)) HKX.out HI.out HX.out F0)
              rw [hbx] at C
              refine C.mono ?_
              rintro e w' ⟨s1, X2, β2, γ2, rfl, -, hb2, hk2, hN⟩
              replace hM := hM.backM (.skip (.past .all)) (dskL_flag _ _ _ _) hN (fun y hy => (List.mem_append.1 hy).elim (txL_flag _ _ y) (dskL_flag _ _ _ _ y))
              refine hR.out _ _ ?_; clear hR R hN C
              replace hM := hM.subM (((List.sublist_append_right _ _).append_left _).cons_cons _)
              rw [hbx] at hb2
              have HK2 := Lib.hid hk2
              clear hk2
              (try simp only [Act.put, List.setIfInBounds_toArray, List.set_cons_zero, List.set_cons_succ])
              (repeat (first | ((with_reducible show wpSeq _ _ _ _ _ _ _); first | ((with_reducible refine wpSeq_nil ?_); refine hKr.out _ _ ?_; clear hKr Kr) | (((refine St.copy (v := ?_) (by exact .inl rfl) rfl rfl ?_ ?_; rotate_left; (focus ((try simp only [Act.eval, getD_lit, List.getD_cons_zero, List.getD_cons_succ]); with_reducible rfl)))); (try simp only [Act.put, List.setIfInBounds_toArray, List.set_cons_zero, List.set_cons_succ]))) | (first | (refine wp_seq_shut (fun K hK => ?_)) | (refine wp_text hM (fun Kr hKr => ?_); simp only [inText]) | ((refine hK.out _ _ ?_); clear hK K))))
              ((refine St.call rfl rfl rfl (by kernel_rfl) (fun R hR => ?_); simp only [List.map_toArray, List.map_cons, List.map_nil, Act.eval, getD_lit, List.getD_cons_zero, List.getD_cons_succ]))
              have C := dLogged_any (hM.dsk (.skip (.past .all)) HK2.out HID.out HX.out F0).row (HK2.out).sl
              rw [hb2, zs_len HK2.out] at C
              refine C.mono ?_
              rintro e w' ⟨rfl, hb⟩; replace hM := hM.below hb; (refine hR.out _ _ (fun _ => ⟨hM.only, nofun⟩) ?_); clear hR R hb C; (try simp only [Act.put, List.setIfInBounds_toArray, List.set_cons_zero, List.set_cons_succ])
              (repeat (first | ((with_reducible show wpSeq _ _ _ _ _ _ _); first | ((with_reducible refine wpSeq_nil ?_); refine hKr.out _ _ ?_; clear hKr Kr) | ((first | (refine St.copy (v := ?_) (by first | exact .inl rfl | exact .inr rfl) rfl rfl ?_ ?_; rotate_left; (focus ((try simp only [Act.eval, getD_lit, List.getD_cons_zero, List.getD_cons_succ]); with_reducible rfl))) | refine St.inc rfl rfl rfl rfl rfl (by omega) ?_ | (refine St.pure (v := ?_) rfl rfl rfl (fun w => ?_) ?_; rotate_left; (focus (go_simp; all_goals with_reducible rfl)))); (try simp only [Act.put, List.setIfInBounds_toArray, List.set_cons_zero, List.set_cons_succ]))) | (first | (refine wp_text hM (fun Kr hKr => ?_); simp only [inText]) | refine wp_skip ?_ | (refine wp_cond_false rfl ?_) | ((refine hK.out _ _ ?_); clear hK K))))
              replace hM := hM.forget
              simp only [Exit.then]
              (refine ⟨?_, ?_⟩; (focus (repeat (first | exact ⟨⟨j + 1, X2, Y, β2, γ2, βy, γy, D2, E, by omega, rfl, HN.out.2, HID.out.more (by omega), HJ.out.more (by omega), HK2.out, HKY.out, hb2, hby, hM⟩, rfl⟩ | apply Exists.intro))); (simp only [getD_lit, List.getD_cons_zero, List.getD_cons_succ, intOf]; omega))
          · have HN := Lib.hid (HNL.out hlg)
            clear HNL HMO HBO hlg h14 CE
            generalize Ol.doN D o p = D2 at *
            obtain ⟨pk, pp, pd, ph, pa, pn, px, py, pb⟩ := p
            simp only [OpD.cells] at hc2 CD hq
            (repeat (first | ((with_reducible show wpSeq _ _ _ _ _ _ _); first | ((with_reducible refine wpSeq_nil ?_); refine hKr.out _ _ ?_; clear hKr Kr) | ((first | (refine St.copy (v := ?_) (by exact .inl rfl) rfl rfl ?_ ?_; rotate_left; (focus ((try simp only [Act.eval, getD_lit, List.getD_cons_zero, List.getD_cons_succ]); with_reducible rfl))) | (refine St.pure (v := ?_) rfl rfl rfl (fun w => ?_) ?_; rotate_left; (focus (go_simp; all_goals with_reducible rfl))) | refine St.load rfl hM rfl rfl rfl rfl (by repeat constructor) (by rfl) (by kernel_rfl) ?_ | refine St.loadRowF rfl rfl rfl rfl rfl (hM.oldRow (by assumption)) (by kernel_rfl) ?_ | ((((refine St.storeRow rfl hM rfl rfl rfl rfl rfl (by repeat constructor) (Nat.le_of_ble_eq_true rfl) (Nat.le_of_ble_eq_true rfl) (by kernel_rfl) rfl ?_ ?_); (focus ((intro h; cases h; done))); clear hM; intro w hM)); (try simp only [Res.put, Res.known, Act.eval, Value.cells, getD_lit, List.getD_cons_zero, List.getD_cons_succ, List.toList_toArray, List.set_cons_zero, List.set_cons_succ, over, Nat.reduceAdd] at hM))); (try simp only [Act.put, List.setIfInBounds_toArray, List.set_cons_zero, List.set_cons_succ])) | (((refine St.alloc (ty := 34) (z := .agg #[.int .i64 0, .string ⟨#[]⟩, .string ⟨#[]⟩, .int .i64 0, .int .i64 0, .int .i64 0, .string ⟨#[]⟩, .int .i64 0, .int .i64 0]) rfl hM rfl rfl (by kernel_rfl) ?_); clear hM; intro w bk hM); (try simp only [Res.put, Res.known, Act.eval, Value.cells, getD_lit, List.getD_cons_zero, List.getD_cons_succ, List.toList_toArray, List.set_cons_zero, List.set_cons_succ, over, Nat.reduceAdd] at hM); (try simp only [Act.put, List.setIfInBounds_toArray, List.set_cons_zero, List.set_cons_succ]))) | (first | (refine wp_seq_shut (fun K hK => ?_)) | (refine wp_text hM (fun Kr hKr => ?_); simp only [inText]) | refine wp_block ?_ | refine wp_skip ?_ | (first | refine wp_cond_true rfl ?_ | refine wp_cond_false rfl ?_) | ((refine hK.out _ _ ?_); clear hK K))))
            ((refine St.call rfl rfl rfl (by kernel_rfl) (fun R hR => ?_); simp only [List.map_toArray, List.map_cons, List.map_nil, Act.eval, getD_lit, List.getD_cons_zero, List.getD_cons_succ]))
            have C := dLogged_any (hM.dsk (.skip (.past .all)) HKX.out HI.out HX.out F0).row (HKX.out).sl
            rw [hbx, zs_len HKX.out] at C
            refine C.mono ?_
            rintro e w' ⟨rfl, hb⟩; replace hM := hM.below hb; (refine hR.out _ _ (fun _ => ⟨hM.only, nofun⟩) ?_); clear hR R hb C; (try simp only [Act.put, List.setIfInBounds_toArray, List.set_cons_zero, List.set_cons_succ])
            (repeat (first | ((with_reducible show wpSeq _ _ _ _ _ _ _); first | ((with_reducible refine wpSeq_nil ?_); refine hKr.out _ _ ?_; clear hKr Kr) | ((first | (refine St.copy (v := ?_) (by first | exact .inl rfl | exact .inr rfl) rfl rfl ?_ ?_; rotate_left; (focus ((try simp only [Act.eval, getD_lit, List.getD_cons_zero, List.getD_cons_succ]); with_reducible rfl))) | (refine St.pure (v := ?_) rfl rfl rfl (fun w => ?_) ?_; rotate_left; (focus (go_simp; all_goals with_reducible rfl))) | ((refine St.loadRow rfl hM rfl rfl rfl rfl (by repeat constructor) (Nat.le_of_ble_eq_true rfl) (by kernel_rfl) ?_); (try simp only [Res.known, List.drop_succ_cons, List.drop_zero, List.take_succ_cons, List.take_zero])) | refine St.loadF1 rfl rfl rfl rfl (fun w' hS => hS.old (by assumption)) (by kernel_rfl) ?_); (try simp only [Act.put, List.setIfInBounds_toArray, List.set_cons_zero, List.set_cons_succ]))) | (first | (refine wp_seq_shut (fun K hK => ?_)) | ((refine hK.out _ _ ?_); clear hK K)) | ((refine wp_drawn (id := 12) hM (Sub.all _) [6] [(0, 0), (1, 0), (2, 0), (3, 0), (4, 0), (5, 0), (6, 1), (7, 2), (8, 3)] (by kernel_rfl) (by kernel_rfl) ?_); (clear hM; intro w hM Kr hKr); simp only [opsOf, List.getD_cons_zero, List.getD_cons_succ])))
            (refine St.call3 rfl rfl (by kernel_rfl) (fun R hR => ?_); simp only [List.map_toArray, List.map_cons, List.map_nil, Act.eval, getD_lit, List.getD_cons_zero, List.getD_cons_succ])
            have C := CD.out _ β γ (hM.dsk (.skip (.past .all)) HKX.out HI.out HX.out F0)
            rw [hbx] at C
            refine C.mono ?_
            rintro e w' ⟨s1, X2, β2, γ2, rfl, -, hb2, hk2, hN⟩
            replace hM := hM.backM (.skip (.past .all)) (dskL_flag _ _ _ _) hN (fun y hy => (List.mem_append.1 hy).elim (txL_flag _ _ y) (dskL_flag _ _ _ _ y))
            refine hR.out _ _ ?_; clear hR R hN C
            replace hM := hM.subM (((List.sublist_append_right _ _).append_left _).cons_cons _)
            rw [hbx] at hb2
            have HK2 := Lib.hid hk2
            clear hk2
            (try simp only [Act.put, List.setIfInBounds_toArray, List.set_cons_zero, List.set_cons_succ])
            (repeat (first | ((with_reducible show wpSeq _ _ _ _ _ _ _); first | ((with_reducible refine wpSeq_nil ?_); refine hKr.out _ _ ?_; clear hKr Kr) | (((refine St.copy (v := ?_) (by exact .inl rfl) rfl rfl ?_ ?_; rotate_left; (focus ((try simp only [Act.eval, getD_lit, List.getD_cons_zero, List.getD_cons_succ]); with_reducible rfl)))); (try simp only [Act.put, List.setIfInBounds_toArray, List.set_cons_zero, List.set_cons_succ]))) | (first | (refine wp_seq_shut (fun K hK => ?_)) | (refine wp_text hM (fun Kr hKr => ?_); simp only [inText]) | ((refine hK.out _ _ ?_); clear hK K))))
            ((refine St.call rfl rfl rfl (by kernel_rfl) (fun R hR => ?_); simp only [List.map_toArray, List.map_cons, List.map_nil, Act.eval, getD_lit, List.getD_cons_zero, List.getD_cons_succ]))
            have C := dLogged_any (hM.dsk (.skip (.past .all)) HK2.out HID.out HX.out F0).row (HK2.out).sl
            rw [hb2, zs_len HK2.out, HN.out.1] at C
            refine C.mono ?_
            rintro e w' ⟨rfl, hb⟩; replace hM := hM.below hb; (refine hR.out _ _ (fun _ => ⟨hM.only, nofun⟩) ?_); clear hR R hb C; (try simp only [Act.put, List.setIfInBounds_toArray, List.set_cons_zero, List.set_cons_succ])
            (repeat (first | ((with_reducible show wpSeq _ _ _ _ _ _ _); first | ((with_reducible refine wpSeq_nil ?_); refine hKr.out _ _ ?_; clear hKr Kr) | ((first | (refine St.copy (v := ?_) (by first | exact .inl rfl | exact .inr rfl) rfl rfl ?_ ?_; rotate_left; (focus ((try simp only [Act.eval, getD_lit, List.getD_cons_zero, List.getD_cons_succ]); with_reducible rfl))) | refine St.inc rfl rfl rfl rfl rfl (by omega) ?_ | (refine St.pure (v := ?_) rfl rfl rfl (fun w => ?_) ?_; rotate_left; (focus (go_simp; all_goals with_reducible rfl))) | refine wpSeq_off rfl rfl ?_); (try simp only [Act.put, List.setIfInBounds_toArray, List.set_cons_zero, List.set_cons_succ]))) | (first | (refine wp_text hM (fun Kr hKr => ?_); simp only [inText]) | refine wp_skip ?_ | (refine wp_cond_false rfl ?_) | ((refine hK.out _ _ ?_); clear hK K))))
            replace hM := hM.forget
            simp only [Exit.then]
            (refine ⟨?_, ?_⟩; (focus (repeat (first | exact ⟨⟨j + 1, X2, Y, β2, γ2, βy, γy, D2, E, by omega, rfl, HN.out.2, HID.out.more (by omega), HJ.out.more (by omega), HK2.out, HKY.out, hb2, hby, hM⟩, rfl⟩ | apply Exists.intro))); (simp only [getD_lit, List.getD_cons_zero, List.getD_cons_succ, intOf]; omega))
      · have k0 : ¬ ((j : Int) < (xs.length : Int)) := by omega
        obtain rfl : j = xs.length := by omega
        clear hlt hj
        have hmin : min (kk : Int) (D.log.length : Int) = (E.log.length : Int) := by have := Ol.two_len HT.out; omega
        have HZ1 := Lib.hid (Ol.inv_cut HI.out (by omega) kk)
        have hcut := Ol.two_cut HT.out
        have HFL := Lib.hid (Fs.files_len HZ1.out.now.inv HZ1.out.now.up)
        have CX := Lib.hid (fun (W : World) (X : DskX) (β γ : Int → Nat × Nat) (hA : DskAt (1 + 3 * xs.length) X β γ D W) => dCut_whole hA (by omega) kk)
        have CY := Lib.hid (fun (W : World) (Y : DskX) (β γ : Int → Nat × Nat) (hA : DskAt (1 + 3 * xs.length) Y β γ E W) => dCut_whole hA (by omega) kk)
        rw [← hcut] at CY
        clear hcut
        generalize Ol.cut D kk = Z at *
        (repeat (first | ((with_reducible show wpSeq _ _ _ _ _ _ _); first | ((with_reducible refine wpSeq_nil ?_); refine hKr.out _ _ ?_; clear hKr Kr) | ((first | (refine St.copy (v := ?_) (by exact .inl rfl) rfl rfl ?_ ?_; rotate_left; (focus ((try simp only [Act.eval, getD_lit, List.getD_cons_zero, List.getD_cons_succ]); with_reducible rfl))) | (refine St.pure (v := ?_) rfl rfl rfl (fun w => ?_) ?_; rotate_left; (focus (go_simp; all_goals with_reducible rfl)))); (try simp only [Act.put, List.setIfInBounds_toArray, List.set_cons_zero, List.set_cons_succ]))) | (first | (refine wp_seq_shut (fun K hK => ?_)) | (refine wp_text hM (fun Kr hKr => ?_); simp only [inText]) | (refine wp_cond_false rfl ?_) | (refine wp_exit ?_; simp only [Exit.then, Exit.inBlock, if_true, if_false, reduceCtorEq, Nat.reduceEqDiff, Nat.succ_ne_zero]) | ((first | refine hK.out _ _ ?_ | (clear hK K; refine hK.out _ _ ?_)); clear hK K))))
        ((refine St.call rfl rfl rfl (by kernel_rfl) (fun R hR => ?_); simp only [List.map_toArray, List.map_cons, List.map_nil, Act.eval, getD_lit, List.getD_cons_zero, List.getD_cons_succ]))
        have C := dLogged_any (hM.dsk .here HKY.out HJ.out HX.out F0).row HKY.out.sl
        rw [hby, zs_len HKY.out] at C
        refine C.mono ?_
        rintro e w' ⟨rfl, hb⟩; replace hM := hM.below hb; (refine hR.out _ _ (fun _ => ⟨hM.only, nofun⟩) ?_); clear hR R hb C; (try simp only [Act.put, List.setIfInBounds_toArray, List.set_cons_zero, List.set_cons_succ])
        (repeat (((with_reducible show wpSeq _ _ _ _ _ _ _); (((refine St.copy (v := ?_) (by exact .inl rfl) rfl rfl ?_ ?_; rotate_left; (focus ((try simp only [Act.eval, getD_lit, List.getD_cons_zero, List.getD_cons_succ]); with_reducible rfl)))); (try simp only [Act.put, List.setIfInBounds_toArray, List.set_cons_zero, List.set_cons_succ])))))
        ((refine St.call rfl rfl rfl (by kernel_rfl) (fun R hR => ?_); simp only [List.map_toArray, List.map_cons, List.map_nil, Act.eval, getD_lit, List.getD_cons_zero, List.getD_cons_succ]))
        have C := dLogged_any (hM.dsk (.past .all) HKX.out HI.out HX.out F0).row HKX.out.sl
        rw [hbx, zs_len HKX.out] at C
        refine C.mono ?_
        rintro e w' ⟨rfl, hb⟩; replace hM := hM.below hb; (refine hR.out _ _ (fun _ => ⟨hM.only, nofun⟩) ?_); clear hR R hb C; (try simp only [Act.put, List.setIfInBounds_toArray, List.set_cons_zero, List.set_cons_succ])
        (repeat (first | ((with_reducible show wpSeq _ _ _ _ _ _ _); first | ((with_reducible refine wpSeq_nil ?_); refine hKr.out _ _ ?_; clear hKr Kr) | ((first | (refine St.copy (v := ?_) (by exact .inl rfl) rfl rfl ?_ ?_; rotate_left; (focus ((try simp only [Act.eval, getD_lit, List.getD_cons_zero, List.getD_cons_succ]); with_reducible rfl))) | (refine St.pure (v := ?_) rfl rfl rfl (fun w => ?_) ?_; rotate_left; (focus (go_simp; all_goals with_reducible rfl)))); (try simp only [Act.put, List.setIfInBounds_toArray, List.set_cons_zero, List.set_cons_succ]))) | (first | (refine wp_seq_shut (fun K hK => ?_)) | (refine wp_text hM (fun Kr hKr => ?_); simp only [inText]) | refine wp_skip ?_ | (refine wp_cond_false rfl ?_) | ((refine hK.out _ _ ?_); clear hK K))))
        clear hmin
        ((refine St.call rfl rfl rfl (by kernel_rfl) (fun R hR => ?_); simp only [List.map_toArray, List.map_cons, List.map_nil, Act.eval, getD_lit, List.getD_cons_zero, List.getD_cons_succ]))
        have C := CX.out _ X β γ (hM.dsk (.past .all) HKX.out HI.out HX.out F0)
        rw [hbx] at C
        refine C.mono ?_
        rintro e w' ⟨rfl, X2, β2, γ2, hb2, hk2, hN⟩
        replace hM := hM.backM (.past .all) (dskL_flag _ _ _ _) hN (dskL_flag _ _ _ _)
        (refine hR.out _ _ (fun _ => ⟨hM.only, nofun⟩) ?_); clear hR R hN C
        rw [hbx] at hb2
        (try simp only [Act.put, List.setIfInBounds_toArray, List.set_cons_zero, List.set_cons_succ])
        (repeat (first | ((with_reducible show wpSeq _ _ _ _ _ _ _); first | ((with_reducible refine wpSeq_nil ?_); refine hKr.out _ _ ?_; clear hKr Kr) | (((refine St.copy (v := ?_) (by exact .inl rfl) rfl rfl ?_ ?_; rotate_left; (focus ((try simp only [Act.eval, getD_lit, List.getD_cons_zero, List.getD_cons_succ]); with_reducible rfl)))); (try simp only [Act.put, List.setIfInBounds_toArray, List.set_cons_zero, List.set_cons_succ]))) | (first | (refine wp_seq_shut (fun K hK => ?_)) | (refine wp_text hM (fun Kr hKr => ?_); simp only [inText]) | ((refine hK.out _ _ ?_); clear hK K))))
        ((refine St.call rfl rfl rfl (by kernel_rfl) (fun R hR => ?_); simp only [List.map_toArray, List.map_cons, List.map_nil, Act.eval, getD_lit, List.getD_cons_zero, List.getD_cons_succ]))
        have C := CY.out _ Y βy γy (hM.dsk .here HKY.out HJ.out HX.out F0)
        rw [hby] at C
        refine C.mono ?_
        rintro e w' ⟨rfl, Y2, β3, γ3, hb3, hk3, hN⟩
        replace hM := hM.backM .here (dskL_flag _ _ _ _) hN (dskL_flag _ _ _ _)
        (refine hR.out _ _ (fun _ => ⟨hM.only, nofun⟩) ?_); clear hR R hN C
        rw [hby] at hb3
        (try simp only [Act.put, List.setIfInBounds_toArray, List.set_cons_zero, List.set_cons_succ])
        (repeat (first | ((with_reducible show wpSeq _ _ _ _ _ _ _); first | ((with_reducible refine wpSeq_nil ?_); refine hKr.out _ _ ?_; clear hKr Kr) | (((refine St.copy (v := ?_) (by exact .inl rfl) rfl rfl ?_ ?_; rotate_left; (focus ((try simp only [Act.eval, getD_lit, List.getD_cons_zero, List.getD_cons_succ]); with_reducible rfl)))); (try simp only [Act.put, List.setIfInBounds_toArray, List.set_cons_zero, List.set_cons_succ]))) | (first | (refine wp_seq_shut (fun K hK => ?_)) | (refine wp_text hM (fun Kr hKr => ?_); simp only [inText]) | ((refine hK.out _ _ ?_); clear hK K))))
        ((refine St.call rfl rfl rfl (by kernel_rfl) (fun R hR => ?_); simp only [List.map_toArray, List.map_cons, List.map_nil, Act.eval, getD_lit, List.getD_cons_zero, List.getD_cons_succ]))
        have C := dFiles_any (hM.dsk (.past .all) hk2 HZ1.out HX.out F0).row (hM.dsk (.past .all) hk2 HZ1.out HX.out F0).now HZ1.out.now.up (by omega)
        rw [hb2] at C
        refine C.mono ?_
        rintro e w' ⟨s1, rfl, hf1, hN⟩
        replace hM := hM.madeM hN (slL_flag _ _ _ _)
        (refine hR.out _ _ (fun _ => ⟨hM.only, nofun⟩) ?_); clear hR R hN C
        (try simp only [Act.put, List.setIfInBounds_toArray, List.set_cons_zero, List.set_cons_succ])
        (repeat (((with_reducible show wpSeq _ _ _ _ _ _ _); (((refine St.copy (v := ?_) (by exact .inl rfl) rfl rfl ?_ ?_; rotate_left; (focus ((try simp only [Act.eval, getD_lit, List.getD_cons_zero, List.getD_cons_succ]); with_reducible rfl)))); (try simp only [Act.put, List.setIfInBounds_toArray, List.set_cons_zero, List.set_cons_succ])))))
        ((refine St.call rfl rfl rfl (by kernel_rfl) (fun R hR => ?_); simp only [List.map_toArray, List.map_cons, List.map_nil, Act.eval, getD_lit, List.getD_cons_zero, List.getD_cons_succ]))
        have C := dFiles_any (hM.dsk (.past .here) hk3 HZ1.out HX.out F0).row (hM.dsk (.past .here) hk3 HZ1.out HX.out F0).now HZ1.out.now.up (by omega)
        rw [hb3] at C
        refine C.mono ?_
        rintro e w' ⟨s2, rfl, hf2, hN⟩
        replace hM := hM.madeM hN (slL_flag _ _ _ _)
        (refine hR.out _ _ (fun _ => ⟨hM.only, nofun⟩) ?_); clear hR R hN C
        (try simp only [Act.put, List.setIfInBounds_toArray, List.set_cons_zero, List.set_cons_succ])
        (repeat (fail))
        ((refine St.call rfl rfl rfl (by kernel_rfl) (fun R hR => ?_); simp only [List.map_toArray, List.map_cons, List.map_nil, Act.eval, getD_lit, List.getD_cons_zero, List.getD_cons_succ]))
        refine (sameF_any hf1 hf2 (by have := HFL.out; omega) (hM.part (.past .here)) (hM.part .here)).mono ?_
        rintro e w' ⟨rfl, hb⟩; replace hM := hM.below hb; (refine hR.out _ _ (fun _ => ⟨hM.only, nofun⟩) ?_); clear hR R hb; (try simp only [Act.put, List.setIfInBounds_toArray, List.set_cons_zero, List.set_cons_succ])
        (repeat (((with_reducible show wpSeq _ _ _ _ _ _ _); (((refine St.copy (v := ?_) (by exact .inl rfl) rfl rfl ?_ ?_; rotate_left; (focus ((try simp only [Act.eval, getD_lit, List.getD_cons_zero, List.getD_cons_succ]); with_reducible rfl)))); (try simp only [Act.put, List.setIfInBounds_toArray, List.set_cons_zero, List.set_cons_succ])))))
        ((refine St.call rfl rfl rfl (by kernel_rfl) (fun R hR => ?_); simp only [List.map_toArray, List.map_cons, List.map_nil, Act.eval, getD_lit, List.getD_cons_zero, List.getD_cons_succ]))
        have C := dUsed_any (hM.dsk (.past (.past (.past .all))) hk2 HZ1.out HX.out F0).row (hM.dsk (.past (.past (.past .all))) hk2 HZ1.out HX.out F0).now
        rw [hb2] at C
        refine C.mono ?_
        rintro e w' ⟨rfl, hb⟩; replace hM := hM.below hb; (refine hR.out _ _ (fun _ => ⟨hM.only, nofun⟩) ?_); clear hR R hb C; (try simp only [Act.put, List.setIfInBounds_toArray, List.set_cons_zero, List.set_cons_succ])
        (repeat (((with_reducible show wpSeq _ _ _ _ _ _ _); (((refine St.copy (v := ?_) (by exact .inl rfl) rfl rfl ?_ ?_; rotate_left; (focus ((try simp only [Act.eval, getD_lit, List.getD_cons_zero, List.getD_cons_succ]); with_reducible rfl)))); (try simp only [Act.put, List.setIfInBounds_toArray, List.set_cons_zero, List.set_cons_succ])))))
        ((refine St.call rfl rfl rfl (by kernel_rfl) (fun R hR => ?_); simp only [List.map_toArray, List.map_cons, List.map_nil, Act.eval, getD_lit, List.getD_cons_zero, List.getD_cons_succ]))
        have C := dUsed_any (hM.dsk (.past (.past .here)) hk3 HZ1.out HX.out F0).row (hM.dsk (.past (.past .here)) hk3 HZ1.out HX.out F0).now
        rw [hb3] at C
        refine C.mono ?_
        rintro e w' ⟨rfl, hb⟩; replace hM := hM.below hb; (refine hR.out _ _ (fun _ => ⟨hM.only, nofun⟩) ?_); clear hR R hb C; (try simp only [Act.put, List.setIfInBounds_toArray, List.set_cons_zero, List.set_cons_succ])
        (repeat (((with_reducible show wpSeq _ _ _ _ _ _ _); ((first | (refine St.copy (v := ?_) (by exact .inl rfl) rfl rfl ?_ ?_; rotate_left; (focus ((try simp only [Act.eval, getD_lit, List.getD_cons_zero, List.getD_cons_succ]); with_reducible rfl))) | (refine St.pure (v := ?_) rfl rfl rfl (fun w => ?_) ?_; rotate_left; (focus (go_simp; all_goals with_reducible rfl)))); (try simp only [Act.put, List.setIfInBounds_toArray, List.set_cons_zero, List.set_cons_succ])))))
        ((refine St.call rfl rfl rfl (by kernel_rfl) (fun R hR => ?_); simp only [List.map_toArray, List.map_cons, List.map_nil, Act.eval, getD_lit, List.getD_cons_zero, List.getD_cons_succ]))
        refine (awake10_any _ (hM.mx HX.out F0)).mono ?_
        rintro e w' ⟨rfl, hb⟩; replace hM := hM.below hb; (refine hR.out _ _ (fun _ => ⟨hM.only, nofun⟩) ?_); clear hR R hb; (try simp only [Act.put, List.setIfInBounds_toArray, List.set_cons_zero, List.set_cons_succ])
        (repeat (first | ((with_reducible show wpSeq _ _ _ _ _ _ _); first | ((with_reducible refine wpSeq_nil ?_); refine hKr.out _ _ ?_; clear hKr Kr) | ((first | (refine St.copy (v := ?_) (by exact .inr rfl) rfl rfl ?_ ?_; rotate_left; (focus ((try simp only [Act.eval, getD_lit, List.getD_cons_zero, List.getD_cons_succ]); with_reducible rfl))) | (refine St.pure (v := ?_) rfl rfl rfl (fun w => ?_) ?_; rotate_left; (focus (go_simp; all_goals with_reducible rfl)))); (try simp only [Act.put, List.setIfInBounds_toArray, List.set_cons_zero, List.set_cons_succ]))) | (((refine hK.out _ _ ?_); clear hK K))))
        ((refine wp_ret ?_; (try simp only [Exit.then, Exit.inBlock]); refine St.ret hM rfl (by repeat (first | exact Outs.nil | apply Outs.tmp rfl)) rfl ?_))
        exact ⟨rfl, hM.to_below⟩
end Go.Proofs.YtcicjklhbnipcaaGreatDoor
