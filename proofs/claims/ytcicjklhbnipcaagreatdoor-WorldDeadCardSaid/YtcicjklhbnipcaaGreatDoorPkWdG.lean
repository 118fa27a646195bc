/-
  Texts laid one behind the other: what WrlE asks for.
-/
import Derived.Test.YtcicjklhbnipcaaGreatDoorPkWdF
import Derived.KernelRfl
namespace Go.Proofs.YtcicjklhbnipcaaGreatDoor
set_option linter.unusedVariables false
set_option linter.unusedSimpArgs false
open Go.RowKit Go.Maps
namespace Aw25
def ol : OpD := ⟨13, ⟨#[]⟩, ⟨#[]⟩, 0, 0, 0, ⟨#[]⟩, 0, 0⟩
def oa : OpD := ⟨15, ⟨#[]⟩, ⟨#[]⟩, 0, 0, 0, ⟨#[]⟩, 3, 1⟩
def p1 : PrcD := ⟨[(3, 1)], 1⟩
def p3 : PrcD := ⟨[], 1⟩
def p4 : PrcD := ⟨[(3, 2)], 2⟩
def s3 : FsD := ⟨⟨4096, 128, 2, [⟨1, true, 1, 0, ⟨#[]⟩, [(⟨#[97]⟩, 2)]⟩, ⟨2, false, 1, 0, ⟨#[]⟩, []⟩]⟩, []⟩
def W1 : WrlD := ⟨Ol.new 4096, p1⟩
def W2 : WrlD := ⟨Aw10.D1, p1⟩
def W3 : WrlD := ⟨⟨s3, s3, []⟩, p3⟩
def W4 : WrlD := ⟨⟨s3, s3, []⟩, p4⟩
theorem e0 : Pc.spawn (Wd.new 4096).p 3 = ((1, 0), p1) := by kernel_rfl
theorem e1 : Wd.spawn (Wd.new 4096) 3 = W1 := by kernel_rfl
theorem e2 : Wd.do_ W1 3 Aw10.o1 = (⟨0, 1, ⟨#[]⟩, []⟩, W2) := by
  unfold Wd.do_
  rw [if_neg (by decide), if_neg (by decide), show Pc.birth W1.p.births 3 = 1 from rfl, show W1.d = Ol.new 4096 from rfl, Aw10.d1]
  rfl
theorem e3 : Wd.do_ W2 4 ol = (⟨3, 0, ⟨#[]⟩, []⟩, W2) := by
  unfold Wd.do_
  rw [if_pos (by decide)]
  rfl
theorem e4 : Wd.do_ W2 3 oa = (⟨0, 1, ⟨#[]⟩, []⟩, W2) := by
  unfold Wd.do_
  rw [if_neg (by decide), if_pos (by decide)]
  rfl
theorem c5 : Ol.cutFs Aw10.D1 9 = s3 := by kernel_rfl
theorem e5 : Wd.power W2 9 = W3 := by kernel_rfl
theorem e6 : Pc.spawn W3.p 3 = ((2, 0), p4) := by kernel_rfl
theorem e7 : Wd.spawn W3 3 = W4 := by kernel_rfl
theorem e8 : Wd.do_ W4 3 oa = (⟨0, 0, ⟨#[]⟩, []⟩, W4) := by
  unfold Wd.do_
  rw [if_neg (by decide), if_pos (by decide)]
  rfl
theorem e9 : Fs.files s3 = [⟨⟨#[97]⟩, false, ⟨#[]⟩⟩] := by kernel_rfl
theorem e10 : (Wd.kill W2 3).1 = 0 ∧ (Wd.kill W2 3).2.p = p3 := ⟨by kernel_rfl, by kernel_rfl⟩
end Aw25
theorem wfine_sub (x : WrlX) (β γ : Int → Nat × Nat) (W : WrlD) : (wrlE x.b x.P.b x.X.b :: (prcL x.P W.p ++ (dskE x.X.b x.X.now.f x.X.sure.f x.X.s x.X.zs.length :: (logL x.X.s (x.X.zs.map LogV.val) ++ (fsL x.X.sure γ W.d.base ++ x.X.zs.flatMap LogV.ents))))).Sublist (wrlL x β γ W) := by
  unfold wrlL dskL
  exact (((List.sublist_append_right _ _).cons_cons _).append_left _).cons_cons _
theorem perm_aw {α : Type} (n c a d r1 r2 r3 : α) (p' f' l' p f l g e : List α) : ((n :: (p' ++ (c :: (f' ++ l')))) ++ (r3 :: r2 :: r1 :: (a :: (p ++ (d :: (f ++ (l ++ (g ++ e)))))))).Perm
    ((p ++ [d]) ++ (r3 :: r2 :: r1 :: a :: ((n :: (p' ++ (c :: (f' ++ (l' ++ (g ++ e)))))) ++ (f ++ l)))) := (perm_by (by intro _ x; simp only [List.append_eq, List.count_append, List.count_cons, List.count_nil, List.cons_append, List.nil_append]; omega))
theorem perm_aw2 {α : Type} (a d r1 r2 r3 : α) (p f1 f2 k q : List α) : ((p ++ (d :: (f1 ++ f2))) ++ (r3 :: r2 :: r1 :: a :: (k ++ q))).Perm
    ((r3 :: r2 :: r1 :: ((a :: (p ++ (d :: (f1 ++ ([] ++ (f2 ++ [])))))) ++ k)) ++ q) := (perm_by (by intro _ x; simp only [List.append_eq, List.count_append, List.count_cons, List.count_nil, List.cons_append, List.nil_append]; omega))
set_option maxHeartbeats 16000000 in
set_option maxRecDepth 100000 in
theorem awake25_any (w : World) (hX : Mx w) : Calls Tryz.prog 47 #[] w fun e w' => e = .returned (.bool true) ∧ Below w.heap.size w w' := by
  have hM := St.start w []
  have HX := Lib.hid hX
  have F0 : 0 ∉ ([] : List Nat) := nofun
  have I0 := Lib.hid (Wd.inv_new (q := 4096) (by decide) (by decide))
  have I1 := Lib.hid (Aw25.e1 ▸ Wd.inv_spawn I0.out 3)
  have I2 : Hid (Wd.Inv (1 + 3 + 3) Aw25.W2) := Lib.hid (by have h := Wd.inv_do I1.out (by decide) 3 (op := Aw10.o1) (by constructor <;> decide); rw [Aw25.e2] at h; exact h)
  have I3 := Lib.hid (Aw25.e5 ▸ Wd.inv_power I2.out (by decide) 9)
  have I4 := Lib.hid (Aw25.e7 ▸ Wd.inv_spawn I3.out 3)
  have f3 : Fits (3 : Int) := by decide
  have f4 : Fits (4 : Int) := by decide
  clear hX
  go_enter Tryz.func47, Tryz.ntmps47
  (repeat (first | ((with_reducible show wpSeq _ _ _ _ _ _ _); first | ((with_reducible refine wpSeq_nil ?_); refine hKr.out _ _ ?_; clear hKr Kr) | (((refine St.copy (v := ?_) (by exact .inr rfl) rfl rfl ?_ ?_; rotate_left; (focus ((try simp only [Act.eval, getD_lit, qGz, qGs]); with_reducible rfl)))); (try simp only [Act.put, qSa, qSz, qSs]))) | (first | (refine wp_seq_shut (fun K hK => ?_)) | (refine wp_text hM (fun Kr hKr => ?_); simp only [inText]) | ((refine hK.out _ _ ?_); clear hK K))))
  ((refine St.call rfl rfl rfl (by kernel_rfl) (fun R hR => ?_); simp only [List.map_toArray, List.map_cons, List.map_nil, Act.eval, getD_lit, qGz, qGs]))
  refine (wNew_any 4096 _ rfl (hM.mx HX.out F0)).mono ?_
  rintro e w' ⟨X, β, γ, rfl, hk0, hN⟩
  replace hM := hM.madeM hN (wrlL_flag _ _ _ _)
  rw [List.append_nil] at hM
  (refine hR.out _ _ (fun _ => ⟨hM.only, nofun⟩) ?_); clear hR R hN
  generalize hb : WrlX.b X = bb
  (try simp only [Act.put, qSa, qSz, qSs])
  (repeat (first | ((with_reducible show wpSeq _ _ _ _ _ _ _); first | ((with_reducible refine wpSeq_nil ?_); refine hKr.out _ _ ?_; clear hKr Kr) | ((first | (refine St.copy (v := ?_) (by first | exact .inl rfl | exact .inr rfl) rfl rfl ?_ ?_; rotate_left; (focus ((try simp only [Act.eval, getD_lit, qGz, qGs]); with_reducible rfl))) | (refine St.pure (v := ?_) rfl rfl rfl (fun w => ?_) ?_; rotate_left; (focus (go_simp; all_goals with_reducible rfl)))); (try simp only [Act.put, qSa, qSz, qSs]))) | (first | (refine wp_seq_shut (fun K hK => ?_)) | (refine wp_text hM (fun Kr hKr => ?_); simp only [inText]) | refine wp_skip ?_ | (refine wp_cond_false rfl ?_) | ((refine hK.out _ _ ?_); clear hK K))))
  ((refine St.call rfl rfl rfl (by kernel_rfl) (fun R hR => ?_); simp only [List.map_toArray, List.map_cons, List.map_nil, Act.eval, getD_lit, qGz, qGs]))
  have C := wSpawn_any (hM.wrl (by repeat (exact Part.all)) hk0 I0.out HX.out F0) (by decide) f3
  rw [hb, Aw25.e0, Aw25.e1] at C
  refine C.mono ?_
  rintro e w' ⟨rfl, X1, β, γ, hb', hk1, hN⟩
  replace hM := hM.backM (by repeat (exact Swap.all)) (wrlL_flag _ _ _ _) hN (wrlL_flag _ _ _ _)
  rw [hb] at hb'
  (refine hR.out _ _ (fun _ => ⟨hM.only, nofun⟩) ?_); clear hR R hN C hb
  have hb := hb'
  clear hb'
  (try simp only [Act.put, qSa, qSz, qSs])
  (repeat (first | ((with_reducible show wpSeq _ _ _ _ _ _ _); first | ((with_reducible refine wpSeq_nil ?_); refine hKr.out _ _ ?_; clear hKr Kr) | ((first | (refine St.copy (v := ?_) (by first | exact .inl rfl | exact .inr rfl) rfl rfl ?_ ?_; rotate_left; (focus ((try simp only [Act.eval, getD_lit, qGz, qGs]); with_reducible rfl))) | (refine St.pure (v := ?_) rfl rfl rfl (fun w => ?_) ?_; rotate_left; (focus (go_simp; all_goals with_reducible rfl)))); (try simp only [Act.put, qSa, qSz, qSs]))) | (first | (refine wp_seq_shut (fun K hK => ?_)) | (refine wp_text hM (fun Kr hKr => ?_); simp only [inText]) | ((refine hK.out _ _ ?_); clear hK K))))
  ((refine St.call rfl rfl rfl (by kernel_rfl) (fun R hR => ?_); simp only [List.map_toArray, List.map_cons, List.map_nil, Act.eval, getD_lit, qGz, qGs]))
  have C := wDo_bare (hM.wrl (by repeat (exact Part.all)) hk1 I1.out HX.out F0) (by decide) f3 Aw10.o1 (by constructor <;> decide) (by decide) Aw25.e2
  rw [hb] at C
  refine C.mono ?_
  rintro e w' ⟨⟨a0, c0, rfl⟩, X2, β, γ, hb', hk2, hN⟩
  replace hM := hM.backM (by repeat (exact Swap.all)) (wrlL_flag _ _ _ _) hN (wrlL_flag _ _ _ _)
  rw [hb] at hb'
  (refine hR.out _ _ (fun _ => ⟨hM.only, nofun⟩) ?_); clear hR R hN C hb
  have hb := hb'
  clear hb'
  (try simp only [Act.put, qSa, qSz, qSs])
  (repeat (first | ((with_reducible show wpSeq _ _ _ _ _ _ _); first | ((with_reducible refine wpSeq_nil ?_); refine hKr.out _ _ ?_; clear hKr Kr) | ((first | (refine St.copy (v := ?_) (by exact .inl rfl) rfl rfl ?_ ?_; rotate_left; (focus ((try simp only [Act.eval, getD_lit, qGz, qGs]); with_reducible rfl))) | (refine St.pure (v := ?_) rfl rfl rfl (fun w => ?_) ?_; rotate_left; (focus (go_simp; all_goals with_reducible rfl))) | ((((refine St.storeRow rfl hM rfl rfl rfl rfl rfl (by repeat constructor) (Nat.le_of_ble_eq_true rfl) (Nat.le_of_ble_eq_true rfl) (by kernel_rfl) rfl ?_ ?_); (focus ((intro h; cases h; done))); clear hM; intro w hM)); (try simp only [Res.put, Res.known, Act.eval, Value.cells, getD_lit, qGz, qGs, List.toList_toArray, qSz, qSs, over, Nat.reduceAdd] at hM))); (try simp only [Act.put, qSa, qSz, qSs])) | (((refine St.alloc (ty := 31) (z := .agg #[.int .i64 0, .int .i64 0, .string ⟨#[]⟩, .slice none 0 0]) rfl hM rfl rfl (by kernel_rfl) ?_); clear hM; intro w bk hM); (try simp only [Res.put, Res.known, Act.eval, Value.cells, getD_lit, qGz, qGs, List.toList_toArray, qSz, qSs, over, Nat.reduceAdd] at hM); (try simp only [Act.put, qSa, qSz, qSs]))) | (first | (refine wp_seq_shut (fun K hK => ?_)) | (refine wp_text hM (fun Kr hKr => ?_); simp only [inText]) | ((refine hK.out _ _ ?_); clear hK K))))
  ((refine St.call rfl rfl rfl (by kernel_rfl) (fun R hR => ?_); simp only [List.map_toArray, List.map_cons, List.map_nil, Act.eval, getD_lit, qGz, qGs]))
  have C := wDo_bare (hM.wrl (by repeat (first | exact Part.all | apply Part.skip)) hk2 I2.out HX.out F0) (by decide) f4 Aw25.ol (by constructor <;> decide) (by decide) Aw25.e3
  rw [hb] at C
  refine C.mono ?_
  rintro e w' ⟨⟨a1, c1, rfl⟩, X3, β, γ, hb', hk3, hN⟩
  replace hM := hM.backM (by repeat (first | exact Swap.all | apply Swap.skip)) (wrlL_flag _ _ _ _) hN (wrlL_flag _ _ _ _)
  rw [hb] at hb'
  (refine hR.out _ _ (fun _ => ⟨hM.only, nofun⟩) ?_); clear hR R hN C hb hk2
  have hb := hb'
  clear hb'
  (try simp only [Act.put, qSa, qSz, qSs])
  (repeat (first | ((with_reducible show wpSeq _ _ _ _ _ _ _); first | ((with_reducible refine wpSeq_nil ?_); refine hKr.out _ _ ?_; clear hKr Kr) | ((first | (refine St.copy (v := ?_) (by exact .inl rfl) rfl rfl ?_ ?_; rotate_left; (focus ((try simp only [Act.eval, getD_lit, qGz, qGs]); with_reducible rfl))) | (refine St.pure (v := ?_) rfl rfl rfl (fun w => ?_) ?_; rotate_left; (focus (go_simp; all_goals with_reducible rfl))) | ((((refine St.storeRow rfl hM rfl rfl rfl rfl rfl (by repeat constructor) (Nat.le_of_ble_eq_true rfl) (Nat.le_of_ble_eq_true rfl) (by kernel_rfl) rfl ?_ ?_); (focus ((intro h; cases h; done))); clear hM; intro w hM)); (try simp only [Res.put, Res.known, Act.eval, Value.cells, getD_lit, qGz, qGs, List.toList_toArray, qSz, qSs, over, Nat.reduceAdd] at hM))); (try simp only [Act.put, qSa, qSz, qSs])) | (((refine St.alloc (ty := 31) (z := .agg #[.int .i64 0, .int .i64 0, .string ⟨#[]⟩, .slice none 0 0]) rfl hM rfl rfl (by kernel_rfl) ?_); clear hM; intro w bk hM); (try simp only [Res.put, Res.known, Act.eval, Value.cells, getD_lit, qGz, qGs, List.toList_toArray, qSz, qSs, over, Nat.reduceAdd] at hM); (try simp only [Act.put, qSa, qSz, qSs]))) | (first | (refine wp_seq_shut (fun K hK => ?_)) | (refine wp_text hM (fun Kr hKr => ?_); simp only [inText]) | ((refine hK.out _ _ ?_); clear hK K))))
  ((refine St.call rfl rfl rfl (by kernel_rfl) (fun R hR => ?_); simp only [List.map_toArray, List.map_cons, List.map_nil, Act.eval, getD_lit, qGz, qGs]))
  have C := wDo_bare (hM.wrl (by repeat (first | exact Part.all | apply Part.skip)) hk3 I2.out HX.out F0) (by decide) f3 Aw25.oa (by constructor <;> decide) (by decide) Aw25.e4
  rw [hb] at C
  refine C.mono ?_
  rintro e w' ⟨⟨a2, c2, rfl⟩, X4, β, γ, hb', hk4, hN⟩
  replace hM := hM.backM (by repeat (first | exact Swap.all | apply Swap.skip)) (wrlL_flag _ _ _ _) hN (wrlL_flag _ _ _ _)
  rw [hb] at hb'
  (refine hR.out _ _ (fun _ => ⟨hM.only, nofun⟩) ?_); clear hR R hN C hb hk3
  have hb := hb'
  clear hb'
  (try simp only [Act.put, qSa, qSz, qSs])
  (repeat (first | ((with_reducible show wpSeq _ _ _ _ _ _ _); first | ((with_reducible refine wpSeq_nil ?_); refine hKr.out _ _ ?_; clear hKr Kr) | ((first | (refine St.copy (v := ?_) (by exact .inl rfl) rfl rfl ?_ ?_; rotate_left; (focus ((try simp only [Act.eval, getD_lit, qGz, qGs]); with_reducible rfl))) | ((((refine St.storeRow rfl hM rfl rfl rfl rfl rfl (by repeat constructor) (Nat.le_of_ble_eq_true rfl) (Nat.le_of_ble_eq_true rfl) (by kernel_rfl) rfl ?_ ?_); (focus ((intro h; cases h; done))); clear hM; intro w hM)); (try simp only [Res.put, Res.known, Act.eval, Value.cells, getD_lit, qGz, qGs, List.toList_toArray, qSz, qSs, over, Nat.reduceAdd] at hM))); (try simp only [Act.put, qSa, qSz, qSs])) | (((refine St.alloc (ty := 31) (z := .agg #[.int .i64 0, .int .i64 0, .string ⟨#[]⟩, .slice none 0 0]) rfl hM rfl rfl (by kernel_rfl) ?_); clear hM; intro w bk hM); (try simp only [Res.put, Res.known, Act.eval, Value.cells, getD_lit, qGz, qGs, List.toList_toArray, qSz, qSs, over, Nat.reduceAdd] at hM); (try simp only [Act.put, qSa, qSz, qSs]))) | (first | (refine wp_seq_shut (fun K hK => ?_)) | (refine wp_text hM (fun Kr hKr => ?_); simp only [inText]) | ((refine hK.out _ _ ?_); clear hK K))))
  ((refine St.call rfl rfl rfl (by kernel_rfl) (fun R hR => ?_); simp only [List.map_toArray, List.map_cons, List.map_nil, Act.eval, getD_lit, qGz, qGs]))
  have C := wClone_any (hM.wrl (by repeat (first | exact Part.all | apply Part.skip)) hk4 I2.out HX.out F0) (by decide)
  rw [hb] at C
  refine C.mono ?_
  rintro e w' ⟨cb, P', cd, y, δ, s', rfl, hz', hs', hN⟩
  replace hM := hM.madeM hN (fun z hz => by
    rcases List.mem_cons.1 hz with rfl | hz
    · rfl
    rcases List.mem_append.1 hz with hz | hz
    · exact prcL_flag _ _ z hz
    rcases List.mem_cons.1 hz with rfl | hz
    · rfl
    rcases List.mem_append.1 hz with hz | hz
    · exact fsL_flag _ _ _ z hz
    · exact slL_flag _ _ _ _ z hz)
  (refine hR.out _ _ (fun _ => ⟨hM.only, nofun⟩) ?_); clear hR R C hN
  have HZ := Lib.hid hz'
  have HS := Lib.hid hs'
  clear hz' hs'
  (try simp only [Act.put, qSa, qSz, qSs])
  (repeat (first | ((with_reducible show wpSeq _ _ _ _ _ _ _); first | ((with_reducible refine wpSeq_nil ?_); refine hKr.out _ _ ?_; clear hKr Kr) | (((refine St.copy (v := ?_) (by first | exact .inl rfl | exact .inr rfl) rfl rfl ?_ ?_; rotate_left; (focus ((try simp only [Act.eval, getD_lit, qGz, qGs]); with_reducible rfl)))); (try simp only [Act.put, qSa, qSz, qSs]))) | (first | (refine wp_seq_shut (fun K hK => ?_)) | (refine wp_text hM (fun Kr hKr => ?_); simp only [inText]) | ((refine hK.out _ _ ?_); clear hK K))))
  ((refine St.call rfl rfl rfl (by kernel_rfl) (fun R hR => ?_); simp only [List.map_toArray, List.map_cons, List.map_nil, Act.eval, getD_lit, qGz, qGs]))
  have HW4 := hM.wrl (.past (.skip (.skip (.skip .all)))) hk4 I2.out HX.out F0
  obtain ⟨K0, hB, hK⟩ := I2.out.disk.base
  have C := wPower_fine (HW4.at_.sub (wfine_sub X4 β γ _)) hk4.prc I2.out.fit hk4.dsk.sl hk4.dsk.log hB (by have : Aw25.W2.d.log.length = 1 := rfl; omega) I2.out.disk.ok HW4.mx (keys_sub (wfine_sub X4 β γ _) HW4.zero) 9
  rw [hb, show Aw25.W2.d = Aw10.D1 from rfl, Aw25.c5] at C
  refine C.mono ?_
  rintro e w' ⟨rfl, P2, x1, β1, x2, β2, hb2, hN⟩
  unfold wrlL dskL at hM
  replace hM := hM.perm (perm_aw _ _ _ _ _ _ _ _ _ _ _ _ _ _ _)
  replace hM := hM.backM .here (fun y hy => by
    rcases List.mem_append.1 hy with hy | hy
    · exact prcL_flag _ _ y hy
    · rcases List.mem_singleton.1 hy with rfl; rfl) hN (fun y hy => by
    rcases List.mem_append.1 hy with hy | hy
    · exact prcL_flag _ _ y hy
    rcases List.mem_cons.1 hy with rfl | hy
    · rfl
    rcases List.mem_append.1 hy with hy | hy
    · exact fsL_flag _ _ _ y hy
    · exact fsL_flag _ _ _ y hy)
  (refine hR.out _ _ (fun _ => ⟨hM.only, nofun⟩) ?_); clear hR R hN C HW4 hB hK
  replace hM := (hM.perm (perm_aw2 _ _ _ _ _ _ _ _ _ _)).front
  obtain ⟨x5, hx5⟩ : ∃ x5 : WrlX, x5 = ⟨bb, P2, ⟨X4.X.b, x1, x2, none, []⟩⟩ := ⟨_, rfl⟩
  obtain ⟨xc, hxc⟩ : ∃ xc : WrlX, xc = ⟨cb, P', ⟨cd, y, X4.X.sure, s', X4.X.zs⟩⟩ := ⟨_, rfl⟩
  have hE5 : wrlE X4.b X4.P.b X4.X.b :: (prcL P2 (Pc.killAll Aw25.W2.p) ++ (dskE X4.X.b x1.f x2.f none 0 :: (fsL x1 β1 Aw25.s3 ++ ([] ++ (fsL x2 β2 Aw25.s3 ++ []))))) = wrlL x5 β1 β2 Aw25.W3 := by
    rw [hx5, hb, ← hb2]
    rfl
  have hEc : wrlE cb P'.b cd :: (prcL P' Aw25.W2.p ++ (dskE cd y.f X4.X.sure.f s' X4.X.zs.length :: (fsL y δ Aw25.W2.d.now ++ (logL s' (X4.X.zs.map LogV.val) ++ (fsL X4.X.sure γ Aw25.W2.d.base ++ X4.X.zs.flatMap LogV.ents))))) = wrlL xc δ γ Aw25.W2 := by
    rw [hxc]
    rfl
  rw [hE5, hEc] at hM
  have hk5 : WrlOk x5 Aw25.W3 := by rw [hx5]; exact ⟨⟨rfl, ⟨rfl, rfl⟩⟩, fun _ => rfl⟩
  have hkc : WrlOk xc Aw25.W2 := by rw [hxc]; exact ⟨⟨hk4.dsk.log, HS.out⟩, HZ.out⟩
  have hbc : xc.b = cb := by rw [hxc]
  have hb5 : x5.b = bb := by rw [hx5]
  clear hE5 hEc hx5 hxc hb2 HZ HS hk4 hb
  have hb := hb5
  clear hb5
  (try simp only [Act.put, qSa, qSz, qSs])
  (repeat (first | ((with_reducible show wpSeq _ _ _ _ _ _ _); first | ((with_reducible refine wpSeq_nil ?_); refine hKr.out _ _ ?_; clear hKr Kr) | (((refine St.copy (v := ?_) (by exact .inl rfl) rfl rfl ?_ ?_; rotate_left; (focus ((try simp only [Act.eval, getD_lit, qGz, qGs]); with_reducible rfl)))); (try simp only [Act.put, qSa, qSz, qSs]))) | (first | (refine wp_seq_shut (fun K hK => ?_)) | (refine wp_text hM (fun Kr hKr => ?_); simp only [inText]) | ((refine hK.out _ _ ?_); clear hK K))))
  ((refine St.call rfl rfl rfl (by kernel_rfl) (fun R hR => ?_); simp only [List.map_toArray, List.map_cons, List.map_nil, Act.eval, getD_lit, qGz, qGs]))
  have C := wSpawn_any (hM.wrl (.skip (.skip (.skip .here))) hk5 I3.out HX.out F0) (by decide) f3
  rw [hb, Aw25.e6, Aw25.e7] at C
  refine C.mono ?_
  rintro e w' ⟨rfl, X6, β, γ5, hb', hk6, hN⟩
  replace hM := hM.backM (.skip (.skip (.skip .here))) (wrlL_flag _ _ _ _) hN (wrlL_flag _ _ _ _)
  rw [hb] at hb'
  (refine hR.out _ _ (fun _ => ⟨hM.only, nofun⟩) ?_); clear hR R hN C hb hk5
  have hb := hb'
  clear hb'
  (try simp only [Act.put, qSa, qSz, qSs])
  (repeat (first | ((with_reducible show wpSeq _ _ _ _ _ _ _); first | ((with_reducible refine wpSeq_nil ?_); refine hKr.out _ _ ?_; clear hKr Kr) | ((first | (refine St.copy (v := ?_) (by first | exact .inl rfl | exact .inr rfl) rfl rfl ?_ ?_; rotate_left; (focus ((try simp only [Act.eval, getD_lit, qGz, qGs]); with_reducible rfl))) | (refine St.pure (v := ?_) rfl rfl rfl (fun w => ?_) ?_; rotate_left; (focus (go_simp; all_goals with_reducible rfl)))); (try simp only [Act.put, qSa, qSz, qSs]))) | (first | (refine wp_seq_shut (fun K hK => ?_)) | (refine wp_text hM (fun Kr hKr => ?_); simp only [inText]) | ((refine hK.out _ _ ?_); clear hK K))))
  ((refine St.call rfl rfl rfl (by kernel_rfl) (fun R hR => ?_); simp only [List.map_toArray, List.map_cons, List.map_nil, Act.eval, getD_lit, qGz, qGs]))
  have C := wDo_bare (hM.wrl (.skip (.skip (.skip .here))) hk6 I4.out HX.out F0) (by decide) f3 Aw25.oa (by constructor <;> decide) (by decide) Aw25.e8
  rw [hb] at C
  refine C.mono ?_
  rintro e w' ⟨⟨a3, c3, rfl⟩, X7, β, γ6, hb', hk7, hN⟩
  replace hM := hM.backM (.skip (.skip (.skip .here))) (wrlL_flag _ _ _ _) hN (wrlL_flag _ _ _ _)
  rw [hb] at hb'
  (refine hR.out _ _ (fun _ => ⟨hM.only, nofun⟩) ?_); clear hR R hN C hb hk6
  have hb := hb'
  clear hb'
  (try simp only [Act.put, qSa, qSz, qSs])
  (repeat (first | ((with_reducible show wpSeq _ _ _ _ _ _ _); first | ((with_reducible refine wpSeq_nil ?_); refine hKr.out _ _ ?_; clear hKr Kr) | ((((((refine St.storeRow rfl hM rfl rfl rfl rfl rfl (by repeat constructor) (Nat.le_of_ble_eq_true rfl) (Nat.le_of_ble_eq_true rfl) (by kernel_rfl) rfl ?_ ?_); (focus ((intro h; cases h; done))); clear hM; intro w hM)); (try simp only [Res.put, Res.known, Act.eval, Value.cells, getD_lit, qGz, qGs, List.toList_toArray, qSz, qSs, over, Nat.reduceAdd] at hM))); (try simp only [Act.put, qSa, qSz, qSs])) | (((refine St.alloc (ty := 31) (z := .agg #[.int .i64 0, .int .i64 0, .string ⟨#[]⟩, .slice none 0 0]) rfl hM rfl rfl (by kernel_rfl) ?_); clear hM; intro w bk hM); (try simp only [Res.put, Res.known, Act.eval, Value.cells, getD_lit, qGz, qGs, List.toList_toArray, qSz, qSs, over, Nat.reduceAdd] at hM); (try simp only [Act.put, qSa, qSz, qSs]))) | (first | (refine wp_seq_shut (fun K hK => ?_)) | ((refine hK.out _ _ ?_); clear hK K))))
  (refine wp_text hM (fun Kr hKr => ?_); simp only [List.append_eq, List.cons_append, List.nil_append, inText])
  (repeat (((with_reducible show wpSeq _ _ _ _ _ _ _); ((first | (refine St.copy (v := ?_) (by exact .inl rfl) rfl rfl ?_ ?_; rotate_left; (focus ((try simp only [Act.eval, getD_lit, qGz, qGs]); with_reducible rfl))) | (refine St.pure (v := ?_) rfl rfl rfl (fun w => ?_) ?_; rotate_left; (focus (go_simp; all_goals with_reducible rfl))) | refine St.load rfl hM rfl rfl rfl rfl (by repeat constructor) (by rfl) (by kernel_rfl) ?_); (try simp only [Act.put, qSa, qSz, qSs])))))
  ((refine St.call rfl rfl rfl (by kernel_rfl) (fun R hR => ?_); simp only [List.map_toArray, List.map_cons, List.map_nil, Act.eval, getD_lit, qGz, qGs]))
  have C := wFiles_any (hM.wrl (.skip (.skip (.skip (.skip .here)))) hk7 I4.out HX.out F0) (by decide)
  rw [hb, show Aw25.W4.d.now = Aw25.s3 from rfl, Aw25.e9] at C
  refine C.mono ?_
  rintro e w' ⟨sf, rfl, hkf, hN⟩
  replace hM := hM.below hN.to_below
  (refine hR.out _ _ (fun _ => ⟨hM.only, nofun⟩) ?_); clear hR R C hN
  obtain ⟨ag, cg, hvg, -⟩ := slV_open hkf
  rw [hvg]
  simp only [List.length_cons, List.length_nil, Nat.zero_add]
  (try simp only [Act.put, qSa, qSz, qSs])
  (repeat (((with_reducible show wpSeq _ _ _ _ _ _ _); ((first | (refine St.copy (v := ?_) (by exact .inl rfl) rfl rfl ?_ ?_; rotate_left; (focus ((try simp only [Act.eval, getD_lit, qGz, qGs]); with_reducible rfl))) | (refine St.pure (v := ?_) rfl rfl rfl (fun w => ?_) ?_; rotate_left; (focus (go_simp; all_goals with_reducible rfl)))); (try simp only [Act.put, qSa, qSz, qSs])))))
  ((refine St.call rfl rfl rfl (by kernel_rfl) (fun R hR => ?_); simp only [List.map_toArray, List.map_cons, List.map_nil, Act.eval, getD_lit, qGz, qGs]))
  have C := wPids_any (hM.wrl (.skip (.skip (.skip (.skip (.past .all))))) hkc I2.out HX.out F0).row (hM.wrl (.skip (.skip (.skip (.skip (.past .all))))) hkc I2.out HX.out F0).prc rfl
  rw [hbc] at C
  refine C.mono ?_
  rintro e w' ⟨sp, rfl, hkp, hN⟩
  replace hM := hM.below hN.to_below
  (refine hR.out _ _ (fun _ => ⟨hM.only, nofun⟩) ?_); clear hR R C hN
  obtain ⟨ap, cp, hvp, -⟩ := slV_open hkp
  rw [hvp]
  simp only [show (Pc.pids Aw25.W2.p).length = 1 from rfl]
  (try simp only [Act.put, qSa, qSz, qSs])
  (repeat (((with_reducible show wpSeq _ _ _ _ _ _ _); ((first | (refine St.copy (v := ?_) (by exact .inl rfl) rfl rfl ?_ ?_; rotate_left; (focus ((try simp only [Act.eval, getD_lit, qGz, qGs]); with_reducible rfl))) | (refine St.pure (v := ?_) rfl rfl rfl (fun w => ?_) ?_; rotate_left; (focus (go_simp; all_goals with_reducible rfl)))); (try simp only [Act.put, qSa, qSz, qSs])))))
  ((refine St.call rfl rfl rfl (by kernel_rfl) (fun R hR => ?_); simp only [List.map_toArray, List.map_cons, List.map_nil, Act.eval, getD_lit, qGz, qGs]))
  have IK := Wd.inv_kill I2.out (by decide) 3
  have C := wKill_any (hM.wrl (.skip (.skip (.skip (.skip (.past .all))))) hkc I2.out HX.out F0) (by decide) f3
  rw [hbc, Aw25.e10.1] at C
  refine C.mono ?_
  rintro e w' ⟨rfl, xd, δ2, γ7, hb2, hkd, hN⟩
  replace hM := hM.backM (.skip (.skip (.skip (.skip (.past .all))))) (wrlL_flag _ _ _ _) hN (wrlL_flag _ _ _ _)
  rw [hbc] at hb2
  (refine hR.out _ _ (fun _ => ⟨hM.only, nofun⟩) ?_); clear hR R hN C hbc
  (try simp only [Act.put, qSa, qSz, qSs])
  (repeat (((with_reducible show wpSeq _ _ _ _ _ _ _); ((first | (refine St.copy (v := ?_) (by exact .inl rfl) rfl rfl ?_ ?_; rotate_left; (focus ((try simp only [Act.eval, getD_lit, qGz, qGs]); with_reducible rfl))) | (refine St.pure (v := ?_) rfl rfl rfl (fun w => ?_) ?_; rotate_left; (focus (go_simp; all_goals with_reducible rfl)))); (try simp only [Act.put, qSa, qSz, qSs])))))
  ((refine St.call rfl rfl rfl (by kernel_rfl) (fun R hR => ?_); simp only [List.map_toArray, List.map_cons, List.map_nil, Act.eval, getD_lit, qGz, qGs]))
  have C := wPids_any (hM.wrl (.skip (.skip (.skip (.skip (.past .all))))) hkd IK HX.out F0).row (hM.wrl (.skip (.skip (.skip (.skip (.past .all))))) hkd IK HX.out F0).prc rfl
  rw [hb2, Aw25.e10.2] at C
  refine C.mono ?_
  rintro e w' ⟨sq, rfl, hkq, hN⟩
  replace hM := hM.below hN.to_below
  (refine hR.out _ _ (fun _ => ⟨hM.only, nofun⟩) ?_); clear hR R C hN
  obtain ⟨aq, cq, hvq, -⟩ := slV_open hkq
  rw [hvq]
  simp only [show (Pc.pids Aw25.p3).length = 0 from rfl]
  (try simp only [Act.put, qSa, qSz, qSs])
  (repeat (first | ((with_reducible show wpSeq _ _ _ _ _ _ _); first | ((with_reducible refine wpSeq_nil ?_); refine hKr.out _ _ ?_; clear hKr Kr) | ((first | (refine St.copy (v := ?_) (by exact .inr rfl) rfl rfl ?_ ?_; rotate_left; (focus ((try simp only [Act.eval, getD_lit, qGz, qGs]); with_reducible rfl))) | (refine St.pure (v := ?_) rfl rfl rfl (fun w => ?_) ?_; rotate_left; (focus (go_simp; all_goals with_reducible rfl)))); (try simp only [Act.put, qSa, qSz, qSs]))) | (((refine hK.out _ _ ?_); clear hK K))))
  ((refine wp_ret ?_; (try simp only [Exit.then, Exit.inBlock]); refine St.ret hM rfl (by repeat (first | exact Outs.nil | apply Outs.tmp rfl)) rfl ?_))
  exact ⟨rfl, hM.to_below⟩
end Go.Proofs.YtcicjklhbnipcaaGreatDoor
namespace Go.Proofs.YtcicjklhbnipcaaGreatDoor
set_option linter.unusedVariables false
set_option linter.unusedSimpArgs false
open Go.RowKit Go.Maps
def szD : OpD := ⟨9, ⟨#[]⟩, ⟨#[]⟩, 1, 0, 0, ⟨#[]⟩, 0, 0⟩
theorem szD_ok : szD.Ok := by constructor <;> decide
theorem actV_ok {x : ActV} (hf : x.Fit) (hs : SmallF ⟨0, false, x.op⟩) : x.op.Ok := ⟨hf.op.kind, hf.op.h, hf.op.at_, hf.op.n, by have : x.op.path.size ≤ 200 := hs.path; omega, by have : x.op.dest.size ≤ 200 := hs.dest; omega, hf.op.data⟩
set_option maxHeartbeats 16000000 in
set_option maxRecDepth 100000 in
theorem worldDead_walk (a : Option Addr) (n c : Nat) (xs : List ActV) (w0 : World) (hx : RActVs w0 w0.heap.size [.slice a n c] xs) (hX : Mx w0) : Calls Tryz.prog 10 #[.slice a n c] w0 fun e w' => e = .returned (.bool true) ∧ Below w0.heap.size w0 w' := by
  have hM := St.start w0 []
  have HX := Lib.hid hX
  have HA := Lib.hid (actVs_in hx)
  have F0 : 0 ∉ ([] : List Nat) := nofun
  obtain rfl : n = xs.length := HA.out.1
  have hn : xs.length ≤ maxLen := HA.out.2.1
  rw [maxLen_val] at hn
  have I0 := Lib.hid (Wd.inv_new (q := 1048576) (by decide) (by decide))
  clear hX hx
  go_enter Tryz.func10, Tryz.ntmps10
  (repeat (first | ((with_reducible show wpSeq _ _ _ _ _ _ _); first | ((with_reducible refine wpSeq_nil ?_); refine hKr.out _ _ ?_; clear hKr Kr) | (((refine St.copy (v := ?_) (by exact .inr rfl) rfl rfl ?_ ?_; rotate_left; (focus ((try simp only [Act.eval, getD_lit, qGz, qGs]); with_reducible rfl)))); (try simp only [Act.put, qSa, qSz, qSs]))) | (first | (refine wp_seq_shut (fun K hK => ?_)) | (refine wp_text hM (fun Kr hKr => ?_); simp only [inText]) | ((refine hK.out _ _ ?_); clear hK K))))
  ((refine St.call rfl rfl rfl (by kernel_rfl) (fun R hR => ?_); simp only [List.map_toArray, List.map_cons, List.map_nil, Act.eval, getD_lit, qGz, qGs]))
  refine (wNew_any 1048576 _ rfl (hM.mx HX.out F0)).mono ?_
  rintro e w' ⟨X, β, γ, rfl, hkx, hN⟩
  replace hM := hM.madeM hN (wrlL_flag _ _ _ _)
  rw [List.append_nil] at hM
  (refine hR.out _ _ (fun _ => ⟨hM.only, nofun⟩) ?_); clear hR R hN
  generalize hbx : WrlX.b X = xb
  (try simp only [Act.put, qSa, qSz, qSs])
  (repeat (first | ((with_reducible show wpSeq _ _ _ _ _ _ _); first | ((with_reducible refine wpSeq_nil ?_); refine hKr.out _ _ ?_; clear hKr Kr) | ((first | (refine St.copy (v := ?_) (by first | exact .inl rfl | exact .inr rfl) rfl rfl ?_ ?_; rotate_left; (focus ((try simp only [Act.eval, getD_lit, qGz, qGs]); with_reducible rfl))) | (refine St.pure (v := ?_) rfl rfl rfl (fun w => ?_) ?_; rotate_left; (focus (go_simp; all_goals with_reducible rfl)))); (try simp only [Act.put, qSa, qSz, qSs]))) | (first | (refine wp_seq_shut (fun K hK => ?_)) | (refine wp_text hM (fun Kr hKr => ?_); simp only [inText]) | ((refine hK.out _ _ ?_); clear hK K))))
  ((refine St.call rfl rfl rfl (by kernel_rfl) (fun R hR => ?_); simp only [List.map_toArray, List.map_cons, List.map_nil, Act.eval, getD_lit, qGz, qGs]))
  refine (small25_any 40 (by decide) (by decide) (HA.out.below hM.to_below)).mono ?_
  rintro e w' ⟨b, rfl, hsm, hb⟩
  replace hM := hM.below hb
  (refine hR.out _ _ (fun _ => ⟨hM.only, nofun⟩) ?_); clear hR R hb
  have HSM := Lib.hid hsm
  clear hsm
  (try simp only [Act.put, qSa, qSz, qSs])
  cases b with
  | false =>
    (repeat (first | ((with_reducible show wpSeq _ _ _ _ _ _ _); first | ((with_reducible refine wpSeq_nil ?_); refine hKr.out _ _ ?_; clear hKr Kr) | ((first | (refine St.copy (v := ?_) (by exact .inl rfl) rfl rfl ?_ ?_; rotate_left; (focus ((try simp only [Act.eval, getD_lit, qGz, qGs]); with_reducible rfl))) | (refine St.pure (v := ?_) rfl rfl rfl (fun w => ?_) ?_; rotate_left; (focus (go_simp; all_goals with_reducible rfl)))); (try simp only [Act.put, qSa, qSz, qSs]))) | (first | (refine wp_seq_shut (fun K hK => ?_)) | (refine wp_text hM (fun Kr hKr => ?_); simp only [inText]) | (refine wp_cond_true rfl ?_) | ((refine hK.out _ _ ?_); clear hK K))))
    ((refine St.call rfl rfl rfl (by kernel_rfl) (fun R hR => ?_); simp only [List.map_toArray, List.map_cons, List.map_nil, Act.eval, getD_lit, qGz, qGs]))
    refine (awake25_any _ (hM.mx HX.out F0)).mono ?_
    rintro e w' ⟨rfl, hb⟩; replace hM := hM.below hb; (refine hR.out _ _ (fun _ => ⟨hM.only, nofun⟩) ?_); clear hR R hb; (try simp only [Act.put, qSa, qSz, qSs])
    (repeat (first | ((with_reducible show wpSeq _ _ _ _ _ _ _); first | ((with_reducible refine wpSeq_nil ?_); refine hKr.out _ _ ?_; clear hKr Kr) | ((first | (refine St.copy (v := ?_) (by exact .inr rfl) rfl rfl ?_ ?_; rotate_left; (focus ((try simp only [Act.eval, getD_lit, qGz, qGs]); with_reducible rfl))) | (refine St.pure (v := ?_) rfl rfl rfl (fun w => ?_) ?_; rotate_left; (focus (go_simp; all_goals with_reducible rfl)))); (try simp only [Act.put, qSa, qSz, qSs]))) | (((refine hK.out _ _ ?_); clear hK K))))
    ((refine wp_ret ?_; (try simp only [Exit.then, Exit.inBlock]); refine St.ret hM rfl (by repeat (first | exact Outs.nil | apply Outs.tmp rfl)) rfl ?_))
    exact ⟨rfl, hM.to_below⟩
  | true =>
    have hlen : xs.length ≤ 40 := by have := (HSM.out rfl).1; omega
    (repeat (first | ((with_reducible show wpSeq _ _ _ _ _ _ _); first | ((with_reducible refine wpSeq_nil ?_); refine hKr.out _ _ ?_; clear hKr Kr) | ((first | (refine St.copy (v := ?_) (by exact .inr rfl) rfl rfl ?_ ?_; rotate_left; (focus ((try simp only [Act.eval, getD_lit, qGz, qGs]); with_reducible rfl))) | (refine St.pure (v := ?_) rfl rfl rfl (fun w => ?_) ?_; rotate_left; (focus (go_simp; all_goals with_reducible rfl)))); (try simp only [Act.put, qSa, qSz, qSs]))) | (first | (refine wp_seq_shut (fun K hK => ?_)) | (refine wp_text hM (fun Kr hKr => ?_); simp only [inText]) | refine wp_block ?_ | refine wp_skip ?_ | (refine wp_cond_false rfl ?_) | ((refine hK.out _ _ ?_); clear hK K))))
    go_loopw [5, 6] (fun l i wr => ∃ (j : Nat) (X : WrlX) (β γ : Int → Nat × Nat) (W : WrlD), j ≤ xs.length ∧ l = .int .i64 W.p.last ∧ i = .int .i64 j ∧ Wd.Inv (1 + 3 * j) W ∧ WrlOk X W ∧ X.b = xb ∧ St w0 [] wr (wrlL X β γ W)) (fun _ i _ => xs.length - (intOf i).toNat)
    case atStart => exact ⟨0, X, β, γ, _, by omega, rfl, rfl, I0.out, hkx, hbx, hM⟩
    case round =>
      clear hM hkx hbx
      obtain ⟨j, X, β, γ, W, hj, rfl, rfl, hI, hkx, hbx, hM⟩ := hrel
      have HI := Lib.hid hI
      have HKX := Lib.hid hkx
      clear hI hkx
      by_cases hlt : j < xs.length
      · obtain ⟨x, hxj⟩ := get_at hlt
        obtain ⟨hf, bb, off, rfl, hc1, -⟩ := HA.out.get hxj
        have hop := actV_ok hf ((HSM.out rfl).2 j x hxj)
        have hpid := hf.pid
        have hopid := hf.op.pid
        have j1 : (j : Int) < (xs.length : Int) := by omega
        have HOP := Lib.hid hop
        have IS := Lib.hid (Wd.inv_step HI.out (by omega) x hop)
        have CS := Lib.hid (fun (w1 : World) (β γ : Int → Nat × Nat) (hA : WrlAt (1 + 3 * j) X β γ W w1) => step_any hA (by omega) x hpid hop hopid)
        obtain ⟨r, hr⟩ : ∃ r, Wd.step W x = r := ⟨_, rfl⟩
        rw [hr] at CS IS
        have HR := Lib.hid hr
        clear hxj hf hop hr
        obtain ⟨⟨re, rn, rd, rl⟩, W2⟩ := r
        simp only at IS CS
        have hfb : ∃ B E : Int, Pc.birth W.p.births x.pid = B ∧ Pc.birthE W.p x.pid = E := ⟨_, _, rfl, rfl⟩
        obtain ⟨B, E, hB, hE⟩ := hfb
        have HB := Lib.hid hB
        have HE := Lib.hid hE
        have CB := Lib.hid (fun (w1 : World) (h1 : (wrlE X.b X.P.b X.X.b).2.2.holds w1.heap[X.b]?) (h2 : PrcAt X.P W.p w1) => wBirth_any h1 h2 rfl hpid)
        rw [hB, hE] at CB
        clear hB hE hopid
        obtain ⟨ak, ap, aq, ⟨pk, pp, pd, ph, pa, pn, px, py, pb⟩⟩ := x
        simp only [ActV.cells, OpD.cells] at hc1 CS hpid CB
        (repeat (first | ((with_reducible show wpSeq _ _ _ _ _ _ _); first | ((with_reducible refine wpSeq_nil ?_); refine hKr.out _ _ ?_; clear hKr Kr) | ((first | (refine St.copy (v := ?_) (by exact .inl rfl) rfl rfl ?_ ?_; rotate_left; (focus ((try simp only [Act.eval, getD_lit, qGz, qGs]); with_reducible rfl))) | (refine St.pure (v := ?_) rfl rfl rfl (fun w => ?_) ?_; rotate_left; (focus (go_simp; all_goals with_reducible rfl))) | refine St.loadRowF rfl rfl rfl rfl rfl (hM.oldRow (by assumption)) (by kernel_rfl) ?_ | ((((refine St.storeRow rfl hM rfl rfl rfl rfl rfl (by repeat constructor) (Nat.le_of_ble_eq_true rfl) (Nat.le_of_ble_eq_true rfl) (by kernel_rfl) rfl ?_ ?_); (focus ((intro h; cases h; done))); clear hM; intro w hM)); (try simp only [Res.put, Res.known, Act.eval, Value.cells, getD_lit, qGz, qGs, List.toList_toArray, qSz, qSs, over, Nat.reduceAdd] at hM))); (try simp only [Act.put, qSa, qSz, qSs])) | (((refine St.alloc (ty := 90) (z := .agg #[.int .i64 0, .int .i64 0, .int .i64 0, .int .i64 0, .string ⟨#[]⟩, .string ⟨#[]⟩, .int .i64 0, .int .i64 0, .int .i64 0, .string ⟨#[]⟩, .int .i64 0, .int .i64 0]) rfl hM rfl rfl (by kernel_rfl) ?_); clear hM; intro w bk hM); (try simp only [Res.put, Res.known, Act.eval, Value.cells, getD_lit, qGz, qGs, List.toList_toArray, qSz, qSs, over, Nat.reduceAdd] at hM); (try simp only [Act.put, qSa, qSz, qSs]))) | (first | (refine wp_seq_shut (fun K hK => ?_)) | (refine wp_text hM (fun Kr hKr => ?_); simp only [inText]) | refine wp_block ?_ | refine wp_skip ?_ | (refine wp_cond_true rfl ?_) | ((refine hK.out _ _ ?_); clear hK K))))
        ((refine St.call rfl rfl rfl (by kernel_rfl) (fun R hR => ?_); simp only [List.map_toArray, List.map_cons, List.map_nil, Act.eval, getD_lit, qGz, qGs]))
        have C := wFiles_any (hM.wrl (.skip .all) HKX.out HI.out HX.out F0) (by omega)
        rw [hbx] at C
        refine C.mono ?_
        rintro e w' ⟨sf, rfl, hkf, hN⟩
        replace hM := hM.below hN.to_below
        (refine hR.out _ _ (fun _ => ⟨hM.only, nofun⟩) ?_); clear hR R C hN
        obtain ⟨ag, cg, hvg, -⟩ := slV_open hkf
        rw [hvg]
        clear hkf hvg
        (try simp only [Act.put, qSa, qSz, qSs])
        (repeat (first | ((with_reducible show wpSeq _ _ _ _ _ _ _); first | ((with_reducible refine wpSeq_nil ?_); refine hKr.out _ _ ?_; clear hKr Kr) | ((first | (refine St.copy (v := ?_) (by first | exact .inl rfl | exact .inr rfl) rfl rfl ?_ ?_; rotate_left; (focus ((try simp only [Act.eval, getD_lit, qGz, qGs]); with_reducible rfl))) | (refine St.pure (v := ?_) rfl rfl rfl (fun w => ?_) ?_; rotate_left; (focus (go_simp; all_goals with_reducible rfl))) | refine St.load rfl hM rfl rfl rfl rfl (by repeat constructor) (by rfl) (by kernel_rfl) ?_); (try simp only [Act.put, qSa, qSz, qSs]))) | (first | (refine wp_seq_shut (fun K hK => ?_)) | (refine wp_text hM (fun Kr hKr => ?_); simp only [inText]) | ((refine hK.out _ _ ?_); clear hK K))))
        ((refine St.call rfl rfl rfl (by kernel_rfl) (fun R hR => ?_); simp only [List.map_toArray, List.map_cons, List.map_nil, Act.eval, getD_lit, qGz, qGs]))
        have C := CB.out _ (hM.wrl (.skip .all) HKX.out HI.out HX.out F0).row (hM.wrl (.skip .all) HKX.out HI.out HX.out F0).prc
        rw [hbx] at C
        refine C.mono ?_
        rintro e w' ⟨rfl, hb⟩; replace hM := hM.below hb; (refine hR.out _ _ (fun _ => ⟨hM.only, nofun⟩) ?_); clear hR R hb C CB; (try simp only [Act.put, qSa, qSz, qSs])
        (repeat (first | ((with_reducible show wpSeq _ _ _ _ _ _ _); first | ((with_reducible refine wpSeq_nil ?_); refine hKr.out _ _ ?_; clear hKr Kr) | ((first | (refine St.copy (v := ?_) (by first | exact .inl rfl | exact .inr rfl) rfl rfl ?_ ?_; rotate_left; (focus ((try simp only [Act.eval, getD_lit, qGz, qGs]); with_reducible rfl))) | (refine St.pure (v := ?_) rfl rfl rfl (fun w => ?_) ?_; rotate_left; (focus (go_simp; all_goals with_reducible rfl))) | ((refine St.loadRow rfl hM rfl rfl rfl rfl (by repeat constructor) (Nat.le_of_ble_eq_true rfl) (by kernel_rfl) ?_); (try simp only [Res.known, List.drop_succ_cons, List.drop_zero, List.take_succ_cons, List.take_zero]))); (try simp only [Act.put, qSa, qSz, qSs]))) | (first | (refine wp_seq_shut (fun K hK => ?_)) | (refine wp_text hM (fun Kr hKr => ?_); simp only [inText]) | ((refine hK.out _ _ ?_); clear hK K))))
        ((refine St.call rfl rfl rfl (by kernel_rfl) (fun R hR => ?_); simp only [List.map_toArray, List.map_cons, List.map_nil, Act.eval, getD_lit, qGz, qGs]))
        have C := CS.out _ β γ (hM.wrl (.skip .all) HKX.out HI.out HX.out F0)
        rw [hbx] at C
        refine C.mono ?_
        rintro e w' ⟨s1, X2, β2, γ2, rfl, hs1, hb2, hk2, hN2⟩
        obtain ⟨va, vc, hv, -⟩ := slV_open hs1
        replace hM := hM.backM (.skip .all) (wrlL_flag _ _ _ _) hN2 (fun y hy => (List.mem_append.1 hy).elim (txL_flag _ _ y) (wrlL_flag _ _ _ _ y))
        (refine hR.out _ _ (fun _ => ⟨hM.only, nofun⟩) ?_); clear hR R hN2 C CS
        replace hM := hM.subM ((List.sublist_append_right _ _).cons_cons _)
        rw [hbx] at hb2
        have HK2 := Lib.hid hk2
        clear hk2 hs1
        simp only
        rw [hv]
        clear hv
        (try simp only [Act.put, qSa, qSz, qSs])
        have HR2 := HR.out
        have HB2 := HB.out
        have HE2 := HE.out
        clear HR HB HE
        simp only at HB2 HE2 HK2
        unfold Pc.birthE at HE2
        rw [HB2] at HE2
        unfold Wd.step at HR2
        simp only at HR2
        by_cases h1 : ak = 1
        · subst h1
          rw [if_pos rfl] at HR2
          have hw2 : Wd.spawn W ap = W2 := congrArg Prod.snd HR2
          have hre : (Pc.spawn W.p ap).1.2 = re := congrArg (fun r => ResD.err r.1) HR2
          have hrn : (Pc.spawn W.p ap).1.1 = rn := congrArg (fun r => ResD.n r.1) HR2
          by_cases hE : Pc.spawnE W.p ap = 0
          · obtain ⟨g1, g2, g3⟩ := Wd.fresh_size HI.out hE (q := szD) rfl
            rw [g2] at hre hrn
            simp only at hre hrn
            rw [hw2] at g1 g3
            have HG := Lib.hid g1
            have gl : decide (rn ≤ W.p.last) = false := decide_eq_false (by omega)
            have hlast : rn = W2.p.last := by rw [g3]; exact hrn.symm
            subst hre
            have HL := Lib.hid hlast
            clear hrn hw2 HR2 hE g1 g2 g3 HB2 HE2 hlast
            (repeat (first | ((with_reducible show wpSeq _ _ _ _ _ _ _); first | ((with_reducible refine wpSeq_nil ?_); refine hKr.out _ _ ?_; clear hKr Kr) | ((first | (refine St.copy (v := ?_) (by first | exact .inl rfl | exact .inr rfl) rfl rfl ?_ ?_; rotate_left; (focus ((try simp only [Act.eval, getD_lit, qGz, qGs]); with_reducible rfl))) | (refine St.pure (v := ?_) rfl rfl rfl (fun w => ?_) ?_; rotate_left; (focus (go_simp; all_goals with_reducible rfl))) | refine St.load rfl hM rfl rfl rfl rfl (by repeat constructor) (by rfl) (by kernel_rfl) ?_ | ((((refine St.storeRow rfl hM rfl rfl rfl rfl rfl (by repeat constructor) (Nat.le_of_ble_eq_true rfl) (Nat.le_of_ble_eq_true rfl) (by kernel_rfl) rfl ?_ ?_); (focus ((intro h; cases h; done))); clear hM; intro w hM)); (try simp only [Res.put, Res.known, Act.eval, Value.cells, getD_lit, qGz, qGs, List.toList_toArray, qSz, qSs, over, Nat.reduceAdd] at hM))); (try simp only [Act.put, qSa, qSz, qSs])) | (((refine St.alloc (ty := 31) (z := .agg #[.int .i64 0, .int .i64 0, .string ⟨#[]⟩, .slice none 0 0]) rfl hM rfl rfl (by kernel_rfl) ?_); clear hM; intro w bk hM); (try simp only [Res.put, Res.known, Act.eval, Value.cells, getD_lit, qGz, qGs, List.toList_toArray, qSz, qSs, over, Nat.reduceAdd] at hM); (try simp only [Act.put, qSa, qSz, qSs]))) | (first | (refine wp_seq_shut (fun K hK => ?_)) | (refine wp_text hM (fun Kr hKr => ?_); simp only [inText]) | refine wp_block ?_ | refine wp_skip ?_ | (first | refine wp_cond_true rfl ?_ | refine wp_cond_false rfl ?_) | ((refine hK.out _ _ ?_); clear hK K))))
            ((refine St.call rfl rfl rfl (by kernel_rfl) (fun R hR => ?_); simp only [List.map_toArray, List.map_cons, List.map_nil, Act.eval, getD_lit, qGz, qGs]))
            have C := wDo_bare (hM.wrl (.skip (.skip .all)) HK2.out IS.out HX.out F0) (by omega) hpid szD szD_ok (by decide) HG.out
            rw [hb2] at C
            refine C.mono ?_
            rintro e w' ⟨⟨a3, c3, rfl⟩, X3, β3, γ3, hb3, hk3, hN⟩
            replace hM := hM.backM (.skip (.skip .all)) (wrlL_flag _ _ _ _) hN (wrlL_flag _ _ _ _)
            (refine hR.out _ _ (fun _ => ⟨hM.only, nofun⟩) ?_); clear hR R hN C
            rw [hb2] at hb3
            have HK3 := Lib.hid hk3
            clear hk3
            (try simp only [Act.put, qSa, qSz, qSs])
            (repeat (first | ((with_reducible show wpSeq _ _ _ _ _ _ _); first | ((with_reducible refine wpSeq_nil ?_); refine hKr.out _ _ ?_; clear hKr Kr) | ((first | (refine St.copy (v := ?_) (by first | exact .inl rfl | exact .inr rfl) rfl rfl ?_ ?_; rotate_left; (focus ((try simp only [Act.eval, getD_lit, qGz, qGs]); with_reducible rfl))) | refine St.inc rfl rfl rfl rfl rfl (by omega) ?_ | (refine St.pure (v := ?_) rfl rfl rfl (fun w => ?_) ?_; rotate_left; (focus (go_simp; all_goals with_reducible rfl))) | refine St.load rfl hM rfl rfl rfl rfl (by repeat constructor) (by rfl) (by kernel_rfl) ?_ | ((((refine St.storeRow rfl hM rfl rfl rfl rfl rfl (by repeat constructor) (Nat.le_of_ble_eq_true rfl) (Nat.le_of_ble_eq_true rfl) (by kernel_rfl) rfl ?_ ?_); (focus ((intro h; cases h; done))); clear hM; intro w hM)); (try simp only [Res.put, Res.known, Act.eval, Value.cells, getD_lit, qGz, qGs, List.toList_toArray, qSz, qSs, over, Nat.reduceAdd] at hM))); (try simp only [Act.put, qSa, qSz, qSs])) | (((refine St.alloc (ty := 31) (z := .agg #[.int .i64 0, .int .i64 0, .string ⟨#[]⟩, .slice none 0 0]) rfl hM rfl rfl (by kernel_rfl) ?_); clear hM; intro w bk hM); (try simp only [Res.put, Res.known, Act.eval, Value.cells, getD_lit, qGz, qGs, List.toList_toArray, qSz, qSs, over, Nat.reduceAdd] at hM); (try simp only [Act.put, qSa, qSz, qSs]))) | (first | (refine wp_seq_shut (fun K hK => ?_)) | (refine wp_text hM (fun Kr hKr => ?_); simp only [inText]) | refine wp_skip ?_ | (refine wp_cond_false rfl ?_) | ((refine hK.out _ _ ?_); clear hK K))))
            replace hM := hM.forget.forget.forget
            rw [HL.out]
            simp only [Exit.then]
            (refine ⟨?_, ?_⟩; (focus (repeat (first | exact ⟨⟨j + 1, X3, β3, γ3, W2, by omega, rfl, rfl, IS.out.more (by omega), HK3.out, hb3, hM⟩, rfl⟩ | apply Exists.intro))); (simp only [getD_lit, qGz, qGs, intOf]; omega))
          · have hsp : Pc.spawn W.p ap = ((0, Pc.spawnE W.p ap), W.p) := if_neg hE
            rw [hsp] at hre
            simp only at hre
            have hq : (re == 0) = false := by rw [beq_eq_false_iff_ne, ← hre]; exact hE
            have hlast : W.p.last = W2.p.last := by rw [← hw2]; unfold Wd.spawn; rw [hsp]
            clear hrn hw2 HR2 hE hsp HB2 HE2 hre
            (repeat (first | ((with_reducible show wpSeq _ _ _ _ _ _ _); first | ((with_reducible refine wpSeq_nil ?_); refine hKr.out _ _ ?_; clear hKr Kr) | ((first | (refine St.copy (v := ?_) (by first | exact .inl rfl | exact .inr rfl) rfl rfl ?_ ?_; rotate_left; (focus ((try simp only [Act.eval, getD_lit, qGz, qGs]); with_reducible rfl))) | refine St.inc rfl rfl rfl rfl rfl (by omega) ?_ | (refine St.pure (v := ?_) rfl rfl rfl (fun w => ?_) ?_; rotate_left; (focus (go_simp; all_goals with_reducible rfl))) | refine St.load rfl hM rfl rfl rfl rfl (by repeat constructor) (by rfl) (by kernel_rfl) ?_ | ((((refine St.storeRow rfl hM rfl rfl rfl rfl rfl (by repeat constructor) (Nat.le_of_ble_eq_true rfl) (Nat.le_of_ble_eq_true rfl) (by kernel_rfl) rfl ?_ ?_); (focus ((intro h; cases h; done))); clear hM; intro w hM)); (try simp only [Res.put, Res.known, Act.eval, Value.cells, getD_lit, qGz, qGs, List.toList_toArray, qSz, qSs, over, Nat.reduceAdd] at hM))); (try simp only [Act.put, qSa, qSz, qSs])) | (((refine St.alloc (ty := 31) (z := .agg #[.int .i64 0, .int .i64 0, .string ⟨#[]⟩, .slice none 0 0]) rfl hM rfl rfl (by kernel_rfl) ?_); clear hM; intro w bk hM); (try simp only [Res.put, Res.known, Act.eval, Value.cells, getD_lit, qGz, qGs, List.toList_toArray, qSz, qSs, over, Nat.reduceAdd] at hM); (try simp only [Act.put, qSa, qSz, qSs]))) | (first | (refine wp_seq_shut (fun K hK => ?_)) | (refine wp_text hM (fun Kr hKr => ?_); simp only [inText]) | refine wp_block ?_ | refine wp_skip ?_ | (first | refine wp_cond_true rfl ?_ | refine wp_cond_false rfl ?_) | ((refine hK.out _ _ ?_); clear hK K))))
            replace hM := hM.forget.forget
            rw [hlast]
            simp only [Exit.then]
            (refine ⟨?_, ?_⟩; (focus (repeat (first | exact ⟨⟨j + 1, X2, β2, γ2, W2, by omega, rfl, rfl, IS.out.more (by omega), HK2.out, hb2, hM⟩, rfl⟩ | apply Exists.intro))); (simp only [getD_lit, qGz, qGs, intOf]; omega))
        have q1 : (ak == 1) = false := beq_eq_false_iff_ne.2 h1
        rw [if_neg h1] at HR2
        by_cases h2 : ak = 2
        · subst h2
          rw [if_pos rfl] at HR2
          have hw2 : (Wd.kill W ap).2 = W2 := congrArg Prod.snd HR2
          have hlast : W.p.last = W2.p.last := by
            rw [← hw2]
            unfold Wd.kill
            split
            · rfl
            · exact (Pc.kill_last _ _).symm
          clear hw2 HR2 HB2 HE2
          (repeat (first | ((with_reducible show wpSeq _ _ _ _ _ _ _); first | ((with_reducible refine wpSeq_nil ?_); refine hKr.out _ _ ?_; clear hKr Kr) | ((first | (refine St.copy (v := ?_) (by first | exact .inl rfl | exact .inr rfl) rfl rfl ?_ ?_; rotate_left; (focus ((try simp only [Act.eval, getD_lit, qGz, qGs]); with_reducible rfl))) | refine St.inc rfl rfl rfl rfl rfl (by omega) ?_ | (refine St.pure (v := ?_) rfl rfl rfl (fun w => ?_) ?_; rotate_left; (focus (go_simp; all_goals with_reducible rfl))) | refine St.load rfl hM rfl rfl rfl rfl (by repeat constructor) (by rfl) (by kernel_rfl) ?_ | ((((refine St.storeRow rfl hM rfl rfl rfl rfl rfl (by repeat constructor) (Nat.le_of_ble_eq_true rfl) (Nat.le_of_ble_eq_true rfl) (by kernel_rfl) rfl ?_ ?_); (focus ((intro h; cases h; done))); clear hM; intro w hM)); (try simp only [Res.put, Res.known, Act.eval, Value.cells, getD_lit, qGz, qGs, List.toList_toArray, qSz, qSs, over, Nat.reduceAdd] at hM))); (try simp only [Act.put, qSa, qSz, qSs])) | (((refine St.alloc (ty := 31) (z := .agg #[.int .i64 0, .int .i64 0, .string ⟨#[]⟩, .slice none 0 0]) rfl hM rfl rfl (by kernel_rfl) ?_); clear hM; intro w bk hM); (try simp only [Res.put, Res.known, Act.eval, Value.cells, getD_lit, qGz, qGs, List.toList_toArray, qSz, qSs, over, Nat.reduceAdd] at hM); (try simp only [Act.put, qSa, qSz, qSs]))) | (first | (refine wp_seq_shut (fun K hK => ?_)) | (refine wp_text hM (fun Kr hKr => ?_); simp only [inText]) | refine wp_block ?_ | refine wp_skip ?_ | (first | refine wp_cond_true rfl ?_ | refine wp_cond_false rfl ?_) | ((refine hK.out _ _ ?_); clear hK K))))
          replace hM := hM.forget.forget
          rw [hlast]
          simp only [Exit.then]
          (refine ⟨?_, ?_⟩; (focus (repeat (first | exact ⟨⟨j + 1, X2, β2, γ2, W2, by omega, rfl, rfl, IS.out.more (by omega), HK2.out, hb2, hM⟩, rfl⟩ | apply Exists.intro))); (simp only [getD_lit, qGz, qGs, intOf]; omega))
        have q2 : (ak == 2) = false := beq_eq_false_iff_ne.2 h2
        rw [if_neg h2] at HR2
        by_cases h3 : ak = 3
        · subst h3
          rw [if_pos rfl] at HR2
          have hw2 : Wd.power W aq = W2 := congrArg Prod.snd HR2
          have hlast : W.p.last = W2.p.last := by rw [← hw2]; rfl
          clear hw2 HR2 HB2 HE2
          (repeat (first | ((with_reducible show wpSeq _ _ _ _ _ _ _); first | ((with_reducible refine wpSeq_nil ?_); refine hKr.out _ _ ?_; clear hKr Kr) | ((first | (refine St.copy (v := ?_) (by first | exact .inl rfl | exact .inr rfl) rfl rfl ?_ ?_; rotate_left; (focus ((try simp only [Act.eval, getD_lit, qGz, qGs]); with_reducible rfl))) | refine St.inc rfl rfl rfl rfl rfl (by omega) ?_ | (refine St.pure (v := ?_) rfl rfl rfl (fun w => ?_) ?_; rotate_left; (focus (go_simp; all_goals with_reducible rfl))) | refine St.load rfl hM rfl rfl rfl rfl (by repeat constructor) (by rfl) (by kernel_rfl) ?_ | ((((refine St.storeRow rfl hM rfl rfl rfl rfl rfl (by repeat constructor) (Nat.le_of_ble_eq_true rfl) (Nat.le_of_ble_eq_true rfl) (by kernel_rfl) rfl ?_ ?_); (focus ((intro h; cases h; done))); clear hM; intro w hM)); (try simp only [Res.put, Res.known, Act.eval, Value.cells, getD_lit, qGz, qGs, List.toList_toArray, qSz, qSs, over, Nat.reduceAdd] at hM))); (try simp only [Act.put, qSa, qSz, qSs])) | (((refine St.alloc (ty := 31) (z := .agg #[.int .i64 0, .int .i64 0, .string ⟨#[]⟩, .slice none 0 0]) rfl hM rfl rfl (by kernel_rfl) ?_); clear hM; intro w bk hM); (try simp only [Res.put, Res.known, Act.eval, Value.cells, getD_lit, qGz, qGs, List.toList_toArray, qSz, qSs, over, Nat.reduceAdd] at hM); (try simp only [Act.put, qSa, qSz, qSs]))) | (first | (refine wp_seq_shut (fun K hK => ?_)) | (refine wp_text hM (fun Kr hKr => ?_); simp only [inText]) | refine wp_block ?_ | refine wp_skip ?_ | (first | refine wp_cond_true rfl ?_ | refine wp_cond_false rfl ?_) | ((refine hK.out _ _ ?_); clear hK K))))
          replace hM := hM.forget.forget
          rw [hlast]
          simp only [Exit.then]
          (refine ⟨?_, ?_⟩; (focus (repeat (first | exact ⟨⟨j + 1, X2, β2, γ2, W2, by omega, rfl, rfl, IS.out.more (by omega), HK2.out, hb2, hM⟩, rfl⟩ | apply Exists.intro))); (simp only [getD_lit, qGz, qGs, intOf]; omega))
        have q3 : (ak == 3) = false := beq_eq_false_iff_ne.2 h3
        rw [if_neg h3] at HR2
        have hlast : W.p.last = W2.p.last := by
          have hw2 := congrArg Prod.snd HR2
          simp only at hw2
          rw [← hw2]
          unfold Wd.do_
          split
          · rfl
          split <;> rfl
        by_cases hB0 : B = 0
        · rw [if_pos hB0] at HE2
          have hd : Wd.do_ W ap ⟨pk, pp, pd, ph, pa, pn, px, py, pb⟩ = (Fs.errR 3, W) := by
            unfold Wd.do_
            rw [HB2, if_pos hB0]
          rw [hd] at HR2
          simp only [Prod.mk.injEq, Fs.errR, ResD.mk.injEq] at HR2
          obtain ⟨⟨rfl, -, -, -⟩, rfl⟩ := HR2
          subst HE2
          clear hB0 hd h1 h2 h3 HB2 hlast
          (repeat (first | ((with_reducible show wpSeq _ _ _ _ _ _ _); first | ((with_reducible refine wpSeq_nil ?_); refine hKr.out _ _ ?_; clear hKr Kr) | ((first | (refine St.copy (v := ?_) (by first | exact .inl rfl | exact .inr rfl) rfl rfl ?_ ?_; rotate_left; (focus ((try simp only [Act.eval, getD_lit, qGz, qGs]); with_reducible rfl))) | (refine St.pure (v := ?_) rfl rfl rfl (fun w => ?_) ?_; rotate_left; (focus (go_simp; all_goals with_reducible rfl))) | refine St.load rfl hM rfl rfl rfl rfl (by repeat constructor) (by rfl) (by kernel_rfl) ?_ | ((((refine St.storeRow rfl hM rfl rfl rfl rfl rfl (by repeat constructor) (Nat.le_of_ble_eq_true rfl) (Nat.le_of_ble_eq_true rfl) (by kernel_rfl) rfl ?_ ?_); (focus ((intro h; cases h; done))); clear hM; intro w hM)); (try simp only [Res.put, Res.known, Act.eval, Value.cells, getD_lit, qGz, qGs, List.toList_toArray, qSz, qSs, over, Nat.reduceAdd] at hM))); (try simp only [Act.put, qSa, qSz, qSs])) | (((refine St.alloc (ty := 31) (z := .agg #[.int .i64 0, .int .i64 0, .string ⟨#[]⟩, .slice none 0 0]) rfl hM rfl rfl (by kernel_rfl) ?_); clear hM; intro w bk hM); (try simp only [Res.put, Res.known, Act.eval, Value.cells, getD_lit, qGz, qGs, List.toList_toArray, qSz, qSs, over, Nat.reduceAdd] at hM); (try simp only [Act.put, qSa, qSz, qSs]))) | (first | (refine wp_seq_shut (fun K hK => ?_)) | (refine wp_text hM (fun Kr hKr => ?_); simp only [inText]) | refine wp_block ?_ | (refine wp_cond_false rfl ?_) | ((refine hK.out _ _ ?_); clear hK K))))
          ((refine St.call rfl rfl rfl (by kernel_rfl) (fun R hR => ?_); simp only [List.map_toArray, List.map_cons, List.map_nil, Act.eval, getD_lit, qGz, qGs]))
          have C := wFiles_any (hM.wrl (.skip (.skip .all)) HK2.out IS.out HX.out F0) (by omega)
          rw [hb2] at C
          refine C.mono ?_
          rintro e w' ⟨sg, rfl, hkg, hN⟩
          replace hM := hM.below hN.to_below
          (refine hR.out _ _ (fun _ => ⟨hM.only, nofun⟩) ?_); clear hR R C hN
          obtain ⟨ah, ch, hvh, -⟩ := slV_open hkg
          rw [hvh]
          clear hkg hvh
          (try simp only [Act.put, qSa, qSz, qSs])
          (repeat (first | ((with_reducible show wpSeq _ _ _ _ _ _ _); first | ((with_reducible refine wpSeq_nil ?_); refine hKr.out _ _ ?_; clear hKr Kr) | ((first | (refine St.copy (v := ?_) (by first | exact .inl rfl | exact .inr rfl) rfl rfl ?_ ?_; rotate_left; (focus ((try simp only [Act.eval, getD_lit, qGz, qGs]); with_reducible rfl))) | refine St.inc rfl rfl rfl rfl rfl (by omega) ?_ | (refine St.pure (v := ?_) rfl rfl rfl (fun w => ?_) ?_; rotate_left; (focus (go_simp; all_goals with_reducible rfl)))); (try simp only [Act.put, qSa, qSz, qSs]))) | (first | (refine wp_text hM (fun Kr hKr => ?_); simp only [inText]) | refine wp_skip ?_ | (refine wp_cond_false rfl ?_) | ((refine hK.out _ _ ?_); clear hK K))))
          replace hM := hM.forget.forget
          simp only [Exit.then]
          (refine ⟨?_, ?_⟩; (focus (repeat (first | exact ⟨⟨j + 1, X2, β2, γ2, W, by omega, rfl, rfl, IS.out.more (by omega), HK2.out, hb2, hM⟩, rfl⟩ | apply Exists.intro))); (simp only [getD_lit, qGz, qGs, intOf]; omega))
        · rw [if_neg hB0] at HE2
          subst HE2
          clear hB0 HR2 h1 h2 h3 HB2
          (repeat (first | ((with_reducible show wpSeq _ _ _ _ _ _ _); first | ((with_reducible refine wpSeq_nil ?_); refine hKr.out _ _ ?_; clear hKr Kr) | ((first | (refine St.copy (v := ?_) (by first | exact .inl rfl | exact .inr rfl) rfl rfl ?_ ?_; rotate_left; (focus ((try simp only [Act.eval, getD_lit, qGz, qGs]); with_reducible rfl))) | refine St.inc rfl rfl rfl rfl rfl (by omega) ?_ | (refine St.pure (v := ?_) rfl rfl rfl (fun w => ?_) ?_; rotate_left; (focus (go_simp; all_goals with_reducible rfl))) | refine St.load rfl hM rfl rfl rfl rfl (by repeat constructor) (by rfl) (by kernel_rfl) ?_ | refine wpSeq_off rfl rfl ?_ | ((((refine St.storeRow rfl hM rfl rfl rfl rfl rfl (by repeat constructor) (Nat.le_of_ble_eq_true rfl) (Nat.le_of_ble_eq_true rfl) (by kernel_rfl) rfl ?_ ?_); (focus ((intro h; cases h; done))); clear hM; intro w hM)); (try simp only [Res.put, Res.known, Act.eval, Value.cells, getD_lit, qGz, qGs, List.toList_toArray, qSz, qSs, over, Nat.reduceAdd] at hM))); (try simp only [Act.put, qSa, qSz, qSs])) | (((refine St.alloc (ty := 31) (z := .agg #[.int .i64 0, .int .i64 0, .string ⟨#[]⟩, .slice none 0 0]) rfl hM rfl rfl (by kernel_rfl) ?_); clear hM; intro w bk hM); (try simp only [Res.put, Res.known, Act.eval, Value.cells, getD_lit, qGz, qGs, List.toList_toArray, qSz, qSs, over, Nat.reduceAdd] at hM); (try simp only [Act.put, qSa, qSz, qSs]))) | (first | (refine wp_seq_shut (fun K hK => ?_)) | (refine wp_text hM (fun Kr hKr => ?_); simp only [inText]) | refine wp_block ?_ | refine wp_skip ?_ | (refine wp_cond_false rfl ?_) | ((refine hK.out _ _ ?_); clear hK K))))
          replace hM := hM.forget.forget
          rw [hlast]
          simp only [Exit.then]
          (refine ⟨?_, ?_⟩; (focus (repeat (first | exact ⟨⟨j + 1, X2, β2, γ2, W2, by omega, rfl, rfl, IS.out.more (by omega), HK2.out, hb2, hM⟩, rfl⟩ | apply Exists.intro))); (simp only [getD_lit, qGz, qGs, intOf]; omega))
      · have k0 : ¬ ((j : Int) < (xs.length : Int)) := by omega
        clear hlt hj
        (repeat (first | ((with_reducible show wpSeq _ _ _ _ _ _ _); first | ((with_reducible refine wpSeq_nil ?_); refine hKr.out _ _ ?_; clear hKr Kr) | ((first | (refine St.copy (v := ?_) (by exact .inl rfl) rfl rfl ?_ ?_; rotate_left; (focus ((try simp only [Act.eval, getD_lit, qGz, qGs]); with_reducible rfl))) | (refine St.pure (v := ?_) rfl rfl rfl (fun w => ?_) ?_; rotate_left; (focus (go_simp; all_goals with_reducible rfl)))); (try simp only [Act.put, qSa, qSz, qSs]))) | (first | (refine wp_seq_shut (fun K hK => ?_)) | (refine wp_text hM (fun Kr hKr => ?_); simp only [inText]) | (refine wp_cond_false rfl ?_) | (refine wp_exit ?_; simp only [Exit.then, Exit.inBlock, if_true, if_false, reduceCtorEq, Nat.reduceEqDiff, Nat.succ_ne_zero]) | ((first | refine hK.out _ _ ?_ | (clear hK K; refine hK.out _ _ ?_)); clear hK K))))
        ((refine St.call rfl rfl rfl (by kernel_rfl) (fun R hR => ?_); simp only [List.map_toArray, List.map_cons, List.map_nil, Act.eval, getD_lit, qGz, qGs]))
        refine (awake25_any _ (hM.mx HX.out F0)).mono ?_
        rintro e w' ⟨rfl, hb⟩; replace hM := hM.below hb; (refine hR.out _ _ (fun _ => ⟨hM.only, nofun⟩) ?_); clear hR R hb; (try simp only [Act.put, qSa, qSz, qSs])
        (repeat (first | ((with_reducible show wpSeq _ _ _ _ _ _ _); first | ((with_reducible refine wpSeq_nil ?_); refine hKr.out _ _ ?_; clear hKr Kr) | (((refine St.copy (v := ?_) (by exact .inr rfl) rfl rfl ?_ ?_; rotate_left; (focus ((try simp only [Act.eval, getD_lit, qGz, qGs]); with_reducible rfl)))); (try simp only [Act.put, qSa, qSz, qSs]))) | (((refine hK.out _ _ ?_); clear hK K))))
        ((refine wp_ret ?_; (try simp only [Exit.then, Exit.inBlock]); refine St.ret hM rfl (by repeat (first | exact Outs.nil | apply Outs.tmp rfl)) rfl ?_))
        exact ⟨rfl, hM.to_below⟩
end Go.Proofs.YtcicjklhbnipcaaGreatDoor
