/-
  Texts laid one behind the other: what SurZ asks for.
-/
import Derived.Test.YtcicjklhbnipcaaGreatDoorPkSuE
import Derived.KernelRfl
namespace Go.Proofs.YtcicjklhbnipcaaGreatDoor
set_option linter.unusedVariables false
set_option linter.unusedSimpArgs false
open Go.RowKit Go.Maps
/-- The first 'k' and the last 'k' have changed places. -/
def RevK (xs ys : List FileD) (k : Nat) : Prop := ys.length = xs.length ∧ ∀ i, i < xs.length → ys[i]? = if i < k ∨ xs.length - 1 - k < i then xs[xs.length - 1 - i]? else xs[i]?
theorem revK_zero (xs : List FileD) : RevK xs xs 0 := ⟨rfl, fun i hi => by rw [if_neg (by omega)]⟩
theorem revK_all {xs ys : List FileD} {k : Nat} (h : RevK xs ys k) (hk : xs.length ≤ 2 * k + 1) : ys = xs.reverse := by
  obtain ⟨h1, h2⟩ := h
  refine List.ext_getElem? fun i => ?_
  by_cases hi : i < xs.length
  · rw [h2 i hi, List.getElem?_reverse hi]
    split
    · rfl
    · rw [show xs.length - 1 - i = i by omega]
  · rw [List.getElem?_eq_none (by omega), List.getElem?_eq_none (by rw [List.length_reverse]; omega)]
theorem revK_step {xs ys : List FileD} {k m : Nat} {a b : FileD} (h : RevK xs ys k) (hm : m = xs.length - 1 - k) (hkm : k < m) (ha : ys[k]? = some a) (hb : ys[m]? = some b) : RevK xs ((ys.set k b).set m a) (k + 1) := by
  obtain ⟨h1, h2⟩ := h
  refine ⟨by simp [h1], fun i hi => ?_⟩
  have ga := h2 k (by omega)
  rw [if_neg (by omega), ha] at ga
  have gb := h2 m (by omega)
  rw [if_neg (by omega), hb] at gb
  by_cases e1 : i = m
  · subst e1
    rw [List.getElem?_set_self (by simp; omega), if_pos (by omega), ga]
    exact congrArg (fun z => xs[z]?) (by omega)
  · rw [List.getElem?_set_ne (fun e => e1 e.symm)]
    by_cases e2 : i = k
    · subst e2
      rw [List.getElem?_set_self (by omega), if_pos (by omega), gb]
      exact congrArg (fun z => xs[z]?) (by omega)
    · rw [List.getElem?_set_ne (fun e => e2 e.symm), h2 i hi]
      by_cases c : i < k ∨ xs.length - 1 - k < i
      · rw [if_pos c, if_pos (by omega)]
      · rw [if_neg c, if_neg (by omega)]
theorem file_at {xs : List FileD} {k : Nat} {f : FileD} (h : xs[k]? = some f) : ((xs.flatMap FileD.cells).drop (k * 3)).take 3 = [.string f.path, .bool f.dir, .string f.data] := by
  induction xs generalizing k with
  | nil => simp at h
  | cons p r ih =>
    cases k with
    | zero =>
      rw [List.getElem?_cons_zero] at h
      cases h
      rfl
    | succ k =>
      rw [List.getElem?_cons_succ] at h
      have := ih h
      rw [show (k + 1) * 3 = k * 3 + 3 by omega]
      exact this
theorem over_file {xs : List FileD} {k : Nat} (f : FileD) (h : k < xs.length) : over (xs.flatMap FileD.cells) (k * 3) [.string f.path, .bool f.dir, .string f.data] = (xs.set k f).flatMap FileD.cells := by
  induction xs generalizing k with
  | nil => simp at h
  | cons p r ih =>
    cases k with
    | zero => rfl
    | succ k =>
      rw [List.length_cons] at h
      have := ih (k := k) (by omega)
      rw [show (k + 1) * 3 = k * 3 + 3 by omega, qSs]
      exact congrArg (fun z => p.cells ++ z) this
section
variable {N : Nat} {X : DskX} {x y : FsX} {β γ : Int → Nat × Nat} {D : DskD} {d : FsD} {w w' w0 : World} {F : List Nat} {L L' M M' : List Ent} {b f g n : Nat} {s : Option (Nat × Nat)}
theorem cells_len : ∀ l : List FileD, (l.flatMap FileD.cells).length = l.length * 3
  | [] => rfl
  | p :: r => by rw [List.flatMap_cons, List.length_append, cells_len r, List.length_cons]; simp [FileD.cells]; omega
theorem fileOK_set {xs ys : List FileD} (h : FileOK s xs) (hl : ys.length = xs.length) : FileOK s ys := by
  refine ⟨cells_len ys, ?_⟩
  rw [hl]
  exact h.2
set_option maxHeartbeats 16000000 in
set_option maxRecDepth 100000 in
theorem revF_any {xs : List FileD} (hk : FileOK s xs) (hl : xs.length ≤ 1000000) (hA : At (fileL s xs) w0) : Calls Tryz.prog 129 #[slV s xs.length] w0 fun e w' => e = .returned (.tuple #[]) ∧ St w0 (keysOf (fileL s xs)) w' (fileL s xs.reverse) := by
  have hM := hA.st
  obtain ⟨F, hF⟩ : ∃ F, keysOf (fileL s xs) = F := ⟨_, rfl⟩
  rw [hF] at hM ⊢
  have HK := Lib.hid hk
  clear hF hA hk
  rcases s with _ | ⟨g, cap⟩
  · have h0 : xs = [] := List.eq_nil_of_length_eq_zero HK.out.2
    subst h0
    simp only [slV]
    go_enter Tryz.func129, Tryz.ntmps129
    (repeat (first | ((with_reducible show wpSeq _ _ _ _ _ _ _); first | ((with_reducible refine wpSeq_nil ?_); refine hKr.out _ _ ?_; clear hKr Kr) | ((first | (refine St.copy (v := ?_) (by first | exact .inl rfl | exact .inr rfl) rfl rfl ?_ ?_; rotate_left; (focus ((try simp only [Act.eval, getD_lit, qGz, qGs]); with_reducible rfl))) | (refine St.pure (v := ?_) rfl rfl rfl (fun w => ?_) ?_; rotate_left; (focus (go_simp; all_goals with_reducible rfl)))); (try simp only [Act.put, qSa, qSz, qSs]))) | (first | (refine wp_seq_shut (fun K hK => ?_)) | (refine wp_text hM (fun Kr hKr => ?_); simp only [inText]) | refine wp_block ?_ | ((refine hK.out _ _ ?_); clear hK K))))
    refine wp_loop_rounds 1 ?_
    (refine rounds_shut (fun K hK => ?_))
    (repeat (first | ((with_reducible show wpSeq _ _ _ _ _ _ _); first | ((with_reducible refine wpSeq_nil ?_); refine hKr.out _ _ ?_; clear hKr Kr) | ((first | (refine St.copy (v := ?_) (by exact .inl rfl) rfl rfl ?_ ?_; rotate_left; (focus ((try simp only [Act.eval, getD_lit, qGz, qGs]); with_reducible rfl))) | (refine St.pure (v := ?_) rfl rfl rfl (fun w => ?_) ?_; rotate_left; (focus (go_simp; all_goals with_reducible rfl)))); (try simp only [Act.put, qSa, qSz, qSs]))) | (first | (refine wp_seq_shut (fun K hK => ?_)) | (refine wp_text hM (fun Kr hKr => ?_); simp only [inText]) | (refine wp_cond_false rfl ?_) | (refine wp_exit ?_; simp only [Exit.then, Exit.inBlock, if_true, if_false, reduceCtorEq, Nat.reduceEqDiff, Nat.succ_ne_zero]) | ((refine hK.out _ _ ?_); clear hK K))))
    ((refine St.fin hM rfl (by repeat (exact Outs.nil)) rfl ?_))
    exact ⟨rfl, hM⟩
  · simp only [slV, fileL, slL] at hM ⊢
    by_cases hz : xs.length = 0
    · have h0 : xs = [] := List.eq_nil_of_length_eq_zero hz
      subst h0
      simp only [List.length_nil]
      go_enter Tryz.func129, Tryz.ntmps129
      (repeat (first | ((with_reducible show wpSeq _ _ _ _ _ _ _); first | ((with_reducible refine wpSeq_nil ?_); refine hKr.out _ _ ?_; clear hKr Kr) | ((first | (refine St.copy (v := ?_) (by first | exact .inl rfl | exact .inr rfl) rfl rfl ?_ ?_; rotate_left; (focus ((try simp only [Act.eval, getD_lit, qGz, qGs]); with_reducible rfl))) | (refine St.pure (v := ?_) rfl rfl rfl (fun w => ?_) ?_; rotate_left; (focus (go_simp; all_goals with_reducible rfl)))); (try simp only [Act.put, qSa, qSz, qSs]))) | (first | (refine wp_seq_shut (fun K hK => ?_)) | (refine wp_text hM (fun Kr hKr => ?_); simp only [inText]) | refine wp_block ?_ | ((refine hK.out _ _ ?_); clear hK K))))
      refine wp_loop_rounds 1 ?_
      (refine rounds_shut (fun K hK => ?_))
      (repeat (first | ((with_reducible show wpSeq _ _ _ _ _ _ _); first | ((with_reducible refine wpSeq_nil ?_); refine hKr.out _ _ ?_; clear hKr Kr) | ((first | (refine St.copy (v := ?_) (by exact .inl rfl) rfl rfl ?_ ?_; rotate_left; (focus ((try simp only [Act.eval, getD_lit, qGz, qGs]); with_reducible rfl))) | (refine St.pure (v := ?_) rfl rfl rfl (fun w => ?_) ?_; rotate_left; (focus (go_simp; all_goals with_reducible rfl)))); (try simp only [Act.put, qSa, qSz, qSs]))) | (first | (refine wp_seq_shut (fun K hK => ?_)) | (refine wp_text hM (fun Kr hKr => ?_); simp only [inText]) | (refine wp_cond_false rfl ?_) | (refine wp_exit ?_; simp only [Exit.then, Exit.inBlock, if_true, if_false, reduceCtorEq, Nat.reduceEqDiff, Nat.succ_ne_zero]) | ((refine hK.out _ _ ?_); clear hK K))))
      ((refine St.fin hM rfl (by repeat (exact Outs.nil)) rfl ?_))
      exact ⟨rfl, hM⟩
    have hw1 : IntKind.i64.wrap ((xs.length : Int) - 1) = ((xs.length - 1 : Nat) : Int) := by rw [wrap_in _ (by omega)]; omega
    go_enter Tryz.func129, Tryz.ntmps129
    (repeat (first | ((with_reducible show wpSeq _ _ _ _ _ _ _); first | ((with_reducible refine wpSeq_nil ?_); refine hKr.out _ _ ?_; clear hKr Kr) | ((first | (refine St.copy (v := ?_) (by first | exact .inl rfl | exact .inr rfl) rfl rfl ?_ ?_; rotate_left; (focus ((try simp only [Act.eval, getD_lit, qGz, qGs]); with_reducible rfl))) | (refine St.pure (v := ?_) rfl rfl rfl (fun w => ?_) ?_; rotate_left; (focus (go_simp; all_goals with_reducible rfl)))); (try simp only [Act.put, qSa, qSz, qSs]))) | (first | (refine wp_seq_shut (fun K hK => ?_)) | (refine wp_text hM (fun Kr hKr => ?_); simp only [inText]) | refine wp_block ?_ | ((refine hK.out _ _ ?_); clear hK K))))
    go_loopw [2, 3] (fun i j wr => ∃ (k m : Nat) (ys : List FileD), i = .int .i64 k ∧ j = .int .i64 m ∧ m = xs.length - 1 - k ∧ k ≤ m + 1 ∧ RevK xs ys k ∧ St w0 F wr [(g, true, .pre (ys.flatMap FileD.cells) 112 (cap * 3))]) (fun i _ _ => xs.length - (intOf i).toNat)
    case atStart => exact ⟨0, xs.length - 1, xs, rfl, by simp [hw1], by omega, by omega, revK_zero xs, hM⟩
    case round =>
      clear hM
      obtain ⟨k, m, ys, rfl, rfl, hm, hkm, hrev, hM⟩ := hrel
      have HV := Lib.hid hrev
      clear hrev
      by_cases hlt : k < m
      · have hyl := HV.out.1
        obtain ⟨a, ha⟩ := get_at (xs := ys) (k := k) (by omega)
        obtain ⟨b, hb⟩ := get_at (xs := ys) (k := m) (by omega)
        have hra := file_at ha
        have hrb := file_at hb
        have HST := Lib.hid (revK_step HV.out hm hlt ha hb)
        have oa := over_file (xs := ys) (k := k) b (by omega)
        have ob := over_file (xs := ys.set k b) (k := m) a (by rw [List.length_set]; omega)
        have hca : k * 3 + 3 ≤ (ys.flatMap FileD.cells).length := by rw [cells_len]; omega
        have hcb : m * 3 + 3 ≤ (ys.flatMap FileD.cells).length := by rw [cells_len]; omega
        have hcc : m * 3 + 3 ≤ ((ys.set k b).flatMap FileD.cells).length := by rw [cells_len, List.length_set]; omega
        have k1 : (k : Int) < (m : Int) := by omega
        have b1 : (k : Int) < (xs.length : Int) := by omega
        have b2 : (m : Int) < (xs.length : Int) := by omega
        have HM := Lib.hid hm
        clear hyl ha hb hm hkm
        (repeat (first | ((with_reducible show wpSeq _ _ _ _ _ _ _); first | ((with_reducible refine wpSeq_nil ?_); refine hKr.out _ _ ?_; clear hKr Kr) | ((first | (refine St.copy (v := ?_) (by exact .inl rfl) rfl rfl ?_ ?_; rotate_left; (focus ((try simp only [Act.eval, getD_lit, qGz, qGs]); with_reducible rfl))) | (refine St.pure (v := ?_) rfl rfl rfl (fun w => ?_) ?_; rotate_left; (focus (go_simp; all_goals with_reducible rfl)))); (try simp only [Act.put, qSa, qSz, qSs]))) | (first | (refine wp_seq_shut (fun K hK => ?_)) | (refine wp_text hM (fun Kr hKr => ?_); simp only [inText]) | refine wp_block ?_ | refine wp_skip ?_ | (refine wp_cond_true rfl ?_) | ((refine hK.out _ _ ?_); clear hK K)) | ((refine wp_drawn (id := 3) hM (Sub.all _) [7] [(0, 0), (1, 0), (2, 0), (3, 0), (4, 0), (5, 0), (6, 0), (7, 1), (8, 0), (9, 2), (10, 2), (11, 2), (12, 3), (13, 3), (14, 3), (15, 3)] (by kernel_rfl) (by kernel_rfl) ?_); (clear hM; intro w hM Kr hKr); simp only [opsOf, qGz, qGs])))
        refine St.loadRow1 rfl rfl rfl rfl (by repeat constructor) (by exact hcb) (by kernel_rfl) ?_
        simp only [Res.known]
        rw [hrb]
        (try simp only [Act.put, qSa, qSz, qSs])
        (repeat (((with_reducible show wpSeq _ _ _ _ _ _ _); ((first | (refine St.copy (v := ?_) (by exact .inl rfl) rfl rfl ?_ ?_; rotate_left; (focus ((try simp only [Act.eval, getD_lit, qGz, qGs]); with_reducible rfl))) | (refine St.pure (v := ?_) rfl rfl rfl (fun w => ?_) ?_; rotate_left; (focus (go_simp; all_goals with_reducible rfl)))); (try simp only [Act.put, qSa, qSz, qSs])))))
        refine St.loadRow rfl hM rfl rfl rfl rfl (by repeat constructor) (by exact hca) (by kernel_rfl) ?_
        simp only [Res.known]
        rw [hra]
        (try simp only [Act.put, qSa, qSz, qSs])
        (repeat (((with_reducible show wpSeq _ _ _ _ _ _ _); (((refine St.pure (v := ?_) rfl rfl rfl (fun w => ?_) ?_; rotate_left; (focus (go_simp; all_goals with_reducible rfl)))); (try simp only [Act.put, qSa, qSz, qSs])))))
        refine St.storeRow (vs := #[.string b.path, .bool b.dir, .string b.data]) rfl hM rfl rfl rfl rfl rfl Upd.head (by exact hca) (Nat.le_of_ble_eq_true rfl) (by kernel_rfl) rfl (fun h => by cases h) ?_
        clear hM; intro w hM
        simp only [Res.put, Res.known] at hM
        rw [oa] at hM
        (try simp only [Act.put, qSa, qSz, qSs])
        (repeat (((with_reducible show wpSeq _ _ _ _ _ _ _); (((refine St.pure (v := ?_) rfl rfl rfl (fun w => ?_) ?_; rotate_left; (focus (go_simp; all_goals with_reducible rfl)))); (try simp only [Act.put, qSa, qSz, qSs])))))
        refine St.storeRow (vs := #[.string a.path, .bool a.dir, .string a.data]) rfl hM rfl rfl rfl rfl rfl Upd.head (by exact hcc) (Nat.le_of_ble_eq_true rfl) (by kernel_rfl) rfl (fun h => by cases h) ?_
        clear hM; intro w hM
        simp only [Res.put, Res.known] at hM
        rw [ob] at hM
        have hwm : IntKind.i64.wrap ((m : Int) - 1) = ((m - 1 : Nat) : Int) := by rw [wrap_in _ (by omega)]; omega
        (try simp only [Act.put, qSa, qSz, qSs])
        (repeat (first | ((with_reducible show wpSeq _ _ _ _ _ _ _); first | ((with_reducible refine wpSeq_nil ?_); refine hKr.out _ _ ?_; clear hKr Kr) | ((first | (refine St.copy (v := ?_) (by first | exact .inl rfl | exact .inr rfl) rfl rfl ?_ ?_; rotate_left; (focus ((try simp only [Act.eval, getD_lit, qGz, qGs]); with_reducible rfl))) | refine St.inc rfl rfl rfl rfl rfl (by omega) ?_ | (refine St.pure (v := ?_) rfl rfl rfl (fun w => ?_) ?_; rotate_left; (focus (go_simp; all_goals with_reducible rfl)))); (try simp only [Act.put, qSa, qSz, qSs]))) | (first | (refine wp_text hM (fun Kr hKr => ?_); simp only [inText]) | ((refine hK.out _ _ ?_); clear hK K))))
        (refine ⟨?_, ?_⟩; (focus (repeat (first | exact ⟨⟨k + 1, m - 1, _, rfl, rfl, by have := HM.out; omega, by omega, HST.out, hM⟩, rfl⟩ | apply Exists.intro))); (simp only [getD_lit, qGz, qGs, intOf]; omega))
      · have k0 : ¬ ((k : Int) < (m : Int)) := by omega
        have e := revK_all HV.out (by omega)
        subst e
        clear hm hkm hlt
        (repeat (first | ((with_reducible show wpSeq _ _ _ _ _ _ _); first | ((with_reducible refine wpSeq_nil ?_); refine hKr.out _ _ ?_; clear hKr Kr) | ((first | (refine St.copy (v := ?_) (by exact .inl rfl) rfl rfl ?_ ?_; rotate_left; (focus ((try simp only [Act.eval, getD_lit, qGz, qGs]); with_reducible rfl))) | (refine St.pure (v := ?_) rfl rfl rfl (fun w => ?_) ?_; rotate_left; (focus (go_simp; all_goals with_reducible rfl)))); (try simp only [Act.put, qSa, qSz, qSs]))) | (first | (refine wp_seq_shut (fun K hK => ?_)) | (refine wp_text hM (fun Kr hKr => ?_); simp only [inText]) | (refine wp_cond_false rfl ?_) | (refine wp_exit ?_; simp only [Exit.then, Exit.inBlock, if_true, if_false, reduceCtorEq, Nat.reduceEqDiff, Nat.succ_ne_zero]) | ((refine hK.out _ _ ?_); clear hK K))))
        ((refine St.fin hM rfl (by repeat (exact Outs.nil)) rfl ?_))
        exact ⟨rfl, hM⟩
set_option maxHeartbeats 4000000 in
set_option maxRecDepth 100000 in
/-- A logged operation is done again. -/
theorem again_do (hA : FsAt N x β d w) (hN : N ≤ 999999990) {o : Int} (ho : Fits o) {p : OpD} (hp : p.Ok) {ob qb : Nat} (h1 : (Res.cells [.int .i64 o] 3).holds w.heap[ob]?) (h2 : (Res.cells p.cells 34).holds w.heap[qb]?) :
    Calls Tryz.prog 83 #[.pointer (some ⟨x.f, 0, none⟩), .pointer (some ⟨ob, 0, none⟩), .pointer (some ⟨qb, 0, none⟩)] w fun e w' => e = .returned (.tuple #[]) ∧ ∃ β', St w (keysOf (fsL x β d)) w' (fsL x β' (Fs.do_ d o p).2) := by
  have hM := St.start w []
  have c1 : w.cell? ⟨ob, 0, none⟩ = some (.int .i64 o) := Res.cell h1 rfl
  have c2 : w.rangeAt qb 0 p.cells := Res.range (q := 0) (n := p.cells.length) h2 (by show 0 + p.cells.length ≤ p.cells.length; omega)
  have C := Lib.hid (fDo_any hA hN ho p hp)
  generalize Fs.do_ d o p = G at *
  obtain ⟨⟨er, n, da, ns⟩, d'⟩ := G
  clear h1 h2 hp ho
  obtain ⟨pk, pp, pd, ph, pa, pn, px, py, pb⟩ := p
  simp only [OpD.cells] at C c2
  go_enter Tryz.func83, Tryz.ntmps83
  (repeat (first | ((with_reducible show wpSeq _ _ _ _ _ _ _); ((first | (refine St.copy (v := ?_) (by exact .inl rfl) rfl rfl ?_ ?_; rotate_left; (focus ((try simp only [Act.eval, getD_lit, qGz, qGs]); with_reducible rfl))) | refine St.loadF rfl rfl rfl rfl rfl (hM.old (by assumption)) (by kernel_rfl) ?_ | refine St.loadRowF rfl rfl rfl rfl rfl (hM.oldRow (by assumption)) (by kernel_rfl) ?_); (try simp only [Act.put, qSa, qSz, qSs]))) | ((refine wp_text hM (fun Kr hKr => ?_); simp only [inText]))))
  (refine St.call3 rfl rfl (by kernel_rfl) (fun R hR => ?_); simp only [List.map_toArray, List.map_cons, List.map_nil, Act.eval, getD_lit, qGz, qGs])
  refine C.out.mono ?_
  rintro e w' ⟨s, β', rfl, hs, hN2⟩
  refine hR.out _ _ ?_; clear hR R hM C
  have hM := hN2
  clear hN2
  (try simp only [Act.put, qSa, qSz, qSs])
  (repeat (((with_reducible show wpSeq _ _ _ _ _ _ _); ((with_reducible refine wpSeq_nil ?_); refine hKr.out _ _ ?_; clear hKr Kr))))
  ((refine St.fin hM rfl (by repeat (exact Outs.nil)) rfl ?_))
  exact ⟨rfl, β', hM.subM (List.sublist_append_right _ _)⟩
set_option maxHeartbeats 4000000 in
set_option maxRecDepth 100000 in
/-- An exit is done again. -/
theorem again_exit (hA : FsAt N x β d w) (hN : N ≤ 999999980) {o : Int} (ho : Fits o) {ob : Nat} (h1 : (Res.cells [.int .i64 o] 3).holds w.heap[ob]?) :
    Calls Tryz.prog 90 #[.pointer (some ⟨x.f, 0, none⟩), .pointer (some ⟨ob, 0, none⟩)] w fun e w' => e = .returned (.tuple #[]) ∧ ∃ β', St w (keysOf (fsL x β d)) w' (fsL x β' (Fs.exit d o)) := by
  have hM := St.start w []
  have c1 : w.cell? ⟨ob, 0, none⟩ = some (.int .i64 o) := Res.cell h1 rfl
  have C := Lib.hid (fExit_any hA hN ho)
  generalize Fs.exit d o = d' at *
  clear h1 ho
  go_enter Tryz.func90, Tryz.ntmps90
  (repeat (first | ((with_reducible show wpSeq _ _ _ _ _ _ _); ((first | (refine St.copy (v := ?_) (by exact .inl rfl) rfl rfl ?_ ?_; rotate_left; (focus ((try simp only [Act.eval, getD_lit, qGz, qGs]); with_reducible rfl))) | refine St.loadF rfl rfl rfl rfl rfl (hM.old (by assumption)) (by kernel_rfl) ?_); (try simp only [Act.put, qSa, qSz, qSs]))) | ((refine wp_text hM (fun Kr hKr => ?_); simp only [inText]))))
  (refine St.call3 rfl rfl (by kernel_rfl) (fun R hR => ?_); simp only [List.map_toArray, List.map_cons, List.map_nil, Act.eval, getD_lit, qGz, qGs])
  refine C.out.mono ?_
  rintro e w' ⟨rfl, ⟨β', hN2⟩, -⟩
  refine hR.out _ _ ?_; clear hR R hM C
  have hM := hN2
  clear hN2
  (try simp only [Act.put, qSa, qSz, qSs])
  (repeat (((with_reducible show wpSeq _ _ _ _ _ _ _); ((with_reducible refine wpSeq_nil ?_); refine hKr.out _ _ ?_; clear hKr Kr))))
  ((refine St.fin hM rfl (by repeat (exact Outs.nil)) rfl ?_))
  exact ⟨rfl, β', hM⟩
end
end Go.Proofs.YtcicjklhbnipcaaGreatDoor
namespace Go.Proofs.YtcicjklhbnipcaaGreatDoor
set_option linter.unusedVariables false
set_option linter.unusedSimpArgs false
open Go.RowKit Go.Maps
section
variable {w : World} {s s1 s2 : Option (Nat × Nat)} {xs : List FileD}
theorem file_row {g cap : Nat} (hA : At (fileL (some (g, cap)) xs) w) {k : Nat} {f : FileD} (hf : xs[k]? = some f) : w.rangeAt g (k * 3) [.string f.path, .bool f.dir, .string f.data] := by
  have hk := (List.getElem?_eq_some_iff.1 hf).1
  have := Res.range (q := k * 3) (n := 3) (hA.has (g, true, .pre (xs.flatMap FileD.cells) 112 (cap * 3)) (.head _)) (by show k * 3 + 3 ≤ (xs.flatMap FileD.cells).length; rw [cells_len]; omega)
  rw [show (Res.pre (xs.flatMap FileD.cells) 112 (cap * 3)).known = xs.flatMap FileD.cells from rfl, file_at hf] at this
  exact this
set_option maxHeartbeats 8000000 in
set_option maxRecDepth 100000 in
theorem sameF_any (hk1 : FileOK s1 xs) (hk2 : FileOK s2 xs) (hl : xs.length ≤ 1000000) (hA1 : At (fileL s1 xs) w) (hA2 : At (fileL s2 xs) w) :
    Calls Tryz.prog 32 #[slV s1 xs.length, slV s2 xs.length] w fun e w' => e = .returned (.bool true) ∧ Below w.heap.size w w' := by
  have hM := St.start w []
  obtain ⟨a1, c1, hv1, ha1⟩ := slV_open hk1
  obtain ⟨a2, c2, hv2, ha2⟩ := slV_open hk2
  rw [hv1, hv2]
  have H1 := Lib.hid hA1
  have H2 := Lib.hid hA2
  have K1 := Lib.hid hk1
  have K2 := Lib.hid hk2
  clear hk1 hk2 hA1 hA2 hv1 hv2
  go_enter Tryz.func32, Tryz.ntmps32
  (repeat (first | ((with_reducible show wpSeq _ _ _ _ _ _ _); first | ((with_reducible refine wpSeq_nil ?_); refine hKr.out _ _ ?_; clear hKr Kr) | ((first | (refine St.copy (v := ?_) (by first | exact .inl rfl | exact .inr rfl) rfl rfl ?_ ?_; rotate_left; (focus ((try simp only [Act.eval, getD_lit, qGz, qGs]); with_reducible rfl))) | (refine St.pure (v := ?_) rfl rfl rfl (fun w => ?_) ?_; rotate_left; (focus (go_simp; all_goals with_reducible rfl)))); (try simp only [Act.put, qSa, qSz, qSs]))) | (first | (refine wp_seq_shut (fun K hK => ?_)) | (refine wp_text hM (fun Kr hKr => ?_); simp only [inText]) | refine wp_block ?_ | refine wp_skip ?_ | (refine wp_cond_false rfl ?_) | ((refine hK.out _ _ ?_); clear hK K))))
  go_loopw [5] (fun i wr => ∃ k : Nat, k ≤ xs.length ∧ i = .int .i64 k ∧ St w [] wr []) (fun i _ => xs.length - (intOf i).toNat)
  case atStart => exact ⟨0, by omega, rfl, hM⟩
  case round =>
    clear hM
    obtain ⟨k, hk, rfl, hM⟩ := hrel
    by_cases hlt : k < xs.length
    · obtain ⟨f, hf⟩ := get_at hlt
      rcases s1 with _ | ⟨g1, cap1⟩
      · exact absurd K1.out.2 (by omega)
      rcases s2 with _ | ⟨g2, cap2⟩
      · exact absurd K2.out.2 (by omega)
      obtain ⟨rfl, rfl⟩ := ha1 g1 cap1 rfl
      obtain ⟨rfl, rfl⟩ := ha2 g2 cap2 rfl
      have r1 := file_row H1.out hf
      have r2 := file_row H2.out hf
      have k1 : (k : Int) < (xs.length : Int) := by omega
      clear hf
      obtain ⟨fp, fd, ft⟩ := f
      simp only at r1 r2
      (repeat (first | ((with_reducible show wpSeq _ _ _ _ _ _ _); first | ((with_reducible refine wpSeq_nil ?_); refine hKr.out _ _ ?_; clear hKr Kr) | ((first | (refine St.copy (v := ?_) (by first | exact .inl rfl | exact .inr rfl) rfl rfl ?_ ?_; rotate_left; (focus ((try simp only [Act.eval, getD_lit, qGz, qGs]); with_reducible rfl))) | refine St.inc rfl rfl rfl rfl rfl (by omega) ?_ | (refine St.pure (v := ?_) rfl rfl rfl (fun w => ?_) ?_; rotate_left; (focus (go_simp; all_goals with_reducible rfl))) | refine St.loadRowF rfl rfl rfl rfl rfl (hM.oldRow (by assumption)) (by kernel_rfl) ?_ | refine St.loadRowF1 rfl rfl rfl rfl (fun w' hS => hS.oldRow (by assumption)) (by kernel_rfl) ?_); (try simp only [Act.put, qSa, qSz, qSs]))) | (first | (refine wp_seq_shut (fun K hK => ?_)) | (refine wp_text hM (fun Kr hKr => ?_); simp only [inText]) | refine wp_block ?_ | refine wp_skip ?_ | (first | refine wp_cond_true rfl ?_ | refine wp_cond_false rfl ?_) | ((refine hK.out _ _ ?_); clear hK K)) | ((refine wp_drawn (id := 6) hM (Sub.all _) [3] [(0, 0), (1, 0), (2, 0), (3, 1), (4, 0), (5, 2), (6, 2), (7, 2), (8, 3)] (by kernel_rfl) (by kernel_rfl) ?_); (clear hM; intro w hM Kr hKr); simp only [opsOf, qGz, qGs])))
      simp only [Exit.then]
      (refine ⟨?_, ?_⟩; (focus (repeat (first | exact ⟨⟨k + 1, by omega, rfl, hM⟩, rfl⟩ | apply Exists.intro))); (simp only [getD_lit, qGz, qGs, intOf]; omega))
    · have k0 : ¬ ((k : Int) < (xs.length : Int)) := by omega
      clear hlt hk
      (repeat (first | ((with_reducible show wpSeq _ _ _ _ _ _ _); first | ((with_reducible refine wpSeq_nil ?_); refine hKr.out _ _ ?_; clear hKr Kr) | ((first | (refine St.copy (v := ?_) (by first | exact .inl rfl | exact .inr rfl) rfl rfl ?_ ?_; rotate_left; (focus ((try simp only [Act.eval, getD_lit, qGz, qGs]); with_reducible rfl))) | (refine St.pure (v := ?_) rfl rfl rfl (fun w => ?_) ?_; rotate_left; (focus (go_simp; all_goals with_reducible rfl))) | refine wpSeq_off rfl rfl ?_); (try simp only [Act.put, qSa, qSz, qSs]))) | (first | (refine wp_seq_shut (fun K hK => ?_)) | (refine wp_text hM (fun Kr hKr => ?_); simp only [inText]) | (refine wp_cond_false rfl ?_) | (refine wp_exit ?_; simp only [Exit.then, Exit.inBlock, if_true, if_false, reduceCtorEq, Nat.reduceEqDiff, Nat.succ_ne_zero]) | ((first | refine hK.out _ _ ?_ | (clear hK K; refine hK.out _ _ ?_)); clear hK K))))
      ((refine wp_ret ?_; (try simp only [Exit.then, Exit.inBlock]); refine St.ret hM rfl (by repeat (first | exact Outs.nil | apply Outs.tmp rfl)) rfl ?_))
      exact ⟨rfl, hM.to_below⟩
end
end Go.Proofs.YtcicjklhbnipcaaGreatDoor
namespace Go.Proofs.YtcicjklhbnipcaaGreatDoor
set_option linter.unusedVariables false
set_option linter.unusedSimpArgs false
open Go.RowKit Go.Maps
theorem row_of {w : World} {b q : Nat} {es : List Value} (h : ∀ j, j < es.length → w.cell? ⟨b, q + j, none⟩ = es[j]?) : w.rangeAt b q es := fun j v hj => by
  rw [h j (List.getElem?_eq_some_iff.1 hj).1, hj]
structure SmallF (x : ActF) : Prop where
  path : x.op.path.size ≤ 200
  dest : x.op.dest.size ≤ 200
  data : x.op.data.size ≤ 200
/-- What is read of an act in memory. -/
theorem ActsIn.get {w : World} {a : Option Addr} {n : Nat} {xs : List ActF} (h : ActsIn w a n xs) {k : Nat} {x : ActF} (hk : xs[k]? = some x) :
    x.Fit ∧ ∃ b off, a = some ⟨b, off, none⟩ ∧ w.rangeAt b (off + k * 11) x.cells ∧ w.rangeAt b (off + k * 11 + 2) x.op.cells := by
  obtain ⟨-, -, h3⟩ := h
  obtain ⟨hf, b, off, rfl, hc⟩ := h3 k x hk
  refine ⟨hf, b, off, rfl, row_of fun j hj => hc j hj, row_of fun j hj => ?_⟩
  have := hc (j + 2) (by have : x.op.cells.length = 9 := rfl; omega)
  rw [show off + k * 11 + (j + 2) = off + k * 11 + 2 + j by omega] at this
  rw [this]
  rfl
theorem ActF.len {xs : List ActF} {w : World} {a : Option Addr} {n : Nat} (h : ActsIn w a n xs) : n = xs.length := h.1
set_option maxHeartbeats 16000000 in
set_option maxRecDepth 100000 in
theorem small9_any {w : World} {a : Option Addr} {n c : Nat} {xs : List ActF} (most : Int) (hm0 : 0 ≤ most) (hm1 : most ≤ 1000) (h : ActsIn w a n xs) :
    Calls Tryz.prog 14 #[.slice a n c, .int .i64 most] w fun e w' => ∃ b : Bool, e = .returned (.bool b) ∧ (b = true → (xs.length : Int) ≤ most ∧ ∀ (j : Nat) (y : ActF), xs[j]? = some y → SmallF y) ∧ Below w.heap.size w w' := by
  have hM := St.start w []
  have HX := Lib.hid h
  obtain ⟨rfl, hn, -⟩ := h
  rw [maxLen_val] at hn
  go_enter Tryz.func14, Tryz.ntmps14
  (repeat (first | ((with_reducible show wpSeq _ _ _ _ _ _ _); first | ((with_reducible refine wpSeq_nil ?_); refine hKr.out _ _ ?_; clear hKr Kr) | (((refine St.copy (v := ?_) (by exact .inr rfl) rfl rfl ?_ ?_; rotate_left; (focus ((try simp only [Act.eval, getD_lit, qGz, qGs]); with_reducible rfl)))); (try simp only [Act.put, qSa, qSz, qSs]))) | (first | (refine wp_seq_shut (fun K hK => ?_)) | (refine wp_text hM (fun Kr hKr => ?_); simp only [inText]) | refine wp_block ?_ | ((refine hK.out _ _ ?_); clear hK K))))
  go_loopw [5] (fun i wr => ∃ k : Nat, k ≤ xs.length ∧ (k : Int) ≤ most ∧ i = .int .i64 k ∧ Hid (∀ (j : Nat) (y : ActF), j < k → xs[j]? = some y → SmallF y) ∧ St w [] wr []) (fun i _ => xs.length - (intOf i).toNat)
  case atStart => exact ⟨0, by omega, hm0, rfl, Lib.hid (fun j y hj => absurd hj (by omega)), hM⟩
  case round =>
    clear hM
    obtain ⟨k, hk, hkm, rfl, HS, hM⟩ := hrel
    by_cases hlt : k < xs.length
    · have k1 : (k : Int) < (xs.length : Int) := by omega
      by_cases hlm : (k : Int) < most
      · obtain ⟨x, hxk⟩ := get_at hlt
        obtain ⟨hf, b, off, rfl, -, hc⟩ := HX.out.get hxk
        have HN := Lib.hid (fun (hs : SmallF x) => (show ∀ (j : Nat) (y : ActF), j < k + 1 → xs[j]? = some y → SmallF y from fun j y hj hy => by
          rcases Nat.lt_or_ge j k with h | h
          · exact HS.out j y h hy
          · obtain rfl : j = k := by omega
            rw [hxk] at hy; cases hy; exact hs))
        clear hxk
        obtain ⟨xo, xe, ⟨pk, pp, pd, ph, pa, pn, px, py, pb⟩⟩ := x
        simp only [OpD.cells] at hc
        have hpp := hf.op.path
        have hpd := hf.op.dest
        have hpx := hf.op.data
        rw [maxLen_val] at hpp hpd hpx
        simp only at hpp hpd hpx
        clear hf
        by_cases q1 : (200 : Int) < (pp.size : Int)
        · (repeat (first | ((with_reducible show wpSeq _ _ _ _ _ _ _); first | ((with_reducible refine wpSeq_nil ?_); refine hKr.out _ _ ?_; clear hKr Kr) | ((first | (refine St.copy (v := ?_) (by first | exact .inl rfl | exact .inr rfl) rfl rfl ?_ ?_; rotate_left; (focus ((try simp only [Act.eval, getD_lit, qGz, qGs]); with_reducible rfl))) | (refine St.pure (v := ?_) rfl rfl rfl (fun w => ?_) ?_; rotate_left; (focus (go_simp; all_goals with_reducible rfl))) | refine St.load rfl hM rfl rfl rfl rfl (by repeat constructor) (by rfl) (by kernel_rfl) ?_ | refine St.loadRowF rfl rfl rfl rfl rfl (hM.oldRow (by assumption)) (by kernel_rfl) ?_ | refine wpSeq_off rfl rfl ?_ | ((((refine St.storeRow rfl hM rfl rfl rfl rfl rfl (by repeat constructor) (Nat.le_of_ble_eq_true rfl) (Nat.le_of_ble_eq_true rfl) (by kernel_rfl) rfl ?_ ?_); (focus ((intro h; cases h; done))); clear hM; intro w hM)); (try simp only [Res.put, Res.known, Act.eval, Value.cells, getD_lit, qGz, qGs, List.toList_toArray, qSz, qSs, over, Nat.reduceAdd] at hM))); (try simp only [Act.put, qSa, qSz, qSs])) | (((refine St.alloc (ty := 34) (z := .agg #[.int .i64 0, .string ⟨#[]⟩, .string ⟨#[]⟩, .int .i64 0, .int .i64 0, .int .i64 0, .string ⟨#[]⟩, .int .i64 0, .int .i64 0]) rfl hM rfl rfl (by kernel_rfl) ?_); clear hM; intro w bk hM); (try simp only [Res.put, Res.known, Act.eval, Value.cells, getD_lit, qGz, qGs, List.toList_toArray, qSz, qSs, over, Nat.reduceAdd] at hM); (try simp only [Act.put, qSa, qSz, qSs]))) | (first | (refine wp_seq_shut (fun K hK => ?_)) | (refine wp_text hM (fun Kr hKr => ?_); simp only [inText]) | refine wp_block ?_ | refine wp_skip ?_ | (refine wp_cond_true rfl ?_) | ((refine hK.out _ _ ?_); clear hK K))))
          ((refine wp_ret ?_; (try simp only [Exit.then, Exit.inBlock]); refine St.ret hM rfl (by repeat (first | exact Outs.nil | apply Outs.tmp rfl)) rfl ?_))
          exact ⟨false, rfl, nofun, hM.to_below⟩
        by_cases q2 : (200 : Int) < (pd.size : Int)
        · (repeat (first | ((with_reducible show wpSeq _ _ _ _ _ _ _); first | ((with_reducible refine wpSeq_nil ?_); refine hKr.out _ _ ?_; clear hKr Kr) | ((first | (refine St.copy (v := ?_) (by first | exact .inl rfl | exact .inr rfl) rfl rfl ?_ ?_; rotate_left; (focus ((try simp only [Act.eval, getD_lit, qGz, qGs]); with_reducible rfl))) | (refine St.pure (v := ?_) rfl rfl rfl (fun w => ?_) ?_; rotate_left; (focus (go_simp; all_goals with_reducible rfl))) | refine St.load rfl hM rfl rfl rfl rfl (by repeat constructor) (by rfl) (by kernel_rfl) ?_ | refine St.loadRowF rfl rfl rfl rfl rfl (hM.oldRow (by assumption)) (by kernel_rfl) ?_ | refine wpSeq_off rfl rfl ?_ | ((((refine St.storeRow rfl hM rfl rfl rfl rfl rfl (by repeat constructor) (Nat.le_of_ble_eq_true rfl) (Nat.le_of_ble_eq_true rfl) (by kernel_rfl) rfl ?_ ?_); (focus ((intro h; cases h; done))); clear hM; intro w hM)); (try simp only [Res.put, Res.known, Act.eval, Value.cells, getD_lit, qGz, qGs, List.toList_toArray, qSz, qSs, over, Nat.reduceAdd] at hM))); (try simp only [Act.put, qSa, qSz, qSs])) | (((refine St.alloc (ty := 34) (z := .agg #[.int .i64 0, .string ⟨#[]⟩, .string ⟨#[]⟩, .int .i64 0, .int .i64 0, .int .i64 0, .string ⟨#[]⟩, .int .i64 0, .int .i64 0]) rfl hM rfl rfl (by kernel_rfl) ?_); clear hM; intro w bk hM); (try simp only [Res.put, Res.known, Act.eval, Value.cells, getD_lit, qGz, qGs, List.toList_toArray, qSz, qSs, over, Nat.reduceAdd] at hM); (try simp only [Act.put, qSa, qSz, qSs]))) | (first | (refine wp_seq_shut (fun K hK => ?_)) | (refine wp_text hM (fun Kr hKr => ?_); simp only [inText]) | refine wp_block ?_ | refine wp_skip ?_ | (refine wp_cond_true rfl ?_) | ((refine hK.out _ _ ?_); clear hK K))))
          ((refine wp_ret ?_; (try simp only [Exit.then, Exit.inBlock]); refine St.ret hM rfl (by repeat (first | exact Outs.nil | apply Outs.tmp rfl)) rfl ?_))
          exact ⟨false, rfl, nofun, hM.to_below⟩
        by_cases q3 : (200 : Int) < (px.size : Int)
        · (repeat (first | ((with_reducible show wpSeq _ _ _ _ _ _ _); first | ((with_reducible refine wpSeq_nil ?_); refine hKr.out _ _ ?_; clear hKr Kr) | ((first | (refine St.copy (v := ?_) (by first | exact .inl rfl | exact .inr rfl) rfl rfl ?_ ?_; rotate_left; (focus ((try simp only [Act.eval, getD_lit, qGz, qGs]); with_reducible rfl))) | (refine St.pure (v := ?_) rfl rfl rfl (fun w => ?_) ?_; rotate_left; (focus (go_simp; all_goals with_reducible rfl))) | refine St.load rfl hM rfl rfl rfl rfl (by repeat constructor) (by rfl) (by kernel_rfl) ?_ | refine St.loadRowF rfl rfl rfl rfl rfl (hM.oldRow (by assumption)) (by kernel_rfl) ?_ | refine wpSeq_off rfl rfl ?_ | ((((refine St.storeRow rfl hM rfl rfl rfl rfl rfl (by repeat constructor) (Nat.le_of_ble_eq_true rfl) (Nat.le_of_ble_eq_true rfl) (by kernel_rfl) rfl ?_ ?_); (focus ((intro h; cases h; done))); clear hM; intro w hM)); (try simp only [Res.put, Res.known, Act.eval, Value.cells, getD_lit, qGz, qGs, List.toList_toArray, qSz, qSs, over, Nat.reduceAdd] at hM))); (try simp only [Act.put, qSa, qSz, qSs])) | (((refine St.alloc (ty := 34) (z := .agg #[.int .i64 0, .string ⟨#[]⟩, .string ⟨#[]⟩, .int .i64 0, .int .i64 0, .int .i64 0, .string ⟨#[]⟩, .int .i64 0, .int .i64 0]) rfl hM rfl rfl (by kernel_rfl) ?_); clear hM; intro w bk hM); (try simp only [Res.put, Res.known, Act.eval, Value.cells, getD_lit, qGz, qGs, List.toList_toArray, qSz, qSs, over, Nat.reduceAdd] at hM); (try simp only [Act.put, qSa, qSz, qSs]))) | (first | (refine wp_seq_shut (fun K hK => ?_)) | (refine wp_text hM (fun Kr hKr => ?_); simp only [inText]) | refine wp_block ?_ | refine wp_skip ?_ | (refine wp_cond_true rfl ?_) | ((refine hK.out _ _ ?_); clear hK K))))
          ((refine wp_ret ?_; (try simp only [Exit.then, Exit.inBlock]); refine St.ret hM rfl (by repeat (first | exact Outs.nil | apply Outs.tmp rfl)) rfl ?_))
          exact ⟨false, rfl, nofun, hM.to_below⟩
        have HN' := Lib.hid (HN.out ⟨by show pp.size ≤ 200; omega, by show pd.size ≤ 200; omega, by show px.size ≤ 200; omega⟩)
        clear HN
        by_cases q4 : (4096 : Int) < pa
        · by_cases q5 : pa ≤ 1048576
          · (repeat (first | ((with_reducible show wpSeq _ _ _ _ _ _ _); first | ((with_reducible refine wpSeq_nil ?_); refine hKr.out _ _ ?_; clear hKr Kr) | ((first | (refine St.copy (v := ?_) (by first | exact .inl rfl | exact .inr rfl) rfl rfl ?_ ?_; rotate_left; (focus ((try simp only [Act.eval, getD_lit, qGz, qGs]); with_reducible rfl))) | (refine St.pure (v := ?_) rfl rfl rfl (fun w => ?_) ?_; rotate_left; (focus (go_simp; all_goals with_reducible rfl))) | refine St.load rfl hM rfl rfl rfl rfl (by repeat constructor) (by rfl) (by kernel_rfl) ?_ | refine St.loadRowF rfl rfl rfl rfl rfl (hM.oldRow (by assumption)) (by kernel_rfl) ?_ | refine wpSeq_off rfl rfl ?_ | ((((refine St.storeRow rfl hM rfl rfl rfl rfl rfl (by repeat constructor) (Nat.le_of_ble_eq_true rfl) (Nat.le_of_ble_eq_true rfl) (by kernel_rfl) rfl ?_ ?_); (focus ((intro h; cases h; done))); clear hM; intro w hM)); (try simp only [Res.put, Res.known, Act.eval, Value.cells, getD_lit, qGz, qGs, List.toList_toArray, qSz, qSs, over, Nat.reduceAdd] at hM))); (try simp only [Act.put, qSa, qSz, qSs])) | (((refine St.alloc (ty := 34) (z := .agg #[.int .i64 0, .string ⟨#[]⟩, .string ⟨#[]⟩, .int .i64 0, .int .i64 0, .int .i64 0, .string ⟨#[]⟩, .int .i64 0, .int .i64 0]) rfl hM rfl rfl (by kernel_rfl) ?_); clear hM; intro w bk hM); (try simp only [Res.put, Res.known, Act.eval, Value.cells, getD_lit, qGz, qGs, List.toList_toArray, qSz, qSs, over, Nat.reduceAdd] at hM); (try simp only [Act.put, qSa, qSz, qSs]))) | (first | (refine wp_seq_shut (fun K hK => ?_)) | (refine wp_text hM (fun Kr hKr => ?_); simp only [inText]) | refine wp_block ?_ | refine wp_skip ?_ | (refine wp_cond_true rfl ?_) | ((refine hK.out _ _ ?_); clear hK K))))
            ((refine wp_ret ?_; (try simp only [Exit.then, Exit.inBlock]); refine St.ret hM rfl (by repeat (first | exact Outs.nil | apply Outs.tmp rfl)) rfl ?_))
            exact ⟨false, rfl, nofun, hM.to_below⟩
          · by_cases q6 : (4096 : Int) < pn
            · by_cases q7 : pn ≤ 1048576
              · (repeat (first | ((with_reducible show wpSeq _ _ _ _ _ _ _); first | ((with_reducible refine wpSeq_nil ?_); refine hKr.out _ _ ?_; clear hKr Kr) | ((first | (refine St.copy (v := ?_) (by first | exact .inl rfl | exact .inr rfl) rfl rfl ?_ ?_; rotate_left; (focus ((try simp only [Act.eval, getD_lit, qGz, qGs]); with_reducible rfl))) | (refine St.pure (v := ?_) rfl rfl rfl (fun w => ?_) ?_; rotate_left; (focus (go_simp; all_goals with_reducible rfl))) | refine St.load rfl hM rfl rfl rfl rfl (by repeat constructor) (by rfl) (by kernel_rfl) ?_ | refine St.loadRowF rfl rfl rfl rfl rfl (hM.oldRow (by assumption)) (by kernel_rfl) ?_ | ((((refine St.storeRow rfl hM rfl rfl rfl rfl rfl (by repeat constructor) (Nat.le_of_ble_eq_true rfl) (Nat.le_of_ble_eq_true rfl) (by kernel_rfl) rfl ?_ ?_); (focus ((intro h; cases h; done))); clear hM; intro w hM)); (try simp only [Res.put, Res.known, Act.eval, Value.cells, getD_lit, qGz, qGs, List.toList_toArray, qSz, qSs, over, Nat.reduceAdd] at hM))); (try simp only [Act.put, qSa, qSz, qSs])) | (((refine St.alloc (ty := 34) (z := .agg #[.int .i64 0, .string ⟨#[]⟩, .string ⟨#[]⟩, .int .i64 0, .int .i64 0, .int .i64 0, .string ⟨#[]⟩, .int .i64 0, .int .i64 0]) rfl hM rfl rfl (by kernel_rfl) ?_); clear hM; intro w bk hM); (try simp only [Res.put, Res.known, Act.eval, Value.cells, getD_lit, qGz, qGs, List.toList_toArray, qSz, qSs, over, Nat.reduceAdd] at hM); (try simp only [Act.put, qSa, qSz, qSs]))) | (first | (refine wp_seq_shut (fun K hK => ?_)) | (refine wp_text hM (fun Kr hKr => ?_); simp only [inText]) | refine wp_block ?_ | refine wp_skip ?_ | (refine wp_cond_true rfl ?_) | ((refine hK.out _ _ ?_); clear hK K))))
                ((refine wp_ret ?_; (try simp only [Exit.then, Exit.inBlock]); refine St.ret hM rfl (by repeat (first | exact Outs.nil | apply Outs.tmp rfl)) rfl ?_))
                exact ⟨false, rfl, nofun, hM.to_below⟩
              · (repeat (first | ((with_reducible show wpSeq _ _ _ _ _ _ _); first | ((with_reducible refine wpSeq_nil ?_); refine hKr.out _ _ ?_; clear hKr Kr) | ((first | (refine St.copy (v := ?_) (by first | exact .inl rfl | exact .inr rfl) rfl rfl ?_ ?_; rotate_left; (focus ((try simp only [Act.eval, getD_lit, qGz, qGs]); with_reducible rfl))) | refine St.inc rfl rfl rfl rfl rfl (by omega) ?_ | (refine St.pure (v := ?_) rfl rfl rfl (fun w => ?_) ?_; rotate_left; (focus (go_simp; all_goals with_reducible rfl))) | refine St.load rfl hM rfl rfl rfl rfl (by repeat constructor) (by rfl) (by kernel_rfl) ?_ | refine St.loadRowF rfl rfl rfl rfl rfl (hM.oldRow (by assumption)) (by kernel_rfl) ?_ | ((((refine St.storeRow rfl hM rfl rfl rfl rfl rfl (by repeat constructor) (Nat.le_of_ble_eq_true rfl) (Nat.le_of_ble_eq_true rfl) (by kernel_rfl) rfl ?_ ?_); (focus ((intro h; cases h; done))); clear hM; intro w hM)); (try simp only [Res.put, Res.known, Act.eval, Value.cells, getD_lit, qGz, qGs, List.toList_toArray, qSz, qSs, over, Nat.reduceAdd] at hM))); (try simp only [Act.put, qSa, qSz, qSs])) | (((refine St.alloc (ty := 34) (z := .agg #[.int .i64 0, .string ⟨#[]⟩, .string ⟨#[]⟩, .int .i64 0, .int .i64 0, .int .i64 0, .string ⟨#[]⟩, .int .i64 0, .int .i64 0]) rfl hM rfl rfl (by kernel_rfl) ?_); clear hM; intro w bk hM); (try simp only [Res.put, Res.known, Act.eval, Value.cells, getD_lit, qGz, qGs, List.toList_toArray, qSz, qSs, over, Nat.reduceAdd] at hM); (try simp only [Act.put, qSa, qSz, qSs]))) | (first | (refine wp_seq_shut (fun K hK => ?_)) | (refine wp_text hM (fun Kr hKr => ?_); simp only [inText]) | refine wp_block ?_ | refine wp_skip ?_ | (first | refine wp_cond_true rfl ?_ | refine wp_cond_false rfl ?_) | ((refine hK.out _ _ ?_); clear hK K))))
                replace hM := hM.drop (L' := []) nofun (by simp)
                (refine ⟨?_, ?_⟩; (focus (repeat (first | exact ⟨⟨k + 1, by omega, by omega, rfl, HN', hM⟩, rfl⟩ | apply Exists.intro))); (simp only [getD_lit, qGz, qGs, intOf]; omega))
            · (repeat (first | ((with_reducible show wpSeq _ _ _ _ _ _ _); first | ((with_reducible refine wpSeq_nil ?_); refine hKr.out _ _ ?_; clear hKr Kr) | ((first | (refine St.copy (v := ?_) (by first | exact .inl rfl | exact .inr rfl) rfl rfl ?_ ?_; rotate_left; (focus ((try simp only [Act.eval, getD_lit, qGz, qGs]); with_reducible rfl))) | refine St.inc rfl rfl rfl rfl rfl (by omega) ?_ | (refine St.pure (v := ?_) rfl rfl rfl (fun w => ?_) ?_; rotate_left; (focus (go_simp; all_goals with_reducible rfl))) | refine St.load rfl hM rfl rfl rfl rfl (by repeat constructor) (by rfl) (by kernel_rfl) ?_ | refine St.loadRowF rfl rfl rfl rfl rfl (hM.oldRow (by assumption)) (by kernel_rfl) ?_ | refine wpSeq_off rfl rfl ?_ | ((((refine St.storeRow rfl hM rfl rfl rfl rfl rfl (by repeat constructor) (Nat.le_of_ble_eq_true rfl) (Nat.le_of_ble_eq_true rfl) (by kernel_rfl) rfl ?_ ?_); (focus ((intro h; cases h; done))); clear hM; intro w hM)); (try simp only [Res.put, Res.known, Act.eval, Value.cells, getD_lit, qGz, qGs, List.toList_toArray, qSz, qSs, over, Nat.reduceAdd] at hM))); (try simp only [Act.put, qSa, qSz, qSs])) | (((refine St.alloc (ty := 34) (z := .agg #[.int .i64 0, .string ⟨#[]⟩, .string ⟨#[]⟩, .int .i64 0, .int .i64 0, .int .i64 0, .string ⟨#[]⟩, .int .i64 0, .int .i64 0]) rfl hM rfl rfl (by kernel_rfl) ?_); clear hM; intro w bk hM); (try simp only [Res.put, Res.known, Act.eval, Value.cells, getD_lit, qGz, qGs, List.toList_toArray, qSz, qSs, over, Nat.reduceAdd] at hM); (try simp only [Act.put, qSa, qSz, qSs]))) | (first | (refine wp_seq_shut (fun K hK => ?_)) | (refine wp_text hM (fun Kr hKr => ?_); simp only [inText]) | refine wp_block ?_ | refine wp_skip ?_ | (first | refine wp_cond_true rfl ?_ | refine wp_cond_false rfl ?_) | ((refine hK.out _ _ ?_); clear hK K))))
              replace hM := hM.drop (L' := []) nofun (by simp)
              (refine ⟨?_, ?_⟩; (focus (repeat (first | exact ⟨⟨k + 1, by omega, by omega, rfl, HN', hM⟩, rfl⟩ | apply Exists.intro))); (simp only [getD_lit, qGz, qGs, intOf]; omega))
        · by_cases q6 : (4096 : Int) < pn
          · by_cases q7 : pn ≤ 1048576
            · (repeat (first | ((with_reducible show wpSeq _ _ _ _ _ _ _); first | ((with_reducible refine wpSeq_nil ?_); refine hKr.out _ _ ?_; clear hKr Kr) | ((first | (refine St.copy (v := ?_) (by first | exact .inl rfl | exact .inr rfl) rfl rfl ?_ ?_; rotate_left; (focus ((try simp only [Act.eval, getD_lit, qGz, qGs]); with_reducible rfl))) | (refine St.pure (v := ?_) rfl rfl rfl (fun w => ?_) ?_; rotate_left; (focus (go_simp; all_goals with_reducible rfl))) | refine St.load rfl hM rfl rfl rfl rfl (by repeat constructor) (by rfl) (by kernel_rfl) ?_ | refine St.loadRowF rfl rfl rfl rfl rfl (hM.oldRow (by assumption)) (by kernel_rfl) ?_ | refine wpSeq_off rfl rfl ?_ | ((((refine St.storeRow rfl hM rfl rfl rfl rfl rfl (by repeat constructor) (Nat.le_of_ble_eq_true rfl) (Nat.le_of_ble_eq_true rfl) (by kernel_rfl) rfl ?_ ?_); (focus ((intro h; cases h; done))); clear hM; intro w hM)); (try simp only [Res.put, Res.known, Act.eval, Value.cells, getD_lit, qGz, qGs, List.toList_toArray, qSz, qSs, over, Nat.reduceAdd] at hM))); (try simp only [Act.put, qSa, qSz, qSs])) | (((refine St.alloc (ty := 34) (z := .agg #[.int .i64 0, .string ⟨#[]⟩, .string ⟨#[]⟩, .int .i64 0, .int .i64 0, .int .i64 0, .string ⟨#[]⟩, .int .i64 0, .int .i64 0]) rfl hM rfl rfl (by kernel_rfl) ?_); clear hM; intro w bk hM); (try simp only [Res.put, Res.known, Act.eval, Value.cells, getD_lit, qGz, qGs, List.toList_toArray, qSz, qSs, over, Nat.reduceAdd] at hM); (try simp only [Act.put, qSa, qSz, qSs]))) | (first | (refine wp_seq_shut (fun K hK => ?_)) | (refine wp_text hM (fun Kr hKr => ?_); simp only [inText]) | refine wp_block ?_ | refine wp_skip ?_ | (refine wp_cond_true rfl ?_) | ((refine hK.out _ _ ?_); clear hK K))))
              ((refine wp_ret ?_; (try simp only [Exit.then, Exit.inBlock]); refine St.ret hM rfl (by repeat (first | exact Outs.nil | apply Outs.tmp rfl)) rfl ?_))
              exact ⟨false, rfl, nofun, hM.to_below⟩
            · (repeat (first | ((with_reducible show wpSeq _ _ _ _ _ _ _); first | ((with_reducible refine wpSeq_nil ?_); refine hKr.out _ _ ?_; clear hKr Kr) | ((first | (refine St.copy (v := ?_) (by first | exact .inl rfl | exact .inr rfl) rfl rfl ?_ ?_; rotate_left; (focus ((try simp only [Act.eval, getD_lit, qGz, qGs]); with_reducible rfl))) | refine St.inc rfl rfl rfl rfl rfl (by omega) ?_ | (refine St.pure (v := ?_) rfl rfl rfl (fun w => ?_) ?_; rotate_left; (focus (go_simp; all_goals with_reducible rfl))) | refine St.load rfl hM rfl rfl rfl rfl (by repeat constructor) (by rfl) (by kernel_rfl) ?_ | refine St.loadRowF rfl rfl rfl rfl rfl (hM.oldRow (by assumption)) (by kernel_rfl) ?_ | refine wpSeq_off rfl rfl ?_ | ((((refine St.storeRow rfl hM rfl rfl rfl rfl rfl (by repeat constructor) (Nat.le_of_ble_eq_true rfl) (Nat.le_of_ble_eq_true rfl) (by kernel_rfl) rfl ?_ ?_); (focus ((intro h; cases h; done))); clear hM; intro w hM)); (try simp only [Res.put, Res.known, Act.eval, Value.cells, getD_lit, qGz, qGs, List.toList_toArray, qSz, qSs, over, Nat.reduceAdd] at hM))); (try simp only [Act.put, qSa, qSz, qSs])) | (((refine St.alloc (ty := 34) (z := .agg #[.int .i64 0, .string ⟨#[]⟩, .string ⟨#[]⟩, .int .i64 0, .int .i64 0, .int .i64 0, .string ⟨#[]⟩, .int .i64 0, .int .i64 0]) rfl hM rfl rfl (by kernel_rfl) ?_); clear hM; intro w bk hM); (try simp only [Res.put, Res.known, Act.eval, Value.cells, getD_lit, qGz, qGs, List.toList_toArray, qSz, qSs, over, Nat.reduceAdd] at hM); (try simp only [Act.put, qSa, qSz, qSs]))) | (first | (refine wp_seq_shut (fun K hK => ?_)) | (refine wp_text hM (fun Kr hKr => ?_); simp only [inText]) | refine wp_block ?_ | refine wp_skip ?_ | (first | refine wp_cond_true rfl ?_ | refine wp_cond_false rfl ?_) | ((refine hK.out _ _ ?_); clear hK K))))
              replace hM := hM.drop (L' := []) nofun (by simp)
              (refine ⟨?_, ?_⟩; (focus (repeat (first | exact ⟨⟨k + 1, by omega, by omega, rfl, HN', hM⟩, rfl⟩ | apply Exists.intro))); (simp only [getD_lit, qGz, qGs, intOf]; omega))
          · (repeat (first | ((with_reducible show wpSeq _ _ _ _ _ _ _); first | ((with_reducible refine wpSeq_nil ?_); refine hKr.out _ _ ?_; clear hKr Kr) | ((first | (refine St.copy (v := ?_) (by first | exact .inl rfl | exact .inr rfl) rfl rfl ?_ ?_; rotate_left; (focus ((try simp only [Act.eval, getD_lit, qGz, qGs]); with_reducible rfl))) | refine St.inc rfl rfl rfl rfl rfl (by omega) ?_ | (refine St.pure (v := ?_) rfl rfl rfl (fun w => ?_) ?_; rotate_left; (focus (go_simp; all_goals with_reducible rfl))) | refine St.load rfl hM rfl rfl rfl rfl (by repeat constructor) (by rfl) (by kernel_rfl) ?_ | refine St.loadRowF rfl rfl rfl rfl rfl (hM.oldRow (by assumption)) (by kernel_rfl) ?_ | refine wpSeq_off rfl rfl ?_ | ((((refine St.storeRow rfl hM rfl rfl rfl rfl rfl (by repeat constructor) (Nat.le_of_ble_eq_true rfl) (Nat.le_of_ble_eq_true rfl) (by kernel_rfl) rfl ?_ ?_); (focus ((intro h; cases h; done))); clear hM; intro w hM)); (try simp only [Res.put, Res.known, Act.eval, Value.cells, getD_lit, qGz, qGs, List.toList_toArray, qSz, qSs, over, Nat.reduceAdd] at hM))); (try simp only [Act.put, qSa, qSz, qSs])) | (((refine St.alloc (ty := 34) (z := .agg #[.int .i64 0, .string ⟨#[]⟩, .string ⟨#[]⟩, .int .i64 0, .int .i64 0, .int .i64 0, .string ⟨#[]⟩, .int .i64 0, .int .i64 0]) rfl hM rfl rfl (by kernel_rfl) ?_); clear hM; intro w bk hM); (try simp only [Res.put, Res.known, Act.eval, Value.cells, getD_lit, qGz, qGs, List.toList_toArray, qSz, qSs, over, Nat.reduceAdd] at hM); (try simp only [Act.put, qSa, qSz, qSs]))) | (first | (refine wp_seq_shut (fun K hK => ?_)) | (refine wp_text hM (fun Kr hKr => ?_); simp only [inText]) | refine wp_block ?_ | refine wp_skip ?_ | (first | refine wp_cond_true rfl ?_ | refine wp_cond_false rfl ?_) | ((refine hK.out _ _ ?_); clear hK K))))
            replace hM := hM.drop (L' := []) nofun (by simp)
            (refine ⟨?_, ?_⟩; (focus (repeat (first | exact ⟨⟨k + 1, by omega, by omega, rfl, HN', hM⟩, rfl⟩ | apply Exists.intro))); (simp only [getD_lit, qGz, qGs, intOf]; omega))
      · have k2 : ¬ (xs.length : Int) ≤ most := by omega
        (repeat (first | ((with_reducible show wpSeq _ _ _ _ _ _ _); first | ((with_reducible refine wpSeq_nil ?_); refine hKr.out _ _ ?_; clear hKr Kr) | ((first | (refine St.copy (v := ?_) (by first | exact .inl rfl | exact .inr rfl) rfl rfl ?_ ?_; rotate_left; (focus ((try simp only [Act.eval, getD_lit, qGz, qGs]); with_reducible rfl))) | (refine St.pure (v := ?_) rfl rfl rfl (fun w => ?_) ?_; rotate_left; (focus (go_simp; all_goals with_reducible rfl)))); (try simp only [Act.put, qSa, qSz, qSs]))) | (first | (refine wp_seq_shut (fun K hK => ?_)) | (refine wp_text hM (fun Kr hKr => ?_); simp only [inText]) | (refine wp_cond_false rfl ?_) | (refine wp_exit ?_; simp only [Exit.then, Exit.inBlock, if_true, if_false, reduceCtorEq, Nat.reduceEqDiff, Nat.succ_ne_zero]) | ((first | refine hK.out _ _ ?_ | (clear hK K; refine hK.out _ _ ?_)); clear hK K))))
        ((refine wp_ret ?_; (try simp only [Exit.then, Exit.inBlock]); refine St.ret hM rfl (by repeat (first | exact Outs.nil | apply Outs.tmp rfl)) rfl ?_))
        exact ⟨false, rfl, nofun, hM.to_below⟩
    · have k0 : ¬ ((k : Int) < (xs.length : Int)) := by omega
      obtain rfl : k = xs.length := by omega
      clear hlt hk
      (repeat (first | ((with_reducible show wpSeq _ _ _ _ _ _ _); first | ((with_reducible refine wpSeq_nil ?_); refine hKr.out _ _ ?_; clear hKr Kr) | ((first | (refine St.copy (v := ?_) (by first | exact .inl rfl | exact .inr rfl) rfl rfl ?_ ?_; rotate_left; (focus ((try simp only [Act.eval, getD_lit, qGz, qGs]); with_reducible rfl))) | (refine St.pure (v := ?_) rfl rfl rfl (fun w => ?_) ?_; rotate_left; (focus (go_simp; all_goals with_reducible rfl))) | refine wpSeq_off rfl rfl ?_); (try simp only [Act.put, qSa, qSz, qSs]))) | (first | (refine wp_seq_shut (fun K hK => ?_)) | (refine wp_text hM (fun Kr hKr => ?_); simp only [inText]) | (refine wp_cond_false rfl ?_) | (refine wp_exit ?_; simp only [Exit.then, Exit.inBlock, if_true, if_false, reduceCtorEq, Nat.reduceEqDiff, Nat.succ_ne_zero]) | ((first | refine hK.out _ _ ?_ | (clear hK K; refine hK.out _ _ ?_)); clear hK K))))
      ((refine wp_ret ?_; (try simp only [Exit.then, Exit.inBlock]); refine St.ret hM rfl (by repeat (first | exact Outs.nil | apply Outs.tmp rfl)) rfl ?_))
      exact ⟨true, rfl, fun _ => ⟨hkm, fun j y hy => HS.out j y (List.getElem?_eq_some_iff.1 hy).1 hy⟩, hM.to_below⟩
/-- Acts in a slice of the call's own. -/
theorem own_acts {w0 w : World} {F : List Nat} {L : List Ent} {b : Nat} {ow : Bool} {t : TypeId} {x : ActF} (hM : St w0 F w L) (hm : (b, ow, Res.cells x.cells t) ∈ L) (hf : x.Fit) : ActsIn w (some ⟨b, 0, none⟩) 1 [x] := by
  refine ⟨rfl, by unfold maxLen; omega, fun k y hk => ?_⟩
  obtain ⟨rfl, rfl⟩ : k = 0 ∧ y = x := by
    rcases k with _ | k
    · exact ⟨rfl, by simpa using hk.symm⟩
    · simp at hk
  refine ⟨hf, b, 0, rfl, fun j hj => ?_⟩
  have hs : y.cells[j]? = some y.cells[j] := List.getElem?_eq_getElem (show j < 11 from hj)
  rw [hs, show 0 + 0 * 11 + j = j by omega]
  exact Res.cell (hM.holds _ hm) hs
end Go.Proofs.YtcicjklhbnipcaaGreatDoor
namespace Go.Proofs.YtcicjklhbnipcaaGreatDoor
set_option linter.unusedVariables false
set_option linter.unusedSimpArgs false
open Go.ChangeShapes Go.WideShapes Go.RowKit

theorem len13 {cs : List Value} (h : cs.length = 13) : ∃ c0 c1 c2 c3 c4 c5 c6 c7 c8 c9 c10 c11 c12, cs = [c0, c1, c2, c3, c4, c5, c6, c7, c8, c9, c10, c11, c12] := by
  match cs, h with
  | [c0, c1, c2, c3, c4, c5, c6, c7, c8, c9, c10, c11, c12], _ => exact ⟨c0, c1, c2, c3, c4, c5, c6, c7, c8, c9, c10, c11, c12, rfl⟩
structure ActO where
  f : ActF
  cut : Bool
  keep : Int
def ActO.cells (a : ActO) : List Value := a.f.cells ++ [.bool a.cut, .int .i64 a.keep]
structure ActO.Fit (a : ActO) : Prop where
  f : a.f.Fit
  keep : Fits a.keep
def RActO : Rep ActO := fun _ _ cs x => cs = x.cells ∧ x.Fit
def RActOs : Rep (List ActO) := RSlice 13 RActO
theorem cells_actO : Tryz.prog.cellsOf 60 = 13 := by kernel_rfl
theorem opens_actO : Opens Tryz.prog 60 RActO := ⟨by
  intro H enc w sp held k B cs y h hp
  obtain ⟨hl, hf⟩ := opens_fields Tryz.underlying60 h hp
  rw [cells_actO] at hl
  obtain ⟨c0, c1, c2, c3, c4, c5, c6, c7, c8, c9, c10, c11, c12, rfl⟩ := len13 hl
  obtain ⟨x0, h0⟩ := hf 0 _ rfl opens_actF
  replace h0 : RActF w B (([c0, c1, c2, c3, c4, c5, c6, c7, c8, c9, c10, c11, c12].drop 0).take (Tryz.prog.cellsOf 36)) x0 := h0
  rw [show Tryz.prog.cellsOf 36 = 11 from by kernel_rfl] at h0
  replace h0 : RActF w B [c0, c1, c2, c3, c4, c5, c6, c7, c8, c9, c10] x0 := h0
  obtain ⟨x1, h1⟩ := hf 1 _ rfl opens_named_bool
  replace h1 : RBool w B (([c0, c1, c2, c3, c4, c5, c6, c7, c8, c9, c10, c11, c12].drop 11).take (Tryz.prog.cellsOf 4)) x1 := h1
  rw [show Tryz.prog.cellsOf 4 = 1 from by kernel_rfl] at h1
  replace h1 : RBool w B [c11] x1 := h1
  obtain ⟨x2, h2⟩ := hf 2 _ rfl opens_named_int
  replace h2 : (RInt .i64) w B (([c0, c1, c2, c3, c4, c5, c6, c7, c8, c9, c10, c11, c12].drop 12).take (Tryz.prog.cellsOf 3)) x2 := h2
  rw [show Tryz.prog.cellsOf 3 = 1 from by kernel_rfl] at h2
  replace h2 : (RInt .i64) w B [c12] x2 := h2
  obtain ⟨e0, b0⟩ := h0
  have e1 : [c11] = [Value.bool x1] := h1
  obtain ⟨e2, b2⟩ := h2
  simp only [List.cons.injEq, and_true] at e1 e2
  subst e1 e2
  exact ⟨⟨x0, x1, x2⟩, congrArg (fun r => r ++ [Value.bool x1, Value.int .i64 x2]) e0, ⟨b0, b2⟩⟩⟩
theorem opens_actOs : Opens Tryz.prog 53 RActOs := opens_slice Tryz.underlying53 cells_actO (by omega) opens_actO
/-- Acts that lie in memory: cell by cell. -/
def ActOsIn (w : World) (a : Option Addr) (n : Nat) (xs : List ActO) : Prop :=
  n = xs.length ∧ n ≤ maxLen ∧ ∀ k x, xs[k]? = some x → x.Fit ∧ ∃ b off, a = some ⟨b, off, none⟩ ∧ ∀ j, j < 13 → w.cell? ⟨b, off + k * 13 + j, none⟩ = x.cells[j]?
theorem actOs_in {w : World} {B : Nat} {a : Option Addr} {n cap : Nat} {xs : List ActO} (h : RActOs w B [.slice a n cap] xs) : ActOsIn w a n xs := by
  obtain ⟨a', cap', h1, h2, h3, h5, h4⟩ := h
  simp only [List.cons.injEq, Value.slice.injEq, and_true] at h1
  obtain ⟨rfl, rfl, rfl⟩ := h1
  refine ⟨rfl, by omega, fun k x hk => ?_⟩
  have hp : 0 < xs.length := by have := (List.getElem?_eq_some_iff.1 hk).1; omega
  obtain ⟨b, off, rfl, hb, hx⟩ := h4 hp
  obtain ⟨es, hl, hc, rfl, hs⟩ := hx k x hk
  exact ⟨hs, b, off, rfl, hc⟩
theorem ActOsIn.below {w w' : World} {a : Option Addr} {n : Nat} {xs : List ActO} (h : ActOsIn w a n xs) (hb : Below w.heap.size w w') : ActOsIn w' a n xs := by
  obtain ⟨h1, h2, h3⟩ := h
  refine ⟨h1, h2, fun k x hk => ?_⟩
  obtain ⟨hf, b, off, ha, hc⟩ := h3 k x hk
  refine ⟨hf, b, off, ha, fun j hj => ?_⟩
  have := hc j hj
  have hlen : x.cells.length = 13 := rfl
  have hs : x.cells[j]? = some x.cells[j] := List.getElem?_eq_getElem (by omega)
  rw [hs] at this ⊢
  exact (hb.cell (p := ⟨b, off + k * 13 + j, none⟩) (World.block_lt_of_cell? w _ this)).trans this
end Go.Proofs.YtcicjklhbnipcaaGreatDoor
namespace Go.Proofs.YtcicjklhbnipcaaGreatDoor
set_option linter.unusedVariables false
set_option linter.unusedSimpArgs false
open Go.RowKit Go.Maps
/-- What is read of an act in memory. -/
theorem ActOsIn.get {w : World} {a : Option Addr} {n : Nat} {xs : List ActO} (h : ActOsIn w a n xs) {k : Nat} {x : ActO} (hk : xs[k]? = some x) :
    x.Fit ∧ ∃ b off, a = some ⟨b, off, none⟩ ∧ w.rangeAt b (off + k * 13) x.cells ∧ w.rangeAt b (off + k * 13) x.f.cells ∧ w.rangeAt b (off + k * 13 + 2) x.f.op.cells := by
  obtain ⟨-, -, h3⟩ := h
  obtain ⟨hf, b, off, rfl, hc⟩ := h3 k x hk
  refine ⟨hf, b, off, rfl, row_of fun j hj => hc j hj, row_of fun j hj => ?_, row_of fun j hj => ?_⟩
  · have hl : x.f.cells.length = 11 := rfl
    rw [hc j (by omega)]
    unfold ActO.cells
    rw [List.getElem?_append_left hj]
  · have hl : x.f.op.cells.length = 9 := rfl
    have hl2 : x.f.cells.length = 11 := rfl
    have := hc (j + 2) (by omega)
    rw [show off + k * 13 + (j + 2) = off + k * 13 + 2 + j by omega] at this
    rw [this]
    unfold ActO.cells
    rw [List.getElem?_append_left (by omega)]
    rfl
set_option maxHeartbeats 16000000 in
set_option maxRecDepth 100000 in
theorem small10_any {w : World} {a : Option Addr} {n c : Nat} {xs : List ActO} (most : Int) (hm0 : 0 ≤ most) (hm1 : most ≤ 1000) (h : ActOsIn w a n xs) :
    Calls Tryz.prog 24 #[.slice a n c, .int .i64 most] w fun e w' => ∃ b : Bool, e = .returned (.bool b) ∧ (b = true → (xs.length : Int) ≤ most ∧ ∀ (j : Nat) (y : ActO), xs[j]? = some y → SmallF y.f) ∧ Below w.heap.size w w' := by
  have hM := St.start w []
  have HX := Lib.hid h
  obtain ⟨rfl, hn, -⟩ := h
  rw [maxLen_val] at hn
  go_enter Tryz.func24, Tryz.ntmps24
  (repeat (first | ((with_reducible show wpSeq _ _ _ _ _ _ _); first | ((with_reducible refine wpSeq_nil ?_); refine hKr.out _ _ ?_; clear hKr Kr) | (((refine St.copy (v := ?_) (by exact .inr rfl) rfl rfl ?_ ?_; rotate_left; (focus ((try simp only [Act.eval, getD_lit, qGz, qGs]); with_reducible rfl)))); (try simp only [Act.put, qSa, qSz, qSs]))) | (first | (refine wp_seq_shut (fun K hK => ?_)) | (refine wp_text hM (fun Kr hKr => ?_); simp only [inText]) | refine wp_block ?_ | ((refine hK.out _ _ ?_); clear hK K))))
  go_loopw [5] (fun i wr => ∃ k : Nat, k ≤ xs.length ∧ (k : Int) ≤ most ∧ i = .int .i64 k ∧ Hid (∀ (j : Nat) (y : ActO), j < k → xs[j]? = some y → SmallF y.f) ∧ St w [] wr []) (fun i _ => xs.length - (intOf i).toNat)
  case atStart => exact ⟨0, by omega, hm0, rfl, Lib.hid (fun j y hj => absurd hj (by omega)), hM⟩
  case round =>
    clear hM
    obtain ⟨k, hk, hkm, rfl, HS, hM⟩ := hrel
    by_cases hlt : k < xs.length
    · have k1 : (k : Int) < (xs.length : Int) := by omega
      by_cases hlm : (k : Int) < most
      · obtain ⟨x, hxk⟩ := get_at hlt
        obtain ⟨hf, b, off, rfl, -, hc, -⟩ := HX.out.get hxk
        have HN := Lib.hid (fun (hs : SmallF x.f) => (show ∀ (j : Nat) (y : ActO), j < k + 1 → xs[j]? = some y → SmallF y.f from fun j y hj hy => by
          rcases Nat.lt_or_ge j k with h | h
          · exact HS.out j y h hy
          · obtain rfl : j = k := by omega
            rw [hxk] at hy; cases hy; exact hs))
        have HF := Lib.hid hf.f
        clear hxk hf
        obtain ⟨⟨xo, xe, ⟨pk, pp, pd, ph, pa, pn, px, py, pb⟩⟩, xc, xk⟩ := x
        simp only [ActF.cells, OpD.cells] at hc
        (repeat (first | ((with_reducible show wpSeq _ _ _ _ _ _ _); first | ((with_reducible refine wpSeq_nil ?_); refine hKr.out _ _ ?_; clear hKr Kr) | ((first | (refine St.copy (v := ?_) (by exact .inl rfl) rfl rfl ?_ ?_; rotate_left; (focus ((try simp only [Act.eval, getD_lit, qGz, qGs]); with_reducible rfl))) | (refine St.pure (v := ?_) rfl rfl rfl (fun w => ?_) ?_; rotate_left; (focus (go_simp; all_goals with_reducible rfl))) | refine St.loadRowF rfl rfl rfl rfl rfl (hM.oldRow (by assumption)) (by kernel_rfl) ?_ | (((((refine St.buildSlice (cells := ?_) (e := ?_) rfl hM rfl rfl (fun w => ?_) ?_; rotate_left 2; (focus (go_simp; all_goals with_reducible rfl)))); clear hM; intro w bk hM)); (try simp only [Res.put, Res.known, Act.eval, Value.cells, getD_lit, qGz, qGs, List.toList_toArray, qSz, qSs, over, Nat.reduceAdd] at hM))); (try simp only [Act.put, qSa, qSz, qSs]))) | (first | (refine wp_seq_shut (fun K hK => ?_)) | (refine wp_text hM (fun Kr hKr => ?_); simp only [inText]) | refine wp_block ?_ | refine wp_skip ?_ | (refine wp_cond_true rfl ?_) | ((refine hK.out _ _ ?_); clear hK K))))
        ((refine St.call rfl rfl rfl (by kernel_rfl) (fun R hR => ?_); simp only [List.map_toArray, List.map_cons, List.map_nil, Act.eval, getD_lit, qGz, qGs]))
        refine (small9_any 1 (by decide) (by decide) (own_acts hM (x := ⟨xo, xe, ⟨pk, pp, pd, ph, pa, pn, px, py, pb⟩⟩) (by repeat constructor) HF.out)).mono ?_
        rintro e w' ⟨bb, rfl, hs, hb⟩
        replace hM := hM.below hb
        (refine hR.out _ _ (fun _ => ⟨hM.only, nofun⟩) ?_); clear hR R hb
        have HSM := Lib.hid hs
        clear hs
        (try simp only [Act.put, qSa, qSz, qSs])
        cases bb with
        | false =>
          (repeat (first | ((with_reducible show wpSeq _ _ _ _ _ _ _); first | ((with_reducible refine wpSeq_nil ?_); refine hKr.out _ _ ?_; clear hKr Kr) | ((first | (refine St.copy (v := ?_) (by exact .inr rfl) rfl rfl ?_ ?_; rotate_left; (focus ((try simp only [Act.eval, getD_lit, qGz, qGs]); with_reducible rfl))) | (refine St.pure (v := ?_) rfl rfl rfl (fun w => ?_) ?_; rotate_left; (focus (go_simp; all_goals with_reducible rfl)))); (try simp only [Act.put, qSa, qSz, qSs]))) | (first | (refine wp_seq_shut (fun K hK => ?_)) | (refine wp_text hM (fun Kr hKr => ?_); simp only [inText]) | (refine wp_cond_true rfl ?_) | ((refine hK.out _ _ ?_); clear hK K))))
          ((refine wp_ret ?_; (try simp only [Exit.then, Exit.inBlock]); refine St.ret hM rfl (by repeat (first | exact Outs.nil | apply Outs.tmp rfl)) rfl ?_))
          exact ⟨false, rfl, nofun, hM.to_below⟩
        | true =>
          have HN' := Lib.hid (HN.out ((HSM.out rfl).2 0 _ rfl))
          clear HN HSM
          (repeat (first | ((with_reducible show wpSeq _ _ _ _ _ _ _); first | ((with_reducible refine wpSeq_nil ?_); refine hKr.out _ _ ?_; clear hKr Kr) | ((first | (refine St.copy (v := ?_) (by first | exact .inl rfl | exact .inr rfl) rfl rfl ?_ ?_; rotate_left; (focus ((try simp only [Act.eval, getD_lit, qGz, qGs]); with_reducible rfl))) | refine St.inc rfl rfl rfl rfl rfl (by omega) ?_ | (refine St.pure (v := ?_) rfl rfl rfl (fun w => ?_) ?_; rotate_left; (focus (go_simp; all_goals with_reducible rfl)))); (try simp only [Act.put, qSa, qSz, qSs]))) | (first | (refine wp_text hM (fun Kr hKr => ?_); simp only [inText]) | refine wp_skip ?_ | (refine wp_cond_false rfl ?_) | ((refine hK.out _ _ ?_); clear hK K))))
          replace hM := hM.drop (L' := []) nofun (by simp)
          simp only [Exit.then]
          (refine ⟨?_, ?_⟩; (focus (repeat (first | exact ⟨⟨k + 1, by omega, by omega, rfl, HN', hM⟩, rfl⟩ | apply Exists.intro))); (simp only [getD_lit, qGz, qGs, intOf]; omega))
      · have k2 : ¬ (xs.length : Int) ≤ most := by omega
        (repeat (first | ((with_reducible show wpSeq _ _ _ _ _ _ _); first | ((with_reducible refine wpSeq_nil ?_); refine hKr.out _ _ ?_; clear hKr Kr) | ((first | (refine St.copy (v := ?_) (by first | exact .inl rfl | exact .inr rfl) rfl rfl ?_ ?_; rotate_left; (focus ((try simp only [Act.eval, getD_lit, qGz, qGs]); with_reducible rfl))) | (refine St.pure (v := ?_) rfl rfl rfl (fun w => ?_) ?_; rotate_left; (focus (go_simp; all_goals with_reducible rfl)))); (try simp only [Act.put, qSa, qSz, qSs]))) | (first | (refine wp_seq_shut (fun K hK => ?_)) | (refine wp_text hM (fun Kr hKr => ?_); simp only [inText]) | (refine wp_cond_false rfl ?_) | (refine wp_exit ?_; simp only [Exit.then, Exit.inBlock, if_true, if_false, reduceCtorEq, Nat.reduceEqDiff, Nat.succ_ne_zero]) | ((first | refine hK.out _ _ ?_ | (clear hK K; refine hK.out _ _ ?_)); clear hK K))))
        ((refine wp_ret ?_; (try simp only [Exit.then, Exit.inBlock]); refine St.ret hM rfl (by repeat (first | exact Outs.nil | apply Outs.tmp rfl)) rfl ?_))
        exact ⟨false, rfl, nofun, hM.to_below⟩
    · have k0 : ¬ ((k : Int) < (xs.length : Int)) := by omega
      obtain rfl : k = xs.length := by omega
      clear hlt hk
      (repeat (first | ((with_reducible show wpSeq _ _ _ _ _ _ _); first | ((with_reducible refine wpSeq_nil ?_); refine hKr.out _ _ ?_; clear hKr Kr) | ((first | (refine St.copy (v := ?_) (by first | exact .inl rfl | exact .inr rfl) rfl rfl ?_ ?_; rotate_left; (focus ((try simp only [Act.eval, getD_lit, qGz, qGs]); with_reducible rfl))) | (refine St.pure (v := ?_) rfl rfl rfl (fun w => ?_) ?_; rotate_left; (focus (go_simp; all_goals with_reducible rfl))) | refine wpSeq_off rfl rfl ?_); (try simp only [Act.put, qSa, qSz, qSs]))) | (first | (refine wp_seq_shut (fun K hK => ?_)) | (refine wp_text hM (fun Kr hKr => ?_); simp only [inText]) | (refine wp_cond_false rfl ?_) | (refine wp_exit ?_; simp only [Exit.then, Exit.inBlock, if_true, if_false, reduceCtorEq, Nat.reduceEqDiff, Nat.succ_ne_zero]) | ((first | refine hK.out _ _ ?_ | (clear hK K; refine hK.out _ _ ?_)); clear hK K))))
      ((refine wp_ret ?_; (try simp only [Exit.then, Exit.inBlock]); refine St.ret hM rfl (by repeat (first | exact Outs.nil | apply Outs.tmp rfl)) rfl ?_))
      exact ⟨true, rfl, fun _ => ⟨hkm, fun j y hy => HS.out j y (List.getElem?_eq_some_iff.1 hy).1 hy⟩, hM.to_below⟩
end Go.Proofs.YtcicjklhbnipcaaGreatDoor
namespace Go.Proofs.YtcicjklhbnipcaaGreatDoor
set_option linter.unusedVariables false
set_option linter.unusedSimpArgs false
open Go.RowKit Go.Maps
namespace Fs
theorem under_size {N : Nat} {t : TabD} (I : In.Inv N t) : ∀ (k : Nat) (id : Int) (dir : ByteArray), ∀ f ∈ under t k id dir, f.path.size ≤ dir.size + 33 * k
  | 0, _, _, f, h => by cases h
  | k + 1, id, dir, f, h => by
    unfold under at h
    obtain ⟨p, hp, hf⟩ := List.mem_flatMap.1 h
    have hs := I.short _ (In.find_some (In.names_found hp)).1 p hp
    have hj := join_size dir p.1
    rcases List.mem_cons.1 hf with rfl | hf
    · show (Pt.join dir p.1).size ≤ _
      omega
    · have := under_size I k p.2 (Pt.join dir p.1) f hf
      omega
theorem files_size {N : Nat} {d : FsD} (I : Inv N d) (hN : N ≤ 30000) : ∀ f ∈ files d, f.path.size ≤ 1000000 := fun f hf => by
  have := under_size I.tbl _ _ _ f hf
  have h2 := I.tbl.last
  have e : (⟨#[]⟩ : ByteArray).size = 0 := rfl
  omega
end Fs
section
variable {N : Nat} {X : DskX} {x y : FsX} {β γ : Int → Nat × Nat} {D : DskD} {d : FsD} {w w' w0 : World} {F : List Nat} {L L' M M' : List Ent} {b f g n : Nat} {s : Option (Nat × Nat)}
theorem opK_ok {k : Int} (hk : Fits k) {p : ByteArray} (h : p.size ≤ 1000000) : (opK k p).Ok := ⟨hk, show Fits 0 by decide, show Fits 0 by decide, show Fits 0 by decide, h, show (⟨#[]⟩ : ByteArray).size ≤ 1000000 by decide, show (⟨#[]⟩ : ByteArray).size ≤ maxLen by decide⟩
theorem fold_step {xs : List FileD} {k : Nat} {f : FileD} (h : xs[k]? = some f) (d : FsD) : (xs.take (k + 1)).foldl Ol.empty1 d = Ol.empty1 ((xs.take k).foldl Ol.empty1 d) f := by
  rw [List.take_add_one, h, Option.toList_some, List.foldl_append]
  rfl
set_option maxHeartbeats 16000000 in
set_option maxRecDepth 100000 in
theorem empties_any (h : FsAt N x β d w0) (hfi0 : Ol.FInv N d) (hN : N ≤ 30000) : Calls Tryz.prog 79 #[.pointer (some ⟨x.f, 0, none⟩), .string ⟨#[114, 117, 110]⟩] w0 fun e w' => e = .returned (.tuple #[]) ∧ ∃ β', St w0 (keysOf (fsL x β d)) w' (fsL x β' (Ol.empties d)) := by
  have hM := h.at_.st
  obtain ⟨F, hF⟩ : ∃ F, keysOf (fsL x β d) = F := ⟨_, rfl⟩
  rw [hF] at hM ⊢
  have F0 : 0 ∉ F := hF ▸ h.zero
  have HI := Lib.hid h.inv
  have HX := Lib.hid h.mx
  have HFI := Lib.hid hfi0
  have hup := hfi0.up
  have HSZ := Lib.hid (Fs.files_size h.inv hN)
  have HLN := Lib.hid (Fs.files_len h.inv hup)
  have CF := Lib.hid (fFiles_any h hup (by omega))
  have hED : Ol.empties d = (Fs.files d).reverse.foldl Ol.empty1 d := rfl
  rw [hED]
  clear hF h hup hED hfi0
  generalize Fs.files d = fs at *
  go_enter Tryz.func79, Tryz.ntmps79
  (repeat (first | ((with_reducible show wpSeq _ _ _ _ _ _ _); (((refine St.copy (v := ?_) (by exact .inl rfl) rfl rfl ?_ ?_; rotate_left; (focus ((try simp only [Act.eval, getD_lit, qGz, qGs]); with_reducible rfl)))); (try simp only [Act.put, qSa, qSz, qSs]))) | (first | (refine wp_seq_shut (fun K hK => ?_)) | (refine wp_text hM (fun Kr hKr => ?_); simp only [inText]))))
  ((refine St.call rfl rfl rfl (by kernel_rfl) (fun R hR => ?_); simp only [List.map_toArray, List.map_cons, List.map_nil, Act.eval, getD_lit, qGz, qGs]))
  refine CF.out.mono ?_
  rintro e w' ⟨s, rfl, hk, hN2⟩
  replace hM := hM.madeM hN2 (slL_flag _ _ _ _)
  (refine hR.out _ _ (fun _ => ⟨hM.only, nofun⟩) ?_); clear hR R hN2 CF
  have HK := Lib.hid hk
  obtain ⟨va, vc, hv, hva⟩ := slV_open hk
  (try simp only [Act.put, qSa, qSz, qSs])
  (repeat (first | ((with_reducible show wpSeq _ _ _ _ _ _ _); first | ((with_reducible refine wpSeq_nil ?_); refine hKr.out _ _ ?_; clear hKr Kr) | (((refine St.copy (v := ?_) (by first | exact .inl rfl | exact .inr rfl) rfl rfl ?_ ?_; rotate_left; (focus ((try simp only [Act.eval, getD_lit, qGz, qGs]); with_reducible rfl)))); (try simp only [Act.put, qSa, qSz, qSs]))) | (first | (refine wp_seq_shut (fun K hK => ?_)) | (refine wp_text hM (fun Kr hKr => ?_); simp only [inText]) | ((refine hK.out _ _ ?_); clear hK K))))
  ((refine St.call rfl rfl rfl (by kernel_rfl) (fun R hR => ?_); simp only [List.map_toArray, List.map_cons, List.map_nil, Act.eval, getD_lit, qGz, qGs]))
  refine (revF_any hk (by have := HLN.out; omega) (hM.part .here)).mono ?_
  rintro e w' ⟨rfl, hN2⟩
  replace hM := hM.backM .here (slL_flag _ _ _ _) hN2 (slL_flag _ _ _ _)
  (refine hR.out _ _ (fun _ => ⟨hM.only, nofun⟩) ?_); clear hR R hN2
  have hk2 := fileOK_set hk (ys := fs.reverse) (by simp)
  have e1 : fs.length = fs.reverse.length := by simp
  have HSZ2 := Lib.hid (fun f (hf : f ∈ fs.reverse) => HSZ.out f (List.mem_reverse.1 hf))
  have HLN2 := Lib.hid (e1 ▸ HLN.out)
  rw [hv]
  rw [e1] at hv ⊢
  clear HSZ HLN HK hk e1
  generalize fs.reverse = rs at *
  have HK := Lib.hid hk2
  clear hk2
  (try simp only [Act.put, qSa, qSz, qSs])
  (repeat (first | ((with_reducible show wpSeq _ _ _ _ _ _ _); first | ((with_reducible refine wpSeq_nil ?_); refine hKr.out _ _ ?_; clear hKr Kr) | ((first | (refine St.copy (v := ?_) (by exact .inl rfl) rfl rfl ?_ ?_; rotate_left; (focus ((try simp only [Act.eval, getD_lit, qGz, qGs]); with_reducible rfl))) | (refine St.pure (v := ?_) rfl rfl rfl (fun w => ?_) ?_; rotate_left; (focus (go_simp; all_goals with_reducible rfl)))); (try simp only [Act.put, qSa, qSz, qSs]))) | (first | (refine wp_seq_shut (fun K hK => ?_)) | (refine wp_text hM (fun Kr hKr => ?_); simp only [inText]) | refine wp_block ?_ | ((refine hK.out _ _ ?_); clear hK K))))
  have hrl : rs.length ≤ 30000 := by have := HLN2.out; omega
  go_loopw [14] (fun i wr => ∃ (k : Nat) (β' : Int → Nat × Nat) (dk : FsD), k ≤ rs.length ∧ i = .int .i64 k ∧ (rs.take k).foldl Ol.empty1 d = dk ∧ Ol.FInv N dk ∧ St w0 F wr (fileL s rs ++ fsL x β' dk)) (fun i _ => rs.length - (intOf i).toNat)
  case atStart => exact ⟨0, β, d, by omega, rfl, by simp, HFI.out, hM⟩
  case round =>
    clear hM
    obtain ⟨k, β, dk, hk, rfl, hdk, hfi, hM⟩ := hrel
    have HDK := Lib.hid hdk
    have HFK := Lib.hid hfi
    clear hdk hfi
    by_cases hlt : k < rs.length
    · obtain ⟨f, hf⟩ := get_at hlt
      cases s with
      | none => exact absurd HK.out.2 (by omega)
      | some gc =>
      obtain ⟨g, cap⟩ := gc
      obtain ⟨rfl, rfl⟩ := hva g cap rfl
      have hsz := HSZ2.out f (List.mem_of_getElem? hf)
      have hrow := file_at hf
      have hlen : k * 3 + 3 ≤ (rs.flatMap FileD.cells).length := by rw [cells_len]; omega
      have HST := Lib.hid ((fold_step hf d).trans (congrArg (fun z => Ol.empty1 z f) HDK.out))
      have HF1 := Lib.hid (Ol.finv_empty1 HFK.out f)
      have k1 : (k : Int) < (rs.length : Int) := by omega
      have CU := Lib.hid (fun (W : World) (hm : Mx W) => Under_any f.path Pt.run W hsz (by decide) hm)
      have CD2 := Lib.hid (fun (W : World) (β' : Int → Nat × Nat) (hA : FsAt N x β' dk W) => fDo_any hA (by omega) (o := 0) (by decide) (opK 2 f.path) (opK_ok (by decide) hsz))
      have CD11 := Lib.hid (fun (W : World) (β' : Int → Nat × Nat) (hA : FsAt N x β' dk W) => fDo_any hA (by omega) (o := 0) (by decide) (opK 11 f.path) (opK_ok (by decide) hsz))
      have hem : Ol.empty1 dk f = if Pt.under f.path Pt.run then (Fs.do_ dk 0 (opK (if f.dir then 2 else 11) f.path)).2 else dk := rfl
      rw [hem] at HST HF1
      clear hf hlt hsz hem
      obtain ⟨fp, fd, ft⟩ := f
      simp only at hrow HST HF1 CU CD2 CD11
      simp only [slL, List.cons_append, List.nil_append] at hM
      (repeat (first | ((with_reducible show wpSeq _ _ _ _ _ _ _); first | ((with_reducible refine wpSeq_nil ?_); refine hKr.out _ _ ?_; clear hKr Kr) | (((refine St.pure (v := ?_) rfl rfl rfl (fun w => ?_) ?_; rotate_left; (focus (go_simp; all_goals with_reducible rfl)))); (try simp only [Act.put, qSa, qSz, qSs]))) | (first | (refine wp_seq_shut (fun K hK => ?_)) | (refine wp_text hM (fun Kr hKr => ?_); simp only [inText]) | refine wp_block ?_ | refine wp_skip ?_ | (refine wp_cond_true rfl ?_) | ((refine hK.out _ _ ?_); clear hK K))))
      refine St.loadRow rfl hM rfl rfl rfl rfl (by repeat constructor) (by exact hlen) (by kernel_rfl) ?_
      simp only [Res.known]
      rw [hrow]
      (try simp only [Act.put, qSa, qSz, qSs])
      generalize Pt.under fp Pt.run = un at *
      cases fd with
      | false =>
        cases un with
        | false =>
          have hst := HST.out
          have hf1 := HF1.out
          simp only [Bool.false_eq_true, if_false, if_true] at hst hf1
          have HS1 := Lib.hid hst
          have HF2 := Lib.hid hf1
          clear hst hf1 HST HF1
          (repeat (first | ((with_reducible show wpSeq _ _ _ _ _ _ _); first | ((with_reducible refine wpSeq_nil ?_); refine hKr.out _ _ ?_; clear hKr Kr) | ((first | (refine St.copy (v := ?_) (by exact .inl rfl) rfl rfl ?_ ?_; rotate_left; (focus ((try simp only [Act.eval, getD_lit, qGz, qGs]); with_reducible rfl))) | (refine St.pure (v := ?_) rfl rfl rfl (fun w => ?_) ?_; rotate_left; (focus (go_simp; all_goals with_reducible rfl))) | refine St.load rfl hM rfl rfl rfl rfl (by repeat constructor) (by rfl) (by kernel_rfl) ?_ | ((((refine St.storeRow rfl hM rfl rfl rfl rfl rfl (by repeat constructor) (Nat.le_of_ble_eq_true rfl) (Nat.le_of_ble_eq_true rfl) (by kernel_rfl) rfl ?_ ?_); (focus ((intro h; cases h; done))); clear hM; intro w hM)); (try simp only [Res.put, Res.known, Act.eval, Value.cells, getD_lit, qGz, qGs, List.toList_toArray, qSz, qSs, over, Nat.reduceAdd] at hM))); (try simp only [Act.put, qSa, qSz, qSs])) | (((first | refine St.alloc (ty := 112) (z := .agg #[.string ⟨#[]⟩, .bool false, .string ⟨#[]⟩]) rfl hM rfl rfl (by kernel_rfl) ?_ | refine St.alloc (ty := 34) (z := .agg #[.int .i64 0, .string ⟨#[]⟩, .string ⟨#[]⟩, .int .i64 0, .int .i64 0, .int .i64 0, .string ⟨#[]⟩, .int .i64 0, .int .i64 0]) rfl hM rfl rfl (by kernel_rfl) ?_); clear hM; intro w bk hM); (try simp only [Res.put, Res.known, Act.eval, Value.cells, getD_lit, qGz, qGs, List.toList_toArray, qSz, qSs, over, Nat.reduceAdd] at hM); (try simp only [Act.put, qSa, qSz, qSs]))) | (first | (refine wp_seq_shut (fun K hK => ?_)) | (refine wp_text hM (fun Kr hKr => ?_); simp only [inText]) | refine wp_skip ?_ | (refine wp_cond_false rfl ?_) | ((refine hK.out _ _ ?_); clear hK K))))
          ((refine St.call rfl rfl rfl (by kernel_rfl) (fun R hR => ?_); simp only [List.map_toArray, List.map_cons, List.map_nil, Act.eval, getD_lit, qGz, qGs]))
          refine (CU.out _ (hM.mx HX.out F0)).mono ?_
          rintro e w' ⟨rfl, hb⟩
          replace hM := hM.below hb
          (refine hR.out _ _ (fun _ => ⟨hM.only, nofun⟩) ?_); clear hR R hb
          (try simp only [Act.put, qSa, qSz, qSs])
          (repeat (first | ((with_reducible show wpSeq _ _ _ _ _ _ _); first | ((with_reducible refine wpSeq_nil ?_); refine hKr.out _ _ ?_; clear hKr Kr) | ((first | (refine St.copy (v := ?_) (by exact .inl rfl) rfl rfl ?_ ?_; rotate_left; (focus ((try simp only [Act.eval, getD_lit, qGz, qGs]); with_reducible rfl))) | refine St.inc rfl rfl rfl rfl rfl (by omega) ?_); (try simp only [Act.put, qSa, qSz, qSs]))) | (first | (refine wp_text hM (fun Kr hKr => ?_); simp only [inText]) | refine wp_skip ?_ | (refine wp_cond_false rfl ?_) | ((refine hK.out _ _ ?_); clear hK K))))
          replace hM := hM.forget.forget
          simp only [Exit.then]
          (refine ⟨?_, ?_⟩; (focus (repeat (first | exact ⟨⟨k + 1, β, dk, by omega, rfl, HS1.out, HF2.out, hM⟩, rfl⟩ | apply Exists.intro))); (simp only [getD_lit, qGz, qGs, intOf]; omega))
        | true =>
          have hst := HST.out
          have hf1 := HF1.out
          simp only [Bool.false_eq_true, if_false, if_true] at hst hf1
          have HS1 := Lib.hid hst
          have HF2 := Lib.hid hf1
          clear hst hf1 HST HF1
          (repeat (first | ((with_reducible show wpSeq _ _ _ _ _ _ _); first | ((with_reducible refine wpSeq_nil ?_); refine hKr.out _ _ ?_; clear hKr Kr) | ((first | (refine St.copy (v := ?_) (by exact .inl rfl) rfl rfl ?_ ?_; rotate_left; (focus ((try simp only [Act.eval, getD_lit, qGz, qGs]); with_reducible rfl))) | (refine St.pure (v := ?_) rfl rfl rfl (fun w => ?_) ?_; rotate_left; (focus (go_simp; all_goals with_reducible rfl))) | refine St.load rfl hM rfl rfl rfl rfl (by repeat constructor) (by rfl) (by kernel_rfl) ?_ | ((((refine St.storeRow rfl hM rfl rfl rfl rfl rfl (by repeat constructor) (Nat.le_of_ble_eq_true rfl) (Nat.le_of_ble_eq_true rfl) (by kernel_rfl) rfl ?_ ?_); (focus ((intro h; cases h; done))); clear hM; intro w hM)); (try simp only [Res.put, Res.known, Act.eval, Value.cells, getD_lit, qGz, qGs, List.toList_toArray, qSz, qSs, over, Nat.reduceAdd] at hM))); (try simp only [Act.put, qSa, qSz, qSs])) | (((first | refine St.alloc (ty := 112) (z := .agg #[.string ⟨#[]⟩, .bool false, .string ⟨#[]⟩]) rfl hM rfl rfl (by kernel_rfl) ?_ | refine St.alloc (ty := 34) (z := .agg #[.int .i64 0, .string ⟨#[]⟩, .string ⟨#[]⟩, .int .i64 0, .int .i64 0, .int .i64 0, .string ⟨#[]⟩, .int .i64 0, .int .i64 0]) rfl hM rfl rfl (by kernel_rfl) ?_); clear hM; intro w bk hM); (try simp only [Res.put, Res.known, Act.eval, Value.cells, getD_lit, qGz, qGs, List.toList_toArray, qSz, qSs, over, Nat.reduceAdd] at hM); (try simp only [Act.put, qSa, qSz, qSs]))) | (first | (refine wp_seq_shut (fun K hK => ?_)) | (refine wp_text hM (fun Kr hKr => ?_); simp only [inText]) | refine wp_skip ?_ | (refine wp_cond_false rfl ?_) | ((refine hK.out _ _ ?_); clear hK K))))
          ((refine St.call rfl rfl rfl (by kernel_rfl) (fun R hR => ?_); simp only [List.map_toArray, List.map_cons, List.map_nil, Act.eval, getD_lit, qGz, qGs]))
          refine (CU.out _ (hM.mx HX.out F0)).mono ?_
          rintro e w' ⟨rfl, hb⟩
          replace hM := hM.below hb
          (refine hR.out _ _ (fun _ => ⟨hM.only, nofun⟩) ?_); clear hR R hb
          (try simp only [Act.put, qSa, qSz, qSs])
          (repeat (first | ((with_reducible show wpSeq _ _ _ _ _ _ _); first | ((with_reducible refine wpSeq_nil ?_); refine hKr.out _ _ ?_; clear hKr Kr) | ((first | (refine St.copy (v := ?_) (by exact .inl rfl) rfl rfl ?_ ?_; rotate_left; (focus ((try simp only [Act.eval, getD_lit, qGz, qGs]); with_reducible rfl))) | ((refine St.loadRow rfl hM rfl rfl rfl rfl (by repeat constructor) (Nat.le_of_ble_eq_true rfl) (by kernel_rfl) ?_); (try simp only [Res.known, List.drop_succ_cons, List.drop_zero, List.take_succ_cons, List.take_zero]))); (try simp only [Act.put, qSa, qSz, qSs]))) | (first | (refine wp_text hM (fun Kr hKr => ?_); simp only [inText]) | (refine wp_cond_true rfl ?_) | ((refine hK.out _ _ ?_); clear hK K))))
          ((refine St.call rfl rfl rfl (by kernel_rfl) (fun R hR => ?_); simp only [List.map_toArray, List.map_cons, List.map_nil, Act.eval, getD_lit, qGz, qGs]))
          refine (CD11.out _ β (hM.fs (x := x) (β := β) (d := dk) (by repeat (first | exact Part.all | apply Part.skip)) HFK.out.inv HX.out F0)).mono ?_
          rintro e w' ⟨s2, β2, rfl, -, hN2⟩
          replace hM := hM.backM (M := fsL x β dk) (.skip (.skip (.skip .all))) (fsL_flag _ _ _) hN2 (fun y hy => (List.mem_append.1 hy).elim (txL_flag _ _ y) (fsL_flag _ _ _ y))
          (refine hR.out _ _ (fun _ => ⟨hM.only, nofun⟩) ?_); clear hR R hN2
          (try simp only [Act.put, qSa, qSz, qSs])
          (repeat (first | ((with_reducible show wpSeq _ _ _ _ _ _ _); first | ((with_reducible refine wpSeq_nil ?_); refine hKr.out _ _ ?_; clear hKr Kr) | ((first | (refine St.copy (v := ?_) (by exact .inl rfl) rfl rfl ?_ ?_; rotate_left; (focus ((try simp only [Act.eval, getD_lit, qGz, qGs]); with_reducible rfl))) | refine St.inc rfl rfl rfl rfl rfl (by omega) ?_); (try simp only [Act.put, qSa, qSz, qSs]))) | (first | (refine wp_text hM (fun Kr hKr => ?_); simp only [inText]) | ((refine hK.out _ _ ?_); clear hK K))))
          replace hM := hM.forget.forget.subM ((List.sublist_append_right _ _).cons_cons _)
          simp only [Exit.then]
          (refine ⟨?_, ?_⟩; (focus (repeat (first | exact ⟨⟨k + 1, β2, _, by omega, rfl, HS1.out, HF2.out, hM⟩, rfl⟩ | apply Exists.intro))); (simp only [getD_lit, qGz, qGs, intOf]; omega))
      | true =>
        cases un with
        | false =>
          have hst := HST.out
          have hf1 := HF1.out
          simp only [Bool.false_eq_true, if_false, if_true] at hst hf1
          have HS1 := Lib.hid hst
          have HF2 := Lib.hid hf1
          clear hst hf1 HST HF1
          (repeat (first | ((with_reducible show wpSeq _ _ _ _ _ _ _); first | ((with_reducible refine wpSeq_nil ?_); refine hKr.out _ _ ?_; clear hKr Kr) | ((first | (refine St.copy (v := ?_) (by exact .inl rfl) rfl rfl ?_ ?_; rotate_left; (focus ((try simp only [Act.eval, getD_lit, qGz, qGs]); with_reducible rfl))) | (refine St.pure (v := ?_) rfl rfl rfl (fun w => ?_) ?_; rotate_left; (focus (go_simp; all_goals with_reducible rfl))) | refine St.load rfl hM rfl rfl rfl rfl (by repeat constructor) (by rfl) (by kernel_rfl) ?_ | ((((first | refine St.store rfl hM rfl rfl rfl rfl rfl (by repeat constructor) (Nat.le_of_ble_eq_true rfl) (by kernel_rfl) rfl ?_ ?_ | refine St.storeRow rfl hM rfl rfl rfl rfl rfl (by repeat constructor) (Nat.le_of_ble_eq_true rfl) (Nat.le_of_ble_eq_true rfl) (by kernel_rfl) rfl ?_ ?_); (focus ((intro h; cases h; done))); clear hM; intro w hM)); (try simp only [Res.put, Res.known, Act.eval, Value.cells, getD_lit, qGz, qGs, List.toList_toArray, qSz, qSs, over, Nat.reduceAdd] at hM))); (try simp only [Act.put, qSa, qSz, qSs])) | (((first | refine St.alloc (ty := 112) (z := .agg #[.string ⟨#[]⟩, .bool false, .string ⟨#[]⟩]) rfl hM rfl rfl (by kernel_rfl) ?_ | refine St.alloc (ty := 34) (z := .agg #[.int .i64 0, .string ⟨#[]⟩, .string ⟨#[]⟩, .int .i64 0, .int .i64 0, .int .i64 0, .string ⟨#[]⟩, .int .i64 0, .int .i64 0]) rfl hM rfl rfl (by kernel_rfl) ?_); clear hM; intro w bk hM); (try simp only [Res.put, Res.known, Act.eval, Value.cells, getD_lit, qGz, qGs, List.toList_toArray, qSz, qSs, over, Nat.reduceAdd] at hM); (try simp only [Act.put, qSa, qSz, qSs]))) | (first | (refine wp_seq_shut (fun K hK => ?_)) | (refine wp_text hM (fun Kr hKr => ?_); simp only [inText]) | (refine wp_cond_true rfl ?_) | ((refine hK.out _ _ ?_); clear hK K))))
          ((refine St.call rfl rfl rfl (by kernel_rfl) (fun R hR => ?_); simp only [List.map_toArray, List.map_cons, List.map_nil, Act.eval, getD_lit, qGz, qGs]))
          refine (CU.out _ (hM.mx HX.out F0)).mono ?_
          rintro e w' ⟨rfl, hb⟩
          replace hM := hM.below hb
          (refine hR.out _ _ (fun _ => ⟨hM.only, nofun⟩) ?_); clear hR R hb
          (try simp only [Act.put, qSa, qSz, qSs])
          (repeat (first | ((with_reducible show wpSeq _ _ _ _ _ _ _); first | ((with_reducible refine wpSeq_nil ?_); refine hKr.out _ _ ?_; clear hKr Kr) | ((first | (refine St.copy (v := ?_) (by exact .inl rfl) rfl rfl ?_ ?_; rotate_left; (focus ((try simp only [Act.eval, getD_lit, qGz, qGs]); with_reducible rfl))) | refine St.inc rfl rfl rfl rfl rfl (by omega) ?_); (try simp only [Act.put, qSa, qSz, qSs]))) | (first | (refine wp_text hM (fun Kr hKr => ?_); simp only [inText]) | refine wp_skip ?_ | (refine wp_cond_false rfl ?_) | ((refine hK.out _ _ ?_); clear hK K))))
          replace hM := hM.forget.forget
          simp only [Exit.then]
          (refine ⟨?_, ?_⟩; (focus (repeat (first | exact ⟨⟨k + 1, β, dk, by omega, rfl, HS1.out, HF2.out, hM⟩, rfl⟩ | apply Exists.intro))); (simp only [getD_lit, qGz, qGs, intOf]; omega))
        | true =>
          have hst := HST.out
          have hf1 := HF1.out
          simp only [Bool.false_eq_true, if_false, if_true] at hst hf1
          have HS1 := Lib.hid hst
          have HF2 := Lib.hid hf1
          clear hst hf1 HST HF1
          (repeat (first | ((with_reducible show wpSeq _ _ _ _ _ _ _); first | ((with_reducible refine wpSeq_nil ?_); refine hKr.out _ _ ?_; clear hKr Kr) | ((first | (refine St.copy (v := ?_) (by exact .inl rfl) rfl rfl ?_ ?_; rotate_left; (focus ((try simp only [Act.eval, getD_lit, qGz, qGs]); with_reducible rfl))) | (refine St.pure (v := ?_) rfl rfl rfl (fun w => ?_) ?_; rotate_left; (focus (go_simp; all_goals with_reducible rfl))) | refine St.load rfl hM rfl rfl rfl rfl (by repeat constructor) (by rfl) (by kernel_rfl) ?_ | ((((first | refine St.store rfl hM rfl rfl rfl rfl rfl (by repeat constructor) (Nat.le_of_ble_eq_true rfl) (by kernel_rfl) rfl ?_ ?_ | refine St.storeRow rfl hM rfl rfl rfl rfl rfl (by repeat constructor) (Nat.le_of_ble_eq_true rfl) (Nat.le_of_ble_eq_true rfl) (by kernel_rfl) rfl ?_ ?_); (focus ((intro h; cases h; done))); clear hM; intro w hM)); (try simp only [Res.put, Res.known, Act.eval, Value.cells, getD_lit, qGz, qGs, List.toList_toArray, qSz, qSs, over, Nat.reduceAdd] at hM))); (try simp only [Act.put, qSa, qSz, qSs])) | (((first | refine St.alloc (ty := 112) (z := .agg #[.string ⟨#[]⟩, .bool false, .string ⟨#[]⟩]) rfl hM rfl rfl (by kernel_rfl) ?_ | refine St.alloc (ty := 34) (z := .agg #[.int .i64 0, .string ⟨#[]⟩, .string ⟨#[]⟩, .int .i64 0, .int .i64 0, .int .i64 0, .string ⟨#[]⟩, .int .i64 0, .int .i64 0]) rfl hM rfl rfl (by kernel_rfl) ?_); clear hM; intro w bk hM); (try simp only [Res.put, Res.known, Act.eval, Value.cells, getD_lit, qGz, qGs, List.toList_toArray, qSz, qSs, over, Nat.reduceAdd] at hM); (try simp only [Act.put, qSa, qSz, qSs]))) | (first | (refine wp_seq_shut (fun K hK => ?_)) | (refine wp_text hM (fun Kr hKr => ?_); simp only [inText]) | (refine wp_cond_true rfl ?_) | ((refine hK.out _ _ ?_); clear hK K))))
          ((refine St.call rfl rfl rfl (by kernel_rfl) (fun R hR => ?_); simp only [List.map_toArray, List.map_cons, List.map_nil, Act.eval, getD_lit, qGz, qGs]))
          refine (CU.out _ (hM.mx HX.out F0)).mono ?_
          rintro e w' ⟨rfl, hb⟩
          replace hM := hM.below hb
          (refine hR.out _ _ (fun _ => ⟨hM.only, nofun⟩) ?_); clear hR R hb
          (try simp only [Act.put, qSa, qSz, qSs])
          (repeat (first | ((with_reducible show wpSeq _ _ _ _ _ _ _); first | ((with_reducible refine wpSeq_nil ?_); refine hKr.out _ _ ?_; clear hKr Kr) | ((first | (refine St.copy (v := ?_) (by exact .inl rfl) rfl rfl ?_ ?_; rotate_left; (focus ((try simp only [Act.eval, getD_lit, qGz, qGs]); with_reducible rfl))) | ((refine St.loadRow rfl hM rfl rfl rfl rfl (by repeat constructor) (Nat.le_of_ble_eq_true rfl) (by kernel_rfl) ?_); (try simp only [Res.known, List.drop_succ_cons, List.drop_zero, List.take_succ_cons, List.take_zero]))); (try simp only [Act.put, qSa, qSz, qSs]))) | (first | (refine wp_text hM (fun Kr hKr => ?_); simp only [inText]) | (refine wp_cond_true rfl ?_) | ((refine hK.out _ _ ?_); clear hK K))))
          ((refine St.call rfl rfl rfl (by kernel_rfl) (fun R hR => ?_); simp only [List.map_toArray, List.map_cons, List.map_nil, Act.eval, getD_lit, qGz, qGs]))
          refine (CD2.out _ β (hM.fs (x := x) (β := β) (d := dk) (by repeat (first | exact Part.all | apply Part.skip)) HFK.out.inv HX.out F0)).mono ?_
          rintro e w' ⟨s2, β2, rfl, -, hN2⟩
          replace hM := hM.backM (M := fsL x β dk) (.skip (.skip (.skip .all))) (fsL_flag _ _ _) hN2 (fun y hy => (List.mem_append.1 hy).elim (txL_flag _ _ y) (fsL_flag _ _ _ y))
          (refine hR.out _ _ (fun _ => ⟨hM.only, nofun⟩) ?_); clear hR R hN2
          (try simp only [Act.put, qSa, qSz, qSs])
          (repeat (first | ((with_reducible show wpSeq _ _ _ _ _ _ _); first | ((with_reducible refine wpSeq_nil ?_); refine hKr.out _ _ ?_; clear hKr Kr) | ((first | (refine St.copy (v := ?_) (by exact .inl rfl) rfl rfl ?_ ?_; rotate_left; (focus ((try simp only [Act.eval, getD_lit, qGz, qGs]); with_reducible rfl))) | refine St.inc rfl rfl rfl rfl rfl (by omega) ?_); (try simp only [Act.put, qSa, qSz, qSs]))) | (first | (refine wp_text hM (fun Kr hKr => ?_); simp only [inText]) | ((refine hK.out _ _ ?_); clear hK K))))
          replace hM := hM.forget.forget.subM ((List.sublist_append_right _ _).cons_cons _)
          simp only [Exit.then]
          (refine ⟨?_, ?_⟩; (focus (repeat (first | exact ⟨⟨k + 1, β2, _, by omega, rfl, HS1.out, HF2.out, hM⟩, rfl⟩ | apply Exists.intro))); (simp only [getD_lit, qGz, qGs, intOf]; omega))
    · have k0 : ¬ ((k : Int) < (rs.length : Int)) := by omega
      obtain rfl : k = rs.length := by omega
      have e := HDK.out
      rw [List.take_length] at e
      clear hlt hk
      (repeat (first | ((with_reducible show wpSeq _ _ _ _ _ _ _); first | ((with_reducible refine wpSeq_nil ?_); refine hKr.out _ _ ?_; clear hKr Kr) | (((refine St.pure (v := ?_) rfl rfl rfl (fun w => ?_) ?_; rotate_left; (focus (go_simp; all_goals with_reducible rfl)))); (try simp only [Act.put, qSa, qSz, qSs]))) | (first | (refine wp_seq_shut (fun K hK => ?_)) | (refine wp_text hM (fun Kr hKr => ?_); simp only [inText]) | (refine wp_cond_false rfl ?_) | (refine wp_exit ?_; simp only [Exit.then, Exit.inBlock, if_true, if_false, reduceCtorEq, Nat.reduceEqDiff, Nat.succ_ne_zero]) | ((refine hK.out _ _ ?_); clear hK K))))
      ((refine St.fin hM rfl (by repeat (exact Outs.nil)) rfl ?_))
      refine ⟨rfl, β, ?_⟩
      rw [e]
      exact hM.subM (List.sublist_append_right _ _)
end
end Go.Proofs.YtcicjklhbnipcaaGreatDoor
namespace Go.Proofs.YtcicjklhbnipcaaGreatDoor
set_option linter.unusedVariables false
set_option linter.unusedSimpArgs false
open Go.RowKit Go.Maps
section
variable {N : Nat} {X : DskX} {x y : FsX} {β γ : Int → Nat × Nat} {D : DskD} {d : FsD} {w w' w0 : World} {F : List Nat} {L L' M M' R : List Ent} {b f g n : Nat} {s : Option (Nat × Nat)}
/-- One block is written, the others are read. -/
theorem At.stB {e : Ent} (h : At (e :: R) w) : St w [e.1] w (e :: R.map unflag) := by
  refine ⟨Only.refl _ w, fun z hz => ?_, ?_, fun z hz h1 => ?_⟩
  · rcases List.mem_cons.1 hz with rfl | hz
    · exact h.has z (.head _)
    · obtain ⟨y, hy, rfl⟩ := List.mem_map.1 hz
      exact h.has y (.tail _ hy)
  · have := h.nd
    unfold keysOf at this
    rw [List.map_cons] at this ⊢
    rw [List.map_map]
    exact this
  · rcases List.mem_cons.1 hz with rfl | hz
    · exact .inl (by simp)
    · obtain ⟨y, hy, rfl⟩ := List.mem_map.1 hz
      cases h1
theorem log_step {l : List LogD} {k : Nat} {z : LogD} (h : l[k]? = some z) (d : FsD) : Ol.replay d (l.take (k + 1)) = Ol.again (Ol.replay d (l.take k)) z := by
  rw [List.take_add_one, h, Option.toList_some, Ol.replay_snoc]
theorem own_step {l : List Int} {k : Nat} {o : Int} (h : l[k]? = some o) (d : FsD) : (l.take (k + 1)).foldl Fs.exit d = Fs.exit ((l.take k).foldl Fs.exit d) o := by
  rw [List.take_add_one, h, Option.toList_some, List.foldl_append]
  rfl
theorem ents_holds {zs : List LogV} {z : LogV} (hM : St w0 F w L) (hs : ∀ e ∈ (zs.flatMap LogV.ents).map unflag, e ∈ L) (hz : z ∈ zs) : ∀ e ∈ z.ents, e.2.2.holds w.heap[e.1]? := fun e he =>
  hM.holds (unflag e) (hs _ (List.mem_map_of_mem (List.mem_flatMap.2 ⟨z, hz, he⟩)))
set_option maxHeartbeats 16000000 in
set_option maxRecDepth 100000 in
theorem dCut_any {zs : List LogV} (hA : At (dskE b f y.f s zs.length :: (logL s (zs.map LogV.val) ++ (fsL y γ D.base ++ zs.flatMap LogV.ents))) w0) (hk : SlOK s zs.length (zs.map LogV.val) 1) (hz : zs.map (·.1) = D.log) {K0 : Nat} (hB : Ol.FInv K0 D.base) (hKN : K0 + 3 * D.log.length ≤ 30000) (hok : ∀ l ∈ D.log, Ol.LogOk l) (hX : Mx w0) (h0 : 0 ∉ keysOf (dskE b f y.f s zs.length :: (logL s (zs.map LogV.val) ++ (fsL y γ D.base ++ zs.flatMap LogV.ents)))) (keep : Int) :
    Calls Tryz.prog 30 #[.pointer (some ⟨b, 0, none⟩), .int .i64 keep] w0 fun e w' => e = .returned (.int .i64 0) ∧ ∃ x1 β1 x2 β2, St w0 [b] w' (dskE b (FsX.f x1) (FsX.f x2) none 0 :: (fsL x1 β1 (Ol.cutFs D keep) ++ fsL x2 β2 (Ol.cutFs D keep))) := by
  have hY : FsAt K0 y γ D.base w0 := ⟨hA.sub (((List.sublist_append_left _ _).trans (List.sublist_append_right _ _)).cons _), hB.inv, hX, keys_sub (((List.sublist_append_left _ _).trans (List.sublist_append_right _ _)).cons _) h0⟩
  have hM := hA.stB
  have HY := Lib.hid hY
  have HX := Lib.hid hX
  have F0 : 0 ∉ ([b] : List Nat) := fun h => h0 (by rcases List.mem_singleton.1 h with rfl; exact .head _)
  have HB := Lib.hid hB
  have HOK := Lib.hid hok
  have HZ := Lib.hid hz
  have HK := Lib.hid hk
  have hlog : zs.length = D.log.length := by rw [← hz, List.length_map]
  have hln : zs.length ≤ 10000 := by omega
  obtain ⟨kk, hkk⟩ : ∃ kk : Nat, max 0 (min keep (zs.length : Int)) = (kk : Int) := ⟨(max 0 (min keep (zs.length : Int))).toNat, by omega⟩
  have hC : Ol.cutFs D keep = Ol.empties (Ol.exits (Ol.replay D.base (D.log.take kk))) := by
    unfold Ol.cutFs
    rw [← hlog, hkk, Int.toNat_natCast]
  rw [hC]
  have hkl : kk ≤ zs.length := by omega
  obtain ⟨va, vc, hv, hva⟩ := slV_open hk
  have hvc : (kk : Int) ≤ (vc : Int) := by
    rcases s with _ | ⟨g, cap⟩
    · have := hk.2; omega
    · obtain ⟨-, rfl⟩ := hva g cap rfl
      have := hk.2.1
      omega
  have HLG := Lib.hid hlog
  clear hA hY hX hB hok hz hk h0 hC hlog
  unfold dskE at hM
  rw [hv] at hM
  rw [List.map_append, List.map_append] at hM
  go_enter Tryz.func30, Tryz.ntmps30
  (repeat (first | ((with_reducible show wpSeq _ _ _ _ _ _ _); first | ((with_reducible refine wpSeq_nil ?_); refine hKr.out _ _ ?_; clear hKr Kr) | (((refine St.copy (v := ?_) (by first | exact .inl rfl | exact .inr rfl) rfl rfl ?_ ?_; rotate_left; (focus ((try simp only [Act.eval, getD_lit, qGz, qGs]); with_reducible rfl)))); (try simp only [Act.put, qSa, qSz, qSs]))) | (first | (refine wp_seq_shut (fun K hK => ?_)) | (refine wp_text hM (fun Kr hKr => ?_); simp only [inText]) | ((refine hK.out _ _ ?_); clear hK K))))
  ((refine St.call rfl rfl rfl (by kernel_rfl) (fun R hR => ?_); simp only [List.map_toArray, List.map_cons, List.map_nil, Act.eval, getD_lit, qGz, qGs]))
  refine (dgiven_any (f := f) (g := y.f) (s := s) (n := zs.length) (by
    have := hM.holds _ (.head _)
    unfold dskE
    rw [hv]
    exact this)).mono ?_
  rintro e w' ⟨rfl, rfl⟩; refine hR.out _ _ (fun h => h) ?_; clear hR R; (try simp only [Act.put, qSa, qSz, qSs])
  (repeat (first | ((with_reducible show wpSeq _ _ _ _ _ _ _); first | ((with_reducible refine wpSeq_nil ?_); refine hKr.out _ _ ?_; clear hKr Kr) | ((first | (refine St.copy (v := ?_) (by exact .inl rfl) rfl rfl ?_ ?_; rotate_left; (focus ((try simp only [Act.eval, getD_lit, qGz, qGs]); with_reducible rfl))) | (refine St.pure (v := ?_) rfl rfl rfl (fun w => ?_) ?_; rotate_left; (focus (go_simp; all_goals with_reducible rfl))) | refine St.load rfl hM rfl rfl rfl rfl (by repeat constructor) (by rfl) (by kernel_rfl) ?_); (try simp only [Act.put, qSa, qSz, qSs]))) | (first | (refine wp_seq_shut (fun K hK => ?_)) | (refine wp_text hM (fun Kr hKr => ?_); simp only [inText]) | refine wp_skip ?_ | (refine wp_cond_false rfl ?_) | ((refine hK.out _ _ ?_); clear hK K))))
  ((refine St.call rfl rfl rfl (by kernel_rfl) (fun R hR => ?_); simp only [List.map_toArray, List.map_cons, List.map_nil, Act.eval, getD_lit, qGz, qGs]))
  refine (fClone_any HY.out (by omega)).mono ?_
  rintro e w' ⟨x1, β1, rfl, hN2⟩
  replace hM := hM.madeM hN2 (fsL_flag _ _ _)
  (refine hR.out _ _ (fun _ => ⟨hM.only, nofun⟩) ?_); clear hR R hN2
  replace hM := hM.perm (List.perm_middle)
  (try simp only [Act.put, qSa, qSz, qSs])
  (repeat (first | ((with_reducible show wpSeq _ _ _ _ _ _ _); first | ((with_reducible refine wpSeq_nil ?_); refine hKr.out _ _ ?_; clear hKr Kr) | ((first | (refine St.copy (v := ?_) (by first | exact .inl rfl | exact .inr rfl) rfl rfl ?_ ?_; rotate_left; (focus ((try simp only [Act.eval, getD_lit, qGz, qGs]); with_reducible rfl))) | (refine St.pure (v := ?_) rfl rfl rfl (fun w => ?_) ?_; rotate_left; (focus (go_simp; all_goals with_reducible rfl))) | refine St.load1 rfl rfl rfl rfl (by repeat constructor) (by rfl) (by kernel_rfl) ?_); (try simp only [Act.put, qSa, qSz, qSs]))) | (first | (refine wp_seq_shut (fun K hK => ?_)) | refine wp_block ?_ | ((refine hK.out _ _ ?_); clear hK K)) | ((refine wp_drawn (id := 4) hM (Sub.all _) [3, 8] [(0, 0), (1, 0), (2, 0), (3, 1), (4, 0), (5, 0), (6, 0), (7, 0), (8, 1), (9, 0), (10, 0), (11, 0), (12, 0), (13, 0), (14, 2)] (by kernel_rfl) (by kernel_rfl) ?_); (clear hM; intro w hM Kr hKr); simp only [opsOf, qGz, qGs])))
  have RE : ∀ e ∈ (zs.flatMap LogV.ents).map unflag, e ∈ List.map unflag (logL s (List.map LogV.val zs)) ++ (List.map unflag (fsL y γ D.base) ++ List.map unflag (List.flatMap LogV.ents zs)) := fun e he => List.mem_append_right _ (List.mem_append_right _ he)
  have RG : ∀ g cap, s = some (g, cap) → (g, false, Res.pre (zs.map LogV.val) 138 (cap * 1)) ∈ List.map unflag (logL s (List.map LogV.val zs)) ++ (List.map unflag (fsL y γ D.base) ++ List.map unflag (List.flatMap LogV.ents zs)) := fun g cap hs => by
    subst hs
    exact List.mem_append_left _ (.head _)
  generalize List.map unflag (logL s (List.map LogV.val zs)) ++ (List.map unflag (fsL y γ D.base) ++ List.map unflag (List.flatMap LogV.ents zs)) = RR at *
  have HRE := Lib.hid RE
  have HRG := Lib.hid RG
  clear RE RG
  go_loopw [32] (fun i wr => ∃ (k : Nat) (β' : Int → Nat × Nat) (dk : FsD), k ≤ kk ∧ i = .int .i64 k ∧ Ol.replay D.base (D.log.take k) = dk ∧ Ol.FInv (K0 + 3 * k) dk ∧ St w0 [b] wr ((b, true, .cells [.pointer (some ⟨f, 0, none⟩), .pointer (some ⟨y.f, 0, none⟩), .slice va zs.length vc] 81) :: (fsL x1 β' dk ++ RR))) (fun i _ => kk - (intOf i).toNat)
  case atStart => exact ⟨0, β1, D.base, by omega, rfl, rfl, HB.out, hM⟩
  case round =>
    clear hM
    obtain ⟨k, β1, dk, hk, rfl, hdk, hfi, hM⟩ := hrel
    have HDK := Lib.hid hdk
    have HFK := Lib.hid hfi
    clear hdk hfi
    by_cases hlt : k < kk
    · obtain ⟨z, hzk⟩ := get_at (xs := zs) (k := k) (by omega)
      rcases hs : s with _ | ⟨g, cap⟩
      · have := HK.out
        rw [hs] at this
        exact absurd this.2 (by omega)
      obtain ⟨rfl, rfl⟩ := hva g cap hs
      have hmem := HRG.out g vc hs
      have hzm := List.mem_of_getElem? hzk
      have hvk : ((zs.map LogV.val).drop k).take 1 = [z.val] := by
        have h1 : (zs.map LogV.val)[k]? = some z.val := by rw [List.getElem?_map, hzk]; rfl
        obtain ⟨h2, h3⟩ := List.getElem?_eq_some_iff.1 h1
        rw [List.drop_eq_getElem_cons h2, h3]
        rfl
      have hlk : D.log[k]? = some z.1 := by rw [← HZ.out, List.getElem?_map, hzk]; rfl
      have HST := Lib.hid ((log_step hlk D.base).trans (congrArg (fun q => Ol.again q z.1) HDK.out))
      have hlok := HOK.out z.1 (List.mem_of_getElem? hlk)
      have hKk : K0 + 3 * k + 3 ≤ 30000 := by have := HLG.out; omega
      have HFN := Lib.hid (Ol.finv_again HFK.out (by omega) hlok)
      have hlen : k + 1 ≤ (zs.map LogV.val).length := by rw [List.length_map]; omega
      have k1 : (k : Int) < (kk : Int) := by omega
      clear hzk hlk hs hlt
      (repeat (first | ((with_reducible show wpSeq _ _ _ _ _ _ _); first | ((with_reducible refine wpSeq_nil ?_); refine hKr.out _ _ ?_; clear hKr Kr) | (((refine St.pure (v := ?_) rfl rfl rfl (fun w => ?_) ?_; rotate_left; (focus (go_simp; all_goals with_reducible rfl)))); (try simp only [Act.put, qSa, qSz, qSs]))) | (first | (refine wp_seq_shut (fun K hK => ?_)) | (refine wp_text hM (fun Kr hKr => ?_); simp only [inText]) | refine wp_block ?_ | refine wp_skip ?_ | (refine wp_cond_true rfl ?_) | ((refine hK.out _ _ ?_); clear hK K))))
      refine St.loadRow rfl hM rfl rfl rfl rfl (.tail _ (List.mem_append_right _ hmem)) (by exact hlen) (by kernel_rfl) ?_
      simp only [Res.known]
      rw [hvk]
      obtain ⟨⟨o, _ | p⟩, ob, qb⟩ := z
      · have HH : ∀ w L, St w0 [b] w L → (∀ e ∈ RR, e ∈ L) → (Res.cells [.int .i64 o] 3).holds w.heap[ob]? := fun w L hM hs => ents_holds (z := ((o, none), ob, qb)) hM (fun e he => hs e (HRE.out e he)) hzm (ob, true, .cells [.int .i64 o] 3) (.head _)
        simp only [LogV.val]
        (try simp only [Act.put, qSa, qSz, qSs])
        (repeat (first | ((with_reducible show wpSeq _ _ _ _ _ _ _); first | ((with_reducible refine wpSeq_nil ?_); refine hKr.out _ _ ?_; clear hKr Kr) | ((first | (refine St.copy (v := ?_) (by exact .inl rfl) rfl rfl ?_ ?_; rotate_left; (focus ((try simp only [Act.eval, getD_lit, qGz, qGs]); with_reducible rfl))) | (refine St.pure (v := ?_) rfl rfl rfl (fun w => ?_) ?_; rotate_left; (focus (go_simp; all_goals with_reducible rfl))) | refine St.load rfl hM rfl rfl rfl rfl (by repeat constructor) (by rfl) (by kernel_rfl) ?_ | ((((refine St.storeRow rfl hM rfl rfl rfl rfl rfl (by repeat constructor) (Nat.le_of_ble_eq_true rfl) (Nat.le_of_ble_eq_true rfl) (by kernel_rfl) rfl ?_ ?_); (focus ((intro h; cases h; done))); clear hM; intro w hM)); (try simp only [Res.put, Res.known, Act.eval, Value.cells, getD_lit, qGz, qGs, List.toList_toArray, qSz, qSs, over, Nat.reduceAdd] at hM))); (try simp only [Act.put, qSa, qSz, qSs])) | (((refine St.alloc (ty := 138) (z := .agg #[.nilFunc]) rfl hM rfl rfl (by kernel_rfl) ?_); clear hM; intro w bk hM); (try simp only [Res.put, Res.known, Act.eval, Value.cells, getD_lit, qGz, qGs, List.toList_toArray, qSz, qSs, over, Nat.reduceAdd] at hM); (try simp only [Act.put, qSa, qSz, qSs]))) | (first | (refine wp_text hM (fun Kr hKr => ?_); simp only [inText]) | ((refine hK.out _ _ ?_); clear hK K))))
        (refine St.callv rfl rfl rfl rfl (by kernel_rfl) (fun R hR => ?_); simp only [List.map_toArray, List.map_cons, List.map_nil, Act.eval, getD_lit, qGz, qGs, Array.append_empty, Array.empty_append])
        refine (again_exit (hM.fs (x := x1) (β := β1) (d := dk) (.skip (.skip .here)) HFK.out.inv HX.out F0) (by omega) hlok.1 (HH _ _ hM (fun e he => .tail _ (.tail _ (List.mem_append_right _ he))))).mono ?_
        rintro e w' ⟨rfl, β2, hN2⟩
        replace hM := hM.backM (M := fsL x1 β1 dk) (.skip (.skip .here)) (fsL_flag _ _ _) hN2 (fsL_flag _ _ _)
        (refine hR.out _ _ (fun _ => ⟨hM.only, nofun⟩) ?_); clear hR R hN2
        (try simp only [Act.put, qSa, qSz, qSs])
        (repeat (first | ((with_reducible show wpSeq _ _ _ _ _ _ _); first | ((with_reducible refine wpSeq_nil ?_); refine hKr.out _ _ ?_; clear hKr Kr) | ((first | (refine St.copy (v := ?_) (by exact .inl rfl) rfl rfl ?_ ?_; rotate_left; (focus ((try simp only [Act.eval, getD_lit, qGz, qGs]); with_reducible rfl))) | refine St.inc rfl rfl rfl rfl rfl (by omega) ?_); (try simp only [Act.put, qSa, qSz, qSs]))) | (first | (refine wp_text hM (fun Kr hKr => ?_); simp only [inText]) | ((refine hK.out _ _ ?_); clear hK K))))
        replace hM := hM.forget
        simp only [Exit.then]
        (refine ⟨?_, ?_⟩; (focus (repeat (first | exact ⟨⟨k + 1, β2, _, by omega, rfl, HST.out, HFN.out, hM⟩, rfl⟩ | apply Exists.intro))); (simp only [getD_lit, qGz, qGs, intOf]; omega))
      · have HH1 : ∀ w L, St w0 [b] w L → (∀ e ∈ RR, e ∈ L) → (Res.cells [.int .i64 o] 3).holds w.heap[ob]? := fun w L hM hs => ents_holds (z := ((o, some p), ob, qb)) hM (fun e he => hs e (HRE.out e he)) hzm (ob, true, .cells [.int .i64 o] 3) (.head _)
        have HH2 : ∀ w L, St w0 [b] w L → (∀ e ∈ RR, e ∈ L) → (Res.cells p.cells 34).holds w.heap[qb]? := fun w L hM hs => ents_holds (z := ((o, some p), ob, qb)) hM (fun e he => hs e (HRE.out e he)) hzm (qb, true, .cells p.cells 34) (.tail _ (.head _))
        simp only [LogV.val]
        (try simp only [Act.put, qSa, qSz, qSs])
        (repeat (first | ((with_reducible show wpSeq _ _ _ _ _ _ _); first | ((with_reducible refine wpSeq_nil ?_); refine hKr.out _ _ ?_; clear hKr Kr) | ((first | (refine St.copy (v := ?_) (by exact .inl rfl) rfl rfl ?_ ?_; rotate_left; (focus ((try simp only [Act.eval, getD_lit, qGz, qGs]); with_reducible rfl))) | (refine St.pure (v := ?_) rfl rfl rfl (fun w => ?_) ?_; rotate_left; (focus (go_simp; all_goals with_reducible rfl))) | refine St.load rfl hM rfl rfl rfl rfl (by repeat constructor) (by rfl) (by kernel_rfl) ?_ | ((((refine St.storeRow rfl hM rfl rfl rfl rfl rfl (by repeat constructor) (Nat.le_of_ble_eq_true rfl) (Nat.le_of_ble_eq_true rfl) (by kernel_rfl) rfl ?_ ?_); (focus ((intro h; cases h; done))); clear hM; intro w hM)); (try simp only [Res.put, Res.known, Act.eval, Value.cells, getD_lit, qGz, qGs, List.toList_toArray, qSz, qSs, over, Nat.reduceAdd] at hM))); (try simp only [Act.put, qSa, qSz, qSs])) | (((refine St.alloc (ty := 138) (z := .agg #[.nilFunc]) rfl hM rfl rfl (by kernel_rfl) ?_); clear hM; intro w bk hM); (try simp only [Res.put, Res.known, Act.eval, Value.cells, getD_lit, qGz, qGs, List.toList_toArray, qSz, qSs, over, Nat.reduceAdd] at hM); (try simp only [Act.put, qSa, qSz, qSs]))) | (first | (refine wp_text hM (fun Kr hKr => ?_); simp only [inText]) | ((refine hK.out _ _ ?_); clear hK K))))
        (refine St.callv rfl rfl rfl rfl (by kernel_rfl) (fun R hR => ?_); simp only [List.map_toArray, List.map_cons, List.map_nil, Act.eval, getD_lit, qGz, qGs, Array.append_empty, Array.empty_append])
        refine (again_do (hM.fs (x := x1) (β := β1) (d := dk) (.skip (.skip .here)) HFK.out.inv HX.out F0) (by omega) hlok.1 (hlok.2 p rfl) (HH1 _ _ hM (fun e he => .tail _ (.tail _ (List.mem_append_right _ he)))) (HH2 _ _ hM (fun e he => .tail _ (.tail _ (List.mem_append_right _ he))))).mono ?_
        rintro e w' ⟨rfl, β2, hN2⟩
        replace hM := hM.backM (M := fsL x1 β1 dk) (.skip (.skip .here)) (fsL_flag _ _ _) hN2 (fsL_flag _ _ _)
        (refine hR.out _ _ (fun _ => ⟨hM.only, nofun⟩) ?_); clear hR R hN2
        (try simp only [Act.put, qSa, qSz, qSs])
        (repeat (first | ((with_reducible show wpSeq _ _ _ _ _ _ _); first | ((with_reducible refine wpSeq_nil ?_); refine hKr.out _ _ ?_; clear hKr Kr) | ((first | (refine St.copy (v := ?_) (by exact .inl rfl) rfl rfl ?_ ?_; rotate_left; (focus ((try simp only [Act.eval, getD_lit, qGz, qGs]); with_reducible rfl))) | refine St.inc rfl rfl rfl rfl rfl (by omega) ?_); (try simp only [Act.put, qSa, qSz, qSs]))) | (first | (refine wp_text hM (fun Kr hKr => ?_); simp only [inText]) | ((refine hK.out _ _ ?_); clear hK K))))
        replace hM := hM.forget
        simp only [Exit.then]
        (refine ⟨?_, ?_⟩; (focus (repeat (first | exact ⟨⟨k + 1, β2, _, by omega, rfl, HST.out, HFN.out, hM⟩, rfl⟩ | apply Exists.intro))); (simp only [getD_lit, qGz, qGs, intOf]; omega))
    · have k0 : ¬ ((k : Int) < (kk : Int)) := by omega
      obtain rfl : k = kk := by omega
      clear hlt hk
      (repeat (first | ((with_reducible show wpSeq _ _ _ _ _ _ _); first | ((with_reducible refine wpSeq_nil ?_); refine hKr.out _ _ ?_; clear hKr Kr) | ((first | (refine St.copy (v := ?_) (by exact .inl rfl) rfl rfl ?_ ?_; rotate_left; (focus ((try simp only [Act.eval, getD_lit, qGz, qGs]); with_reducible rfl))) | (refine St.pure (v := ?_) rfl rfl rfl (fun w => ?_) ?_; rotate_left; (focus (go_simp; all_goals with_reducible rfl)))); (try simp only [Act.put, qSa, qSz, qSs]))) | (first | (refine wp_seq_shut (fun K hK => ?_)) | (refine wp_text hM (fun Kr hKr => ?_); simp only [inText]) | (refine wp_cond_false rfl ?_) | (refine wp_exit ?_; simp only [Exit.then, Exit.inBlock, if_true, if_false, reduceCtorEq, Nat.reduceEqDiff, Nat.succ_ne_zero]) | ((first | refine hK.out _ _ ?_ | (clear hK K; refine hK.out _ _ ?_)); clear hK K))))
      ((refine St.call rfl rfl rfl (by kernel_rfl) (fun R hR => ?_); simp only [List.map_toArray, List.map_cons, List.map_nil, Act.eval, getD_lit, qGz, qGs]))
      refine (fOwners_any (hM.fs (x := x1) (β := β1) (d := dk) (.skip .here) HFK.out.inv HX.out F0) (by omega)).mono ?_
      rintro e w' ⟨s2, rfl, hk2, hN2⟩
      replace hM := hM.madeM hN2 (slL_flag _ _ _ _)
      (refine hR.out _ _ (fun _ => ⟨hM.only, nofun⟩) ?_); clear hR R hN2
      have hol : (Fs.owners dk).length ≤ 30000 := by
        have := HFK.out.inv.len
        unfold Fs.owners
        rw [List.length_map]
        have := HLG.out
        omega
      have HOF := Lib.hid (Ol.owners_fit HFK.out)
      have hex : Ol.exits dk = (Fs.owners dk).foldl Fs.exit dk := rfl
      have HEX := Lib.hid hex
      have HFK' := Lib.hid (HFK.out.more (M := 30000) (by have := HLG.out; omega))
      obtain ⟨v2, c2, hv2, hva2⟩ := slV_open hk2
      have HK2 := Lib.hid hk2
      rw [hv2]
      generalize Fs.owners dk = os at *
      clear hex hk2 hkk hvc
      (try simp only [Act.put, qSa, qSz, qSs])
      (repeat (first | ((with_reducible show wpSeq _ _ _ _ _ _ _); first | ((with_reducible refine wpSeq_nil ?_); refine hKr.out _ _ ?_; clear hKr Kr) | ((first | (refine St.copy (v := ?_) (by exact .inl rfl) rfl rfl ?_ ?_; rotate_left; (focus ((try simp only [Act.eval, getD_lit, qGz, qGs]); with_reducible rfl))) | (refine St.pure (v := ?_) rfl rfl rfl (fun w => ?_) ?_; rotate_left; (focus (go_simp; all_goals with_reducible rfl)))); (try simp only [Act.put, qSa, qSz, qSs]))) | (first | refine wp_block ?_ | ((refine hK.out _ _ ?_); clear hK K))))
      go_loopw [9, 44] (fun _ i wr => ∃ (j : Nat) (β' : Int → Nat × Nat) (dj : FsD), j ≤ os.length ∧ i = .int .i64 j ∧ (os.take j).foldl Fs.exit dk = dj ∧ Ol.FInv 30000 dj ∧ St w0 [b] wr (slL s2 (os.map (Value.int .i64)) 3 1 ++ ((b, true, .cells [.pointer (some ⟨f, 0, none⟩), .pointer (some ⟨y.f, 0, none⟩), .slice va zs.length vc] 81) :: (fsL x1 β' dj ++ RR)))) (fun _ i _ => os.length - (intOf i).toNat)
      case atStart => exact ⟨0, β1, dk, by omega, rfl, rfl, HFK'.out, hM⟩
      case round =>
        clear hM
        obtain ⟨j, β2, dj, hj, rfl, hdj, hfj, hM⟩ := hrel
        have HDJ := Lib.hid hdj
        have HFJ := Lib.hid hfj
        clear hdj hfj
        by_cases hlt : j < os.length
        · obtain ⟨o, ho⟩ := get_at hlt
          rcases hs2 : s2 with _ | ⟨g2, cap2⟩
          · have := HK2.out
            rw [hs2] at this
            exact absurd this.2 (by omega)
          obtain ⟨rfl, rfl⟩ := hva2 g2 cap2 hs2
          have hof := HOF.out o (List.mem_of_getElem? ho)
          have HST := Lib.hid ((own_step ho dk).trans (congrArg (fun q => Fs.exit q o) HDJ.out))
          have HFN := Lib.hid (Ol.finv_exit HFJ.out hof)
          have hx' : (os.map (Value.int .i64))[j]? = some (.int .i64 o) := by rw [List.getElem?_map, ho]; rfl
          have j1 : (j : Int) < (os.length : Int) := by omega
          subst hs2
          clear ho hlt
          simp only [slL, List.cons_append, List.nil_append] at hM
          (repeat (first | ((with_reducible show wpSeq _ _ _ _ _ _ _); first | ((with_reducible refine wpSeq_nil ?_); refine hKr.out _ _ ?_; clear hKr Kr) | ((first | (refine St.copy (v := ?_) (by first | exact .inl rfl | exact .inr rfl) rfl rfl ?_ ?_; rotate_left; (focus ((try simp only [Act.eval, getD_lit, qGz, qGs]); with_reducible rfl))) | (refine St.pure (v := ?_) rfl rfl rfl (fun w => ?_) ?_; rotate_left; (focus (go_simp; all_goals with_reducible rfl))) | refine St.load rfl hM rfl rfl rfl rfl (by repeat constructor) (by assumption) (by kernel_rfl) ?_); (try simp only [Act.put, qSa, qSz, qSs]))) | (first | (refine wp_seq_shut (fun K hK => ?_)) | (refine wp_text hM (fun Kr hKr => ?_); simp only [inText]) | refine wp_block ?_ | refine wp_skip ?_ | (refine wp_cond_true rfl ?_) | ((refine hK.out _ _ ?_); clear hK K))))
          ((refine St.call rfl rfl rfl (by kernel_rfl) (fun R hR => ?_); simp only [List.map_toArray, List.map_cons, List.map_nil, Act.eval, getD_lit, qGz, qGs]))
          refine (fExit_any (hM.fs (x := x1) (β := β2) (d := dj) (.skip (.skip .here)) HFJ.out.inv HX.out F0) (by omega) hof).mono ?_
          rintro e w' ⟨rfl, ⟨β3, hN2⟩, -⟩
          replace hM := hM.backM (M := fsL x1 β2 dj) (.skip (.skip .here)) (fsL_flag _ _ _) hN2 (fsL_flag _ _ _)
          (refine hR.out _ _ (fun _ => ⟨hM.only, nofun⟩) ?_); clear hR R hN2
          (try simp only [Act.put, qSa, qSz, qSs])
          (repeat (first | ((with_reducible show wpSeq _ _ _ _ _ _ _); first | ((with_reducible refine wpSeq_nil ?_); refine hKr.out _ _ ?_; clear hKr Kr) | ((first | (refine St.copy (v := ?_) (by exact .inl rfl) rfl rfl ?_ ?_; rotate_left; (focus ((try simp only [Act.eval, getD_lit, qGz, qGs]); with_reducible rfl))) | refine St.inc rfl rfl rfl rfl rfl (by omega) ?_); (try simp only [Act.put, qSa, qSz, qSs]))) | (first | (refine wp_text hM (fun Kr hKr => ?_); simp only [inText]) | ((refine hK.out _ _ ?_); clear hK K))))
          simp only [Exit.then]
          (refine ⟨?_, ?_⟩; (focus (repeat (first | exact ⟨⟨j + 1, β3, _, by omega, rfl, HST.out, HFN.out, hM⟩, rfl⟩ | apply Exists.intro))); (simp only [getD_lit, qGz, qGs, intOf]; omega))
        · have k0 : ¬ ((j : Int) < (os.length : Int)) := by omega
          obtain rfl : j = os.length := by omega
          have e := HDJ.out
          rw [List.take_length, ← HEX.out] at e
          rw [← e] at hM HFJ
          clear hlt hj e HDJ
          replace hM := hM.subM (List.sublist_append_right _ _)
          have HCF := Lib.hid (show Ol.exits (Ol.replay D.base (D.log.take k)) = Ol.exits dk by rw [HDK.out])
          clear HEX
          generalize Ol.exits dk = de at *
          (repeat (first | ((with_reducible show wpSeq _ _ _ _ _ _ _); first | ((with_reducible refine wpSeq_nil ?_); refine hKr.out _ _ ?_; clear hKr Kr) | ((first | (refine St.copy (v := ?_) (by exact .inl rfl) rfl rfl ?_ ?_; rotate_left; (focus ((try simp only [Act.eval, getD_lit, qGz, qGs]); with_reducible rfl))) | (refine St.pure (v := ?_) rfl rfl rfl (fun w => ?_) ?_; rotate_left; (focus (go_simp; all_goals with_reducible rfl)))); (try simp only [Act.put, qSa, qSz, qSs]))) | (first | (refine wp_seq_shut (fun K hK => ?_)) | (refine wp_text hM (fun Kr hKr => ?_); simp only [inText]) | (refine wp_cond_false rfl ?_) | (refine wp_exit ?_; simp only [Exit.then, Exit.inBlock, if_true, if_false, reduceCtorEq, Nat.reduceEqDiff, Nat.succ_ne_zero]) | ((first | refine hK.out _ _ ?_ | (clear hK K; refine hK.out _ _ ?_)); clear hK K))))
          ((refine St.call rfl rfl rfl (by kernel_rfl) (fun R hR => ?_); simp only [List.map_toArray, List.map_cons, List.map_nil, Act.eval, getD_lit, qGz, qGs]))
          refine (empties_any (hM.fs (x := x1) (β := β2) (d := de) (.skip .here) HFJ.out.inv HX.out F0) HFJ.out (by omega)).mono ?_
          rintro e w' ⟨rfl, β3, hN2⟩
          replace hM := hM.backM (M := fsL x1 β2 de) (.skip .here) (fsL_flag _ _ _) hN2 (fsL_flag _ _ _)
          (refine hR.out _ _ (fun _ => ⟨hM.only, nofun⟩) ?_); clear hR R hN2
          have HFE := Lib.hid (Ol.finv_empties HFJ.out)
          have HCE := Lib.hid (congrArg Ol.empties HCF.out)
          generalize Ol.empties de = dz at *
          (try simp only [Act.put, qSa, qSz, qSs])
          (repeat (first | ((with_reducible show wpSeq _ _ _ _ _ _ _); first | ((with_reducible refine wpSeq_nil ?_); refine hKr.out _ _ ?_; clear hKr Kr) | ((first | (refine St.copy (v := ?_) (by exact .inl rfl) rfl rfl ?_ ?_; rotate_left; (focus ((try simp only [Act.eval, getD_lit, qGz, qGs]); with_reducible rfl))) | (refine St.pure (v := ?_) rfl rfl rfl (fun w => ?_) ?_; rotate_left; (focus (go_simp; all_goals with_reducible rfl))) | ((((refine St.store rfl hM rfl rfl rfl rfl rfl (by repeat constructor) (Nat.le_of_ble_eq_true rfl) (by kernel_rfl) rfl ?_ ?_); (focus ((intro h; cases h; done))); clear hM; intro w hM)); (try simp only [Res.put, Res.known, Act.eval, Value.cells, getD_lit, qGz, qGs, List.toList_toArray, qSz, qSs, over, Nat.reduceAdd] at hM))); (try simp only [Act.put, qSa, qSz, qSs]))) | (first | (refine wp_seq_shut (fun K hK => ?_)) | (refine wp_text hM (fun Kr hKr => ?_); simp only [inText]) | ((refine hK.out _ _ ?_); clear hK K))))
          ((refine St.call rfl rfl rfl (by kernel_rfl) (fun R hR => ?_); simp only [List.map_toArray, List.map_cons, List.map_nil, Act.eval, getD_lit, qGz, qGs]))
          rw [← hv] at hM
          have hS : St w0 [b] w ((dskE b x1.f y.f s zs.length :: fsL x1 β3 dz) ++ RR) := hM
          have hS2 : St w0 [b] w (dskE b x1.f y.f s zs.length :: (fsL x1 β3 dz ++ RR)) := hM
          clear hM
          refine (syncs_any (hS2.fs (x := x1) (β := β3) (d := dz) (.skip .here) HFE.out.inv HX.out F0) (by omega) (hS.part .here)).mono ?_
          rintro e w' ⟨rfl, x2, β4, hN2⟩
          have hM := hS2.backM (M := [dskE b x1.f y.f s zs.length]) .one (flag_1 _ _) hN2 (fun y hy => by
            rcases List.mem_cons.1 hy with rfl | hy
            · rfl
            · exact fsL_flag _ _ _ y hy)
          (refine hR.out _ _ (fun _ => ⟨hM.only, nofun⟩) ?_); clear hR R hN2 hS hS2
          (try simp only [Act.put, qSa, qSz, qSs])
          (repeat (first | ((with_reducible show wpSeq _ _ _ _ _ _ _); first | ((with_reducible refine wpSeq_nil ?_); refine hKr.out _ _ ?_; clear hKr Kr) | (((refine St.copy (v := ?_) (by exact .inr rfl) rfl rfl ?_ ?_; rotate_left; (focus ((try simp only [Act.eval, getD_lit, qGz, qGs]); with_reducible rfl)))); (try simp only [Act.put, qSa, qSz, qSs]))) | (first | (refine wp_seq_shut (fun K hK => ?_)) | (refine wp_text hM (fun Kr hKr => ?_); simp only [inText]) | ((refine hK.out _ _ ?_); clear hK K))))
          ((refine wp_ret ?_; (try simp only [Exit.then, Exit.inBlock]); refine St.ret hM rfl (by repeat (first | exact Outs.nil | apply Outs.tmp rfl)) rfl ?_))
          refine ⟨rfl, x1, β3, x2, β4, ?_⟩
          rw [HCE.out]
          have hS3 : St w0 [b] w' ((dskE b x1.f x2.f none 0 :: fsL x2 β4 dz) ++ fsL x1 β3 dz) := hM.subM (List.Sublist.append_left (List.sublist_append_left _ _) _)
          exact hS3.perm (L' := dskE b x1.f x2.f none 0 :: (fsL x1 β3 dz ++ fsL x2 β4 dz)) (perm_by (by intro _ x; simp only [List.append_eq, List.count_append, List.count_cons, List.count_nil, List.cons_append, List.nil_append]; omega))
/-- A cut of a disk that is whole. -/
theorem dCut_whole (h : DskAt N X β γ D w) (hN : N ≤ 30000) (keep : Int) :
    Calls Tryz.prog 30 #[.pointer (some ⟨X.b, 0, none⟩), .int .i64 keep] w fun e w' => e = .returned (.int .i64 0) ∧ DGoes w X β γ D w' (Ol.cut D keep) := by
  have hsub : (dskE X.b X.now.f X.sure.f X.s X.zs.length :: (logL X.s (X.zs.map LogV.val) ++ (fsL X.sure γ D.base ++ X.zs.flatMap LogV.ents))).Sublist (dskL X β γ D) := by
    unfold dskL
    exact (List.sublist_append_right _ _).cons_cons _
  obtain ⟨K0, hB, hK⟩ := h.inv.base
  refine (dCut_any (h.at_.sub hsub) h.ok.sl h.ok.log hB (by omega) h.inv.ok h.mx (keys_sub hsub h.zero) keep).mono ?_
  rintro e w' ⟨rfl, x1, β1, x2, β2, hN2⟩
  have hM : St w (keysOf (dskL X β γ D)) w (dskE X.b X.now.f X.sure.f X.s X.zs.length :: (fsL X.now β D.now ++ (logL X.s (X.zs.map LogV.val) ++ (fsL X.sure γ D.base ++ X.zs.flatMap LogV.ents)))) := h.at_.st
  have hS := hM.backM (M := [dskE X.b X.now.f X.sure.f X.s X.zs.length]) .one (flag_1 _ _) hN2 (fun y hy => by
    rcases List.mem_cons.1 hy with rfl | hy
    · rfl
    · rcases List.mem_append.1 hy with hy | hy
      · exact fsL_flag _ _ _ y hy
      · exact fsL_flag _ _ _ y hy)
  refine ⟨rfl, ⟨X.b, x1, x2, none, []⟩, β1, β2, rfl, ⟨rfl, ⟨rfl, rfl⟩⟩, ?_⟩
  have hS2 := hS.front
  exact hS2.perm (L' := dskE X.b x1.f x2.f none 0 :: (fsL x1 β1 (Ol.cutFs D keep) ++ ([] ++ (fsL x2 β2 (Ol.cutFs D keep) ++ [])))) (perm_by (by intro _ x; simp only [List.append_eq, List.count_append, List.count_cons, List.count_nil, List.cons_append, List.nil_append]; omega))
/-- Do, where the answer lists no names: the disk alone comes back. -/
theorem dDo_bare (h : DskAt N X β γ D w) (hN : N ≤ 999999980) {o : Int} (ho : Fits o) (p : OpD) (hp : p.Ok) {er n : Int} {da : ByteArray} {D' : DskD} (hd : Ol.do_ D o p = (⟨er, n, da, []⟩, D')) :
    Calls Tryz.prog 34 #[.pointer (some ⟨X.b, 0, none⟩), .int .i64 o, .agg p.cells.toArray] w fun e w' => (∃ a c, e = .returned (.agg #[.int .i64 er, .int .i64 n, .string da, .slice a 0 c])) ∧ DGoes w X β γ D w' D' := by
  refine (dDo_any h hN ho p hp).mono ?_
  rintro e w' ⟨s, X', β', γ', rfl, hs, hb, hok, hM⟩
  rw [hd] at hM hok ⊢
  refine ⟨?_, X', β', γ', hb, hok, hM.subM (List.sublist_append_right _ _)⟩
  rcases s with _ | ⟨g, c⟩ <;> exact ⟨_, _, rfl⟩
end
end Go.Proofs.YtcicjklhbnipcaaGreatDoor
namespace Go.Proofs.YtcicjklhbnipcaaGreatDoor
set_option linter.unusedVariables false
set_option linter.unusedSimpArgs false
open Go.RowKit Go.Maps
namespace Ol
theorem bare_step {xs : List FileD} {k : Nat} {f : FileD} (h : xs[k]? = some f) : bare (xs.take (k + 1)) = if Pt.under f.path Pt.run then bare (xs.take k) else bare (xs.take k) ++ [f] := by
  unfold bare
  rw [List.take_add_one, h, Option.toList_some, List.filter_append, List.filter_cons]
  cases Pt.under f.path Pt.run <;> simp
theorem bare_len (xs : List FileD) : (bare xs).length ≤ xs.length := List.length_filter_le _ _
end Ol
section
variable {w0 : World} {s : Option (Nat × Nat)} {xs : List FileD}
set_option maxHeartbeats 8000000 in
set_option maxRecDepth 100000 in
theorem bare_any (hk : FileOK s xs) (hl : xs.length ≤ 1000000) (hp : ∀ f ∈ xs, f.path.size ≤ 1000000) (hA : At (fileL s xs) w0) : Calls Tryz.prog 28 #[slV s xs.length] w0 (SomeFiles (Ol.bare xs) w0) := by
  have hM := St.start w0 []
  obtain ⟨a1, c1, hv1, ha1⟩ := slV_open hk
  rw [hv1]
  have H1 := Lib.hid hA
  have K1 := Lib.hid hk
  have HP := Lib.hid hp
  clear hk hA hv1 hp
  go_enter Tryz.func28, Tryz.ntmps28
  (repeat (first | ((with_reducible show wpSeq _ _ _ _ _ _ _); first | ((with_reducible refine wpSeq_nil ?_); refine hKr.out _ _ ?_; clear hKr Kr) | (((refine St.copy (v := ?_) (by exact .inr rfl) rfl rfl ?_ ?_; rotate_left; (focus ((try simp only [Act.eval, getD_lit, qGz, qGs]); with_reducible rfl)))); (try simp only [Act.put, qSa, qSz, qSs]))) | (first | (refine wp_seq_shut (fun K hK => ?_)) | (refine wp_text hM (fun Kr hKr => ?_); simp only [inText]) | refine wp_block ?_ | ((refine hK.out _ _ ?_); clear hK K))))
  go_loopw [3, 4] (fun o i wr => ∃ (k : Nat) (s' : Option (Nat × Nat)) (ys : List FileD), k ≤ xs.length ∧ o = slV s' ys.length ∧ i = .int .i64 k ∧ ys.length ≤ k ∧ Hid (ys = Ol.bare (xs.take k)) ∧ FileOK s' ys ∧ St w0 [] wr (fileL s' ys)) (fun _ i _ => xs.length - (intOf i).toNat)
  case atStart => exact ⟨0, none, [], by omega, rfl, rfl, Nat.le_refl _, Lib.hid rfl, ⟨rfl, rfl⟩, hM⟩
  case round =>
    clear hM
    obtain ⟨k, s', ys, hk, rfl, rfl, hyk, HY, hok, hM⟩ := hrel
    have HOK := Lib.hid hok
    clear hok
    obtain ⟨va, vc, hv, hva⟩ := slV_open HOK.out
    by_cases hlt : k < xs.length
    · obtain ⟨f, hf⟩ := get_at hlt
      rcases s with _ | ⟨g1, cap1⟩
      · exact absurd K1.out.2 (by omega)
      obtain ⟨rfl, rfl⟩ := ha1 g1 cap1 rfl
      have r1 := file_row H1.out hf
      have k1 : (k : Int) < (xs.length : Int) := by omega
      have hps := HP.out f (List.mem_of_getElem? hf)
      have HB := Lib.hid (Ol.bare_step hf)
      clear hf
      obtain ⟨fp, fd, ft⟩ := f
      simp only at r1 hps
      have c1' : w0.cell? ⟨g1, k * 3, none⟩ = some (.string fp) := r1 0 _ rfl
      have HBO := HB.out
      have CU := Lib.hid (fun W : World => rUnder_any fp ⟨#[114, 117, 110]⟩ W hps (by decide))
      rw [show (⟨#[114, 117, 110]⟩ : ByteArray) = Pt.run from rfl] at CU
      simp only at HBO
      cases hu : Pt.under fp Pt.run with
      | true =>
        rw [hu] at CU HBO
        have HN := Lib.hid (show ys = Ol.bare (xs.take (k + 1)) from by rw [HBO, if_pos rfl]; exact HY.out)
        clear HB HBO hu HY
        rw [hv]
        (repeat (first | ((with_reducible show wpSeq _ _ _ _ _ _ _); first | ((with_reducible refine wpSeq_nil ?_); refine hKr.out _ _ ?_; clear hKr Kr) | ((first | (refine St.copy (v := ?_) (by exact .inl rfl) rfl rfl ?_ ?_; rotate_left; (focus ((try simp only [Act.eval, getD_lit, qGz, qGs]); with_reducible rfl))) | (refine St.pure (v := ?_) rfl rfl rfl (fun w => ?_) ?_; rotate_left; (focus (go_simp; all_goals with_reducible rfl))) | refine St.loadF rfl rfl rfl rfl rfl (hM.old (by assumption)) (by kernel_rfl) ?_); (try simp only [Act.put, qSa, qSz, qSs]))) | (first | (refine wp_seq_shut (fun K hK => ?_)) | (refine wp_text hM (fun Kr hKr => ?_); simp only [inText]) | refine wp_block ?_ | refine wp_skip ?_ | (refine wp_cond_true rfl ?_) | ((refine hK.out _ _ ?_); clear hK K))))
        ((refine St.call rfl rfl rfl (by kernel_rfl) (fun R hR => ?_); simp only [List.map_toArray, List.map_cons, List.map_nil, Act.eval, getD_lit, qGz, qGs]))
        refine (CU.out _).mono ?_
        rintro e w' ⟨rfl, hb⟩; replace hM := hM.below hb; (refine hR.out _ _ (fun _ => ⟨hM.only, nofun⟩) ?_); clear hR R hb; (try simp only [Act.put, qSa, qSz, qSs])
        (repeat (first | ((with_reducible show wpSeq _ _ _ _ _ _ _); first | ((with_reducible refine wpSeq_nil ?_); refine hKr.out _ _ ?_; clear hKr Kr) | ((first | (refine St.copy (v := ?_) (by first | exact .inl rfl | exact .inr rfl) rfl rfl ?_ ?_; rotate_left; (focus ((try simp only [Act.eval, getD_lit, qGz, qGs]); with_reducible rfl))) | refine St.inc rfl rfl rfl rfl rfl (by omega) ?_ | (refine St.pure (v := ?_) rfl rfl rfl (fun w => ?_) ?_; rotate_left; (focus (go_simp; all_goals with_reducible rfl)))); (try simp only [Act.put, qSa, qSz, qSs]))) | (first | (refine wp_text hM (fun Kr hKr => ?_); simp only [inText]) | refine wp_skip ?_ | (refine wp_cond_false rfl ?_) | ((refine hK.out _ _ ?_); clear hK K))))
        (try simp only [Exit.then])
        rw [← hv]
        (refine ⟨?_, ?_⟩; (focus (repeat (first | exact ⟨⟨k + 1, s', ys, by omega, rfl, rfl, by omega, HN, HOK.out, hM⟩, rfl⟩ | apply Exists.intro))); (simp only [getD_lit, qGz, qGs, intOf]; omega))
      | false =>
        rw [hu] at CU HBO
        have HN := Lib.hid (show ys ++ [⟨fp, fd, ft⟩] = Ol.bare (xs.take (k + 1)) from by rw [HBO, if_neg (by simp), HY.out])
        clear HB HBO hu HY
        rw [hv]
        (repeat (first | ((with_reducible show wpSeq _ _ _ _ _ _ _); first | ((with_reducible refine wpSeq_nil ?_); refine hKr.out _ _ ?_; clear hKr Kr) | ((first | (refine St.copy (v := ?_) (by exact .inl rfl) rfl rfl ?_ ?_; rotate_left; (focus ((try simp only [Act.eval, getD_lit, qGz, qGs]); with_reducible rfl))) | (refine St.pure (v := ?_) rfl rfl rfl (fun w => ?_) ?_; rotate_left; (focus (go_simp; all_goals with_reducible rfl))) | refine St.loadF rfl rfl rfl rfl rfl (hM.old (by assumption)) (by kernel_rfl) ?_); (try simp only [Act.put, qSa, qSz, qSs]))) | (first | (refine wp_seq_shut (fun K hK => ?_)) | (refine wp_text hM (fun Kr hKr => ?_); simp only [inText]) | refine wp_block ?_ | refine wp_skip ?_ | (refine wp_cond_true rfl ?_) | ((refine hK.out _ _ ?_); clear hK K))))
        ((refine St.call rfl rfl rfl (by kernel_rfl) (fun R hR => ?_); simp only [List.map_toArray, List.map_cons, List.map_nil, Act.eval, getD_lit, qGz, qGs]))
        refine (CU.out _).mono ?_
        rintro e w' ⟨rfl, hb⟩; replace hM := hM.below hb; (refine hR.out _ _ (fun _ => ⟨hM.only, nofun⟩) ?_); clear hR R hb; (try simp only [Act.put, qSa, qSz, qSs])
        (repeat (first | ((with_reducible show wpSeq _ _ _ _ _ _ _); first | ((with_reducible refine wpSeq_nil ?_); refine hKr.out _ _ ?_; clear hKr Kr) | ((first | (refine St.copy (v := ?_) (by exact .inl rfl) rfl rfl ?_ ?_; rotate_left; (focus ((try simp only [Act.eval, getD_lit, qGz, qGs]); with_reducible rfl))) | (refine St.pure (v := ?_) rfl rfl rfl (fun w => ?_) ?_; rotate_left; (focus (go_simp; all_goals with_reducible rfl))) | refine St.loadRowF rfl rfl rfl rfl rfl (hM.oldRow (by assumption)) (by kernel_rfl) ?_ | (((((refine St.buildSlice (cells := ?_) (e := ?_) rfl hM rfl rfl (fun w => ?_) ?_; rotate_left 2; (focus (go_simp; all_goals with_reducible rfl)))); clear hM; intro w bk hM)); (try simp only [Res.put, Res.known, Act.eval, Value.cells, getD_lit, qGz, qGs, List.toList_toArray, qSz, qSs, over, Nat.reduceAdd] at hM))); (try simp only [Act.put, qSa, qSz, qSs]))) | (first | (refine wp_text hM (fun Kr hKr => ?_); simp only [inText]) | (refine wp_cond_true rfl ?_) | ((refine hK.out _ _ ?_); clear hK K))))
        rw [← hv]
        refine St.append (s := s') (n := ys.length) (xs := ys.flatMap FileD.cells) rfl hM rfl rfl rfl rfl rfl (by kernel_rfl) (by intro s'; repeat (first | exact Swap.all | apply Swap.skip)) HOK.out rfl (hM.news (by repeat constructor)) rfl (by rw [maxLen_val]; omega) (by omega) (fun h => by cases h) ?_
        clear hM; intro w s2 hM hk' hs'
        have e1 : ys.flatMap FileD.cells ++ [.string fp, .bool fd, .string ft] = (ys ++ [(⟨fp, fd, ft⟩ : FileD)]).flatMap FileD.cells := by rw [List.flatMap_append, List.flatMap_singleton]; rfl
        have e2 : ys.length + 1 = (ys ++ [(⟨fp, fd, ft⟩ : FileD)]).length := by simp
        simp only [Res.known] at hM hk'
        rw [e1] at hM hk'
        rw [e2] at hk'
        rw [e2]
        have HK' := Lib.hid hk'
        clear hk' hs' HOK hva
        have hyl : (ys ++ [(⟨fp, fd, ft⟩ : FileD)]).length ≤ k + 1 := by rw [List.length_append, List.length_singleton]; omega
        obtain ⟨va2, vc2, hv2, -⟩ := slV_open HK'.out
        rw [hv2]
        (try simp only [Act.put, qSa, qSz, qSs])
        (repeat (first | ((with_reducible show wpSeq _ _ _ _ _ _ _); first | ((with_reducible refine wpSeq_nil ?_); refine hKr.out _ _ ?_; clear hKr Kr) | ((first | (refine St.copy (v := ?_) (by first | exact .inl rfl | exact .inr rfl) rfl rfl ?_ ?_; rotate_left; (focus ((try simp only [Act.eval, getD_lit, qGz, qGs]); with_reducible rfl))) | refine St.inc rfl rfl rfl rfl rfl (by omega) ?_); (try simp only [Act.put, qSa, qSz, qSs]))) | (first | (refine wp_text hM (fun Kr hKr => ?_); simp only [inText]) | ((refine hK.out _ _ ?_); clear hK K))))
        replace hM := hM.forget
        (try simp only [Exit.then])
        rw [← hv2]
        (refine ⟨?_, ?_⟩; (focus (repeat (first | exact ⟨⟨k + 1, s2, ys ++ [⟨fp, fd, ft⟩], by omega, rfl, rfl, hyl, HN, HK'.out, hM⟩, rfl⟩ | apply Exists.intro))); (simp only [getD_lit, qGz, qGs, intOf]; omega))
    · have k0 : ¬ ((k : Int) < (xs.length : Int)) := by omega
      obtain rfl : k = xs.length := by omega
      have HY2 := HY.out
      rw [List.take_length] at HY2
      have HZ := Lib.hid HY2
      clear hlt hk HY HY2
      (repeat (first | ((with_reducible show wpSeq _ _ _ _ _ _ _); first | ((with_reducible refine wpSeq_nil ?_); refine hKr.out _ _ ?_; clear hKr Kr) | ((first | (refine St.copy (v := ?_) (by first | exact .inl rfl | exact .inr rfl) rfl rfl ?_ ?_; rotate_left; (focus ((try simp only [Act.eval, getD_lit, qGz, qGs]); with_reducible rfl))) | (refine St.pure (v := ?_) rfl rfl rfl (fun w => ?_) ?_; rotate_left; (focus (go_simp; all_goals with_reducible rfl)))); (try simp only [Act.put, qSa, qSz, qSs]))) | (first | (refine wp_seq_shut (fun K hK => ?_)) | (refine wp_text hM (fun Kr hKr => ?_); simp only [inText]) | (refine wp_cond_false rfl ?_) | (refine wp_exit ?_; simp only [Exit.then, Exit.inBlock, if_true, if_false, reduceCtorEq, Nat.reduceEqDiff, Nat.succ_ne_zero]) | ((first | refine hK.out _ _ ?_ | (clear hK K; refine hK.out _ _ ?_)); clear hK K))))
      ((refine wp_ret ?_; (try simp only [Exit.then, Exit.inBlock]); refine St.ret hM rfl (by repeat (first | exact Outs.nil | apply Outs.tmp rfl)) rfl ?_))
      rw [← HZ.out]
      exact ⟨s', rfl, HOK.out, hM⟩
end
end Go.Proofs.YtcicjklhbnipcaaGreatDoor
namespace Go.Proofs.YtcicjklhbnipcaaGreatDoor
set_option linter.unusedVariables false
set_option linter.unusedSimpArgs false
open Go.RowKit Go.Maps
namespace Ol
def act (D : DskD) (a : ActO) : ResD × DskD := if a.cut = true then (Fs.errR 0, cut D a.keep) else if a.f.exit = true then (Fs.errR 0, exit D a.f.owner) else do_ D a.f.owner a.f.op
/-- What is always so of a disk, with what an act keeps. -/
structure All (N : Nat) (D : DskD) : Prop where
  inv : Inv N D
  good : Good D
  law : Lawful D
section
variable {N M : Nat} {D : DskD}
theorem All.more (h : All N D) (hM : N ≤ M) : All M D := ⟨h.inv.more hM, h.good, h.law⟩
theorem all_new {q : Int} (h0 : 64 ≤ q) (h1 : q ≤ 1099511627776) : All 1 (new q) := ⟨inv_new h0 h1, good_new q, lawful_new q⟩
theorem all_sync (h : All N D) : All N (sync D) := ⟨inv_sync h.inv, good_sync h.good, ⟨h.law.now, h.law.now⟩⟩
theorem all_act (h : All N D) (hN : N ≤ 999999980) (a : ActO) (ho : Fits a.f.owner) (hp : a.f.op.Ok) : All (N + 3) (act D a).2 := by
  unfold act
  split
  · exact ⟨(inv_cut h.inv (by omega) _).more (by omega), good_cut h.inv h.good (by omega) _, lawful_cut h.inv h.law (by omega) _⟩
  split
  · exact ⟨inv_exit h.inv ho, good_exit h.good, lawful_exit h.inv h.law⟩
  · exact ⟨inv_do h.inv hN ho hp, good_do h.inv h.good, lawful_do h.inv h.law⟩
/-- What is neither a cut nor a sync leaves what is sure. -/
theorem base_act (a : ActO) (hc : a.cut = false) (hk : a.f.exit = true ∨ a.f.op.kind ≠ 14) : (act D a).2.base = D.base := by
  unfold act
  rw [if_neg (by rw [hc]; simp)]
  split
  · unfold exit
    split <;> rfl
  · rename_i he
    unfold do_
    rw [if_neg (hk.resolve_left he)]
    rfl
end
end Ol
section
variable {N : Nat} {X : DskX} {β γ : Int → Nat × Nat} {D : DskD} {w w' w0 : World} {F : List Nat} {L L' M M' : List Ent}
set_option maxHeartbeats 8000000 in
set_option maxRecDepth 100000 in
theorem sdo_any (h : DskAt N X β γ D w) (hN : N ≤ 30000) (a : ActO) (hown : Fits a.f.owner) (ho : a.f.op.Ok) : Calls Tryz.prog 26 #[.pointer (some ⟨X.b, 0, none⟩), .agg a.cells.toArray] w (DDid w X β γ D (Ol.act D a)) := by
  have hM := h.at_.st
  unfold DDid
  obtain ⟨F, hF⟩ : ∃ F, keysOf (dskL X β γ D) = F := ⟨_, rfl⟩
  rw [hF] at hM ⊢
  have F0 : 0 ∉ F := hF ▸ h.zero
  have HK := Lib.hid h.ok
  have HT := Lib.hid h.inv
  have HX := Lib.hid h.mx
  clear h hF
  obtain ⟨⟨xo, xe, p⟩, xc, xk⟩ := a
  unfold Ol.act
  simp only at hown ho ⊢
  cases xc with
  | true =>
    rw [if_pos rfl]
    have C := Lib.hid (fun (w1 : World) (h : DskAt N X β γ D w1) => dCut_whole h hN xk)
    generalize Ol.cut D xk = D2 at *
    obtain ⟨pk, pp, pd, ph, pa, pn, px, py, pb⟩ := p
    simp only [ActO.cells, ActF.cells, OpD.cells, List.cons_append, List.nil_append]
    go_enter Tryz.func26, Tryz.ntmps26
    (repeat (first | ((with_reducible show wpSeq _ _ _ _ _ _ _); first | ((with_reducible refine wpSeq_nil ?_); refine hKr.out _ _ ?_; clear hKr Kr) | ((first | (refine St.copy (v := ?_) (by first | exact .inl rfl | exact .inr rfl) rfl rfl ?_ ?_; rotate_left; (focus ((try simp only [Act.eval, getD_lit, qGz, qGs]); with_reducible rfl))) | (refine St.pure (v := ?_) rfl rfl rfl (fun w => ?_) ?_; rotate_left; (focus (go_simp; all_goals with_reducible rfl))) | refine St.load rfl hM rfl rfl rfl rfl (by repeat constructor) (by rfl) (by kernel_rfl) ?_ | ((((refine St.box rfl hM rfl rfl rfl ?_); clear hM; intro w bk hM)); (try simp only [Res.put, Res.known, Act.eval, Value.cells, getD_lit, qGz, qGs, List.toList_toArray, qSz, qSs, over, Nat.reduceAdd] at hM))); (try simp only [Act.put, qSa, qSz, qSs])) | (((refine St.alloc (ty := 31) (z := .agg #[.int .i64 0, .int .i64 0, .string ⟨#[]⟩, .slice none 0 0]) rfl hM rfl rfl (by kernel_rfl) ?_); clear hM; intro w bk hM); (try simp only [Res.put, Res.known, Act.eval, Value.cells, getD_lit, qGz, qGs, List.toList_toArray, qSz, qSs, over, Nat.reduceAdd] at hM); (try simp only [Act.put, qSa, qSz, qSs]))) | (first | (refine wp_seq_shut (fun K hK => ?_)) | (refine wp_text hM (fun Kr hKr => ?_); simp only [inText]) | refine wp_block ?_ | (refine wp_cond_true rfl ?_) | ((refine hK.out _ _ ?_); clear hK K))))
    ((refine St.call rfl rfl rfl (by kernel_rfl) (fun R hR => ?_); simp only [List.map_toArray, List.map_cons, List.map_nil, Act.eval, getD_lit, qGz, qGs]))
    refine (C.out _ (hM.dsk (.skip (.skip .all)) HK.out HT.out HX.out F0)).mono ?_
    rintro e w' ⟨rfl, X', β', γ', hb, hk, hN2⟩
    replace hM := hM.backM (.skip (.skip .all)) (dskL_flag _ _ _ _) hN2 (dskL_flag _ _ _ _)
    (refine hR.out _ _ (fun _ => ⟨hM.only, nofun⟩) ?_); clear hR R hN2 C
    (try simp only [Act.put, qSa, qSz, qSs])
    (repeat (first | ((with_reducible show wpSeq _ _ _ _ _ _ _); first | ((with_reducible refine wpSeq_nil ?_); refine hKr.out _ _ ?_; clear hKr Kr) | ((first | (refine St.pure (v := ?_) rfl rfl rfl (fun w => ?_) ?_; rotate_left; (focus (go_simp; all_goals with_reducible rfl))) | ((((refine St.storeRow rfl hM rfl rfl rfl rfl rfl (by repeat constructor) (Nat.le_of_ble_eq_true rfl) (Nat.le_of_ble_eq_true rfl) (by kernel_rfl) rfl ?_ ?_); (focus ((intro h; cases h; done))); clear hM; intro w hM)); (try simp only [Res.put, Res.known, Act.eval, Value.cells, getD_lit, qGz, qGs, List.toList_toArray, qSz, qSs, over, Nat.reduceAdd] at hM))); (try simp only [Act.put, qSa, qSz, qSs]))) | (((refine hK.out _ _ ?_); clear hK K))))
    ((refine wp_ret ?_; (try simp only [Exit.then, Exit.inBlock]); refine St.ret hM rfl (by repeat (first | exact Outs.nil | (apply Outs.row rfl rfl (by repeat constructor) (by kernel_rfl)))) rfl ?_))
    exact ⟨none, X', β', γ', rfl, ⟨rfl, rfl⟩, hb, hk, hM.forget.forget⟩
  | false =>
    rw [if_neg (by simp)]
    cases xe with
    | true =>
      rw [if_pos rfl]
      have C := Lib.hid (fun (w1 : World) (h : DskAt N X β γ D w1) => dExit_any h (by omega) hown)
      generalize Ol.exit D xo = D2 at *
      obtain ⟨pk, pp, pd, ph, pa, pn, px, py, pb⟩ := p
      simp only [ActO.cells, ActF.cells, OpD.cells, List.cons_append, List.nil_append]
      go_enter Tryz.func26, Tryz.ntmps26
      (repeat (first | ((with_reducible show wpSeq _ _ _ _ _ _ _); first | ((with_reducible refine wpSeq_nil ?_); refine hKr.out _ _ ?_; clear hKr Kr) | ((first | (refine St.copy (v := ?_) (by first | exact .inl rfl | exact .inr rfl) rfl rfl ?_ ?_; rotate_left; (focus ((try simp only [Act.eval, getD_lit, qGz, qGs]); with_reducible rfl))) | (refine St.pure (v := ?_) rfl rfl rfl (fun w => ?_) ?_; rotate_left; (focus (go_simp; all_goals with_reducible rfl))) | refine St.load rfl hM rfl rfl rfl rfl (by repeat constructor) (by rfl) (by kernel_rfl) ?_ | ((((refine St.box rfl hM rfl rfl rfl ?_); clear hM; intro w bk hM)); (try simp only [Res.put, Res.known, Act.eval, Value.cells, getD_lit, qGz, qGs, List.toList_toArray, qSz, qSs, over, Nat.reduceAdd] at hM))); (try simp only [Act.put, qSa, qSz, qSs])) | (((refine St.alloc (ty := 31) (z := .agg #[.int .i64 0, .int .i64 0, .string ⟨#[]⟩, .slice none 0 0]) rfl hM rfl rfl (by kernel_rfl) ?_); clear hM; intro w bk hM); (try simp only [Res.put, Res.known, Act.eval, Value.cells, getD_lit, qGz, qGs, List.toList_toArray, qSz, qSs, over, Nat.reduceAdd] at hM); (try simp only [Act.put, qSa, qSz, qSs]))) | (first | (refine wp_seq_shut (fun K hK => ?_)) | (refine wp_text hM (fun Kr hKr => ?_); simp only [inText]) | refine wp_block ?_ | (first | refine wp_cond_true rfl ?_ | refine wp_cond_false rfl ?_) | ((refine hK.out _ _ ?_); clear hK K))))
      ((refine St.call rfl rfl rfl (by kernel_rfl) (fun R hR => ?_); simp only [List.map_toArray, List.map_cons, List.map_nil, Act.eval, getD_lit, qGz, qGs]))
      refine (C.out _ (hM.dsk (.skip (.skip .all)) HK.out HT.out HX.out F0)).mono ?_
      rintro e w' ⟨rfl, X', β', γ', hb, hk, hN2⟩
      replace hM := hM.backM (.skip (.skip .all)) (dskL_flag _ _ _ _) hN2 (dskL_flag _ _ _ _)
      (refine hR.out _ _ (fun _ => ⟨hM.only, nofun⟩) ?_); clear hR R hN2 C
      (try simp only [Act.put, qSa, qSz, qSs])
      (repeat (first | ((with_reducible show wpSeq _ _ _ _ _ _ _); first | ((with_reducible refine wpSeq_nil ?_); refine hKr.out _ _ ?_; clear hKr Kr) | ((first | (refine St.pure (v := ?_) rfl rfl rfl (fun w => ?_) ?_; rotate_left; (focus (go_simp; all_goals with_reducible rfl))) | ((((refine St.storeRow rfl hM rfl rfl rfl rfl rfl (by repeat constructor) (Nat.le_of_ble_eq_true rfl) (Nat.le_of_ble_eq_true rfl) (by kernel_rfl) rfl ?_ ?_); (focus ((intro h; cases h; done))); clear hM; intro w hM)); (try simp only [Res.put, Res.known, Act.eval, Value.cells, getD_lit, qGz, qGs, List.toList_toArray, qSz, qSs, over, Nat.reduceAdd] at hM))); (try simp only [Act.put, qSa, qSz, qSs]))) | (first | (refine wp_seq_shut (fun K hK => ?_)) | (refine wp_text hM (fun Kr hKr => ?_); simp only [inText]) | ((refine hK.out _ _ ?_); clear hK K))))
      ((refine wp_ret ?_; (try simp only [Exit.then, Exit.inBlock]); refine St.ret hM rfl (by repeat (first | exact Outs.nil | (apply Outs.row rfl rfl (by repeat constructor) (by kernel_rfl)))) rfl ?_))
      exact ⟨none, X', β', γ', rfl, ⟨rfl, rfl⟩, hb, hk, hM.forget.forget⟩
    | false =>
      rw [if_neg (by simp)]
      have C := Lib.hid (fun (w1 : World) (h : DskAt N X β γ D w1) => dDo_any h (by omega) hown p ho)
      generalize Ol.do_ D xo p = r at *
      obtain ⟨pk, pp, pd, ph, pa, pn, px, py, pb⟩ := p
      simp only [ActO.cells, ActF.cells, OpD.cells, List.cons_append, List.nil_append] at C ⊢
      go_enter Tryz.func26, Tryz.ntmps26
      (repeat (first | ((with_reducible show wpSeq _ _ _ _ _ _ _); first | ((with_reducible refine wpSeq_nil ?_); refine hKr.out _ _ ?_; clear hKr Kr) | ((first | (refine St.copy (v := ?_) (by first | exact .inl rfl | exact .inr rfl) rfl rfl ?_ ?_; rotate_left; (focus ((try simp only [Act.eval, getD_lit, qGz, qGs]); with_reducible rfl))) | (refine St.pure (v := ?_) rfl rfl rfl (fun w => ?_) ?_; rotate_left; (focus (go_simp; all_goals with_reducible rfl))) | refine St.load rfl hM rfl rfl rfl rfl (by repeat constructor) (by rfl) (by kernel_rfl) ?_ | ((refine St.loadRow rfl hM rfl rfl rfl rfl (by repeat constructor) (Nat.le_of_ble_eq_true rfl) (by kernel_rfl) ?_); (try simp only [Res.known, List.drop_succ_cons, List.drop_zero, List.take_succ_cons, List.take_zero])) | ((((refine St.box rfl hM rfl rfl rfl ?_); clear hM; intro w bk hM)); (try simp only [Res.put, Res.known, Act.eval, Value.cells, getD_lit, qGz, qGs, List.toList_toArray, qSz, qSs, over, Nat.reduceAdd] at hM))); (try simp only [Act.put, qSa, qSz, qSs])) | (((refine St.alloc (ty := 31) (z := .agg #[.int .i64 0, .int .i64 0, .string ⟨#[]⟩, .slice none 0 0]) rfl hM rfl rfl (by kernel_rfl) ?_); clear hM; intro w bk hM); (try simp only [Res.put, Res.known, Act.eval, Value.cells, getD_lit, qGz, qGs, List.toList_toArray, qSz, qSs, over, Nat.reduceAdd] at hM); (try simp only [Act.put, qSa, qSz, qSs]))) | (first | (refine wp_seq_shut (fun K hK => ?_)) | (refine wp_text hM (fun Kr hKr => ?_); simp only [inText]) | refine wp_block ?_ | refine wp_skip ?_ | (refine wp_cond_false rfl ?_) | ((refine hK.out _ _ ?_); clear hK K))))
      ((refine St.call rfl rfl rfl (by kernel_rfl) (fun R hR => ?_); simp only [List.map_toArray, List.map_cons, List.map_nil, Act.eval, getD_lit, qGz, qGs]))
      refine (C.out _ (hM.dsk (.skip (.skip .all)) HK.out HT.out HX.out F0)).mono ?_
      rintro e w' ⟨s, X', β', γ', rfl, hs, hb, hk, hN2⟩
      replace hM := hM.backM (.skip (.skip .all)) (dskL_flag _ _ _ _) hN2 (fun y hy => (List.mem_append.1 hy).elim (txL_flag _ _ y) (dskL_flag _ _ _ _ y))
      (refine hR.out _ _ (fun _ => ⟨hM.only, nofun⟩) ?_); clear hR R hN2 C
      obtain ⟨va, vc, hv, -⟩ := slV_open hs
      have HS := Lib.hid hs
      clear hs
      rw [hv]
      (try simp only [Act.put, qSa, qSz, qSs])
      (repeat (first | ((with_reducible show wpSeq _ _ _ _ _ _ _); first | ((with_reducible refine wpSeq_nil ?_); refine hKr.out _ _ ?_; clear hKr Kr) | ((((((refine St.storeRow rfl hM rfl rfl rfl rfl rfl (by repeat constructor) (Nat.le_of_ble_eq_true rfl) (Nat.le_of_ble_eq_true rfl) (by kernel_rfl) rfl ?_ ?_); (focus ((intro h; cases h; done))); clear hM; intro w hM)); (try simp only [Res.put, Res.known, Act.eval, Value.cells, getD_lit, qGz, qGs, List.toList_toArray, qSz, qSs, over, Nat.reduceAdd] at hM))); (try simp only [Act.put, qSa, qSz, qSs]))) | (((refine hK.out _ _ ?_); clear hK K))))
      ((refine wp_ret ?_; (try simp only [Exit.then, Exit.inBlock]); refine St.ret hM rfl (by repeat (first | exact Outs.nil | (apply Outs.row rfl rfl (by repeat constructor) (by kernel_rfl)))) rfl ?_))
      exact ⟨s, X', β', γ', by rw [hv]; rfl, HS.out, hb, hk, hM.forget.forget⟩
end
end Go.Proofs.YtcicjklhbnipcaaGreatDoor
namespace Go.Proofs.YtcicjklhbnipcaaGreatDoor
set_option linter.unusedVariables false
set_option linter.unusedSimpArgs false
open Go.RowKit Go.Maps
section
variable {w w' w0 : World} {F : List Nat} {L : List Ent}
/-- What is no disk, or one that New did not give. -/
def DBare (w : World) (p : Option Addr) : Prop := p = none ∨ ∃ f, p = some ⟨f, 0, none⟩ ∧ w.rangeAt f 0 [.pointer none, .pointer none, .slice none 0 0]
theorem DBare.below {p : Option Addr} (h : DBare w p) (hb : Below w.heap.size w w') : DBare w' p := by
  rcases h with h | ⟨f, h, hc⟩
  · exact .inl h
  · refine .inr ⟨f, h, fun j v hj => ?_⟩
    have := hc j v hj
    exact (hb.cell (p := ⟨f, 0 + j, none⟩) (World.block_lt_of_cell? w _ this)).trans this
end
end Go.Proofs.YtcicjklhbnipcaaGreatDoor
namespace Go.Proofs.YtcicjklhbnipcaaGreatDoor
set_option linter.unusedVariables false
set_option linter.unusedSimpArgs false
open Go.RowKit Go.Maps
namespace Aw10
def o1 : OpD := ⟨3, ⟨#[97]⟩, ⟨#[]⟩, 0, 0, 0, ⟨#[]⟩, 0, 0⟩
def o2 : OpD := ⟨14, ⟨#[]⟩, ⟨#[]⟩, 0, 0, 0, ⟨#[]⟩, 0, 0⟩
def o3 : OpD := ⟨7, ⟨#[]⟩, ⟨#[]⟩, 1, 0, 0, ⟨#[120]⟩, 0, 0⟩
def o4 : OpD := ⟨1, ⟨#[100]⟩, ⟨#[]⟩, 0, 0, 0, ⟨#[]⟩, 0, 0⟩
def o5 : OpD := ⟨6, ⟨#[]⟩, ⟨#[]⟩, 1, 0, 1, ⟨#[]⟩, 0, 0⟩
def s1 : FsD := ⟨⟨4096, 128, 2, [⟨1, true, 1, 0, ⟨#[]⟩, [(⟨#[97]⟩, 2)]⟩, ⟨2, false, 1, 1, ⟨#[]⟩, []⟩]⟩, [(1, [0, 2, 0, 0, 0, 0, 0, 0, 0])]⟩
def s3 : FsD := ⟨⟨4096, 129, 2, [⟨1, true, 1, 0, ⟨#[]⟩, [(⟨#[97]⟩, 2)]⟩, ⟨2, false, 1, 1, ⟨#[120]⟩, []⟩]⟩, [(1, [0, 2, 0, 0, 0, 0, 0, 0, 0])]⟩
def s4 : FsD := ⟨⟨4096, 193, 3, [⟨1, true, 1, 0, ⟨#[]⟩, [(⟨#[97]⟩, 2), (⟨#[100]⟩, 3)]⟩, ⟨2, false, 1, 1, ⟨#[120]⟩, []⟩, ⟨3, true, 1, 0, ⟨#[]⟩, []⟩]⟩, [(1, [0, 2, 0, 0, 0, 0, 0, 0, 0])]⟩
def s5 : FsD := ⟨⟨4096, 129, 2, [⟨1, true, 1, 0, ⟨#[]⟩, [(⟨#[97]⟩, 2)]⟩, ⟨2, false, 1, 0, ⟨#[120]⟩, []⟩]⟩, []⟩
def D1 : DskD := ⟨s1, Fs.new 4096, [(1, some o1)]⟩
def D2 : DskD := ⟨s1, s1, []⟩
def D3 : DskD := ⟨s3, s1, [(1, some o3)]⟩
def D4 : DskD := ⟨s4, s1, [(1, some o3), (1, some o4)]⟩
def D5 : DskD := ⟨s5, s5, []⟩
theorem f1 : Fs.do_ (Fs.new 4096) 1 o1 = (⟨0, 1, ⟨#[]⟩, []⟩, s1) := by kernel_rfl
theorem f3 : Fs.do_ s1 1 o3 = (⟨0, 0, ⟨#[]⟩, []⟩, s3) := by kernel_rfl
theorem f4 : Fs.do_ s3 1 o4 = (⟨0, 0, ⟨#[]⟩, []⟩, s4) := by kernel_rfl
theorem f5 : Fs.do_ s5 1 o5 = (⟨13, 0, ⟨#[]⟩, []⟩, s5) := by kernel_rfl
theorem d1 : Ol.do_ (Ol.new 4096) 1 o1 = (⟨0, 1, ⟨#[]⟩, []⟩, D1) := by
  unfold Ol.do_ Ol.doN Ol.new
  rw [if_neg (by decide), f1]
  rw [if_pos (by unfold Ol.logs; decide)]
  rfl
theorem d2 : Ol.do_ D1 1 o2 = (⟨0, 0, ⟨#[]⟩, []⟩, D2) := rfl
theorem d3 : Ol.do_ D2 1 o3 = (⟨0, 0, ⟨#[]⟩, []⟩, D3) := by
  unfold Ol.do_ Ol.doN D2
  rw [if_neg (by decide), f3]
  rw [if_pos (by unfold Ol.logs; decide)]
  rfl
theorem d4 : Ol.do_ D3 1 o4 = (⟨0, 0, ⟨#[]⟩, []⟩, D4) := by
  unfold Ol.do_ Ol.doN D3
  rw [if_neg (by decide), f4]
  rw [if_pos (by unfold Ol.logs; decide)]
  rfl
theorem d5 : Ol.cut D4 1 = D5 := by kernel_rfl
theorem d6 : Ol.do_ D5 1 o5 = (⟨13, 0, ⟨#[]⟩, []⟩, D5) := by
  unfold Ol.do_ Ol.doN D5
  rw [if_neg (by decide), f5]
  rw [if_neg (by unfold Ol.logs; decide)]
theorem e1 : Fs.files s5 = [⟨⟨#[97]⟩, false, ⟨#[120]⟩⟩] := by kernel_rfl
theorem e2 : Fs.files s4 = [⟨⟨#[97]⟩, false, ⟨#[120]⟩⟩, ⟨⟨#[100]⟩, true, ⟨#[]⟩⟩] := by kernel_rfl
end Aw10
theorem val_one (zs : List LogV) : (zs.map LogV.val).all (·.oneCell') = true := by
  rw [List.all_eq_true]
  intro v hv
  obtain ⟨z, -, rfl⟩ := List.mem_map.1 hv
  obtain ⟨⟨o, _ | p⟩, q⟩ := z <;> rfl
theorem log_sub {X : DskX} {β γ : Int → Nat × Nat} {D : DskD} : (logL X.s (X.zs.map LogV.val)).Sublist (dskL X β γ D) := by
  unfold dskL
  exact (((List.sublist_append_left _ _).trans (List.sublist_append_right _ _))).cons _
set_option maxHeartbeats 16000000 in
set_option maxRecDepth 100000 in
theorem awake10_any (w : World) (hX : Mx w) : Calls Tryz.prog 25 #[] w fun e w' => e = .returned (.bool true) ∧ Below w.heap.size w w' := by
  have hM := St.start w []
  have HX := Lib.hid hX
  have F0 : 0 ∉ ([] : List Nat) := nofun
  have I0 := Lib.hid (Ol.inv_new (q := 4096) (by decide) (by decide))
  have I1 := Lib.hid (Aw10.d1 ▸ Ol.inv_do I0.out (by decide) (o := 1) (by decide) (p := Aw10.o1) (by constructor <;> decide))
  have I2 := Lib.hid (Aw10.d2 ▸ Ol.inv_do I1.out (by decide) (o := 1) (by decide) (p := Aw10.o2) (by constructor <;> decide))
  have I3 := Lib.hid (Aw10.d3 ▸ Ol.inv_do I2.out (by decide) (o := 1) (by decide) (p := Aw10.o3) (by constructor <;> decide))
  have I4 := Lib.hid (Aw10.d4 ▸ Ol.inv_do I3.out (by decide) (o := 1) (by decide) (p := Aw10.o4) (by constructor <;> decide))
  have I5 := Lib.hid (Aw10.d5 ▸ Ol.inv_cut I4.out (by decide) 1)
  clear hX
  go_enter Tryz.func25, Tryz.ntmps25
  (repeat (first | ((with_reducible show wpSeq _ _ _ _ _ _ _); first | ((with_reducible refine wpSeq_nil ?_); refine hKr.out _ _ ?_; clear hKr Kr) | (((refine St.copy (v := ?_) (by exact .inr rfl) rfl rfl ?_ ?_; rotate_left; (focus ((try simp only [Act.eval, getD_lit, qGz, qGs]); with_reducible rfl)))); (try simp only [Act.put, qSa, qSz, qSs]))) | (first | (refine wp_seq_shut (fun K hK => ?_)) | (refine wp_text hM (fun Kr hKr => ?_); simp only [inText]) | ((refine hK.out _ _ ?_); clear hK K))))
  ((refine St.call rfl rfl rfl (by kernel_rfl) (fun R hR => ?_); simp only [List.map_toArray, List.map_cons, List.map_nil, Act.eval, getD_lit, qGz, qGs]))
  refine (dNew_any 4096 _ rfl (hM.mx HX.out F0)).mono ?_
  rintro e w' ⟨X, β, γ, rfl, hk0, hN⟩
  replace hM := hM.madeM hN (dskL_flag _ _ _ _)
  rw [List.append_nil] at hM
  (refine hR.out _ _ (fun _ => ⟨hM.only, nofun⟩) ?_); clear hR R hN
  (try simp only [Act.put, qSa, qSz, qSs])
  (repeat (first | ((with_reducible show wpSeq _ _ _ _ _ _ _); first | ((with_reducible refine wpSeq_nil ?_); refine hKr.out _ _ ?_; clear hKr Kr) | ((first | (refine St.copy (v := ?_) (by first | exact .inl rfl | exact .inr rfl) rfl rfl ?_ ?_; rotate_left; (focus ((try simp only [Act.eval, getD_lit, qGz, qGs]); with_reducible rfl))) | (refine St.pure (v := ?_) rfl rfl rfl (fun w => ?_) ?_; rotate_left; (focus (go_simp; all_goals with_reducible rfl)))); (try simp only [Act.put, qSa, qSz, qSs]))) | (first | (refine wp_seq_shut (fun K hK => ?_)) | (refine wp_text hM (fun Kr hKr => ?_); simp only [inText]) | refine wp_skip ?_ | (refine wp_cond_false rfl ?_) | ((refine hK.out _ _ ?_); clear hK K))))
  generalize hb : DskX.b X = bb
  ((refine St.call rfl rfl rfl (by kernel_rfl) (fun R hR => ?_); simp only [List.map_toArray, List.map_cons, List.map_nil, Act.eval, getD_lit, qGz, qGs]))
  have C := dDo_bare (hM.dsk (by repeat (exact Part.all)) hk0 I0.out HX.out F0) (by decide) (o := 1) (by decide) Aw10.o1 (by constructor <;> decide) Aw10.d1
  rw [hb] at C
  refine C.mono ?_
  rintro e w' ⟨⟨a0, c0, rfl⟩, X1, β, γ, hb', hk1, hN⟩
  replace hM := hM.backM (by repeat (exact Swap.all)) (dskL_flag _ _ _ _) hN (dskL_flag _ _ _ _)
  rw [hb] at hb'
  (refine hR.out _ _ (fun _ => ⟨hM.only, nofun⟩) ?_); clear hR R hN C hb
  have hb := hb'
  clear hb'
  (try simp only [Act.put, qSa, qSz, qSs])
  (repeat (first | ((with_reducible show wpSeq _ _ _ _ _ _ _); first | ((with_reducible refine wpSeq_nil ?_); refine hKr.out _ _ ?_; clear hKr Kr) | ((first | (refine St.copy (v := ?_) (by exact .inl rfl) rfl rfl ?_ ?_; rotate_left; (focus ((try simp only [Act.eval, getD_lit, qGz, qGs]); with_reducible rfl))) | (refine St.pure (v := ?_) rfl rfl rfl (fun w => ?_) ?_; rotate_left; (focus (go_simp; all_goals with_reducible rfl)))); (try simp only [Act.put, qSa, qSz, qSs]))) | (first | (refine wp_seq_shut (fun K hK => ?_)) | (refine wp_text hM (fun Kr hKr => ?_); simp only [inText]) | ((refine hK.out _ _ ?_); clear hK K))))
  ((refine St.call rfl rfl rfl (by kernel_rfl) (fun R hR => ?_); simp only [List.map_toArray, List.map_cons, List.map_nil, Act.eval, getD_lit, qGz, qGs]))
  have C := dDo_bare (hM.dsk (by repeat (exact Part.all)) hk1 I1.out HX.out F0) (by decide) (o := 1) (by decide) Aw10.o2 (by constructor <;> decide) Aw10.d2
  rw [hb] at C
  refine C.mono ?_
  rintro e w' ⟨⟨a1, c1, rfl⟩, X2, β, γ, hb', hk2, hN⟩
  replace hM := hM.backM (by repeat (exact Swap.all)) (dskL_flag _ _ _ _) hN (dskL_flag _ _ _ _)
  rw [hb] at hb'
  (refine hR.out _ _ (fun _ => ⟨hM.only, nofun⟩) ?_); clear hR R hN C hb
  have hb := hb'
  clear hb'
  (try simp only [Act.put, qSa, qSz, qSs])
  (repeat (first | ((with_reducible show wpSeq _ _ _ _ _ _ _); first | ((with_reducible refine wpSeq_nil ?_); refine hKr.out _ _ ?_; clear hKr Kr) | ((first | (refine St.copy (v := ?_) (by exact .inl rfl) rfl rfl ?_ ?_; rotate_left; (focus ((try simp only [Act.eval, getD_lit, qGz, qGs]); with_reducible rfl))) | (refine St.pure (v := ?_) rfl rfl rfl (fun w => ?_) ?_; rotate_left; (focus (go_simp; all_goals with_reducible rfl)))); (try simp only [Act.put, qSa, qSz, qSs]))) | (first | (refine wp_seq_shut (fun K hK => ?_)) | (refine wp_text hM (fun Kr hKr => ?_); simp only [inText]) | ((refine hK.out _ _ ?_); clear hK K))))
  ((refine St.call rfl rfl rfl (by kernel_rfl) (fun R hR => ?_); simp only [List.map_toArray, List.map_cons, List.map_nil, Act.eval, getD_lit, qGz, qGs]))
  have C := dDo_bare (hM.dsk (by repeat (exact Part.all)) hk2 I2.out HX.out F0) (by decide) (o := 1) (by decide) Aw10.o3 (by constructor <;> decide) Aw10.d3
  rw [hb] at C
  refine C.mono ?_
  rintro e w' ⟨⟨a2, c2, rfl⟩, X3, β, γ, hb', hk3, hN⟩
  replace hM := hM.backM (by repeat (exact Swap.all)) (dskL_flag _ _ _ _) hN (dskL_flag _ _ _ _)
  rw [hb] at hb'
  (refine hR.out _ _ (fun _ => ⟨hM.only, nofun⟩) ?_); clear hR R hN C hb
  have hb := hb'
  clear hb'
  (try simp only [Act.put, qSa, qSz, qSs])
  (repeat (first | ((with_reducible show wpSeq _ _ _ _ _ _ _); first | ((with_reducible refine wpSeq_nil ?_); refine hKr.out _ _ ?_; clear hKr Kr) | ((first | (refine St.copy (v := ?_) (by exact .inl rfl) rfl rfl ?_ ?_; rotate_left; (focus ((try simp only [Act.eval, getD_lit, qGz, qGs]); with_reducible rfl))) | (refine St.pure (v := ?_) rfl rfl rfl (fun w => ?_) ?_; rotate_left; (focus (go_simp; all_goals with_reducible rfl)))); (try simp only [Act.put, qSa, qSz, qSs]))) | (first | (refine wp_seq_shut (fun K hK => ?_)) | (refine wp_text hM (fun Kr hKr => ?_); simp only [inText]) | ((refine hK.out _ _ ?_); clear hK K))))
  ((refine St.call rfl rfl rfl (by kernel_rfl) (fun R hR => ?_); simp only [List.map_toArray, List.map_cons, List.map_nil, Act.eval, getD_lit, qGz, qGs]))
  have C := dDo_bare (hM.dsk (by repeat (exact Part.all)) hk3 I3.out HX.out F0) (by decide) (o := 1) (by decide) Aw10.o4 (by constructor <;> decide) Aw10.d4
  rw [hb] at C
  refine C.mono ?_
  rintro e w' ⟨⟨a3, c3, rfl⟩, X4, β, γ, hb', hk4, hN⟩
  replace hM := hM.backM (by repeat (exact Swap.all)) (dskL_flag _ _ _ _) hN (dskL_flag _ _ _ _)
  rw [hb] at hb'
  (refine hR.out _ _ (fun _ => ⟨hM.only, nofun⟩) ?_); clear hR R hN C hb
  have hb := hb'
  clear hb'
  (try simp only [Act.put, qSa, qSz, qSs])
  (repeat (first | ((with_reducible show wpSeq _ _ _ _ _ _ _); first | ((with_reducible refine wpSeq_nil ?_); refine hKr.out _ _ ?_; clear hKr Kr) | (((refine St.copy (v := ?_) (by exact .inl rfl) rfl rfl ?_ ?_; rotate_left; (focus ((try simp only [Act.eval, getD_lit, qGz, qGs]); with_reducible rfl)))); (try simp only [Act.put, qSa, qSz, qSs]))) | (first | (refine wp_seq_shut (fun K hK => ?_)) | (refine wp_text hM (fun Kr hKr => ?_); simp only [inText]) | ((refine hK.out _ _ ?_); clear hK K))))
  ((refine St.call rfl rfl rfl (by kernel_rfl) (fun R hR => ?_); simp only [List.map_toArray, List.map_cons, List.map_nil, Act.eval, getD_lit, qGz, qGs]))
  have C := dLogged_any (hM.dsk (by repeat (exact Part.all)) hk4 I4.out HX.out F0).row hk4.sl
  rw [hb, show X4.zs.length = 2 by have := congrArg List.length hk4.log; rw [List.length_map] at this; exact this] at C
  refine C.mono ?_
  rintro e w' ⟨rfl, hb'⟩
  replace hM := hM.below hb'
  (refine hR.out _ _ (fun _ => ⟨hM.only, nofun⟩) ?_); clear hR R C hb'
  (try simp only [Act.put, qSa, qSz, qSs])
  (repeat (first | ((with_reducible show wpSeq _ _ _ _ _ _ _); first | ((with_reducible refine wpSeq_nil ?_); refine hKr.out _ _ ?_; clear hKr Kr) | (((refine St.copy (v := ?_) (by first | exact .inl rfl | exact .inr rfl) rfl rfl ?_ ?_; rotate_left; (focus ((try simp only [Act.eval, getD_lit, qGz, qGs]); with_reducible rfl)))); (try simp only [Act.put, qSa, qSz, qSs]))) | (first | (refine wp_seq_shut (fun K hK => ?_)) | (refine wp_text hM (fun Kr hKr => ?_); simp only [inText]) | ((refine hK.out _ _ ?_); clear hK K))))
  ((refine St.call rfl rfl rfl (by kernel_rfl) (fun R hR => ?_); simp only [List.map_toArray, List.map_cons, List.map_nil, Act.eval, getD_lit, qGz, qGs]))
  have C := dClone_any hk4.sl (val_one _) (by have := congrArg List.length hk4.log; rw [List.length_map] at this; rw [this]; decide) (by decide) (hM.dsk (by repeat (exact Part.all)) hk4 I4.out HX.out F0).row (hM.dsk (by repeat (exact Part.all)) hk4 I4.out HX.out F0).now ((hM.dsk (by repeat (exact Part.all)) hk4 I4.out HX.out F0).at_.sub log_sub)
  rw [hb, show X4.zs.length = 2 by have := congrArg List.length hk4.log; rw [List.length_map] at this; exact this] at C
  refine C.mono ?_
  rintro e w' ⟨c, y, δ, sc, rfl, hkc, hN⟩
  replace hM := hM.madeM hN (fun z hz => by
    rcases List.mem_cons.1 hz with rfl | hz
    · rfl
    · rcases List.mem_append.1 hz with hz | hz
      · exact fsL_flag _ _ _ z hz
      · exact slL_flag _ _ _ _ z hz)
  (refine hR.out _ _ (fun _ => ⟨hM.only, nofun⟩) ?_); clear hR R C hN
  have HKC := Lib.hid hkc
  clear hkc
  simp only [List.cons_append, List.append_assoc] at hM
  (try simp only [Act.put, qSa, qSz, qSs])
  (repeat (first | ((with_reducible show wpSeq _ _ _ _ _ _ _); first | ((with_reducible refine wpSeq_nil ?_); refine hKr.out _ _ ?_; clear hKr Kr) | (((refine St.copy (v := ?_) (by first | exact .inl rfl | exact .inr rfl) rfl rfl ?_ ?_; rotate_left; (focus ((try simp only [Act.eval, getD_lit, qGz, qGs]); with_reducible rfl)))); (try simp only [Act.put, qSa, qSz, qSs]))) | (first | (refine wp_seq_shut (fun K hK => ?_)) | (refine wp_text hM (fun Kr hKr => ?_); simp only [inText]) | ((refine hK.out _ _ ?_); clear hK K))))
  ((refine St.call rfl rfl rfl (by kernel_rfl) (fun R hR => ?_); simp only [List.map_toArray, List.map_cons, List.map_nil, Act.eval, getD_lit, qGz, qGs]))
  have C := dCut_whole (hM.dsk (.skip (.past (.past .all))) hk4 I4.out HX.out F0) (by decide) 1
  rw [hb, Aw10.d5] at C
  refine C.mono ?_
  rintro e w' ⟨rfl, X5, β, γ, hb', hk5, hN⟩
  replace hM := hM.backM (.skip (.past (.past .all))) (dskL_flag _ _ _ _) hN (dskL_flag _ _ _ _)
  rw [hb] at hb'
  (refine hR.out _ _ (fun _ => ⟨hM.only, nofun⟩) ?_); clear hR R hN C hb
  have hb := hb'
  clear hb'
  (try simp only [Act.put, qSa, qSz, qSs])
  (repeat (first | ((with_reducible show wpSeq _ _ _ _ _ _ _); first | ((with_reducible refine wpSeq_nil ?_); refine hKr.out _ _ ?_; clear hKr Kr) | (((refine St.copy (v := ?_) (by exact .inl rfl) rfl rfl ?_ ?_; rotate_left; (focus ((try simp only [Act.eval, getD_lit, qGz, qGs]); with_reducible rfl)))); (try simp only [Act.put, qSa, qSz, qSs]))) | (first | (refine wp_seq_shut (fun K hK => ?_)) | (refine wp_text hM (fun Kr hKr => ?_); simp only [inText]) | ((refine hK.out _ _ ?_); clear hK K))))
  ((refine St.call rfl rfl rfl (by kernel_rfl) (fun R hR => ?_); simp only [List.map_toArray, List.map_cons, List.map_nil, Act.eval, getD_lit, qGz, qGs]))
  have C := dFiles_any (hM.dsk (.skip (.past (.past .all))) hk5 I5.out HX.out F0).row (hM.dsk (.skip (.past (.past .all))) hk5 I5.out HX.out F0).now I5.out.now.up (by decide)
  rw [hb, show Aw10.D5.now = Aw10.s5 from rfl, Aw10.e1] at C
  refine C.mono ?_
  rintro e w' ⟨sf, rfl, hkf, hN⟩
  replace hM := hM.madeM hN (slL_flag _ _ _ _)
  (refine hR.out _ _ (fun _ => ⟨hM.only, nofun⟩) ?_); clear hR R C hN
  rcases sf with _ | ⟨gf, cf⟩
  · exact absurd hkf.2 (by decide)
  clear hkf
  simp only [slL, slV, List.length_cons, List.length_nil, Nat.zero_add, List.flatMap_cons, List.flatMap_nil, FileD.cells, List.cons_append, List.nil_append, List.append_nil] at hM ⊢
  (try simp only [Act.put, qSa, qSz, qSs])
  (repeat (first | ((with_reducible show wpSeq _ _ _ _ _ _ _); first | ((with_reducible refine wpSeq_nil ?_); refine hKr.out _ _ ?_; clear hKr Kr) | ((first | (refine St.copy (v := ?_) (by first | exact .inl rfl | exact .inr rfl) rfl rfl ?_ ?_; rotate_left; (focus ((try simp only [Act.eval, getD_lit, qGz, qGs]); with_reducible rfl))) | (refine St.pure (v := ?_) rfl rfl rfl (fun w => ?_) ?_; rotate_left; (focus (go_simp; all_goals with_reducible rfl)))); (try simp only [Act.put, qSa, qSz, qSs]))) | (first | (refine wp_seq_shut (fun K hK => ?_)) | (refine wp_text hM (fun Kr hKr => ?_); simp only [inText]) | ((refine hK.out _ _ ?_); clear hK K))))
  ((refine St.call rfl rfl rfl (by kernel_rfl) (fun R hR => ?_); simp only [List.map_toArray, List.map_cons, List.map_nil, Act.eval, getD_lit, qGz, qGs]))
  have C := dDo_bare (hM.dsk (.skip (.skip (.past (.past .all)))) hk5 I5.out HX.out F0) (by decide) (o := 1) (by decide) Aw10.o5 (by constructor <;> decide) Aw10.d6
  rw [hb] at C
  refine C.mono ?_
  rintro e w' ⟨⟨a5, c5, rfl⟩, X6, β, γ, hb', hk6, hN⟩
  replace hM := hM.backM (.skip (.skip (.past (.past .all)))) (dskL_flag _ _ _ _) hN (dskL_flag _ _ _ _)
  rw [hb] at hb'
  (refine hR.out _ _ (fun _ => ⟨hM.only, nofun⟩) ?_); clear hR R hN C hb
  have hb := hb'
  clear hb'
  (try simp only [Act.put, qSa, qSz, qSs])
  (repeat (first | ((with_reducible show wpSeq _ _ _ _ _ _ _); first | ((with_reducible refine wpSeq_nil ?_); refine hKr.out _ _ ?_; clear hKr Kr) | ((first | (refine St.copy (v := ?_) (by exact .inl rfl) rfl rfl ?_ ?_; rotate_left; (focus ((try simp only [Act.eval, getD_lit, qGz, qGs]); with_reducible rfl))) | (refine St.pure (v := ?_) rfl rfl rfl (fun w => ?_) ?_; rotate_left; (focus (go_simp; all_goals with_reducible rfl))) | refine St.load rfl hM rfl rfl rfl rfl (by repeat constructor) (by rfl) (by kernel_rfl) ?_ | ((refine St.loadRow rfl hM rfl rfl rfl rfl (by repeat constructor) (Nat.le_of_ble_eq_true rfl) (by kernel_rfl) ?_); (try simp only [Res.known, List.drop_succ_cons, List.drop_zero, List.take_succ_cons, List.take_zero])) | ((((refine St.storeRow rfl hM rfl rfl rfl rfl rfl (by repeat constructor) (Nat.le_of_ble_eq_true rfl) (Nat.le_of_ble_eq_true rfl) (by kernel_rfl) rfl ?_ ?_); (focus ((intro h; cases h; done))); clear hM; intro w hM)); (try simp only [Res.put, Res.known, Act.eval, Value.cells, getD_lit, qGz, qGs, List.toList_toArray, qSz, qSs, over, Nat.reduceAdd] at hM))); (try simp only [Act.put, qSa, qSz, qSs])) | (((refine St.alloc (ty := 31) (z := .agg #[.int .i64 0, .int .i64 0, .string ⟨#[]⟩, .slice none 0 0]) rfl hM rfl rfl (by kernel_rfl) ?_); clear hM; intro w bk hM); (try simp only [Res.put, Res.known, Act.eval, Value.cells, getD_lit, qGz, qGs, List.toList_toArray, qSz, qSs, over, Nat.reduceAdd] at hM); (try simp only [Act.put, qSa, qSz, qSs]))) | (first | (refine wp_seq_shut (fun K hK => ?_)) | (refine wp_text hM (fun Kr hKr => ?_); simp only [inText]) | ((refine hK.out _ _ ?_); clear hK K))))
  ((refine St.call rfl rfl rfl (by kernel_rfl) (fun R hR => ?_); simp only [List.map_toArray, List.map_cons, List.map_nil, Act.eval, getD_lit, qGz, qGs]))
  have C := dLogged_any (hM.dsk (.skip (.skip (.skip (.past (.past .all))))) hk6 I5.out HX.out F0).row hk6.sl
  rw [hb, show X6.zs.length = 0 by have := congrArg List.length hk6.log; rw [List.length_map] at this; exact this] at C
  refine C.mono ?_
  rintro e w' ⟨rfl, hb'⟩
  replace hM := hM.below hb'
  (refine hR.out _ _ (fun _ => ⟨hM.only, nofun⟩) ?_); clear hR R C hb'
  (try simp only [Act.put, qSa, qSz, qSs])
  (repeat (((with_reducible show wpSeq _ _ _ _ _ _ _); ((first | (refine St.copy (v := ?_) (by exact .inl rfl) rfl rfl ?_ ?_; rotate_left; (focus ((try simp only [Act.eval, getD_lit, qGz, qGs]); with_reducible rfl))) | (refine St.pure (v := ?_) rfl rfl rfl (fun w => ?_) ?_; rotate_left; (focus (go_simp; all_goals with_reducible rfl)))); (try simp only [Act.put, qSa, qSz, qSs])))))
  ((refine St.call rfl rfl rfl (by kernel_rfl) (fun R hR => ?_); simp only [List.map_toArray, List.map_cons, List.map_nil, Act.eval, getD_lit, qGz, qGs]))
  have C := dFiles_any (hM.holds (dskE c y.f X4.sure.f sc 2) (.tail _ (.tail _ (.head _)))) (hM.fs (x := y) (β := δ) (d := Aw10.D4.now) (.skip (.skip (.skip .here))) I4.out.now.inv HX.out F0) I4.out.now.up (by decide)
  rw [show Aw10.D4.now = Aw10.s4 from rfl, Aw10.e2] at C
  refine C.mono ?_
  rintro e w' ⟨sg, rfl, hkg, hN⟩
  replace hM := hM.below hN.to_below
  (refine hR.out _ _ (fun _ => ⟨hM.only, nofun⟩) ?_); clear hR R C hN
  obtain ⟨ag, cg, hvg, -⟩ := slV_open hkg
  rw [hvg]
  simp only [List.length_cons, List.length_nil, Nat.zero_add, Nat.reduceAdd]
  (try simp only [Act.put, qSa, qSz, qSs])
  (repeat (((with_reducible show wpSeq _ _ _ _ _ _ _); ((first | (refine St.copy (v := ?_) (by exact .inl rfl) rfl rfl ?_ ?_; rotate_left; (focus ((try simp only [Act.eval, getD_lit, qGz, qGs]); with_reducible rfl))) | (refine St.pure (v := ?_) rfl rfl rfl (fun w => ?_) ?_; rotate_left; (focus (go_simp; all_goals with_reducible rfl)))); (try simp only [Act.put, qSa, qSz, qSs])))))
  ((refine St.call rfl rfl rfl (by kernel_rfl) (fun R hR => ?_); simp only [List.map_toArray, List.map_cons, List.map_nil, Act.eval, getD_lit, qGz, qGs]))
  refine (dLogged_any (hM.holds (dskE c y.f X4.sure.f sc 2) (.tail _ (.tail _ (.head _)))) HKC.out).mono ?_
  rintro e w' ⟨rfl, hb'⟩
  replace hM := hM.below hb'
  (refine hR.out _ _ (fun _ => ⟨hM.only, nofun⟩) ?_); clear hR R hb'
  (try simp only [Act.put, qSa, qSz, qSs])
  (repeat (first | ((with_reducible show wpSeq _ _ _ _ _ _ _); first | ((with_reducible refine wpSeq_nil ?_); refine hKr.out _ _ ?_; clear hKr Kr) | ((first | (refine St.copy (v := ?_) (by exact .inr rfl) rfl rfl ?_ ?_; rotate_left; (focus ((try simp only [Act.eval, getD_lit, qGz, qGs]); with_reducible rfl))) | (refine St.pure (v := ?_) rfl rfl rfl (fun w => ?_) ?_; rotate_left; (focus (go_simp; all_goals with_reducible rfl)))); (try simp only [Act.put, qSa, qSz, qSs]))) | (((refine hK.out _ _ ?_); clear hK K))))
  ((refine wp_ret ?_; (try simp only [Exit.then, Exit.inBlock]); refine St.ret hM rfl (by repeat (first | exact Outs.nil | apply Outs.tmp rfl)) rfl ?_))
  exact ⟨rfl, hM.to_below⟩
end Go.Proofs.YtcicjklhbnipcaaGreatDoor
namespace Go.Proofs.YtcicjklhbnipcaaGreatDoor
set_option linter.unusedVariables false
set_option linter.unusedSimpArgs false
open Go.RowKit Go.Maps
theorem actO_ok {x : ActO} (hf : x.Fit) (hs : SmallF x.f) : x.f.op.Ok := ⟨hf.f.op.kind, hf.f.op.h, hf.f.op.at_, hf.f.op.n, by have := hs.path; omega, by have := hs.dest; omega, hf.f.op.data⟩
theorem zs_lenS {X : DskX} {D : DskD} (h : DskOk X D) : X.zs.length = D.log.length := by rw [← h.log, List.length_map]
theorem perm_s1 {α : Type} (dc dx : α) (fb fy ls fn lx g e : List α) : (fb ++ ((dc :: (fy ++ ls)) ++ (dx :: (fn ++ (lx ++ (g ++ e)))))).Perm ((dc :: (ls ++ (g ++ e))) ++ (fb ++ (fy ++ (dx :: (fn ++ lx))))) := (perm_by (by intro _ x; simp only [List.append_eq, List.count_append, List.count_cons, List.count_nil, List.cons_append, List.nil_append]; omega))
theorem perm_s2 {α : Type} (dc dx : α) (fb fy ls fn lx g e f1 f2 : List α) : ((dc :: (f1 ++ f2)) ++ ((ls ++ (g ++ e)) ++ (fb ++ (fy ++ (dx :: (fn ++ lx)))))).Perm
    ((fb ++ ((dc :: (f1 ++ ([] ++ (f2 ++ [])))) ++ (dx :: (fn ++ (lx ++ (g ++ e)))))) ++ (ls ++ fy)) := (perm_by (by intro _ x; simp only [List.append_eq, List.count_append, List.count_cons, List.count_nil, List.cons_append, List.nil_append]; omega))
set_option maxHeartbeats 32000000 in
set_option maxRecDepth 100000 in
theorem oplogSure_walk (a : Option Addr) (n c : Nat) (xs : List ActO) (a2 : Option Addr) (n2 c2 : Nat) (ys : List ActO) (kp : Int) (w0 : World) (hx : RActOs w0 w0.heap.size [.slice a n c] xs) (hy : RActOs w0 w0.heap.size [.slice a2 n2 c2] ys) (hkp : (Lit.int .i64 kp).wf = true) (hX : Mx w0) : Calls Tryz.prog 6 #[.slice a n c, .slice a2 n2 c2, .int .i64 kp] w0 fun e w' => e = .returned (.bool true) ∧ Below w0.heap.size w0 w' := by
  have hM := St.start w0 []
  have HX := Lib.hid hX
  have HA := Lib.hid (actOs_in hx)
  have HB := Lib.hid (actOs_in hy)
  have F0 : 0 ∉ ([] : List Nat) := nofun
  obtain rfl : n = xs.length := HA.out.1
  obtain rfl : n2 = ys.length := HB.out.1
  have hn : xs.length ≤ maxLen := HA.out.2.1
  have hn2 : ys.length ≤ maxLen := HB.out.2.1
  rw [maxLen_val] at hn hn2
  have I0 := Lib.hid (Ol.all_new (q := 1048576) (by decide) (by decide))
  clear hX hx hy hkp
  go_enter Tryz.func6, Tryz.ntmps6
  (repeat (first | ((with_reducible show wpSeq _ _ _ _ _ _ _); first | ((with_reducible refine wpSeq_nil ?_); refine hKr.out _ _ ?_; clear hKr Kr) | (((refine St.copy (v := ?_) (by exact .inr rfl) rfl rfl ?_ ?_; rotate_left; (focus ((try simp only [Act.eval, getD_lit, qGz, qGs]); with_reducible rfl)))); (try simp only [Act.put, qSa, qSz, qSs]))) | (first | (refine wp_seq_shut (fun K hK => ?_)) | (refine wp_text hM (fun Kr hKr => ?_); simp only [inText]) | ((refine hK.out _ _ ?_); clear hK K))))
  ((refine St.call rfl rfl rfl (by kernel_rfl) (fun R hR => ?_); simp only [List.map_toArray, List.map_cons, List.map_nil, Act.eval, getD_lit, qGz, qGs]))
  refine (dNew_any 1048576 _ rfl (hM.mx HX.out F0)).mono ?_
  rintro e w' ⟨X, β, γ, rfl, hkx, hN⟩
  replace hM := hM.madeM hN (dskL_flag _ _ _ _)
  rw [List.append_nil] at hM
  (refine hR.out _ _ (fun _ => ⟨hM.only, nofun⟩) ?_); clear hR R hN
  generalize hbx : DskX.b X = xb
  (try simp only [Act.put, qSa, qSz, qSs])
  (repeat (first | ((with_reducible show wpSeq _ _ _ _ _ _ _); first | ((with_reducible refine wpSeq_nil ?_); refine hKr.out _ _ ?_; clear hKr Kr) | ((first | (refine St.copy (v := ?_) (by first | exact .inl rfl | exact .inr rfl) rfl rfl ?_ ?_; rotate_left; (focus ((try simp only [Act.eval, getD_lit, qGz, qGs]); with_reducible rfl))) | (refine St.pure (v := ?_) rfl rfl rfl (fun w => ?_) ?_; rotate_left; (focus (go_simp; all_goals with_reducible rfl)))); (try simp only [Act.put, qSa, qSz, qSs]))) | (first | (refine wp_seq_shut (fun K hK => ?_)) | (refine wp_text hM (fun Kr hKr => ?_); simp only [inText]) | ((refine hK.out _ _ ?_); clear hK K))))
  ((refine St.call rfl rfl rfl (by kernel_rfl) (fun R hR => ?_); simp only [List.map_toArray, List.map_cons, List.map_nil, Act.eval, getD_lit, qGz, qGs]))
  refine (small10_any 30 (by decide) (by decide) (HA.out.below hM.to_below)).mono ?_
  rintro e w' ⟨b, rfl, hsm, hb⟩
  replace hM := hM.below hb
  (refine hR.out _ _ (fun _ => ⟨hM.only, nofun⟩) ?_); clear hR R hb
  have HSM := Lib.hid hsm
  clear hsm
  (try simp only [Act.put, qSa, qSz, qSs])
  cases b with
  | false =>
    (repeat (first | ((with_reducible show wpSeq _ _ _ _ _ _ _); first | ((with_reducible refine wpSeq_nil ?_); refine hKr.out _ _ ?_; clear hKr Kr) | ((first | (refine St.copy (v := ?_) (by exact .inl rfl) rfl rfl ?_ ?_; rotate_left; (focus ((try simp only [Act.eval, getD_lit, qGz, qGs]); with_reducible rfl))) | (refine St.pure (v := ?_) rfl rfl rfl (fun w => ?_) ?_; rotate_left; (focus (go_simp; all_goals with_reducible rfl))) | refine wpSeq_off rfl rfl ?_); (try simp only [Act.put, qSa, qSz, qSs]))) | (first | (refine wp_seq_shut (fun K hK => ?_)) | (refine wp_text hM (fun Kr hKr => ?_); simp only [inText]) | (refine wp_cond_true rfl ?_) | ((refine hK.out _ _ ?_); clear hK K))))
    ((refine St.call rfl rfl rfl (by kernel_rfl) (fun R hR => ?_); simp only [List.map_toArray, List.map_cons, List.map_nil, Act.eval, getD_lit, qGz, qGs]))
    refine (awake10_any _ (hM.mx HX.out F0)).mono ?_
    rintro e w' ⟨rfl, hb⟩; replace hM := hM.below hb; (refine hR.out _ _ (fun _ => ⟨hM.only, nofun⟩) ?_); clear hR R hb; (try simp only [Act.put, qSa, qSz, qSs])
    (repeat (first | ((with_reducible show wpSeq _ _ _ _ _ _ _); first | ((with_reducible refine wpSeq_nil ?_); refine hKr.out _ _ ?_; clear hKr Kr) | ((first | (refine St.copy (v := ?_) (by exact .inr rfl) rfl rfl ?_ ?_; rotate_left; (focus ((try simp only [Act.eval, getD_lit, qGz, qGs]); with_reducible rfl))) | (refine St.pure (v := ?_) rfl rfl rfl (fun w => ?_) ?_; rotate_left; (focus (go_simp; all_goals with_reducible rfl)))); (try simp only [Act.put, qSa, qSz, qSs]))) | (((refine hK.out _ _ ?_); clear hK K))))
    ((refine wp_ret ?_; (try simp only [Exit.then, Exit.inBlock]); refine St.ret hM rfl (by repeat (first | exact Outs.nil | apply Outs.tmp rfl)) rfl ?_))
    exact ⟨rfl, hM.to_below⟩
  | true =>
    (repeat (((with_reducible show wpSeq _ _ _ _ _ _ _); ((first | (refine St.copy (v := ?_) (by exact .inl rfl) rfl rfl ?_ ?_; rotate_left; (focus ((try simp only [Act.eval, getD_lit, qGz, qGs]); with_reducible rfl))) | (refine St.pure (v := ?_) rfl rfl rfl (fun w => ?_) ?_; rotate_left; (focus (go_simp; all_goals with_reducible rfl)))); (try simp only [Act.put, qSa, qSz, qSs])))))
    ((refine St.call rfl rfl rfl (by kernel_rfl) (fun R hR => ?_); simp only [List.map_toArray, List.map_cons, List.map_nil, Act.eval, getD_lit, qGz, qGs]))
    refine (small10_any 10 (by decide) (by decide) (HB.out.below hM.to_below)).mono ?_
    rintro e w' ⟨b, rfl, hsm, hb⟩
    replace hM := hM.below hb
    (refine hR.out _ _ (fun _ => ⟨hM.only, nofun⟩) ?_); clear hR R hb
    have HSN := Lib.hid hsm
    clear hsm
    (try simp only [Act.put, qSa, qSz, qSs])
    cases b with
    | false =>
      (repeat (first | ((with_reducible show wpSeq _ _ _ _ _ _ _); first | ((with_reducible refine wpSeq_nil ?_); refine hKr.out _ _ ?_; clear hKr Kr) | ((first | (refine St.copy (v := ?_) (by exact .inl rfl) rfl rfl ?_ ?_; rotate_left; (focus ((try simp only [Act.eval, getD_lit, qGz, qGs]); with_reducible rfl))) | (refine St.pure (v := ?_) rfl rfl rfl (fun w => ?_) ?_; rotate_left; (focus (go_simp; all_goals with_reducible rfl)))); (try simp only [Act.put, qSa, qSz, qSs]))) | (first | (refine wp_seq_shut (fun K hK => ?_)) | (refine wp_text hM (fun Kr hKr => ?_); simp only [inText]) | (refine wp_cond_true rfl ?_) | ((refine hK.out _ _ ?_); clear hK K))))
      ((refine St.call rfl rfl rfl (by kernel_rfl) (fun R hR => ?_); simp only [List.map_toArray, List.map_cons, List.map_nil, Act.eval, getD_lit, qGz, qGs]))
      refine (awake10_any _ (hM.mx HX.out F0)).mono ?_
      rintro e w' ⟨rfl, hb⟩; replace hM := hM.below hb; (refine hR.out _ _ (fun _ => ⟨hM.only, nofun⟩) ?_); clear hR R hb; (try simp only [Act.put, qSa, qSz, qSs])
      (repeat (first | ((with_reducible show wpSeq _ _ _ _ _ _ _); first | ((with_reducible refine wpSeq_nil ?_); refine hKr.out _ _ ?_; clear hKr Kr) | ((first | (refine St.copy (v := ?_) (by exact .inr rfl) rfl rfl ?_ ?_; rotate_left; (focus ((try simp only [Act.eval, getD_lit, qGz, qGs]); with_reducible rfl))) | (refine St.pure (v := ?_) rfl rfl rfl (fun w => ?_) ?_; rotate_left; (focus (go_simp; all_goals with_reducible rfl)))); (try simp only [Act.put, qSa, qSz, qSs]))) | (((refine hK.out _ _ ?_); clear hK K))))
      ((refine wp_ret ?_; (try simp only [Exit.then, Exit.inBlock]); refine St.ret hM rfl (by repeat (first | exact Outs.nil | apply Outs.tmp rfl)) rfl ?_))
      exact ⟨rfl, hM.to_below⟩
    | true =>
      have hlen : xs.length ≤ 30 := by have := (HSM.out rfl).1; omega
      have hlen2 : ys.length ≤ 10 := by have := (HSN.out rfl).1; omega
      (repeat (first | ((with_reducible show wpSeq _ _ _ _ _ _ _); first | ((with_reducible refine wpSeq_nil ?_); refine hKr.out _ _ ?_; clear hKr Kr) | ((first | (refine St.copy (v := ?_) (by exact .inr rfl) rfl rfl ?_ ?_; rotate_left; (focus ((try simp only [Act.eval, getD_lit, qGz, qGs]); with_reducible rfl))) | (refine St.pure (v := ?_) rfl rfl rfl (fun w => ?_) ?_; rotate_left; (focus (go_simp; all_goals with_reducible rfl)))); (try simp only [Act.put, qSa, qSz, qSs]))) | (first | (refine wp_seq_shut (fun K hK => ?_)) | (refine wp_text hM (fun Kr hKr => ?_); simp only [inText]) | refine wp_block ?_ | refine wp_skip ?_ | (refine wp_cond_false rfl ?_) | ((refine hK.out _ _ ?_); clear hK K))))
      go_loopw [9] (fun i wr => ∃ (j : Nat) (X : DskX) (β γ : Int → Nat × Nat) (D : DskD), j ≤ xs.length ∧ i = .int .i64 j ∧ Ol.All (1 + 3 * j) D ∧ DskOk X D ∧ X.b = xb ∧ St w0 [] wr (dskL X β γ D)) (fun i _ => xs.length - (intOf i).toNat)
      case atStart => exact ⟨0, X, β, γ, _, by omega, rfl, I0.out, hkx, hbx, hM⟩
      case round =>
        clear hM hkx hbx
        obtain ⟨j, X, β, γ, D, hj, rfl, hI, hkx, hbx, hM⟩ := hrel
        have HI := Lib.hid hI
        have HKX := Lib.hid hkx
        clear hI hkx
        by_cases hlt : j < xs.length
        · obtain ⟨x, hxj⟩ := get_at hlt
          obtain ⟨hf, bb, off, rfl, hc1, -, -⟩ := HA.out.get hxj
          have hop := actO_ok hf ((HSM.out rfl).2 j x hxj)
          have how := hf.f.owner
          have j1 : (j : Int) < (xs.length : Int) := by omega
          have IS := Lib.hid (Ol.all_act HI.out (by omega) x how hop)
          have CS := Lib.hid (fun (w1 : World) (β γ : Int → Nat × Nat) (hA : DskAt (1 + 3 * j) X β γ D w1) => sdo_any hA (by omega) x how hop)
          clear hxj hf hop how
          generalize Ol.act D x = r at *
          obtain ⟨⟨re, rn, rd, rl⟩, D2⟩ := r
          obtain ⟨⟨xo, xe, ⟨pk, pp, pd, ph, pa, pn, px, py, pb⟩⟩, xc, xk⟩ := x
          simp only [ActO.cells, ActF.cells, OpD.cells, List.cons_append, List.nil_append] at hc1 CS
          (repeat (first | ((with_reducible show wpSeq _ _ _ _ _ _ _); first | ((with_reducible refine wpSeq_nil ?_); refine hKr.out _ _ ?_; clear hKr Kr) | ((first | (refine St.copy (v := ?_) (by exact .inl rfl) rfl rfl ?_ ?_; rotate_left; (focus ((try simp only [Act.eval, getD_lit, qGz, qGs]); with_reducible rfl))) | (refine St.pure (v := ?_) rfl rfl rfl (fun w => ?_) ?_; rotate_left; (focus (go_simp; all_goals with_reducible rfl))) | refine St.loadRowF rfl rfl rfl rfl rfl (hM.oldRow (by assumption)) (by kernel_rfl) ?_); (try simp only [Act.put, qSa, qSz, qSs]))) | (first | (refine wp_seq_shut (fun K hK => ?_)) | (refine wp_text hM (fun Kr hKr => ?_); simp only [inText]) | refine wp_block ?_ | refine wp_skip ?_ | (refine wp_cond_true rfl ?_) | ((refine hK.out _ _ ?_); clear hK K))))
          ((refine St.call rfl rfl rfl (by kernel_rfl) (fun R hR => ?_); simp only [List.map_toArray, List.map_cons, List.map_nil, Act.eval, getD_lit, qGz, qGs]))
          have C := CS.out _ β γ (hM.dsk .all HKX.out HI.out.inv HX.out F0)
          rw [hbx] at C
          refine C.mono ?_
          rintro e w' ⟨s1, X2, β2, γ2, rfl, hs1, hb2, hk2, hN2⟩
          obtain ⟨va, vc, hv, -⟩ := slV_open hs1
          replace hM := hM.backM .all (dskL_flag _ _ _ _) hN2 (fun y hy => (List.mem_append.1 hy).elim (txL_flag _ _ y) (dskL_flag _ _ _ _ y))
          (refine hR.out _ _ (fun _ => ⟨hM.only, nofun⟩) ?_); clear hR R hN2 C CS
          replace hM := hM.subM (List.sublist_append_right _ _)
          rw [hbx] at hb2
          have HK2 := Lib.hid hk2
          clear hk2 hs1
          simp only
          rw [hv]
          clear hv
          (try simp only [Act.put, qSa, qSz, qSs])
          (repeat (first | ((with_reducible show wpSeq _ _ _ _ _ _ _); first | ((with_reducible refine wpSeq_nil ?_); refine hKr.out _ _ ?_; clear hKr Kr) | ((first | (refine St.copy (v := ?_) (by first | exact .inl rfl | exact .inr rfl) rfl rfl ?_ ?_; rotate_left; (focus ((try simp only [Act.eval, getD_lit, qGz, qGs]); with_reducible rfl))) | refine St.inc rfl rfl rfl rfl rfl (by omega) ?_); (try simp only [Act.put, qSa, qSz, qSs]))) | (first | (refine wp_text hM (fun Kr hKr => ?_); simp only [inText]) | ((refine hK.out _ _ ?_); clear hK K))))
          (try simp only [Exit.then])
          (refine ⟨?_, ?_⟩; (focus (repeat (first | exact ⟨⟨j + 1, X2, β2, γ2, D2, by omega, rfl, IS.out.more (by omega), HK2.out, hb2, hM⟩, rfl⟩ | apply Exists.intro))); (simp only [getD_lit, qGz, qGs, intOf]; omega))
        · have k0 : ¬ ((j : Int) < (xs.length : Int)) := by omega
          obtain rfl : j = xs.length := by omega
          clear hlt hj
          obtain ⟨NN, hNN⟩ : ∃ NN, 1 + 3 * xs.length = NN := ⟨_, rfl⟩
          rw [hNN] at HI
          have hNb : NN ≤ 91 := by omega
          clear hNN
          have HFL := Lib.hid (Fs.files_len HI.out.inv.now.inv HI.out.inv.now.up)
          have HFS := Lib.hid (Fs.files_size HI.out.inv.now.inv (by omega))
          have HCA := Lib.hid (Ol.cut_all HI.out.inv HI.out.law HI.out.good (by omega))
          have HIC := Lib.hid (Ol.inv_cut HI.out.inv (by omega) D.log.length)
          have HOC := Lib.hid (Ol.owners_cut HI.out.inv HI.out.good (by omega) D.log.length)
          have hzl := zs_lenS HKX.out
          obtain ⟨ff, hff⟩ : ∃ ff, Fs.files D.now = ff := ⟨_, rfl⟩
          rw [hff] at HFL HFS HCA
          obtain ⟨bf, hbf⟩ : ∃ bf, Ol.bare ff = bf := ⟨_, rfl⟩
          rw [hbf] at HCA
          have hbl : bf.length ≤ 91 := by have := HFL.out; have := Ol.bare_len ff; rw [hbf] at this; omega
          (repeat (first | ((with_reducible show wpSeq _ _ _ _ _ _ _); first | ((with_reducible refine wpSeq_nil ?_); refine hKr.out _ _ ?_; clear hKr Kr) | ((first | (refine St.copy (v := ?_) (by exact .inl rfl) rfl rfl ?_ ?_; rotate_left; (focus ((try simp only [Act.eval, getD_lit, qGz, qGs]); with_reducible rfl))) | (refine St.pure (v := ?_) rfl rfl rfl (fun w => ?_) ?_; rotate_left; (focus (go_simp; all_goals with_reducible rfl)))); (try simp only [Act.put, qSa, qSz, qSs]))) | (first | (refine wp_seq_shut (fun K hK => ?_)) | (refine wp_text hM (fun Kr hKr => ?_); simp only [inText]) | (refine wp_cond_false rfl ?_) | (refine wp_exit ?_; simp only [Exit.then, Exit.inBlock, if_true, if_false, reduceCtorEq, Nat.reduceEqDiff, Nat.succ_ne_zero]) | ((first | refine hK.out _ _ ?_ | (clear hK K; refine hK.out _ _ ?_)); clear hK K))))
          ((refine St.call rfl rfl rfl (by kernel_rfl) (fun R hR => ?_); simp only [List.map_toArray, List.map_cons, List.map_nil, Act.eval, getD_lit, qGz, qGs]))
          have hD := hM.dsk .all HKX.out HI.out.inv HX.out F0
          have C := dClone_any HKX.out.sl (val_one _) (by obtain ⟨K, -, h2⟩ := HI.out.inv.base; omega) (by omega) hD.row hD.now (hD.at_.sub log_sub)
          rw [hbx] at C
          refine C.mono ?_
          rintro e w' ⟨cb, y, δ, sc, rfl, hkc, hN⟩
          replace hM := hM.madeM hN (fun z hz => by
            rcases List.mem_cons.1 hz with rfl | hz
            · rfl
            · rcases List.mem_append.1 hz with hz | hz
              · exact fsL_flag _ _ _ z hz
              · exact slL_flag _ _ _ _ z hz)
          (refine hR.out _ _ (fun _ => ⟨hM.only, nofun⟩) ?_); clear hR R C hN hD
          have HKC := Lib.hid hkc
          clear hkc
          (try simp only [Act.put, qSa, qSz, qSs])
          (repeat (first | ((with_reducible show wpSeq _ _ _ _ _ _ _); first | ((with_reducible refine wpSeq_nil ?_); refine hKr.out _ _ ?_; clear hKr Kr) | ((first | (refine St.copy (v := ?_) (by first | exact .inl rfl | exact .inr rfl) rfl rfl ?_ ?_; rotate_left; (focus ((try simp only [Act.eval, getD_lit, qGz, qGs]); with_reducible rfl))) | (refine St.pure (v := ?_) rfl rfl rfl (fun w => ?_) ?_; rotate_left; (focus (go_simp; all_goals with_reducible rfl)))); (try simp only [Act.put, qSa, qSz, qSs]))) | (first | (refine wp_seq_shut (fun K hK => ?_)) | (refine wp_text hM (fun Kr hKr => ?_); simp only [inText]) | refine wp_skip ?_ | (refine wp_cond_false rfl ?_) | ((refine hK.out _ _ ?_); clear hK K))))
          ((refine St.call rfl rfl rfl (by kernel_rfl) (fun R hR => ?_); simp only [List.map_toArray, List.map_cons, List.map_nil, Act.eval, getD_lit, qGz, qGs]))
          have hD := hM.dsk (.past .all) HKX.out HI.out.inv HX.out F0
          have C := dFiles_any hD.row hD.now HI.out.inv.now.up (by omega)
          rw [hbx, hff] at C
          refine C.mono ?_
          rintro e w' ⟨sf, rfl, hkf, hN⟩
          replace hM := hM.madeM hN (slL_flag _ _ _ _)
          (refine hR.out _ _ (fun _ => ⟨hM.only, nofun⟩) ?_); clear hR R C hN hD
          (try simp only [Act.put, qSa, qSz, qSs])
          (repeat (fail))
          ((refine St.call rfl rfl rfl (by kernel_rfl) (fun R hR => ?_); simp only [List.map_toArray, List.map_cons, List.map_nil, Act.eval, getD_lit, qGz, qGs]))
          have C := bare_any hkf (by have := HFL.out; omega) HFS.out (hM.part .here)
          rw [hbf] at C
          refine C.mono ?_
          rintro e w' ⟨sb, rfl, hkb, hN⟩
          replace hM := hM.madeM hN (slL_flag _ _ _ _)
          (refine hR.out _ _ (fun _ => ⟨hM.only, nofun⟩) ?_); clear hR R C hN hkf
          replace hM := hM.subM ((List.sublist_append_right _ _).append_left _)
          have HBF := Lib.hid hbf
          have HKB := Lib.hid hkb
          have HBN := Lib.hid (show Ol.bare (Fs.files D.now) = bf by rw [hff]; exact hbf)
          clear hbf hkb hff HFL HFS HBF
          obtain ⟨ab, cbb, hvb, -⟩ := slV_open HKB.out
          rw [hvb]
          (try simp only [Act.put, qSa, qSz, qSs])
          (repeat (first | ((with_reducible show wpSeq _ _ _ _ _ _ _); first | ((with_reducible refine wpSeq_nil ?_); refine hKr.out _ _ ?_; clear hKr Kr) | (((refine St.copy (v := ?_) (by first | exact .inl rfl | exact .inr rfl) rfl rfl ?_ ?_; rotate_left; (focus ((try simp only [Act.eval, getD_lit, qGz, qGs]); with_reducible rfl)))); (try simp only [Act.put, qSa, qSz, qSs]))) | (first | (refine wp_seq_shut (fun K hK => ?_)) | (refine wp_text hM (fun Kr hKr => ?_); simp only [inText]) | ((refine hK.out _ _ ?_); clear hK K))))
          ((refine St.call rfl rfl rfl (by kernel_rfl) (fun R hR => ?_); simp only [List.map_toArray, List.map_cons, List.map_nil, Act.eval, getD_lit, qGz, qGs]))
          have C := dLogged_any (hM.holds (dskE cb y.f X.sure.f sc X.zs.length) (List.mem_append_right _ (.head _))) HKC.out
          rw [hzl] at C
          refine C.mono ?_
          rintro e w' ⟨rfl, hb⟩; replace hM := hM.below hb; (refine hR.out _ _ (fun _ => ⟨hM.only, nofun⟩) ?_); clear hR R hb C; (try simp only [Act.put, qSa, qSz, qSs])
          (repeat (fail))
          ((refine St.call rfl rfl rfl (by kernel_rfl) (fun R hR => ?_); simp only [List.map_toArray, List.map_cons, List.map_nil, Act.eval, getD_lit, qGz, qGs]))
          unfold dskL at hM
          replace hM := hM.perm (perm_s1 _ _ _ _ _ _ _ _ _)
          obtain ⟨K0, hKB, hKK⟩ := HI.out.inv.base
          have hA := hM.part .here
          have C := dCut_any (D := D) hA HKC.out HKX.out.log hKB (by omega) HI.out.inv.ok (hM.mx HX.out F0) (fun h => by
            obtain ⟨z, hz, e⟩ := List.mem_map.1 h
            rcases hM.own z (List.mem_append_left _ hz) (by
              rcases List.mem_cons.1 hz with rfl | hz
              · rfl
              rcases List.mem_append.1 hz with hz | hz
              · exact slL_flag _ _ _ _ z hz
              rcases List.mem_append.1 hz with hz | hz
              · exact fsL_flag _ _ _ z hz
              · exact logE_flag _ z hz) with h1 | h1
            · rw [e] at h1; exact F0 h1
            · have := HX.out.pos; omega) D.log.length
          refine C.mono ?_
          rintro e w' ⟨rfl, x1, β1, x2, β2, hN⟩
          replace hM := hM.backM (M := [dskE cb y.f X.sure.f sc X.zs.length]) .one (flag_1 _ _) hN (fun z hz => by
            rcases List.mem_cons.1 hz with rfl | hz
            · rfl
            · rcases List.mem_append.1 hz with hz | hz
              · exact fsL_flag _ _ _ z hz
              · exact fsL_flag _ _ _ z hz)
          (refine hR.out _ _ (fun _ => ⟨hM.only, nofun⟩) ?_); clear hR R C hN hA hKB hKK
          replace hM := (hM.perm (perm_s2 _ _ _ _ _ _ _ _ _ _ _)).front
          obtain ⟨Y, hY⟩ : ∃ Y : DskX, Y = ⟨cb, x1, x2, none, []⟩ := ⟨_, rfl⟩
          have hE1 : dskE cb x1.f x2.f none 0 :: (fsL x1 β1 (Ol.cutFs D D.log.length) ++ ([] ++ (fsL x2 β2 (Ol.cutFs D D.log.length) ++ []))) = dskL Y β1 β2 (Ol.cut D D.log.length) := by rw [hY]; rfl
          have hE2 : dskE X.b X.now.f X.sure.f X.s X.zs.length :: (fsL X.now β D.now ++ (logL X.s (X.zs.map LogV.val) ++ (fsL X.sure γ D.base ++ X.zs.flatMap LogV.ents))) = dskL X β γ D := rfl
          rw [hE1, hE2] at hM
          have hkY : DskOk Y (Ol.cut D D.log.length) := by rw [hY]; exact ⟨rfl, ⟨rfl, rfl⟩⟩
          have hbY : Y.b = cb := by rw [hY]
          have hzY : Y.zs.length = 0 := by rw [hY]; rfl
          clear hE1 hE2 hY HKC
          generalize hCD : Ol.cut D D.log.length = DC at *
          have HCD := Lib.hid hCD
          clear hCD
          (try simp only [Act.put, qSa, qSz, qSs])
          (repeat (first | ((with_reducible show wpSeq _ _ _ _ _ _ _); first | ((with_reducible refine wpSeq_nil ?_); refine hKr.out _ _ ?_; clear hKr Kr) | (((refine St.copy (v := ?_) (by exact .inl rfl) rfl rfl ?_ ?_; rotate_left; (focus ((try simp only [Act.eval, getD_lit, qGz, qGs]); with_reducible rfl)))); (try simp only [Act.put, qSa, qSz, qSs]))) | (first | (refine wp_seq_shut (fun K hK => ?_)) | (refine wp_text hM (fun Kr hKr => ?_); simp only [inText]) | ((refine hK.out _ _ ?_); clear hK K))))
          have hfc : Fs.files DC.now = bf := by rw [← HCD.out]; exact HCA.out
          have hoc : Fs.owners DC.now = [] := by rw [← HCD.out]; exact HOC.out
          have HFC := Lib.hid hfc
          have HOD := Lib.hid hoc
          clear hfc hoc HCA HOC HCD
          ((refine St.call rfl rfl rfl (by kernel_rfl) (fun R hR => ?_); simp only [List.map_toArray, List.map_cons, List.map_nil, Act.eval, getD_lit, qGz, qGs]))
          have hD := hM.dsk (.past .here) hkY HIC.out HX.out F0
          have C := dFiles_any hD.row hD.now HIC.out.now.up (by omega)
          rw [hbY, HFC.out] at C
          refine C.mono ?_
          rintro e w' ⟨sg, rfl, hkg, hN⟩
          replace hM := hM.madeM hN (slL_flag _ _ _ _)
          (refine hR.out _ _ (fun _ => ⟨hM.only, nofun⟩) ?_); clear hR R C hN hD
          obtain ⟨ag, cg, hvg, -⟩ := slV_open hkg
          rw [hvg]
          (try simp only [Act.put, qSa, qSz, qSs])
          (repeat (((with_reducible show wpSeq _ _ _ _ _ _ _); (((refine St.copy (v := ?_) (by exact .inl rfl) rfl rfl ?_ ?_; rotate_left; (focus ((try simp only [Act.eval, getD_lit, qGz, qGs]); with_reducible rfl)))); (try simp only [Act.put, qSa, qSz, qSs])))))
          ((refine St.call rfl rfl rfl (by kernel_rfl) (fun R hR => ?_); simp only [List.map_toArray, List.map_cons, List.map_nil, Act.eval, getD_lit, qGz, qGs]))
          rw [← hvg, ← hvb]
          refine (sameF_any hkg HKB.out (by omega) (hM.part .here) (hM.part (.past .here))).mono ?_
          rintro e w' ⟨rfl, hb⟩; replace hM := hM.below hb; (refine hR.out _ _ (fun _ => ⟨hM.only, nofun⟩) ?_); clear hR R hb
          replace hM := hM.subM (List.sublist_append_right _ _)
          clear hkg hvg
          (try simp only [Act.put, qSa, qSz, qSs])
          (repeat (((with_reducible show wpSeq _ _ _ _ _ _ _); ((first | (refine St.copy (v := ?_) (by exact .inl rfl) rfl rfl ?_ ?_; rotate_left; (focus ((try simp only [Act.eval, getD_lit, qGz, qGs]); with_reducible rfl))) | (refine St.pure (v := ?_) rfl rfl rfl (fun w => ?_) ?_; rotate_left; (focus (go_simp; all_goals with_reducible rfl)))); (try simp only [Act.put, qSa, qSz, qSs])))))
          ((refine St.call rfl rfl rfl (by kernel_rfl) (fun R hR => ?_); simp only [List.map_toArray, List.map_cons, List.map_nil, Act.eval, getD_lit, qGz, qGs]))
          have hD := hM.dsk (.past .here) hkY HIC.out HX.out F0
          have C := dOwners_any hD.row hD.now (by omega)
          rw [hbY, HOD.out] at C
          refine C.mono ?_
          rintro e w' ⟨so, rfl, hko, hN⟩
          replace hM := hM.below hN.to_below
          (refine hR.out _ _ (fun _ => ⟨hM.only, nofun⟩) ?_); clear hR R C hN hD
          obtain ⟨ao, co, hvo, -⟩ := slV_open hko
          rw [hvo]
          simp only [List.length_nil]
          (try simp only [Act.put, qSa, qSz, qSs])
          (repeat (((with_reducible show wpSeq _ _ _ _ _ _ _); ((first | (refine St.copy (v := ?_) (by exact .inl rfl) rfl rfl ?_ ?_; rotate_left; (focus ((try simp only [Act.eval, getD_lit, qGz, qGs]); with_reducible rfl))) | (refine St.pure (v := ?_) rfl rfl rfl (fun w => ?_) ?_; rotate_left; (focus (go_simp; all_goals with_reducible rfl)))); (try simp only [Act.put, qSa, qSz, qSs])))))
          ((refine St.call rfl rfl rfl (by kernel_rfl) (fun R hR => ?_); simp only [List.map_toArray, List.map_cons, List.map_nil, Act.eval, getD_lit, qGz, qGs]))
          have C := dLogged_any (hM.dsk (.past .here) hkY HIC.out HX.out F0).row hkY.sl
          rw [hbY, hzY] at C
          refine C.mono ?_
          rintro e w' ⟨rfl, hb⟩; replace hM := hM.below hb; (refine hR.out _ _ (fun _ => ⟨hM.only, nofun⟩) ?_); clear hR R hb C; (try simp only [Act.put, qSa, qSz, qSs])
          replace hM := hM.subM ((List.sublist_append_right _ _).append_left _)
          clear hkY hbY hzY HIC HFC HOD hko hvo
          (repeat (first | ((with_reducible show wpSeq _ _ _ _ _ _ _); first | ((with_reducible refine wpSeq_nil ?_); refine hKr.out _ _ ?_; clear hKr Kr) | ((first | (refine St.copy (v := ?_) (by exact .inl rfl) rfl rfl ?_ ?_; rotate_left; (focus ((try simp only [Act.eval, getD_lit, qGz, qGs]); with_reducible rfl))) | (refine St.pure (v := ?_) rfl rfl rfl (fun w => ?_) ?_; rotate_left; (focus (go_simp; all_goals with_reducible rfl)))); (try simp only [Act.put, qSa, qSz, qSs]))) | (first | (refine wp_seq_shut (fun K hK => ?_)) | (refine wp_text hM (fun Kr hKr => ?_); simp only [inText]) | refine wp_skip ?_ | (refine wp_cond_false rfl ?_) | ((refine hK.out _ _ ?_); clear hK K))))
          ((refine St.call rfl rfl rfl (by kernel_rfl) (fun R hR => ?_); simp only [List.map_toArray, List.map_cons, List.map_nil, Act.eval, getD_lit, qGz, qGs]))
          have C := dDo_bare (hM.dsk (.past .all) HKX.out HI.out.inv HX.out F0) (by omega) (o := 0) (by decide) Aw10.o2 (by constructor <;> decide) (show Ol.do_ D 0 Aw10.o2 = (⟨0, 0, ⟨#[]⟩, []⟩, Ol.sync D) from rfl)
          rw [hbx] at C
          refine C.mono ?_
          rintro e w' ⟨⟨a0, c0, rfl⟩, X2, β2, γ2, hb2, hk2, hN⟩
          replace hM := hM.backM (.past .all) (dskL_flag _ _ _ _) hN (dskL_flag _ _ _ _)
          (refine hR.out _ _ (fun _ => ⟨hM.only, nofun⟩) ?_); clear hR R hN C
          rw [hbx] at hb2
          have HS0 := Lib.hid (Ol.all_sync HI.out)
          have HSB := Lib.hid (show (Ol.sync D).base = D.now from rfl)
          generalize Ol.sync D = D2 at *
          clear hzl HKX hbx
          (try simp only [Act.put, qSa, qSz, qSs])
          (repeat (first | ((with_reducible show wpSeq _ _ _ _ _ _ _); first | ((with_reducible refine wpSeq_nil ?_); refine hKr.out _ _ ?_; clear hKr Kr) | (((refine St.copy (v := ?_) (by exact .inr rfl) rfl rfl ?_ ?_; rotate_left; (focus ((try simp only [Act.eval, getD_lit, qGz, qGs]); with_reducible rfl)))); (try simp only [Act.put, qSa, qSz, qSs]))) | (first | (refine wp_seq_shut (fun K hK => ?_)) | (refine wp_text hM (fun Kr hKr => ?_); simp only [inText]) | refine wp_block ?_ | ((refine hK.out _ _ ?_); clear hK K))))
          go_loopw [12, 13] (fun i _ wr => ∃ (j : Nat) (X : DskX) (β γ : Int → Nat × Nat) (D' : DskD), j ≤ ys.length ∧ i = .int .i64 j ∧ Ol.All (NN + 3 * j) D' ∧ Hid (D'.base = D.now) ∧ DskOk X D' ∧ X.b = xb ∧ St w0 [] wr (fileL sb bf ++ dskL X β γ D')) (fun i _ _ => ys.length - (intOf i).toNat)
          case atStart => exact ⟨0, X2, β2, γ2, D2, by omega, rfl, HS0.out, HSB, hk2, hb2, hM⟩
          case round =>
            clear hM hk2 hb2 HS0 HSB
            obtain ⟨j, X, β, γ, D', hj, rfl, hI, HDB, hkx, hbx, hM⟩ := hrel
            have HI2 := Lib.hid hI
            have HKX := Lib.hid hkx
            clear hI hkx
            by_cases hlt : j < ys.length
            · obtain ⟨x, hxj⟩ := get_at hlt
              obtain ⟨hf, bb, off, rfl, hc1, -, -⟩ := HB.out.get hxj
              have hop := actO_ok hf ((HSN.out rfl).2 j x hxj)
              have how := hf.f.owner
              have j1 : (j : Int) < (ys.length : Int) := by omega
              have IS := Lib.hid (Ol.all_act HI2.out (by omega) x how hop)
              have CS := Lib.hid (fun (w1 : World) (β γ : Int → Nat × Nat) (hA : DskAt (NN + 3 * j) X β γ D' w1) => sdo_any hA (by omega) x how hop)
              have HBS := Lib.hid (fun (hc : x.cut = false) (hk : x.f.exit = true ∨ x.f.op.kind ≠ 14) => (Ol.base_act (D := D') x hc hk).trans HDB.out)
              clear hxj hf hop how
              generalize Ol.act D' x = r at *
              obtain ⟨⟨re, rn, rd, rl⟩, D2⟩ := r
              obtain ⟨⟨xo, xe, ⟨pk, pp, pd, ph, pa, pn, px, py, pb⟩⟩, xc, xk⟩ := x
              simp only [ActO.cells, ActF.cells, OpD.cells, List.cons_append, List.nil_append] at hc1 CS
              cases xc with
              | true =>
                (repeat (first | ((with_reducible show wpSeq _ _ _ _ _ _ _); first | ((with_reducible refine wpSeq_nil ?_); refine hKr.out _ _ ?_; clear hKr Kr) | ((first | (refine St.copy (v := ?_) (by first | exact .inl rfl | exact .inr rfl) rfl rfl ?_ ?_; rotate_left; (focus ((try simp only [Act.eval, getD_lit, qGz, qGs]); with_reducible rfl))) | refine St.inc rfl rfl rfl rfl rfl (by omega) ?_ | (refine St.pure (v := ?_) rfl rfl rfl (fun w => ?_) ?_; rotate_left; (focus (go_simp; all_goals with_reducible rfl))) | refine St.load rfl hM rfl rfl rfl rfl (by repeat constructor) (by rfl) (by kernel_rfl) ?_ | refine St.loadRowF rfl rfl rfl rfl rfl (hM.oldRow (by assumption)) (by kernel_rfl) ?_ | refine wpSeq_off rfl rfl ?_ | ((((refine St.storeRow rfl hM rfl rfl rfl rfl rfl (by repeat constructor) (Nat.le_of_ble_eq_true rfl) (Nat.le_of_ble_eq_true rfl) (by kernel_rfl) rfl ?_ ?_); (focus ((intro h; cases h; done))); clear hM; intro w hM)); (try simp only [Res.put, Res.known, Act.eval, Value.cells, getD_lit, qGz, qGs, List.toList_toArray, qSz, qSs, over, Nat.reduceAdd] at hM))); (try simp only [Act.put, qSa, qSz, qSs])) | (((refine St.alloc (ty := 60) (z := .agg #[.int .i64 0, .bool false, .int .i64 0, .string ⟨#[]⟩, .string ⟨#[]⟩, .int .i64 0, .int .i64 0, .int .i64 0, .string ⟨#[]⟩, .int .i64 0, .int .i64 0, .bool false, .int .i64 0]) rfl hM rfl rfl (by kernel_rfl) ?_); clear hM; intro w bk hM); (try simp only [Res.put, Res.known, Act.eval, Value.cells, getD_lit, qGz, qGs, List.toList_toArray, qSz, qSs, over, Nat.reduceAdd] at hM); (try simp only [Act.put, qSa, qSz, qSs]))) | (first | (refine wp_seq_shut (fun K hK => ?_)) | (refine wp_text hM (fun Kr hKr => ?_); simp only [inText]) | refine wp_block ?_ | refine wp_skip ?_ | (first | refine wp_cond_true rfl ?_ | refine wp_cond_false rfl ?_) | ((refine hK.out _ _ ?_); clear hK K))))
                replace hM := hM.forget
                (try simp only [Exit.then])
                (refine ⟨?_, ?_⟩; (focus (repeat (first | exact ⟨⟨j + 1, X, β, γ, D', by omega, rfl, HI2.out.more (by omega), HDB, HKX.out, hbx, hM⟩, rfl⟩ | apply Exists.intro))); (simp only [getD_lit, qGz, qGs, intOf]; omega))
              | false =>
                cases xe with
                | true =>
                  have HD2 := Lib.hid (HBS.out rfl (.inl rfl))
                  (repeat (first | ((with_reducible show wpSeq _ _ _ _ _ _ _); first | ((with_reducible refine wpSeq_nil ?_); refine hKr.out _ _ ?_; clear hKr Kr) | ((first | (refine St.copy (v := ?_) (by exact .inl rfl) rfl rfl ?_ ?_; rotate_left; (focus ((try simp only [Act.eval, getD_lit, qGz, qGs]); with_reducible rfl))) | (refine St.pure (v := ?_) rfl rfl rfl (fun w => ?_) ?_; rotate_left; (focus (go_simp; all_goals with_reducible rfl))) | refine St.load rfl hM rfl rfl rfl rfl (by repeat constructor) (by rfl) (by kernel_rfl) ?_ | ((refine St.loadRow rfl hM rfl rfl rfl rfl (by repeat constructor) (Nat.le_of_ble_eq_true rfl) (by kernel_rfl) ?_); (try simp only [Res.known, List.drop_succ_cons, List.drop_zero, List.take_succ_cons, List.take_zero])) | refine St.loadRowF rfl rfl rfl rfl rfl (hM.oldRow (by assumption)) (by kernel_rfl) ?_ | refine wpSeq_off rfl rfl ?_ | ((((refine St.storeRow rfl hM rfl rfl rfl rfl rfl (by repeat constructor) (Nat.le_of_ble_eq_true rfl) (Nat.le_of_ble_eq_true rfl) (by kernel_rfl) rfl ?_ ?_); (focus ((intro h; cases h; done))); clear hM; intro w hM)); (try simp only [Res.put, Res.known, Act.eval, Value.cells, getD_lit, qGz, qGs, List.toList_toArray, qSz, qSs, over, Nat.reduceAdd] at hM))); (try simp only [Act.put, qSa, qSz, qSs])) | (((refine St.alloc (ty := 60) (z := .agg #[.int .i64 0, .bool false, .int .i64 0, .string ⟨#[]⟩, .string ⟨#[]⟩, .int .i64 0, .int .i64 0, .int .i64 0, .string ⟨#[]⟩, .int .i64 0, .int .i64 0, .bool false, .int .i64 0]) rfl hM rfl rfl (by kernel_rfl) ?_); clear hM; intro w bk hM); (try simp only [Res.put, Res.known, Act.eval, Value.cells, getD_lit, qGz, qGs, List.toList_toArray, qSz, qSs, over, Nat.reduceAdd] at hM); (try simp only [Act.put, qSa, qSz, qSs]))) | (first | (refine wp_seq_shut (fun K hK => ?_)) | (refine wp_text hM (fun Kr hKr => ?_); simp only [inText]) | refine wp_block ?_ | refine wp_skip ?_ | (refine wp_cond_true rfl ?_) | ((refine hK.out _ _ ?_); clear hK K))))
                  ((refine St.call rfl rfl rfl (by kernel_rfl) (fun R hR => ?_); simp only [List.map_toArray, List.map_cons, List.map_nil, Act.eval, getD_lit, qGz, qGs]))
                  have C := CS.out _ β γ (hM.dsk (.skip (.past .all)) HKX.out HI2.out.inv HX.out F0)
                  rw [hbx] at C
                  refine C.mono ?_
                  rintro e w' ⟨s1, X2, β2, γ2, rfl, hs1, hb2, hk2, hN2⟩
                  obtain ⟨va, vc, hv, -⟩ := slV_open hs1
                  replace hM := hM.backM (.skip (.past .all)) (dskL_flag _ _ _ _) hN2 (fun y hy => (List.mem_append.1 hy).elim (txL_flag _ _ y) (dskL_flag _ _ _ _ y))
                  (refine hR.out _ _ (fun _ => ⟨hM.only, nofun⟩) ?_); clear hR R hN2 C CS
                  replace hM := hM.subM (((List.sublist_append_right _ _).append_left _).cons _)
                  rw [hbx] at hb2
                  have HK2 := Lib.hid hk2
                  clear hk2 hs1
                  simp only
                  rw [hv]
                  clear hv
                  (try simp only [Act.put, qSa, qSz, qSs])
                  (repeat (first | ((with_reducible show wpSeq _ _ _ _ _ _ _); first | ((with_reducible refine wpSeq_nil ?_); refine hKr.out _ _ ?_; clear hKr Kr) | ((first | (refine St.copy (v := ?_) (by first | exact .inl rfl | exact .inr rfl) rfl rfl ?_ ?_; rotate_left; (focus ((try simp only [Act.eval, getD_lit, qGz, qGs]); with_reducible rfl))) | refine St.inc rfl rfl rfl rfl rfl (by omega) ?_); (try simp only [Act.put, qSa, qSz, qSs]))) | (first | (refine wp_text hM (fun Kr hKr => ?_); simp only [inText]) | ((refine hK.out _ _ ?_); clear hK K))))
                  (try simp only [Exit.then])
                  (refine ⟨?_, ?_⟩; (focus (repeat (first | exact ⟨⟨j + 1, X2, β2, γ2, D2, by omega, rfl, IS.out.more (by omega), HD2, HK2.out, hb2, hM⟩, rfl⟩ | apply Exists.intro))); (simp only [getD_lit, qGz, qGs, intOf]; omega))
                | false =>
                  by_cases h14 : pk = 14
                  · subst h14
                    (repeat (first | ((with_reducible show wpSeq _ _ _ _ _ _ _); first | ((with_reducible refine wpSeq_nil ?_); refine hKr.out _ _ ?_; clear hKr Kr) | ((first | (refine St.copy (v := ?_) (by first | exact .inl rfl | exact .inr rfl) rfl rfl ?_ ?_; rotate_left; (focus ((try simp only [Act.eval, getD_lit, qGz, qGs]); with_reducible rfl))) | refine St.inc rfl rfl rfl rfl rfl (by omega) ?_ | (refine St.pure (v := ?_) rfl rfl rfl (fun w => ?_) ?_; rotate_left; (focus (go_simp; all_goals with_reducible rfl))) | refine St.load rfl hM rfl rfl rfl rfl (by repeat constructor) (by rfl) (by kernel_rfl) ?_ | refine St.loadRowF rfl rfl rfl rfl rfl (hM.oldRow (by assumption)) (by kernel_rfl) ?_ | ((((refine St.storeRow rfl hM rfl rfl rfl rfl rfl (by repeat constructor) (Nat.le_of_ble_eq_true rfl) (Nat.le_of_ble_eq_true rfl) (by kernel_rfl) rfl ?_ ?_); (focus ((intro h; cases h; done))); clear hM; intro w hM)); (try simp only [Res.put, Res.known, Act.eval, Value.cells, getD_lit, qGz, qGs, List.toList_toArray, qSz, qSs, over, Nat.reduceAdd] at hM))); (try simp only [Act.put, qSa, qSz, qSs])) | (((refine St.alloc (ty := 60) (z := .agg #[.int .i64 0, .bool false, .int .i64 0, .string ⟨#[]⟩, .string ⟨#[]⟩, .int .i64 0, .int .i64 0, .int .i64 0, .string ⟨#[]⟩, .int .i64 0, .int .i64 0, .bool false, .int .i64 0]) rfl hM rfl rfl (by kernel_rfl) ?_); clear hM; intro w bk hM); (try simp only [Res.put, Res.known, Act.eval, Value.cells, getD_lit, qGz, qGs, List.toList_toArray, qSz, qSs, over, Nat.reduceAdd] at hM); (try simp only [Act.put, qSa, qSz, qSs]))) | (first | (refine wp_seq_shut (fun K hK => ?_)) | (refine wp_text hM (fun Kr hKr => ?_); simp only [inText]) | refine wp_block ?_ | refine wp_skip ?_ | (first | refine wp_cond_true rfl ?_ | refine wp_cond_false rfl ?_) | ((refine hK.out _ _ ?_); clear hK K))))
                    replace hM := hM.forget
                    (try simp only [Exit.then])
                    (refine ⟨?_, ?_⟩; (focus (repeat (first | exact ⟨⟨j + 1, X, β, γ, D', by omega, rfl, HI2.out.more (by omega), HDB, HKX.out, hbx, hM⟩, rfl⟩ | apply Exists.intro))); (simp only [getD_lit, qGz, qGs, intOf]; omega))
                  · have HD2 := Lib.hid (HBS.out rfl (.inr h14))
                    have q14 : (pk != 14) = true := bne_iff_ne.2 h14
                    clear h14
                    (repeat (first | ((with_reducible show wpSeq _ _ _ _ _ _ _); first | ((with_reducible refine wpSeq_nil ?_); refine hKr.out _ _ ?_; clear hKr Kr) | ((first | (refine St.copy (v := ?_) (by exact .inl rfl) rfl rfl ?_ ?_; rotate_left; (focus ((try simp only [Act.eval, getD_lit, qGz, qGs]); with_reducible rfl))) | (refine St.pure (v := ?_) rfl rfl rfl (fun w => ?_) ?_; rotate_left; (focus (go_simp; all_goals with_reducible rfl))) | refine St.load rfl hM rfl rfl rfl rfl (by repeat constructor) (by rfl) (by kernel_rfl) ?_ | ((refine St.loadRow rfl hM rfl rfl rfl rfl (by repeat constructor) (Nat.le_of_ble_eq_true rfl) (by kernel_rfl) ?_); (try simp only [Res.known, List.drop_succ_cons, List.drop_zero, List.take_succ_cons, List.take_zero])) | refine St.loadRowF rfl rfl rfl rfl rfl (hM.oldRow (by assumption)) (by kernel_rfl) ?_ | ((((refine St.storeRow rfl hM rfl rfl rfl rfl rfl (by repeat constructor) (Nat.le_of_ble_eq_true rfl) (Nat.le_of_ble_eq_true rfl) (by kernel_rfl) rfl ?_ ?_); (focus ((intro h; cases h; done))); clear hM; intro w hM)); (try simp only [Res.put, Res.known, Act.eval, Value.cells, getD_lit, qGz, qGs, List.toList_toArray, qSz, qSs, over, Nat.reduceAdd] at hM))); (try simp only [Act.put, qSa, qSz, qSs])) | (((refine St.alloc (ty := 60) (z := .agg #[.int .i64 0, .bool false, .int .i64 0, .string ⟨#[]⟩, .string ⟨#[]⟩, .int .i64 0, .int .i64 0, .int .i64 0, .string ⟨#[]⟩, .int .i64 0, .int .i64 0, .bool false, .int .i64 0]) rfl hM rfl rfl (by kernel_rfl) ?_); clear hM; intro w bk hM); (try simp only [Res.put, Res.known, Act.eval, Value.cells, getD_lit, qGz, qGs, List.toList_toArray, qSz, qSs, over, Nat.reduceAdd] at hM); (try simp only [Act.put, qSa, qSz, qSs]))) | (first | (refine wp_seq_shut (fun K hK => ?_)) | (refine wp_text hM (fun Kr hKr => ?_); simp only [inText]) | refine wp_block ?_ | refine wp_skip ?_ | (refine wp_cond_true rfl ?_) | ((refine hK.out _ _ ?_); clear hK K))))
                    ((refine St.call rfl rfl rfl (by kernel_rfl) (fun R hR => ?_); simp only [List.map_toArray, List.map_cons, List.map_nil, Act.eval, getD_lit, qGz, qGs]))
                    have C := CS.out _ β γ (hM.dsk (.skip (.past .all)) HKX.out HI2.out.inv HX.out F0)
                    rw [hbx] at C
                    refine C.mono ?_
                    rintro e w' ⟨s1, X2, β2, γ2, rfl, hs1, hb2, hk2, hN2⟩
                    obtain ⟨va, vc, hv, -⟩ := slV_open hs1
                    replace hM := hM.backM (.skip (.past .all)) (dskL_flag _ _ _ _) hN2 (fun y hy => (List.mem_append.1 hy).elim (txL_flag _ _ y) (dskL_flag _ _ _ _ y))
                    (refine hR.out _ _ (fun _ => ⟨hM.only, nofun⟩) ?_); clear hR R hN2 C CS
                    replace hM := hM.subM (((List.sublist_append_right _ _).append_left _).cons _)
                    rw [hbx] at hb2
                    have HK2 := Lib.hid hk2
                    clear hk2 hs1
                    simp only
                    rw [hv]
                    clear hv
                    (try simp only [Act.put, qSa, qSz, qSs])
                    (repeat (first | ((with_reducible show wpSeq _ _ _ _ _ _ _); first | ((with_reducible refine wpSeq_nil ?_); refine hKr.out _ _ ?_; clear hKr Kr) | ((first | (refine St.copy (v := ?_) (by first | exact .inl rfl | exact .inr rfl) rfl rfl ?_ ?_; rotate_left; (focus ((try simp only [Act.eval, getD_lit, qGz, qGs]); with_reducible rfl))) | refine St.inc rfl rfl rfl rfl rfl (by omega) ?_); (try simp only [Act.put, qSa, qSz, qSs]))) | (first | (refine wp_text hM (fun Kr hKr => ?_); simp only [inText]) | ((refine hK.out _ _ ?_); clear hK K))))
                    (try simp only [Exit.then])
                    (refine ⟨?_, ?_⟩; (focus (repeat (first | exact ⟨⟨j + 1, X2, β2, γ2, D2, by omega, rfl, IS.out.more (by omega), HD2, HK2.out, hb2, hM⟩, rfl⟩ | apply Exists.intro))); (simp only [getD_lit, qGz, qGs, intOf]; omega))
            · have k0 : ¬ ((j : Int) < (ys.length : Int)) := by omega
              obtain rfl : j = ys.length := by omega
              clear hlt hj
              have HI3 := Lib.hid (Ol.inv_cut HI2.out.inv (by omega) (min kp 0))
              have hfc : Fs.files (Ol.cut D' (min kp 0)).now = bf := by
                show Fs.files (Ol.cutFs D' (min kp 0)) = bf
                rw [Ol.cut_none HI2.out.inv HI2.out.law (by omega) (by omega), HDB.out]
                exact HBN.out
              have hoc : Fs.owners (Ol.cut D' (min kp 0)).now = [] := Ol.owners_cut HI2.out.inv HI2.out.good (by omega) (min kp 0)
              have HFC := Lib.hid hfc
              have HOD := Lib.hid hoc
              have CX := Lib.hid (fun (W : World) (X : DskX) (β γ : Int → Nat × Nat) (hA : DskAt (NN + 3 * ys.length) X β γ D' W) => dCut_whole hA (by omega) (min kp 0))
              clear hfc hoc
              generalize Ol.cut D' (min kp 0) = D3 at *
              (repeat (first | ((with_reducible show wpSeq _ _ _ _ _ _ _); first | ((with_reducible refine wpSeq_nil ?_); refine hKr.out _ _ ?_; clear hKr Kr) | ((first | (refine St.copy (v := ?_) (by exact .inl rfl) rfl rfl ?_ ?_; rotate_left; (focus ((try simp only [Act.eval, getD_lit, qGz, qGs]); with_reducible rfl))) | (refine St.pure (v := ?_) rfl rfl rfl (fun w => ?_) ?_; rotate_left; (focus (go_simp; all_goals with_reducible rfl)))); (try simp only [Act.put, qSa, qSz, qSs]))) | (first | (refine wp_seq_shut (fun K hK => ?_)) | (refine wp_text hM (fun Kr hKr => ?_); simp only [inText]) | (refine wp_cond_false rfl ?_) | (refine wp_exit ?_; simp only [Exit.then, Exit.inBlock, if_true, if_false, reduceCtorEq, Nat.reduceEqDiff, Nat.succ_ne_zero]) | ((first | refine hK.out _ _ ?_ | (clear hK K; refine hK.out _ _ ?_)); clear hK K))))
              ((refine St.call rfl rfl rfl (by kernel_rfl) (fun R hR => ?_); simp only [List.map_toArray, List.map_cons, List.map_nil, Act.eval, getD_lit, qGz, qGs]))
              have C := CX.out _ X β γ (hM.dsk (.past .all) HKX.out HI2.out.inv HX.out F0)
              rw [hbx] at C
              refine C.mono ?_
              rintro e w' ⟨rfl, X3, β3, γ3, hb3, hk3, hN⟩
              replace hM := hM.backM (.past .all) (dskL_flag _ _ _ _) hN (dskL_flag _ _ _ _)
              (refine hR.out _ _ (fun _ => ⟨hM.only, nofun⟩) ?_); clear hR R hN C CX
              rw [hbx] at hb3
              (try simp only [Act.put, qSa, qSz, qSs])
              (repeat (first | ((with_reducible show wpSeq _ _ _ _ _ _ _); first | ((with_reducible refine wpSeq_nil ?_); refine hKr.out _ _ ?_; clear hKr Kr) | (((refine St.copy (v := ?_) (by exact .inl rfl) rfl rfl ?_ ?_; rotate_left; (focus ((try simp only [Act.eval, getD_lit, qGz, qGs]); with_reducible rfl)))); (try simp only [Act.put, qSa, qSz, qSs]))) | (first | (refine wp_seq_shut (fun K hK => ?_)) | (refine wp_text hM (fun Kr hKr => ?_); simp only [inText]) | ((refine hK.out _ _ ?_); clear hK K))))
              ((refine St.call rfl rfl rfl (by kernel_rfl) (fun R hR => ?_); simp only [List.map_toArray, List.map_cons, List.map_nil, Act.eval, getD_lit, qGz, qGs]))
              have hD := hM.dsk (.past .all) hk3 HI3.out HX.out F0
              have C := dFiles_any hD.row hD.now HI3.out.now.up (by omega)
              rw [hb3, HFC.out] at C
              refine C.mono ?_
              rintro e w' ⟨sg, rfl, hkg, hN⟩
              replace hM := hM.madeM hN (slL_flag _ _ _ _)
              (refine hR.out _ _ (fun _ => ⟨hM.only, nofun⟩) ?_); clear hR R C hN hD
              obtain ⟨ag, cg, hvg, -⟩ := slV_open hkg
              rw [hvg]
              (try simp only [Act.put, qSa, qSz, qSs])
              (repeat (((with_reducible show wpSeq _ _ _ _ _ _ _); (((refine St.copy (v := ?_) (by exact .inl rfl) rfl rfl ?_ ?_; rotate_left; (focus ((try simp only [Act.eval, getD_lit, qGz, qGs]); with_reducible rfl)))); (try simp only [Act.put, qSa, qSz, qSs])))))
              ((refine St.call rfl rfl rfl (by kernel_rfl) (fun R hR => ?_); simp only [List.map_toArray, List.map_cons, List.map_nil, Act.eval, getD_lit, qGz, qGs]))
              rw [← hvg, ← hvb]
              refine (sameF_any hkg HKB.out (by omega) (hM.part .here) (hM.part (.past .here))).mono ?_
              rintro e w' ⟨rfl, hb⟩; replace hM := hM.below hb; (refine hR.out _ _ (fun _ => ⟨hM.only, nofun⟩) ?_); clear hR R hb
              replace hM := hM.subM (List.sublist_append_right _ _)
              clear hkg hvg
              (try simp only [Act.put, qSa, qSz, qSs])
              (repeat (((with_reducible show wpSeq _ _ _ _ _ _ _); (((refine St.copy (v := ?_) (by exact .inl rfl) rfl rfl ?_ ?_; rotate_left; (focus ((try simp only [Act.eval, getD_lit, qGz, qGs]); with_reducible rfl)))); (try simp only [Act.put, qSa, qSz, qSs])))))
              ((refine St.call rfl rfl rfl (by kernel_rfl) (fun R hR => ?_); simp only [List.map_toArray, List.map_cons, List.map_nil, Act.eval, getD_lit, qGz, qGs]))
              have hD := hM.dsk (.past .all) hk3 HI3.out HX.out F0
              have C := dOwners_any hD.row hD.now (by omega)
              rw [hb3, HOD.out] at C
              refine C.mono ?_
              rintro e w' ⟨so, rfl, hko, hN⟩
              replace hM := hM.below hN.to_below
              (refine hR.out _ _ (fun _ => ⟨hM.only, nofun⟩) ?_); clear hR R C hN hD
              obtain ⟨ao, co, hvo, -⟩ := slV_open hko
              rw [hvo]
              simp only [List.length_nil]
              (try simp only [Act.put, qSa, qSz, qSs])
              (repeat (((with_reducible show wpSeq _ _ _ _ _ _ _); ((first | (refine St.copy (v := ?_) (by exact .inl rfl) rfl rfl ?_ ?_; rotate_left; (focus ((try simp only [Act.eval, getD_lit, qGz, qGs]); with_reducible rfl))) | (refine St.pure (v := ?_) rfl rfl rfl (fun w => ?_) ?_; rotate_left; (focus (go_simp; all_goals with_reducible rfl)))); (try simp only [Act.put, qSa, qSz, qSs])))))
              ((refine St.call rfl rfl rfl (by kernel_rfl) (fun R hR => ?_); simp only [List.map_toArray, List.map_cons, List.map_nil, Act.eval, getD_lit, qGz, qGs]))
              refine (awake10_any _ (hM.mx HX.out F0)).mono ?_
              rintro e w' ⟨rfl, hb⟩; replace hM := hM.below hb; (refine hR.out _ _ (fun _ => ⟨hM.only, nofun⟩) ?_); clear hR R hb; (try simp only [Act.put, qSa, qSz, qSs])
              (repeat (first | ((with_reducible show wpSeq _ _ _ _ _ _ _); first | ((with_reducible refine wpSeq_nil ?_); refine hKr.out _ _ ?_; clear hKr Kr) | ((first | (refine St.copy (v := ?_) (by exact .inr rfl) rfl rfl ?_ ?_; rotate_left; (focus ((try simp only [Act.eval, getD_lit, qGz, qGs]); with_reducible rfl))) | (refine St.pure (v := ?_) rfl rfl rfl (fun w => ?_) ?_; rotate_left; (focus (go_simp; all_goals with_reducible rfl)))); (try simp only [Act.put, qSa, qSz, qSs]))) | (((refine hK.out _ _ ?_); clear hK K))))
              ((refine wp_ret ?_; (try simp only [Exit.then, Exit.inBlock]); refine St.ret hM rfl (by repeat (first | exact Outs.nil | apply Outs.tmp rfl)) rfl ?_))
              exact ⟨rfl, hM.to_below⟩
end Go.Proofs.YtcicjklhbnipcaaGreatDoor
