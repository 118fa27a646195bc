/-
  Layer 9: a file system in memory, as a chunk; what it hands a callee. New, given, free, walk, at: walked.
-/
import Derived.Test.YtcicjklhbnipcaaGreatDoorFsP
import Derived.Test.YtcicjklhbnipcaaGreatDoorTbl
namespace Go.Proofs.YtcicjklhbnipcaaGreatDoor
set_option linter.unusedVariables false
set_option linter.unusedSimpArgs false
open Go.RowKit Go.Maps

/-- Where a file system lies, but for its inodes. -/
structure FsX where
  f : Nat
  hb : Nat
  g : Nat
  mb : Nat
def fsL (x : FsX) (β : Int → Nat × Nat) (d : FsD) : List Ent := (x.f, true, .cells [.pointer (some ⟨x.g, 0, none⟩), .map (some x.hb)] 44) :: (x.hb, true, mapR Tryz.prog 3 (handL d.h)) :: tblL x.g x.mb β d.t
theorem fsL_flag (x : FsX) (β : Int → Nat × Nat) (d : FsD) : flagged (fsL x β d) := fun y hy => by
  unfold fsL at hy
  rcases List.mem_cons.1 hy with rfl | hy
  · rfl
  rcases List.mem_cons.1 hy with rfl | hy
  · rfl
  exact tblL_flag y hy
/-- A file system that is right stands here. -/
structure FsAt (N : Nat) (x : FsX) (β : Int → Nat × Nat) (d : FsD) (w : World) : Prop where
  at_ : At (fsL x β d) w
  inv : Fs.Inv N d
  mx : Mx w
  zero : 0 ∉ keysOf (fsL x β d)
section
variable {N : Nat} {x : FsX} {β : Int → Nat × Nat} {d : FsD} {w w' w0 : World} {F : List Nat} {L L' M' : List Ent}
theorem FsAt.below (h : FsAt N x β d w) (hb : Below w.heap.size w w') : FsAt N x β d w' := ⟨h.at_.below hb, h.inv, h.mx.below hb, h.zero⟩
theorem FsAt.tbl (h : FsAt N x β d w) : TblAt w x.g x.mb β d.t := by
  refine At.tbl ⟨fun y hy => h.at_.has y (by unfold fsL; exact .tail _ (.tail _ hy)), ?_⟩
  have := h.at_.nd
  unfold fsL keysOf at this
  simp only [List.map_cons, List.nodup_cons] at this
  exact this.2.2
/-- The file system that a state holds. -/
theorem St.fs (hM : St w0 F w L) (hs : Part L (fsL x β d)) (hI : Fs.Inv N d) (hm : Mx w0) (h0 : 0 ∉ F) : FsAt N x β d w := by
  refine ⟨hM.part hs, hI, hM.mx hm h0, fun h => ?_⟩
  obtain ⟨y, hy, e⟩ := List.mem_map.1 h
  obtain ⟨A, B, rfl⟩ := hs.split
  rcases hM.own y (by simp [hy]) (fsL_flag x β d y hy) with h1 | h1
  · rw [e] at h1; exact h0 h1
  · have := hm.pos
    omega
theorem zero_cell (w : World) : (zeroValue 117).run Tryz.prog w = .ok (rowV Fs.z9) w := by kernel_rfl
set_option maxHeartbeats 4000000 in
set_option maxRecDepth 100000 in
theorem fgiven_any (h : FsAt N x β d w) : Calls Tryz.prog 61 #[.pointer (some ⟨x.f, 0, none⟩)] w fun e w' => e = .returned (.bool true) ∧ w = w' := by
  have hM := h.at_.ro
  unfold fsL at hM
  simp only [List.map_cons, unflag] at hM
  clear h
  go_enter Tryz.func61, Tryz.ntmps61
  (repeat (first | ((with_reducible show wpSeq _ _ _ _ _ _ _); first | ((with_reducible refine wpSeq_nil ?_); refine hKr.out _ _ ?_; clear hKr Kr) | ((first | (refine St.copy (v := ?_) (by first | exact .inl rfl | exact .inr rfl) rfl rfl ?_ ?_; rotate_left; (focus ((try simp only [Act.eval, getD_lit, List.getD_cons_zero, List.getD_cons_succ]); with_reducible rfl))) | (refine St.pure (v := ?_) rfl rfl rfl (fun w => ?_) ?_; rotate_left; (focus (go_simp; all_goals with_reducible rfl))) | refine St.load rfl hM rfl rfl rfl rfl (by repeat constructor) (by rfl) (by kernel_rfl) ?_); (try simp only [Act.put, List.setIfInBounds_toArray, List.set_cons_zero, List.set_cons_succ]))) | (first | (refine wp_seq_shut (fun K hK => ?_)) | (refine wp_text hM (fun Kr hKr => ?_); simp only [inText]) | ((refine hK.out _ _ ?_); clear hK K))))
  (refine wp_ret ?_; (try simp only [Exit.then, Exit.inBlock]); refine St.ret hM rfl (by repeat (first | exact Outs.nil | apply Outs.tmp rfl)) rfl ?_)
  exact ⟨rfl, rfl⟩
theorem Pt.split_small (p : ByteArray) : (Pt.split p).1.size ≤ p.size ∧ (Pt.split p).2.size ≤ p.size := by
  unfold Pt.split
  split
  · exact ⟨Nat.zero_le _, Nat.le_refl _⟩
  · simp only [ByteArray.size_extract]
    omega
theorem row9 {l : List Int} (h : l.length = 9) : ∃ a0 a1 a2 a3 a4 a5 a6 a7 a8, l = [a0, a1, a2, a3, a4, a5, a6, a7, a8] := by
  match l, h with
  | [a0, a1, a2, a3, a4, a5, a6, a7, a8], _ => exact ⟨a0, a1, a2, a3, a4, a5, a6, a7, a8, rfl⟩
set_option maxHeartbeats 4000000 in
set_option maxRecDepth 100000 in
theorem free_any (h : FsAt N x β d w) {o : Int} (ho : Fits o) : Calls Tryz.prog 104 #[.pointer (some ⟨x.f, 0, none⟩), .int .i64 o] w fun e w' => e = .returned (.int .i64 (Fs.free d o)) ∧ Below w.heap.size w w' := by
  have hM := h.at_.ro
  unfold fsL at hM
  simp only [List.map_cons, unflag] at hM
  have hi := Fs.idx_lt h.inv o
  have hfr : ((Fs.free d o : Nat) : Int) = 1 + Lib.idxOf ((Fs.hOf d.h o).drop 1) 0 := by unfold Fs.free; omega
  rw [hfr]
  obtain ⟨a0, a1, a2, a3, a4, a5, a6, a7, a8, hl⟩ := row9 (Fs.hOf_row h.inv o).1
  have hrow : rowV (Fs.hOf d.h o) = .agg #[.int .i64 a0, .int .i64 a1, .int .i64 a2, .int .i64 a3, .int .i64 a4, .int .i64 a5, .int .i64 a6, .int .i64 a7, .int .i64 a8] := by rw [hl]; rfl
  rw [hl] at hi ⊢
  simp only [List.drop_succ_cons, List.drop_zero] at hi ⊢
  clear h hfr hl
  have C := Lib.hid (fun b W hc => Tryz.slices_Index_int b 1 8 8 [a1, a2, a3, a4, a5, a6, a7, a8] 0 W (Nat.le_refl _) (by decide) hc)
  rw [show ([a1, a2, a3, a4, a5, a6, a7, a8] : List Int).take 8 = [a1, a2, a3, a4, a5, a6, a7, a8] from rfl] at C
  generalize hI : Lib.idxOf [a1, a2, a3, a4, a5, a6, a7, a8] 0 = r at *
  clear hI
  have hw : IntKind.i64.wrap (1 + r) = 1 + r := wrap_in _ (by omega)
  have hmx : max 0 (1 + r) = 1 + r := by omega
  go_enter Tryz.func104, Tryz.ntmps104
  (repeat (first | ((with_reducible show wpSeq _ _ _ _ _ _ _); first | ((with_reducible refine wpSeq_nil ?_); refine hKr.out _ _ ?_; clear hKr Kr) | ((first | (refine St.copy (v := ?_) (by first | exact .inl rfl | exact .inr rfl) rfl rfl ?_ ?_; rotate_left; (focus ((try simp only [Act.eval, getD_lit, List.getD_cons_zero, List.getD_cons_succ]); with_reducible rfl))) | (refine St.pure (v := ?_) rfl rfl rfl (fun w => ?_) ?_; rotate_left; (focus (go_simp; all_goals with_reducible rfl))) | refine St.load rfl hM rfl rfl rfl rfl (by repeat constructor) (by rfl) (by kernel_rfl) ?_); (try simp only [Act.put, List.setIfInBounds_toArray, List.set_cons_zero, List.set_cons_succ]))) | (first | (refine wp_seq_shut (fun K hK => ?_)) | (refine wp_text hM (fun Kr hKr => ?_); simp only [inText]) | ((refine hK.out _ _ ?_); clear hK K))))
  ((refine St.lookup rfl hM rfl rfl rfl rfl (by repeat constructor) key_int Tryz.underlying42 zero_cell (keyOf_int_mk Tryz.underlying3 (by assumption)) ((look_hand _ _).trans (by assumption)) ?_); (try simp only [Act.put, List.setIfInBounds_toArray, List.set_cons_zero, List.set_cons_succ]))
  (repeat (first | ((with_reducible show wpSeq _ _ _ _ _ _ _); first | ((with_reducible refine wpSeq_nil ?_); refine hKr.out _ _ ?_; clear hKr Kr) | ((first | (refine St.pure (v := ?_) rfl rfl rfl (fun w => ?_) ?_; rotate_left; (focus (go_simp; all_goals with_reducible rfl))) | ((((refine St.storeRow rfl hM rfl rfl rfl rfl rfl (by repeat constructor) (Nat.le_of_ble_eq_true rfl) (Nat.le_of_ble_eq_true rfl) (by kernel_rfl) rfl ?_ ?_); (focus ((intro h; cases h; done))); clear hM; intro w hM)); (try simp only [Res.put, Res.known, Act.eval, Value.cells, getD_lit, List.getD_cons_zero, List.getD_cons_succ, List.toList_toArray, List.set_cons_zero, List.set_cons_succ, over, Nat.reduceAdd] at hM))); (try simp only [Act.put, List.setIfInBounds_toArray, List.set_cons_zero, List.set_cons_succ])) | (((refine St.alloc (ty := 117) (z := .agg #[.int .i64 0, .int .i64 0, .int .i64 0, .int .i64 0, .int .i64 0, .int .i64 0, .int .i64 0, .int .i64 0, .int .i64 0]) rfl hM rfl rfl (by kernel_rfl) ?_); clear hM; intro w bk hM); (try simp only [Res.put, Res.known, Act.eval, Value.cells, getD_lit, List.getD_cons_zero, List.getD_cons_succ, List.toList_toArray, List.set_cons_zero, List.set_cons_succ, over, Nat.reduceAdd] at hM); (try simp only [Act.put, List.setIfInBounds_toArray, List.set_cons_zero, List.set_cons_succ]))) | (first | (refine wp_seq_shut (fun K hK => ?_)) | (refine wp_text hM (fun Kr hKr => ?_); simp only [inText]) | ((refine hK.out _ _ ?_); clear hK K))))
  (refine St.call rfl rfl rfl (by kernel_rfl) (fun R hR => ?_); simp only [List.map_toArray, List.map_cons, List.map_nil, Act.eval, getD_lit, List.getD_cons_zero, List.getD_cons_succ])
  refine (C.out bk _ (fun j hj => Res.cell (hM.holds _ (.head _)) (by
    have : j = 0 ∨ j = 1 ∨ j = 2 ∨ j = 3 ∨ j = 4 ∨ j = 5 ∨ j = 6 ∨ j = 7 := by simp only [List.length_cons, List.length_nil] at hj; omega
    rcases this with rfl | rfl | rfl | rfl | rfl | rfl | rfl | rfl <;> rfl))).mono ?_
  (rintro e w' ⟨rfl, rfl⟩; refine hR.out _ _ (fun h => h) ?_; clear hR R; (try simp only [Act.put, List.setIfInBounds_toArray, List.set_cons_zero, List.set_cons_succ]))
  (repeat (first | ((with_reducible show wpSeq _ _ _ _ _ _ _); first | ((with_reducible refine wpSeq_nil ?_); refine hKr.out _ _ ?_; clear hKr Kr) | ((first | (refine St.copy (v := ?_) (by exact .inr rfl) rfl rfl ?_ ?_; rotate_left; (focus ((try simp only [Act.eval, getD_lit, List.getD_cons_zero, List.getD_cons_succ]); with_reducible rfl))) | (refine St.pure (v := ?_) rfl rfl rfl (fun w => ?_) ?_; rotate_left; (focus (go_simp; all_goals with_reducible rfl)))); (try simp only [Act.put, List.setIfInBounds_toArray, List.set_cons_zero, List.set_cons_succ]))) | (((refine hK.out _ _ ?_); clear hK K))))
  (refine wp_ret ?_; (try simp only [Exit.then, Exit.inBlock]); refine St.ret hM rfl (by repeat (first | exact Outs.nil | apply Outs.tmp rfl)) rfl ?_)
  exact ⟨rfl, hM.to_below⟩
theorem find_pos {M : Nat} {t : TabD} (I : In.Inv M t) {id : Int} {s : ByteArray} (h : In.findE t id s = 0) : 1 ≤ In.findN t id s ∧ In.findN t id s ≤ M := by
  obtain ⟨e, h1, h2, h3, h4⟩ := In.findE_ok h
  obtain ⟨p, hp, h5⟩ := leads_mem h3
  obtain ⟨n, hn⟩ := I.leads e (find_mem h1).1 p hp
  obtain ⟨hm, hi⟩ := find_mem hn
  have h6 := I.pos n hm
  have h7 := I.last
  rw [h4, ← h5, ← hi]
  omega
theorem walkL_pos {M : Nat} {t : TabD} (I : In.Inv M t) : ∀ (l : List ByteArray) (id : Int), 0 ≤ id ∧ id ≤ M → 0 ≤ (Fs.walkL t id l).1 ∧ (Fs.walkL t id l).1 ≤ M
  | [], id, h => h
  | s :: r, id, h => by
    unfold Fs.walkL
    split
    · rename_i h0
      have := find_pos I h0
      exact walkL_pos I r _ (by omega)
    · show (0 : Int) ≤ 0 ∧ (0 : Int) ≤ M
      omega
set_option maxHeartbeats 4000000 in
set_option maxRecDepth 100000 in
theorem walk_any (h : FsAt N x β d w) (hN : N ≤ 1000000000) (p : ByteArray) (hp : p.size ≤ 1000000) : Calls Tryz.prog 112 #[.pointer (some ⟨x.f, 0, none⟩), .string p] w fun e w' => e = .returned (.tuple #[.int .i64 (Fs.walk d p).1, .int .i64 (Fs.walk d p).2]) ∧ Below w.heap.size w w' := by
  have hM := h.at_.ro
  unfold fsL at hM
  simp only [List.map_cons, unflag] at hM
  have HF := Lib.hid h
  have CP := Lib.hid (Parts_any p w hp h.mx)
  have hsm := Pt.parts_small p
  have hlen : (Pt.parts p).length ≤ 1000001 := Pt.parts_len p hp
  obtain ⟨R0, hR0⟩ : ∃ R0, Fs.walk d p = R0 := ⟨_, rfl⟩
  rw [hR0]
  unfold Fs.walk at hR0
  generalize Pt.parts p = ps at *
  have HS := Lib.hid hsm
  have HR := Lib.hid hR0
  clear hsm hR0 h
  go_enter Tryz.func112, Tryz.ntmps112
  (repeat (first | ((with_reducible show wpSeq _ _ _ _ _ _ _); first | ((with_reducible refine wpSeq_nil ?_); refine hKr.out _ _ ?_; clear hKr Kr) | (((refine St.copy (v := ?_) (by first | exact .inl rfl | exact .inr rfl) rfl rfl ?_ ?_; rotate_left; (focus ((try simp only [Act.eval, getD_lit, List.getD_cons_zero, List.getD_cons_succ]); with_reducible rfl)))); (try simp only [Act.put, List.setIfInBounds_toArray, List.set_cons_zero, List.set_cons_succ]))) | (first | (refine wp_seq_shut (fun K hK => ?_)) | (refine wp_text hM (fun Kr hKr => ?_); simp only [inText]) | ((refine hK.out _ _ ?_); clear hK K))))
  (refine St.call rfl rfl rfl (by kernel_rfl) (fun R hR => ?_); simp only [List.map_toArray, List.map_cons, List.map_nil, Act.eval, getD_lit, List.getD_cons_zero, List.getD_cons_succ])
  refine CP.out.mono ?_
  rintro e w' ⟨s, rfl, hk, hN⟩
  refine hR.out _ _ (fun h => h.below hN.to_below) ?_; clear hR R; replace hM := hM.madeM hN (txL_flag _ _); clear hN CP
  obtain ⟨sa, sc, hsv, hsa⟩ := slV_open hk
  rw [hsv]
  have HK := Lib.hid hk
  clear hk hsv
  (try simp only [Act.put, List.setIfInBounds_toArray, List.set_cons_zero, List.set_cons_succ])
  (repeat (first | ((with_reducible show wpSeq _ _ _ _ _ _ _); first | ((with_reducible refine wpSeq_nil ?_); refine hKr.out _ _ ?_; clear hKr Kr) | ((first | (refine St.copy (v := ?_) (by exact .inl rfl) rfl rfl ?_ ?_; rotate_left; (focus ((try simp only [Act.eval, getD_lit, List.getD_cons_zero, List.getD_cons_succ]); with_reducible rfl))) | (refine St.pure (v := ?_) rfl rfl rfl (fun w => ?_) ?_; rotate_left; (focus (go_simp; all_goals with_reducible rfl)))); (try simp only [Act.put, List.setIfInBounds_toArray, List.set_cons_zero, List.set_cons_succ]))) | (first | refine wp_block ?_ | ((refine hK.out _ _ ?_); clear hK K))))
  go_loopw [6, 14] (fun v i wr => ∃ (k : Nat) (id : Int), k ≤ ps.length ∧ i = .int .i64 k ∧ v = .int .i64 id ∧ (0 ≤ id ∧ id ≤ N) ∧ Fs.walkL d.t id (ps.drop k) = R0 ∧ St w [] wr (txL s ps ++ ((x.f, false, Res.cells [.pointer (some ⟨x.g, 0, none⟩), .map (some x.hb)] 44) :: (x.hb, false, mapR Tryz.prog 3 (handL d.h)) :: List.map unflag (tblL x.g x.mb β d.t)))) (fun _ i _ => ps.length - (intOf i).toNat)
  case atStart => exact ⟨0, 1, by omega, rfl, rfl, ⟨by decide, by have := HF.out.inv.tbl.last; omega⟩, by rw [List.drop_zero]; exact HR.out, hM⟩
  case round =>
    clear hM
    obtain ⟨k, id, hk, rfl, rfl, hid, hwl, hM⟩ := hrel
    have HW := Lib.hid hwl
    have HID := Lib.hid hid
    clear hwl hid
    by_cases hlt : k < ps.length
    · obtain ⟨y, hy⟩ := get_at hlt
      cases s with
      | none => exact absurd HK.out.2 (by omega)
      | some gc =>
      obtain ⟨g, cap⟩ := gc
      obtain ⟨rfl, rfl⟩ := hsa g cap rfl
      have hy' : (ps.map Value.string)[k]? = some (.string y) := by rw [List.getElem?_map, hy]; rfl
      have k1 : (k : Int) < (ps.length : Int) := by omega
      have hys : y.size ≤ maxLen := Nat.le_trans (HS.out y (List.mem_of_getElem? hy)) (by unfold maxLen; omega)
      have C := Lib.hid (fun (W : World) (hb : Below w.heap.size w W) => Find_any (HF.out.below hb).tbl (fit_inv HF.out.inv.tbl hN).q0 (dir := id) (fits_of (by have := HID.out; omega) (by have := HID.out; omega)) hys)
      have hw' := HW.out
      rw [Pt.drop_at hy] at hw'
      unfold Fs.walkL at hw'
      have HW' := Lib.hid hw'
      clear hw' hy hlt hys
      simp only [slL, List.singleton_append, List.cons_append, List.nil_append] at hM
      by_cases h0 : In.findE d.t id y = 0
      · have hp := find_pos HF.out.inv.tbl h0
        have HP := Lib.hid hp
        have e := HW'.out
        rw [if_pos h0] at e
        have HE := Lib.hid e
        rw [h0] at C
        clear hp h0 e
        generalize In.findN d.t id y = id2 at *
        (repeat (first | (first | ((with_reducible show wpSeq _ _ _ _ _ _ _); first | ((with_reducible refine wpSeq_nil ?_); refine hKr.out _ _ ?_; clear hKr Kr) | ((first | (refine St.copy (v := ?_) (by first | exact .inl rfl | exact .inr rfl) rfl rfl ?_ ?_; rotate_left; (focus ((try simp only [Act.eval, getD_lit, List.getD_cons_zero, List.getD_cons_succ]); with_reducible rfl))) | refine St.inc rfl rfl rfl rfl rfl (by omega) ?_ | (refine St.pure (v := ?_) rfl rfl rfl (fun w => ?_) ?_; rotate_left; (focus (go_simp; all_goals with_reducible rfl))) | refine St.load rfl hM rfl rfl rfl rfl (by repeat constructor) (by first | rfl | assumption) (by kernel_rfl) ?_); (try simp only [Act.put, List.setIfInBounds_toArray, List.set_cons_zero, List.set_cons_succ]))) | (first | (refine wp_seq_shut (fun K hK => ?_)) | (refine wp_text hM (fun Kr hKr => ?_); simp only [inText]) | refine wp_block ?_ | refine wp_skip ?_ | (first | refine wp_cond_true rfl ?_ | refine wp_cond_false rfl ?_) | ((refine hK.out _ _ ?_); clear hK K))) | ((refine St.call rfl rfl rfl (by kernel_rfl) (fun R hR => ?_); simp only [List.map_toArray, List.map_cons, List.map_nil, Act.eval, getD_lit, List.getD_cons_zero, List.getD_cons_succ]); ((with_reducible refine (C.out _ hM.to_below).mono ?_); (rintro e w' ⟨rfl, hb⟩; refine hR.out _ _ (fun h => h.below hb) ?_; clear hR R; replace hM := hM.below hb; clear hb; (try simp only [Act.put, List.setIfInBounds_toArray, List.set_cons_zero, List.set_cons_succ]))))))
        (refine ⟨?_, ?_⟩; (focus (repeat (first | exact ⟨⟨k + 1, id2, by omega, rfl, rfl, ⟨by have := HP.out; omega, HP.out.2⟩, HE.out, hM⟩, rfl⟩ | apply Exists.intro))); (simp only [getD_lit, List.getD_cons_zero, List.getD_cons_succ, intOf]; omega))
      · have e := HW'.out
        rw [if_neg h0] at e
        have q0 := bne0_true h0
        subst e
        clear h0 HW' HW HR
        generalize In.findE d.t id y = E at *
        generalize In.findN d.t id y = id2 at *
        (repeat (first | (first | ((with_reducible show wpSeq _ _ _ _ _ _ _); first | ((with_reducible refine wpSeq_nil ?_); refine hKr.out _ _ ?_; clear hKr Kr) | ((first | (refine St.copy (v := ?_) (by first | exact .inl rfl | exact .inr rfl) rfl rfl ?_ ?_; rotate_left; (focus ((try simp only [Act.eval, getD_lit, List.getD_cons_zero, List.getD_cons_succ]); with_reducible rfl))) | (refine St.pure (v := ?_) rfl rfl rfl (fun w => ?_) ?_; rotate_left; (focus (go_simp; all_goals with_reducible rfl))) | refine St.load rfl hM rfl rfl rfl rfl (by repeat constructor) (by first | rfl | assumption) (by kernel_rfl) ?_); (try simp only [Act.put, List.setIfInBounds_toArray, List.set_cons_zero, List.set_cons_succ]))) | (first | (refine wp_seq_shut (fun K hK => ?_)) | (refine wp_text hM (fun Kr hKr => ?_); simp only [inText]) | refine wp_block ?_ | refine wp_skip ?_ | (refine wp_cond_true rfl ?_) | ((refine hK.out _ _ ?_); clear hK K))) | ((refine St.call rfl rfl rfl (by kernel_rfl) (fun R hR => ?_); simp only [List.map_toArray, List.map_cons, List.map_nil, Act.eval, getD_lit, List.getD_cons_zero, List.getD_cons_succ]); ((with_reducible refine (C.out _ hM.to_below).mono ?_); (rintro e w' ⟨rfl, hb⟩; refine hR.out _ _ (fun h => h.below hb) ?_; clear hR R; replace hM := hM.below hb; clear hb; (try simp only [Act.put, List.setIfInBounds_toArray, List.set_cons_zero, List.set_cons_succ]))))))
        (refine wp_ret ?_; (try simp only [Exit.then, Exit.inBlock]); refine St.ret hM rfl (by repeat (first | exact Outs.nil | apply Outs.tmp rfl)) rfl ?_)
        exact ⟨rfl, hM.to_below⟩
    · have k0 : ¬ ((k : Int) < (ps.length : Int)) := by omega
      obtain rfl : k = ps.length := by omega
      have e := HW.out
      rw [List.drop_length] at e
      subst e
      clear hlt hk HW HR
      (repeat (first | ((with_reducible show wpSeq _ _ _ _ _ _ _); first | ((with_reducible refine wpSeq_nil ?_); refine hKr.out _ _ ?_; clear hKr Kr) | ((first | (refine St.copy (v := ?_) (by first | exact .inl rfl | exact .inr rfl) rfl rfl ?_ ?_; rotate_left; (focus ((try simp only [Act.eval, getD_lit, List.getD_cons_zero, List.getD_cons_succ]); with_reducible rfl))) | (refine St.pure (v := ?_) rfl rfl rfl (fun w => ?_) ?_; rotate_left; (focus (go_simp; all_goals with_reducible rfl)))); (try simp only [Act.put, List.setIfInBounds_toArray, List.set_cons_zero, List.set_cons_succ]))) | (first | (refine wp_seq_shut (fun K hK => ?_)) | (refine wp_text hM (fun Kr hKr => ?_); simp only [inText]) | (refine wp_cond_false rfl ?_) | (refine wp_exit ?_; simp only [Exit.then, Exit.inBlock, if_true, if_false, reduceCtorEq, Nat.reduceEqDiff, Nat.succ_ne_zero]) | ((first | refine hK.out _ _ ?_ | (clear hK K; refine hK.out _ _ ?_)); clear hK K))))
      (refine wp_ret ?_; (try simp only [Exit.then, Exit.inBlock]); refine St.ret hM rfl (by repeat (first | exact Outs.nil | apply Outs.tmp rfl)) rfl ?_)
      exact ⟨rfl, hM.to_below⟩
set_option maxHeartbeats 4000000 in
set_option maxRecDepth 100000 in
theorem fat_any (h : FsAt N x β d w) (hN : N ≤ 1000000000) (p : ByteArray) (hp : p.size ≤ 1000000) : Calls Tryz.prog 105 #[.pointer (some ⟨x.f, 0, none⟩), .string p] w fun e w' => e = .returned (.tuple #[.agg #[.int .i64 (Fs.at_ d p).1.1, .string (Fs.at_ d p).1.2], .int .i64 (Fs.at_ d p).2]) ∧ Below w.heap.size w w' := by
  have hM := h.at_.ro
  unfold fsL at hM
  simp only [List.map_cons, unflag] at hM
  have CS := Lib.hid (fun W : World => Split_any p W hp)
  have CW := Lib.hid (fun (W : World) (hb : Below w.heap.size w W) => walk_any (h.below hb) hN (Pt.split p).1 (Nat.le_trans (Pt.split_small p).1 hp))
  unfold Fs.at_
  generalize Fs.walk d (Pt.split p).1 = r at *
  generalize Pt.split p = q at *
  obtain ⟨q1, q2⟩ := q
  obtain ⟨r1, r2⟩ := r
  simp only at CS CW ⊢
  clear h hp
  go_enter Tryz.func105, Tryz.ntmps105
  (repeat (first | (first | ((with_reducible show wpSeq _ _ _ _ _ _ _); first | ((with_reducible refine wpSeq_nil ?_); refine hKr.out _ _ ?_; clear hKr Kr) | ((first | (refine St.copy (v := ?_) (by first | exact .inl rfl | exact .inr rfl) rfl rfl ?_ ?_; rotate_left; (focus ((try simp only [Act.eval, getD_lit, List.getD_cons_zero, List.getD_cons_succ]); with_reducible rfl))) | (refine St.pure (v := ?_) rfl rfl rfl (fun w => ?_) ?_; rotate_left; (focus (go_simp; all_goals with_reducible rfl))) | ((((refine St.storeRow rfl hM rfl rfl rfl rfl rfl (by repeat constructor) (Nat.le_of_ble_eq_true rfl) (Nat.le_of_ble_eq_true rfl) (by kernel_rfl) rfl ?_ ?_); (focus ((intro h; cases h; done))); clear hM; intro w hM)); (try simp only [Res.put, Res.known, Act.eval, Value.cells, getD_lit, List.getD_cons_zero, List.getD_cons_succ, List.toList_toArray, List.set_cons_zero, List.set_cons_succ, over, Nat.reduceAdd] at hM))); (try simp only [Act.put, List.setIfInBounds_toArray, List.set_cons_zero, List.set_cons_succ])) | (((refine St.alloc (ty := 170) (z := .agg #[.int .i64 0, .string ⟨#[]⟩]) rfl hM rfl rfl (by kernel_rfl) ?_); clear hM; intro w bk hM); (try simp only [Res.put, Res.known, Act.eval, Value.cells, getD_lit, List.getD_cons_zero, List.getD_cons_succ, List.toList_toArray, List.set_cons_zero, List.set_cons_succ, over, Nat.reduceAdd] at hM); (try simp only [Act.put, List.setIfInBounds_toArray, List.set_cons_zero, List.set_cons_succ]))) | (first | (refine wp_seq_shut (fun K hK => ?_)) | (refine wp_text hM (fun Kr hKr => ?_); simp only [inText]) | ((refine hK.out _ _ ?_); clear hK K))) | ((refine St.call rfl rfl rfl (by kernel_rfl) (fun R hR => ?_); simp only [List.map_toArray, List.map_cons, List.map_nil, Act.eval, getD_lit, List.getD_cons_zero, List.getD_cons_succ]); first | ((with_reducible refine (CS.out _).mono ?_); (rintro e w' ⟨rfl, hb⟩; refine hR.out _ _ (fun h => h.below hb) ?_; clear hR R; replace hM := hM.below hb; clear hb; (try simp only [Act.put, List.setIfInBounds_toArray, List.set_cons_zero, List.set_cons_succ]))) | ((with_reducible refine (CW.out _ hM.to_below).mono ?_); (rintro e w' ⟨rfl, hb⟩; refine hR.out _ _ (fun h => h.below hb) ?_; clear hR R; replace hM := hM.below hb; clear hb; (try simp only [Act.put, List.setIfInBounds_toArray, List.set_cons_zero, List.set_cons_succ]))))))
  (refine wp_ret ?_; (try simp only [Exit.then, Exit.inBlock]); refine St.ret hM rfl (by repeat (first | exact Outs.nil | apply Outs.tmp rfl | (apply Outs.row rfl rfl (by repeat constructor) (by kernel_rfl)))) rfl ?_)
  exact ⟨rfl, hM.to_below⟩
end
end Go.Proofs.YtcicjklhbnipcaaGreatDoor
