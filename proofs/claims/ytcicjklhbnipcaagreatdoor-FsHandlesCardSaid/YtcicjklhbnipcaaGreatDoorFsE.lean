/-
  Layer 9: New, Used and Exit, walked; what each operation keeps.
-/
import Derived.Test.YtcicjklhbnipcaaGreatDoorFsD
namespace Go.Proofs.YtcicjklhbnipcaaGreatDoor
set_option linter.unusedVariables false
set_option linter.unusedSimpArgs false
open Go.RowKit Go.Maps
namespace Fs
theorem Inv.more {N M : Nat} {d : FsD} (h : Inv N d) (hM : N ≤ M) : Inv M d := ⟨h.tbl.more hM, h.rows, Nat.le_trans h.len hM⟩
theorem set_row {l : List Int} (hl : l.length = 9 ∧ ∀ i ∈ l, 0 ≤ i ∧ i ≤ 4611686018427387904) (n : Nat) {v : Int} (hv : 0 ≤ v ∧ v ≤ 4611686018427387904) : (l.set n v).length = 9 ∧ ∀ i ∈ l.set n v, 0 ≤ i ∧ i ≤ 4611686018427387904 := by
  refine ⟨by rw [List.length_set]; exact hl.1, fun i hi => ?_⟩
  rcases List.mem_or_eq_of_mem_set hi with h | rfl
  · exact hl.2 i h
  · exact hv
theorem inv_closes {N : Nat} {d : FsD} (h : Inv N d) (o : Int) (n : Nat) : Inv (N + 1) (closes d o n) := by
  have hr := rows_put h.rows (o := o) (set_row (hOf_row h o) n (v := 0) (by omega))
  have hl := len_put d.h o ((hOf d.h o).set n 0)
  have hN := h.len
  refine ⟨(In.inv_drop h.tbl _).more (by omega), ?_, ?_⟩
  · unfold closes shut
    simp only
    split
    · exact rows_del hr o
    · exact hr
  · unfold closes shut
    simp only
    split
    · have : (del (put d.h o ((hOf d.h o).set n 0)) o).length ≤ (put d.h o ((hOf d.h o).set n 0)).length := List.length_filter_le _ _
      omega
    · omega
theorem inv_gives {N : Nat} {d : FsD} (h : Inv N d) (o : Int) {id : Int} (hid : 0 ≤ id ∧ id ≤ 4611686018427387904) : Inv (N + 1) (gives d o id).2 := by
  have hN := h.len
  unfold gives
  split
  · refine ⟨(In.inv_hold h.tbl id).more (by omega), rows_put h.rows (set_row (hOf_row h o) _ hid), ?_⟩
    have := len_put d.h o ((hOf d.h o).set (free d o) id)
    show (put d.h o ((hOf d.h o).set (free d o) id)).length ≤ N + 1
    omega
  · exact ⟨(In.inv_hold h.tbl id).more (by omega), h.rows, by show d.h.length ≤ N + 1; omega⟩
theorem inv_new {q : Int} (h0 : 64 ≤ q) (h1 : q ≤ 1099511627776) : Inv 1 (new q) := ⟨In.inv_new h0 h1, nofun, by simp [new]⟩
theorem inv_opens {N : Nat} {d : FsD} (h : Inv N d) (hN : N ≤ 999999990) (o : Int) (p : OpD) : Inv (N + 3) (opens d o p).2 := by
  unfold opens
  have hN' := h.len
  split
  · exact h.more (by omega)
  split
  · exact h.more (by omega)
  split
  · have hm := make_id h.tbl (at_ d p.path).1.1 (at_ d p.path).1.2 false
    have I2 : Inv (N + 2) ⟨(In.make d.t (at_ d p.path).1.1 (at_ d p.path).1.2 false).2.2, d.h⟩ := ⟨In.inv_make h.tbl _ _ false, h.rows, by show d.h.length ≤ N + 2; omega⟩
    split
    · exact I2.more (by omega)
    · exact inv_gives I2 o (by omega)
  split
  · exact h.more (by omega)
  · rename_i hE
    have hm := find_pos h.tbl (Decidable.not_not.1 hE)
    exact (inv_gives h o (by omega)).more (by omega)
theorem inv_tbl {N M : Nat} {d : FsD} {t : TabD} (h : Inv N d) (ht : In.Inv M t) (hM : N ≤ M) : Inv M ⟨t, d.h⟩ := ⟨ht, h.rows, Nat.le_trans h.len hM⟩
theorem inv_handled {N : Nat} {d : FsD} (h : Inv N d) (o : Int) (p : OpD) : Inv (N + 3) (handled d o p).2 := by
  unfold handled
  split
  · exact h.more (by omega)
  split
  · exact (inv_closes h o _).more (by omega)
  split
  · exact h.more (by omega)
  split
  · exact (inv_tbl h (In.inv_write h.tbl _ _ _) (Nat.le_refl _)).more (by omega)
  split
  · exact (inv_tbl h (In.inv_trunc h.tbl _ _) (Nat.le_refl _)).more (by omega)
  · exact h.more (by omega)
theorem inv_named {N : Nat} {d : FsD} (h : Inv N d) (p : OpD) : Inv (N + 3) ⟨(named d p).2, d.h⟩ := by
  unfold named namedAt
  split
  · exact (inv_tbl h h.tbl (Nat.le_refl _)).more (by omega)
  split
  · exact (inv_tbl h (In.inv_make h.tbl _ _ true) (by omega)).more (by omega)
  split
  · exact (inv_tbl h (In.inv_remove h.tbl _ _) (Nat.le_refl _)).more (by omega)
  split
  · exact (inv_tbl h (In.inv_unlink h.tbl _ _) (Nat.le_refl _)).more (by omega)
  split
  · split
    · exact (inv_tbl h h.tbl (Nat.le_refl _)).more (by omega)
    split
    · exact (inv_tbl h h.tbl (Nat.le_refl _)).more (by omega)
    · exact (inv_tbl h (In.inv_link h.tbl _ _ _) (by omega)).more (by omega)
  split
  · exact (inv_tbl h h.tbl (Nat.le_refl _)).more (by omega)
  · exact (inv_tbl h (In.inv_rename h.tbl _ _ _ _) (by omega)).more (by omega)
theorem inv_do {N : Nat} {d : FsD} (h : Inv N d) (hN : N ≤ 999999990) (o : Int) (p : OpD) : Inv (N + 3) (do_ d o p).2 := by
  unfold do_
  split
  · exact h.more (by omega)
  split
  · exact inv_opens h hN o p
  split
  · exact inv_handled h o p
  split
  · exact h.more (by omega)
  · exact inv_named h p
end Fs
section
variable {N : Nat} {x : FsX} {β : Int → Nat × Nat} {d : FsD} {w w' w0 : World} {F : List Nat} {L L' M M' : List Ent}
set_option maxHeartbeats 4000000 in
set_option maxRecDepth 100000 in
theorem fUsed_any (h : FsAt N x β d w) : Calls Tryz.prog 18 #[.pointer (some ⟨x.f, 0, none⟩)] w fun e w' => e = .returned (.int .i64 d.t.used) ∧ Below w.heap.size w w' := by
  have hM := h.at_.ro
  unfold fsL at hM
  simp only [List.map_cons, unflag] at hM
  have HF := Lib.hid h
  have hq : 0 < d.t.quota := by have := h.inv.tbl.q0; omega
  clear h
  go_enter Tryz.func18, Tryz.ntmps18
  (repeat (first | ((with_reducible show wpSeq _ _ _ _ _ _ _); first | ((with_reducible refine wpSeq_nil ?_); refine hKr.out _ _ ?_; clear hKr Kr) | (((refine St.copy (v := ?_) (by first | exact .inl rfl | exact .inr rfl) rfl rfl ?_ ?_; rotate_left; (focus ((try simp only [Act.eval, getD_lit, List.getD_cons_zero, List.getD_cons_succ]); with_reducible rfl)))); (try simp only [Act.put, List.setIfInBounds_toArray, List.set_cons_zero, List.set_cons_succ]))) | (first | (refine wp_seq_shut (fun K hK => ?_)) | (refine wp_text hM (fun Kr hKr => ?_); simp only [inText]) | ((refine hK.out _ _ ?_); clear hK K))))
  (refine St.call3 rfl rfl (by kernel_rfl) (fun R hR => ?_); simp only [List.map_toArray, List.map_cons, List.map_nil, Act.eval, getD_lit, List.getD_cons_zero, List.getD_cons_succ])
  refine (fgiven_any (HF.out.below hM.to_below)).mono ?_
  rintro e w' ⟨rfl, rfl⟩; refine hR.out _ _ ?_; clear hR R; (try simp only [Act.put, List.setIfInBounds_toArray, List.set_cons_zero, List.set_cons_succ])
  (repeat (first | ((with_reducible show wpSeq _ _ _ _ _ _ _); first | ((with_reducible refine wpSeq_nil ?_); refine hKr.out _ _ ?_; clear hKr Kr) | ((first | (refine St.copy (v := ?_) (by exact .inl rfl) rfl rfl ?_ ?_; rotate_left; (focus ((try simp only [Act.eval, getD_lit, List.getD_cons_zero, List.getD_cons_succ]); with_reducible rfl))) | (refine St.pure (v := ?_) rfl rfl rfl (fun w => ?_) ?_; rotate_left; (focus (go_simp; all_goals with_reducible rfl))) | refine St.load rfl hM rfl rfl rfl rfl (by repeat constructor) (by rfl) (by kernel_rfl) ?_); (try simp only [Act.put, List.setIfInBounds_toArray, List.set_cons_zero, List.set_cons_succ]))) | (first | (refine wp_seq_shut (fun K hK => ?_)) | (refine wp_text hM (fun Kr hKr => ?_); simp only [inText]) | refine wp_skip ?_ | (refine wp_cond_false rfl ?_) | ((refine hK.out _ _ ?_); clear hK K))))
  (refine St.call3 rfl rfl (by kernel_rfl) (fun R hR => ?_); simp only [List.map_toArray, List.map_cons, List.map_nil, Act.eval, getD_lit, List.getD_cons_zero, List.getD_cons_succ])
  refine (Used_any (HF.out.below hM.to_below).tbl hq).mono ?_
  rintro e w' ⟨rfl, rfl⟩; refine hR.out _ _ ?_; clear hR R; (try simp only [Act.put, List.setIfInBounds_toArray, List.set_cons_zero, List.set_cons_succ])
  (repeat (first | ((with_reducible show wpSeq _ _ _ _ _ _ _); first | ((with_reducible refine wpSeq_nil ?_); refine hKr.out _ _ ?_; clear hKr Kr) | (((refine St.copy (v := ?_) (by exact .inr rfl) rfl rfl ?_ ?_; rotate_left; (focus ((try simp only [Act.eval, getD_lit, List.getD_cons_zero, List.getD_cons_succ]); with_reducible rfl)))); (try simp only [Act.put, List.setIfInBounds_toArray, List.set_cons_zero, List.set_cons_succ]))) | (((refine hK.out _ _ ?_); clear hK K))))
  ((refine wp_ret ?_; (try simp only [Exit.then, Exit.inBlock]); refine St.ret hM rfl (by repeat (first | exact Outs.nil | apply Outs.tmp rfl)) rfl ?_))
  exact ⟨rfl, hM.to_below⟩
theorem exitL_cons {o : Int} {l : List Int} {k : Nat} {c : Int} {d : FsD} (h : l[k]? = some c) : Fs.exitL o (l.drop k) k d = Fs.exitL o (l.drop (k + 1)) (k + 1) (if c ≠ 0 then Fs.closes d o k else d) := by
  obtain ⟨hk, rfl⟩ := List.getElem?_eq_some_iff.1 h
  rw [List.drop_eq_getElem_cons hk]
  rfl
set_option maxHeartbeats 8000000 in
set_option maxRecDepth 100000 in
theorem fExit_any (h : FsAt N x β d w) (hN : N ≤ 999999980) {o : Int} (ho : Fits o) :
    Calls Tryz.prog 17 #[.pointer (some ⟨x.f, 0, none⟩), .int .i64 o] w fun e w' => e = .returned (.tuple #[]) ∧ FsGoes w x β d w' (Fs.exit d o) ∧ Fs.Inv (N + 9) (Fs.exit d o) := by
  have hM := h.at_.st
  unfold FsGoes
  obtain ⟨F, hF⟩ : ∃ F, keysOf (fsL x β d) = F := ⟨_, rfl⟩
  rw [hF] at hM ⊢
  have F0 : 0 ∉ F := hF ▸ h.zero
  clear hF
  have HI := Lib.hid h.inv
  have HX := Lib.hid h.mx
  have CG := Lib.hid (fun (W : World) (β' : Int → Nat × Nat) (hA : FsAt N x β' d W) => fgiven_any hA)
  obtain ⟨R0, hR0⟩ : ∃ R0, Fs.exit d o = R0 := ⟨_, rfl⟩
  rw [hR0]
  unfold Fs.exit at hR0
  have hrw := Fs.hOf_row h.inv o
  obtain ⟨a0, a1, a2, a3, a4, a5, a6, a7, a8, hl⟩ := row9 hrw.1
  have hrow : rowV (Fs.hOf d.h o) = .agg #[.int .i64 a0, .int .i64 a1, .int .i64 a2, .int .i64 a3, .int .i64 a4, .int .i64 a5, .int .i64 a6, .int .i64 a7, .int .i64 a8] := by rw [hl]; rfl
  rw [hl] at hR0
  have HR := Lib.hid hR0
  clear h hl hR0 hrw
  unfold fsL at hM
  go_enter Tryz.func17, Tryz.ntmps17
  (repeat (first | ((with_reducible show wpSeq _ _ _ _ _ _ _); (((refine St.copy (v := ?_) (by exact .inl rfl) rfl rfl ?_ ?_; rotate_left; (focus ((try simp only [Act.eval, getD_lit, List.getD_cons_zero, List.getD_cons_succ]); with_reducible rfl)))); (try simp only [Act.put, List.setIfInBounds_toArray, List.set_cons_zero, List.set_cons_succ]))) | (first | (refine wp_seq_shut (fun K hK => ?_)) | (refine wp_text hM (fun Kr hKr => ?_); simp only [inText]))))
  (refine St.call3 rfl rfl (by kernel_rfl) (fun R hR => ?_); simp only [List.map_toArray, List.map_cons, List.map_nil, Act.eval, getD_lit, List.getD_cons_zero, List.getD_cons_succ])
  refine (CG.out _ β (hM.fs (by repeat (exact Part.all)) HI.out HX.out F0)).mono ?_
  rintro e w' ⟨rfl, rfl⟩; refine hR.out _ _ ?_; clear hR R; (try simp only [Act.put, List.setIfInBounds_toArray, List.set_cons_zero, List.set_cons_succ])
  (repeat (first | ((with_reducible show wpSeq _ _ _ _ _ _ _); first | ((with_reducible refine wpSeq_nil ?_); refine hKr.out _ _ ?_; clear hKr Kr) | ((first | (refine St.copy (v := ?_) (by exact .inl rfl) rfl rfl ?_ ?_; rotate_left; (focus ((try simp only [Act.eval, getD_lit, List.getD_cons_zero, List.getD_cons_succ]); with_reducible rfl))) | (refine St.pure (v := ?_) rfl rfl rfl (fun w => ?_) ?_; rotate_left; (focus (go_simp; all_goals with_reducible rfl))) | refine St.load rfl hM rfl rfl rfl rfl (by repeat constructor) (by rfl) (by kernel_rfl) ?_); (try simp only [Act.put, List.setIfInBounds_toArray, List.set_cons_zero, List.set_cons_succ]))) | (first | (refine wp_seq_shut (fun K hK => ?_)) | (refine wp_text hM (fun Kr hKr => ?_); simp only [inText]) | refine wp_skip ?_ | (refine wp_cond_false rfl ?_) | ((refine hK.out _ _ ?_); clear hK K))))
  ((refine St.lookup rfl hM rfl rfl rfl rfl (by repeat constructor) key_int Tryz.underlying42 zero_cell (keyOf_int_mk Tryz.underlying3 (by assumption)) ((look_hand _ _).trans (by assumption)) ?_); (try simp only [Act.put, List.setIfInBounds_toArray, List.set_cons_zero, List.set_cons_succ]))
  (repeat (first | ((with_reducible show wpSeq _ _ _ _ _ _ _); first | ((with_reducible refine wpSeq_nil ?_); refine hKr.out _ _ ?_; clear hKr Kr) | (((refine St.copy (v := ?_) (by exact .inl rfl) rfl rfl ?_ ?_; rotate_left; (focus ((try simp only [Act.eval, getD_lit, List.getD_cons_zero, List.getD_cons_succ]); with_reducible rfl)))); (try simp only [Act.put, List.setIfInBounds_toArray, List.set_cons_zero, List.set_cons_succ]))) | (first | refine wp_block ?_ | ((refine hK.out _ _ ?_); clear hK K))))
  go_loopw [15] (fun i wr => ∃ (k : Nat) (β' : Int → Nat × Nat) (dk : FsD), k ≤ 9 ∧ i = .int .i64 k ∧ Fs.exitL o ([a0, a1, a2, a3, a4, a5, a6, a7, a8].drop k) k dk = R0 ∧ Fs.Inv (N + k) dk ∧ St w F wr (fsL x β' dk)) (fun i _ => 9 - (intOf i).toNat)
  case atStart => exact ⟨0, β, d, by omega, rfl, HR.out, HI.out, hM⟩
  case round =>
    clear hM
    obtain ⟨k, β, dk, hk, rfl, hex, hin, hM⟩ := hrel
    have HEX := Lib.hid hex
    have HIN := Lib.hid hin
    clear hex hin
    by_cases hlt : k < 9
    · obtain ⟨c, hc⟩ := get_at (xs := [a0, a1, a2, a3, a4, a5, a6, a7, a8]) (k := k) hlt
      have hix : (#[.int .i64 a0, .int .i64 a1, .int .i64 a2, .int .i64 a3, .int .i64 a4, .int .i64 a5, .int .i64 a6, .int .i64 a7, .int .i64 a8] : Array Value)[k]? = some (.int .i64 c) := idx_row (l := [a0, a1, a2, a3, a4, a5, a6, a7, a8]) hlt (by rw [List.getD_eq_getElem?_getD, hc]; rfl)
      have e := HEX.out
      rw [exitL_cons hc] at e
      have k1 : (k : Int) < 9 := by omega
      have d1 : decide ((k : Int) < 9) = true := decide_eq_true k1
      clear hc hlt
      by_cases h0 : c = 0
      · subst h0
        rw [if_neg (by simp)] at e
        have HE := Lib.hid e
        clear e
        unfold fsL at hM
        (repeat (first | ((with_reducible show wpSeq _ _ _ _ _ _ _); first | ((with_reducible refine wpSeq_nil ?_); refine hKr.out _ _ ?_; clear hKr Kr) | ((first | (refine St.copy (v := ?_) (by first | exact .inl rfl | exact .inr rfl) rfl rfl ?_ ?_; rotate_left; (focus ((try simp only [Act.eval, getD_lit, List.getD_cons_zero, List.getD_cons_succ]); with_reducible rfl))) | refine St.inc rfl rfl rfl rfl rfl (by omega) ?_ | (refine St.pure (v := ?_) rfl rfl rfl (fun w => ?_) ?_; rotate_left; (focus (go_simp; all_goals with_reducible rfl))) | (refine St.index rfl rfl rfl rfl rfl (by kernel_rfl) (by assumption) ?_)); (try simp only [Act.put, List.setIfInBounds_toArray, List.set_cons_zero, List.set_cons_succ]))) | (first | (refine wp_seq_shut (fun K hK => ?_)) | (refine wp_text hM (fun Kr hKr => ?_); simp only [inText]) | refine wp_block ?_ | refine wp_skip ?_ | (first | refine wp_cond_true rfl ?_ | refine wp_cond_false rfl ?_) | ((refine hK.out _ _ ?_); clear hK K))))
        (refine ⟨?_, ?_⟩; (focus (repeat (first | exact ⟨⟨k + 1, β, dk, by omega, rfl, HE.out, HIN.out.more (by omega), hM⟩, rfl⟩ | apply Exists.intro))); (simp only [getD_lit, List.getD_cons_zero, List.getD_cons_succ, intOf]; omega))
      · rw [if_pos h0] at e
        have HE := Lib.hid e
        have q1 := bne0_true h0
        have CC := Lib.hid (fun (W : World) (β' : Int → Nat × Nat) (hA : FsAt (N + k) x β' dk W) => closes_any hA (by omega) ho (n := k) (by omega))
        have HIC := Lib.hid (Fs.inv_closes HIN.out o k)
        clear e h0
        generalize Fs.closes dk o k = dn at *
        unfold fsL at hM
        (repeat (first | ((with_reducible show wpSeq _ _ _ _ _ _ _); first | ((with_reducible refine wpSeq_nil ?_); refine hKr.out _ _ ?_; clear hKr Kr) | ((first | (refine St.copy (v := ?_) (by first | exact .inl rfl | exact .inr rfl) rfl rfl ?_ ?_; rotate_left; (focus ((try simp only [Act.eval, getD_lit, List.getD_cons_zero, List.getD_cons_succ]); with_reducible rfl))) | (refine St.pure (v := ?_) rfl rfl rfl (fun w => ?_) ?_; rotate_left; (focus (go_simp; all_goals with_reducible rfl))) | (refine St.index rfl rfl rfl rfl rfl (by kernel_rfl) (by assumption) ?_)); (try simp only [Act.put, List.setIfInBounds_toArray, List.set_cons_zero, List.set_cons_succ]))) | (first | (refine wp_seq_shut (fun K hK => ?_)) | (refine wp_text hM (fun Kr hKr => ?_); simp only [inText]) | refine wp_block ?_ | refine wp_skip ?_ | (refine wp_cond_true rfl ?_) | ((refine hK.out _ _ ?_); clear hK K))))
        (refine St.call3 rfl rfl (by kernel_rfl) (fun R hR => ?_); simp only [List.map_toArray, List.map_cons, List.map_nil, Act.eval, getD_lit, List.getD_cons_zero, List.getD_cons_succ])
        refine (CC.out _ β (hM.fs (by repeat (exact Part.all)) HIN.out HX.out F0)).mono ?_
        (rintro e w' ⟨rfl, β, hN⟩; replace hM := hM.backM (by repeat (exact Swap.all)) (fsL_flag _ _ _) hN (fsL_flag _ _ _); clear hN; refine hR.out _ _ ?_; clear hR R; unfold fsL at hM; (try simp only [Act.put, List.setIfInBounds_toArray, List.set_cons_zero, List.set_cons_succ]))
        (repeat (first | ((with_reducible show wpSeq _ _ _ _ _ _ _); first | ((with_reducible refine wpSeq_nil ?_); refine hKr.out _ _ ?_; clear hKr Kr) | ((first | (refine St.copy (v := ?_) (by exact .inl rfl) rfl rfl ?_ ?_; rotate_left; (focus ((try simp only [Act.eval, getD_lit, List.getD_cons_zero, List.getD_cons_succ]); with_reducible rfl))) | refine St.inc rfl rfl rfl rfl rfl (by omega) ?_); (try simp only [Act.put, List.setIfInBounds_toArray, List.set_cons_zero, List.set_cons_succ]))) | (first | (refine wp_text hM (fun Kr hKr => ?_); simp only [inText]) | ((refine hK.out _ _ ?_); clear hK K))))
        (refine ⟨?_, ?_⟩; (focus (repeat (first | exact ⟨⟨k + 1, β, dn, by omega, rfl, HE.out, HIC.out.more (by omega), hM⟩, rfl⟩ | apply Exists.intro))); (simp only [getD_lit, List.getD_cons_zero, List.getD_cons_succ, intOf]; omega))
    · have k0 : ¬ ((k : Int) < 9) := by omega
      obtain rfl : k = 9 := by omega
      have e := HEX.out
      rw [show ([a0, a1, a2, a3, a4, a5, a6, a7, a8] : List Int).drop 9 = [] from rfl] at e
      have e' : dk = R0 := e
      subst e'
      clear hlt hk HEX HR e
      (repeat (first | ((with_reducible show wpSeq _ _ _ _ _ _ _); first | ((with_reducible refine wpSeq_nil ?_); refine hKr.out _ _ ?_; clear hKr Kr) | (((refine St.pure (v := ?_) rfl rfl rfl (fun w => ?_) ?_; rotate_left; (focus (go_simp; all_goals with_reducible rfl)))); (try simp only [Act.put, List.setIfInBounds_toArray, List.set_cons_zero, List.set_cons_succ]))) | (first | (refine wp_seq_shut (fun K hK => ?_)) | (refine wp_text hM (fun Kr hKr => ?_); simp only [inText]) | (refine wp_cond_false rfl ?_) | (refine wp_exit ?_; simp only [Exit.then, Exit.inBlock, if_true, if_false, reduceCtorEq, Nat.reduceEqDiff, Nat.succ_ne_zero]) | ((refine hK.out _ _ ?_); clear hK K))))
      ((refine St.fin hM rfl (by repeat (exact Outs.nil)) rfl ?_))
      exact ⟨rfl, ⟨β, hM⟩, HIN.out⟩
end
end Go.Proofs.YtcicjklhbnipcaaGreatDoor
