/-
  Layer 39: Blobs and Most of the program, walked.
-/
import Derived.Test.YtlniiaopindjnaaSpaceM
import Derived.Test.YtlniiaopindjnaaBel
namespace Go.Proofs.Ytlniiaopindjnaa
set_option linter.unusedVariables false
open Go.RowKit Go.Maps Go.WideMaps

theorem keyOf_string_inv {P : Program} {k : TypeId} (hk : P.underlying k = some .string) {key : Value} {kl : Lit} (h : keyOf P k key = some kl) : ∃ x : ByteArray, key = .string x ∧ kl = .string x.data.toList ∧ x.size ≤ maxLen := by
  cases key <;> simp [keyOf, hk, mapKey] at h
  obtain ⟨hs, rfl⟩ := h
  exact ⟨_, rfl, rfl, hs⟩
theorem diff_small {s : StoreD} (hf : FewS s) : ∀ d ∈ sdd s, d.length ≤ 8192 := by
  intro d hd
  rw [sdd, Sp.mem_dd, Sp.ld, List.mem_map] at hd
  obtain ⟨k, -, rfl⟩ := hd
  by_cases hk : k < s.diffs.length
  · obtain ⟨t, ht⟩ := get_at hk
    rw [getD_diffs ht]
    have := hf.2.2.2.2.2 t (List.mem_of_getElem? ht)
    rw [Array.length_toList]; exact this
  · rw [getD_beyond (by omega)]; exact Nat.zero_le _
theorem sdd_len {s : StoreD} (hf : FewS s) : (sdd s).length ≤ 12 := by
  have h := Sp.dd_length_le (Sp.ld s.layers.length (s.diffs.map (·.data.toList)))
  have h2 : (Sp.ld s.layers.length (s.diffs.map (·.data.toList))).length = s.layers.length := by simp [Sp.ld]
  have := hf.2.2.1
  unfold sdd; omega
theorem done_bound {s : StoreD} (hf : FewS s) (left : List UInt8 → Bool) : Sp.done left (sdd s) ≤ 99072 := by
  have h := Sp.done_le left 8192 (sdd s) (diff_small hf)
  have := sdd_len hf
  omega

section
variable (ba ia la da ma : Option Addr) (bn bc im ic ln lc dn dc mn mc : Nat) (s : StoreD) (w : World)
set_option maxRecDepth 100000 in
set_option maxHeartbeats 1000000 in
theorem space_Blobs_any (h : RStore w w.heap.size [.slice ba bn bc, .slice ia im ic, .slice la ln lc, .slice da dn dc, .slice ma mn mc] s) (hf : FewS s) :
    Calls Try.prog 13 #[.agg #[.slice ba bn bc, .slice ia im ic, .slice la ln lc, .slice da dn dc, .slice ma mn mc]] w (RInt64 (blobsOf s) w) := by
  have hbx : BoxedAt w (w.alloc (.cells #[.slice ba bn bc, .slice ia im ic, .slice la ln lc, .slice da dn dc, .slice ma mn mc] 28)) [.slice ba bn bc, .slice ia im ic, .slice la ln lc, .slice da dn dc, .slice ma mn mc] := BoxedAt.alloc _ _ _
  have H1 := Lib.hid (kept_store.on hbx.below h)
  have BX := Lib.hid hbx
  have HF := Lib.hid hf
  clear hbx h hf
  go_enter Try.func13, Try.ntmps13
  go_wp2_with (first
    | (go_at_call 31; refine (space_diffs_any _ _ _ _ _ _ _ _ _ _ _ _ _ _ _ _ _ H1.out HF.out).mono ?_; rintro e w1 ⟨bm, n, D, rfl, hbm, hown, hn, hb1, hh⟩; have HB := Lib.hid hb1; have HH := Lib.hid hh; clear hb1 hh)
    | (at_len; refine wpList_len_own _ rfl _ _ rfl 9 3 Try.underlying57 _ bm n D rfl hown ?_))
  go_ret
  exact ⟨ret_int (by rw [HH.out.2]; rfl), (BX.out.on HB.out).below⟩

set_option maxRecDepth 100000 in
set_option maxHeartbeats 1000000 in
theorem space_Most_any (h : RStore w w.heap.size [.slice ba bn bc, .slice ia im ic, .slice la ln lc, .slice da dn dc, .slice ma mn mc] s) (hf : FewS s) :
    Calls Try.prog 11 #[.agg #[.slice ba bn bc, .slice ia im ic, .slice la ln lc, .slice da dn dc, .slice ma mn mc]] w (RInt64 (mostOf s) w) := by
  obtain ⟨w0, hw0⟩ : ∃ w0, w0 = w.alloc (.cells #[.slice ba bn bc, .slice ia im ic, .slice la ln lc, .slice da dn dc, .slice ma mn mc] 28) := ⟨_, rfl⟩
  have hbx : BoxedAt w w0 [.slice ba bn bc, .slice ia im ic, .slice la ln lc, .slice da dn dc, .slice ma mn mc] := by rw [hw0]; exact BoxedAt.alloc _ _ _
  have H1 := Lib.hid (kept_store.on hbx.below h)
  have BX := Lib.hid hbx
  have HF := Lib.hid hf
  obtain ⟨-, -, -, -, rfl, -⟩ := store_open h
  have hmm : (s.mounts.length : Int) ≤ 40 := by have := hf.2.2.2.2.1; omega
  have hr0 : 0 ≤ recs s ∧ recs s ≤ 92 := by obtain ⟨f1, f2, f3, -⟩ := hf; unfold recs; omega
  obtain ⟨r0, r1⟩ := hr0
  clear hbx h hf
  have BXx : ∀ x : Ext w0.heap.size w0, BoxedAt w x.w [.slice ba bn bc, .slice ia im ic, .slice la ln lc, .slice da dn dc, .slice ma s.mounts.length mc] := fun x => BX.out.on x.b
  have Hx := Lib.hid (show ∀ x : Ext w0.heap.size w0, RStore x.w x.w.heap.size [.slice ba bn bc, .slice ia im ic, .slice la ln lc, .slice da dn dc, .slice ma s.mounts.length mc] s from fun x => kept_store.on x.b H1.out)
  have d0 : ∀ x : Ext w0.heap.size w0, x.w.cell? ⟨w.heap.size, 0, none⟩ = some (.slice ba bn bc) := fun x => (BXx x).cell 0 _ rfl
  have d1 : ∀ x : Ext w0.heap.size w0, x.w.cell? ⟨w.heap.size, 1, none⟩ = some (.slice ia im ic) := fun x => (BXx x).cell 1 _ rfl
  have d2 : ∀ x : Ext w0.heap.size w0, x.w.cell? ⟨w.heap.size, 2, none⟩ = some (.slice la ln lc) := fun x => (BXx x).cell 2 _ rfl
  have d3 : ∀ x : Ext w0.heap.size w0, x.w.cell? ⟨w.heap.size, 3, none⟩ = some (.slice da dn dc) := fun x => (BXx x).cell 3 _ rfl
  have d4 : ∀ x : Ext w0.heap.size w0, x.w.cell? ⟨w.heap.size, 4, none⟩ = some (.slice ma s.mounts.length mc) := fun x => (BXx x).cell 4 _ rfl
  have BXx' := Lib.hid BXx
  clear BXx
  have e1 : IntKind.i64.wrap (2048 * recs s) = 2048 * recs s := IntWalk.i64_in _ (by omega)
  have e2 : IntKind.i64.wrap (4096 + 2048 * recs s) = 4096 + 2048 * recs s := IntWalk.i64_in _ (by omega)
  have e3 : IntKind.i64.wrap (64 * (s.mounts.length : Int)) = 64 * (s.mounts.length : Int) := IntWalk.i64_in _ (by omega)
  have e4 : IntKind.i64.wrap (4096 + 2048 * recs s + 64 * (s.mounts.length : Int)) = 4096 + 2048 * recs s + 64 * (s.mounts.length : Int) := IntWalk.i64_in _ (by omega)
  rw [hw0] at Hx d0 d1 d2 d3 d4 BXx'
  clear hw0
  go_enter Try.func11, Try.ntmps11
  go_wp2
  refine wp_region_bel (w.alloc (.cells #[.slice ba bn bc, .slice ia im ic, .slice la ln lc, .slice da dn dc, .slice ma s.mounts.length mc] 28)).heap.size (by kernel_rfl) (by kernel_rfl) ?_
  repeat (go_big_quiet_step (first
      | (go_at_call 15; exact Calls.bel_of (Nat.le_refl _) (space_Records_any _ _ _ _ _ _ _ _ _ _ _ _ _ _ _ _ _ (Hx.out _) HF.out))))
  refine wpQuiet_nil ?_
  intro x
  obtain ⟨w1, hb1⟩ := x
  have BX1 := Lib.hid (BXx'.out ⟨w1, hb1⟩)
  have H2 := Lib.hid (Hx.out ⟨w1, hb1⟩)
  have c0 := d0 ⟨w1, hb1⟩
  have c1 := d1 ⟨w1, hb1⟩
  have c2 := d2 ⟨w1, hb1⟩
  have c3 := d3 ⟨w1, hb1⟩
  have c4 := d4 ⟨w1, hb1⟩
  dsimp only at BX1 H2 c0 c1 c2 c3 c4 ⊢
  clear d0 d1 d2 d3 d4 BXx' Hx H1 BX hb1 e1 e2 e3 e4
  obtain ⟨base, hbase⟩ : ∃ base, base = 4096 + 2048 * recs s + 64 * (s.mounts.length : Int) := ⟨_, rfl⟩
  rw [← hbase]
  have hb0 : 0 ≤ base ∧ base ≤ 300000 := by omega
  have HB := Lib.hid hbase
  clear hbase
  obtain ⟨b0, b1⟩ := hb0
  go_wp2_with (first
    | (go_at_call 31; refine (space_diffs_any _ _ _ _ _ _ _ _ _ _ _ _ _ _ _ _ _ H2.out HF.out).mono ?_; rintro e w2 ⟨bm, n, D, rfl, hbm, hown, hn, hb2, hh⟩; have HB2 := Lib.hid hb2; have HH := Lib.hid hh; clear hb2 hh c0 c1 c2 c3 c4)
    | (at_range; refine wpList_range_own _ rfl _ 57 rfl 9 3 key_law Try.underlying57 _ bm n D rfl hown ?_; intro w3 hrg0 hg0 hs0))
  go_frame
  have hm0 : Sp.done (fun x => Maps.has D (.string x)) (sdd s) = 0 := Sp.done_none _ _ fun d hd => by rw [HH.out.1 d]; simpa using hd
  have HM0 := Lib.hid hm0
  clear hm0
  go_loopw [3] (fun m wr => ∃ (left : Lit → Bool) (cnt : Nat), wr.ranges Try.prog 9 (plainElem Try.prog 3) bm w2.heap.size n D left cnt ∧ m = .int .i64 (base + (Sp.done (fun x => left (.string x)) (sdd s) : Int)) ∧ Below w2.heap.size w2 wr)
    (fun _ wr => wr.rangeLeft bm w2.heap.size)
  case atStart => exact ⟨_, _, hrg0, by rw [HM0.out]; simp, (Below.refl _ _).grown hg0 (Nat.le_refl _) (fun j hj => by cases hj)⟩
  case round =>
    obtain ⟨left, cnt, hrg, rfl, hnx⟩ := hrel
    have hd0 := done_bound HF.out (fun x => left (.string x))
    go_wp2_with (first
      | (at_next; refine wpList_next_ranges _ rfl _ rfl 9 key_law _ (fun x : ByteArray => .string x) (fun c : Int => .int .i64 c) (fun key kl h => (keyOf_string_inv Try.underlying9 h).imp fun x hx => hx.1) (fun v y h => (plainElem_int_inv Try.underlying3 h).imp fun c hc => hc.1) bm w2.heap.size n D _ _ rfl hrg ?_ ?_))
    · intro hc0 hl0
      have HL := Lib.hid hl0
      clear hl0 hc0
      go_wp2
      go_ret
      exact ⟨ret_int (by rw [Sp.done_all _ _ (fun d _ => HL.out _)]; unfold mostOf; rw [HB.out]), (((BX1.out.on HB2.out).on hnx)).below⟩
    · intro x c kl y1 y2 w4 cnt1 hkey hlx hy hat hrg1 hlt hg1 hs1 hen
      obtain ⟨x', hx', rfl, hxs⟩ := keyOf_string_inv Try.underlying9 hkey
      simp only [Value.string.injEq] at hx'
      subst hx'
      have hin : x.data.toList ∈ sdd s := by
        have := Maps.has_true_of_atKey hat
        rw [HH.out.1] at this
        simpa using this
      have hstep := Sp.done_step (fun z => left (.string z)) x.data.toList (sdd s) (Sp.dd_nodup _) hin hlx
      have HS := Lib.hid hstep
      have hd1 := done_bound HF.out (fun z => left (.string z) && !(z == x.data.toList))
      have hxl : x.size ≤ 8192 := by have := diff_small HF.out _ hin; rw [Array.length_toList] at this; exact this
      have hrg1' := Lib.hid hrg1
      have hnx' := Lib.hid (hnx.grown hg1 hnx.size (fun j hj => by cases hj; exact Nat.le_refl _))
      have HR := Lib.hid hrg
      have hlt' := Lib.hid hlt
      clear hstep hin hkey hlx hy hat hrg1 hlt hg1 hs1 hrg hnx
      go_wp2
      go_roundw
      case rel => exact ⟨_, cnt1, hrg1'.out, by
        have e : (fun z : List UInt8 => left (.string z) && !(Lit.string z).sameKey (.string x.data.toList)) = fun z => left (.string z) && !(z == x.data.toList) := rfl
        rw [e, HS.out]
        simp only [ByteArray.size] at *
        go_num, hnx'.out⟩
      case measure => rw [hrg1'.out.left_eq, HR.out.left_eq]; exact hlt'.out
end
end Go.Proofs.Ytlniiaopindjnaa
