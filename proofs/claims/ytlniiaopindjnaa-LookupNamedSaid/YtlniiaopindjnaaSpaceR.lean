/-
  Layer 39: Blobs and Most of the reference, walked.
-/
import Derived.Test.YtlniiaopindjnaaSpaceN
import Derived.Deep.AppendLies
namespace Go.Proofs.Ytlniiaopindjnaa
set_option linter.unusedVariables false
open Go.RowKit

/-- A row of texts that the call itself made, read as texts. -/
theorem own_strs {w : World} {base : Nat} {e : TypeId} {v : Value} {n : Nat} {xs : List ByteArray} (h : w.ownsRow base e 1 v n (xs.map Value.string)) (hs : ∀ x ∈ xs, x.size ≤ maxLen) :
    n = xs.length ∧ ∃ a cap, v = .slice a xs.length cap ∧ RStrs w w.heap.size [.slice a xs.length cap] xs := by
  have hn : n = xs.length := by have := h.1; simpa using this.symm
  subst hn
  refine ⟨rfl, ?_⟩
  rcases h.2 with ⟨rfl, h0⟩ | ⟨g, cap, cur, rfl, _, hg, hl, hm, _, _⟩
  · rw [h0]
    have hx : xs = [] := List.eq_nil_of_length_eq_zero h0
    subst hx
    exact ⟨none, 0, rfl, none, 0, rfl, Nat.le_refl _, by simp [maxLen], fun _ => rfl, fun h => absurd h (Nat.lt_irrefl _)⟩
  · refine ⟨some ⟨g, 0, none⟩, cap, rfl, some ⟨g, 0, none⟩, cap, rfl, hl, hm, (fun h => by cases h), fun hp => ⟨g, 0, rfl, ?_, fun i x hi => ⟨[.string x], rfl, fun j hj => ?_, rfl, hs x (List.mem_of_getElem? hi)⟩⟩⟩
    · rcases Nat.lt_or_ge g w.heap.size with hlt | hge
      · exact hlt
      · rw [Array.getElem?_eq_none hge] at hg; cases hg
    · obtain rfl : j = 0 := by omega
      have hil : i < xs.length := (List.getElem?_eq_some_iff.1 hi).1
      rw [show (0 + i * 1 + 0) = i by omega, h.cellAt i (by omega)]
      simp [hi]
theorem own_block {w : World} {base : Nat} {e : TypeId} {size : Nat} {v : Value} {n : Nat} {xs : List Value} (h : w.ownsRow base e size v n xs) : ∀ k, v.ownBlock = some k → base ≤ k := by
  intro k hk
  rcases h.2 with ⟨rfl, _⟩ | ⟨g, cap, cur, rfl, hg, _⟩
  · simp [Value.ownBlock] at hk
  · simp [Value.ownBlock] at hk; omega
theorem own_mono {w : World} {base base' : Nat} {e : TypeId} {size : Nat} {v : Value} {n : Nat} {xs : List Value} (h : w.ownsRow base e size v n xs) (hb : base' ≤ base) : w.ownsRow base' e size v n xs := by
  obtain ⟨h1, h2⟩ := h
  refine ⟨h1, ?_⟩
  rcases h2 with h2 | ⟨g, cap, cur, e, hg, r⟩
  · exact .inl h2
  · exact .inr ⟨g, cap, cur, e, by omega, r⟩
theorem str_info : (Try.prog.info? 9).map (fun i => (i.zero, i.size, i.bytes)) = some (some (.string ByteArray.empty), 1, 16) := by kernel_rfl

theorem weight_take {xs : List ByteArray} {k : Nat} {x : ByteArray} (h : xs[k]? = some x) : Sp.weight ((xs.take (k + 1)).map (·.data.toList)) = Sp.weight ((xs.take k).map (·.data.toList)) + (64 + x.size) := by
  rw [List.take_add_one, h]
  simp [Sp.weight]
theorem weight_take_le (xs : List ByteArray) (k : Nat) : Sp.weight ((xs.take k).map (·.data.toList)) ≤ Sp.weight (xs.map (·.data.toList)) := by
  have : Sp.weight (xs.map (·.data.toList)) = Sp.weight ((xs.take k).map (·.data.toList)) + Sp.weight ((xs.drop k).map (·.data.toList)) := by
    conv => lhs; rw [← List.take_append_drop k xs]
    simp only [Sp.weight, List.map_append, List.sum_append]
  omega
def StrsPost (ds : List (List UInt8)) (w : World) (e : Ending) (w' : World) : Prop :=
  ∃ (v : Value) (xs : List ByteArray), e = .returned v ∧ (∀ x ∈ xs, x.size ≤ maxLen) ∧ xs.map (·.data.toList) = ds ∧ w'.ownsRow w.heap.size 9 1 v xs.length (xs.map Value.string) ∧ Below w.heap.size w w'

theorem any_snoc {α : Type} (p : α → Bool) (xs : List α) (m : Nat) (x : α) (h : xs[m]? = some x) : (xs.take (m + 1)).any p = ((xs.take m).any p || p x) := by
  rw [List.take_add_one, h, List.any_append]; simp

section
variable (ba ia la da ma : Option Addr) (bn bc im ic ln lc dn dc mn mc : Nat) (s : StoreD) (w : World)
set_option maxRecDepth 100000 in
set_option maxHeartbeats 2000000 in
theorem ref39_diffs_any (h : RStore w w.heap.size [.slice ba bn bc, .slice ia im ic, .slice la ln lc, .slice da dn dc, .slice ma mn mc] s) (hf : FewS s) :
    Calls Try.prog 32 #[.agg #[.slice ba bn bc, .slice ia im ic, .slice la ln lc, .slice da dn dc, .slice ma mn mc]] w (StrsPost (sdd s) w) := by
  have hbx : BoxedAt w (w.alloc (.cells #[.slice ba bn bc, .slice ia im ic, .slice la ln lc, .slice da dn dc, .slice ma mn mc] 28)) [.slice ba bn bc, .slice ia im ic, .slice la ln lc, .slice da dn dc, .slice ma mn mc] := BoxedAt.alloc _ _ _
  obtain ⟨rfl, rfl, rfl, rfl, rfl, hd⟩ := store_open h
  obtain ⟨f1, f2, f3, f4, -, -⟩ := hf
  have HD := Lib.hid hd; clear hd h
  have BX := Lib.hid hbx; clear hbx
  obtain ⟨i0, hi, hz0, hz1, hz2⟩ := info_parts str_info
  go_enter Try.func32, Try.ntmps32
  go_wp2
  go_loopw [3, 4] (fun v i wr => ∃ k : Nat, k ≤ s.layers.length ∧ i = .int .i64 k ∧ (∃ xs : List ByteArray, (∀ x ∈ xs, x.size ≤ maxLen) ∧ xs.map (·.data.toList) = Sp.dd (Sp.ld k (s.diffs.map (·.data.toList))) ∧ wr.ownsRow (w.heap.size + 1) 9 1 v xs.length (xs.map Value.string)) ∧ BoxedAt w wr [.slice ba s.boxes.length bc, .slice ia s.images.length ic, .slice la s.layers.length lc, .slice da s.diffs.length dc, .slice ma s.mounts.length mc])
    (fun _ i _ => s.layers.length - (intOf i).toNat)
  case atStart => exact ⟨0, Nat.zero_le _, rfl, ⟨[], by simp, rfl, World.ownsRow_nil _ _ _ _⟩, BX.out⟩
  case round =>
    obtain ⟨k, hk, rfl, ⟨xs, hxs, hmap, hown⟩, hbx⟩ := hrel
    have BX' := Lib.hid hbx
    have HM := Lib.hid hmap
    have HX := Lib.hid hxs
    have c3 := hbx.cell 3 _ rfl
    have c2 := hbx.cell 2 _ rfl
    have hsz := hbx.size
    obtain ⟨-, a, cap, rfl, hr⟩ := own_strs hown hxs
    obtain ⟨-, r1, r2, -, r3⟩ := strs_open hr
    have R3 := Lib.hid r3
    have HO := Lib.hid hown
    have hxl : xs.length ≤ k := by
      have h1 := Sp.dd_length_le (Sp.ld k (s.diffs.map (·.data.toList)))
      have h2 := congrArg List.length hmap
      simp [Sp.ld] at h1 h2
      omega
    clear BX hbx hmap hxs hr r3 hown
    rw [maxLen_val] at r2
    by_cases hlt : k < s.layers.length
    · obtain ⟨t, ht⟩ : ∃ t : ByteArray, t.size ≤ maxLen ∧ t.data.toList = (s.diffs.map (·.data.toList)).getD k [] ∧ (k < s.diffs.length → ∃ b off, da = some ⟨b, off, none⟩ ∧ b < w.heap.size ∧ w.cell? ⟨b, off + k, none⟩ = some (.string t)) ∧ (¬ k < s.diffs.length → t = ByteArray.empty) := by
        by_cases hkd : k < s.diffs.length
        · obtain ⟨b, off, rfl, hb, hc⟩ := HD.out (by omega)
          obtain ⟨t, ht⟩ := get_at hkd
          obtain ⟨t1, t2⟩ := hc k t ht
          exact ⟨t, t1, (getD_diffs ht).symm, fun _ => ⟨b, off, rfl, hb, t2⟩, fun h => absurd hkd h⟩
        · exact ⟨ByteArray.empty, by simp [ByteArray.size], (getD_beyond (by omega)).symm, fun h => absurd h hkd, fun _ => rfl⟩
      obtain ⟨t1, t2, t3, t4⟩ := ht
      have T1 := Lib.hid t1
      have T2 := Lib.hid t2
      have T3 := Lib.hid t3
      have T4 := Lib.hid t4
      clear t1 t2 t3 t4 HD
      go_upto_if 19 with fail
      go_cut [5] (fun s5 wx => wx = wr ∧ s5 = .string t)
      case first =>
        by_cases hkd : k < s.diffs.length
        · obtain ⟨b, off, rfl, hb, t2⟩ := T3.out hkd
          have t3 : wr.cell? ⟨b, off + k, none⟩ = some (.string t) := (BX'.out.below.cell (p := ⟨b, off + k, none⟩) hb).trans t2
          clear t2
          go_wp2_with fail
          go_meet
          exact ⟨rfl, rfl⟩
        · have T4' := Lib.hid (T4.out hkd)
          go_wp2_with fail
          go_meet
          exact ⟨rfl, by rw [T4'.out]; rfl⟩
      case rest =>
        obtain ⟨rfl, rfl⟩ := hcut
        clear T3 T4 c2 c3
        go_wp2
        go_loop [6, 7] (fun q j => ∃ m : Nat, m ≤ xs.length ∧ j = .int .i64 m ∧ q = .bool ((xs.take m).any fun x => x.data.toList == t.data.toList)) (fun _ j => xs.length - (intOf j).toNat)
        case atStart => exact ⟨0, Nat.zero_le _, rfl, rfl⟩
        case round =>
          obtain ⟨m, hm, rfl, rfl⟩ := hrel
          obtain ⟨q, hq⟩ : ∃ q, q = (xs.take m).any fun x => x.data.toList == t.data.toList := ⟨_, rfl⟩
          rw [← hq]
          by_cases hmx : m < xs.length
          · obtain ⟨b, off, rfl, hb, hc⟩ := R3.out (by omega)
            obtain ⟨x, hx⟩ := get_at hmx
            obtain ⟨x1, x2⟩ := hc m x hx
            have hn := any_snoc (fun x : ByteArray => x.data.toList == t.data.toList) xs m x hx
            rw [← hq] at hn
            have HN := Lib.hid hn
            clear hn hc x1 hx hq R3
            cases q
            · go_wp2
              go_round
              case rel => exact ⟨m + 1, by omega, by go_num, by rw [HN.out, str_beq]; rfl⟩
              case measure => simp [intOf]; omega
            · go_wp2
              go_round
              case rel => exact ⟨m + 1, by omega, by go_num, by rw [HN.out]; rfl⟩
              case measure => simp [intOf]; omega
          · have hq' : q = true ↔ t.data.toList ∈ xs.map (·.data.toList) := by
              rw [hq, List.take_of_length_le (by omega), List.any_eq_true]
              simp only [List.mem_map, beq_iff_eq]
            have HQ := Lib.hid hq'
            clear hq hq' R3
            cases q
            · have hnew : xs.map (·.data.toList) ++ [t.data.toList] = Sp.dd (Sp.ld (k + 1) (s.diffs.map (·.data.toList))) := by
                rw [Sp.dd_ld_succ, ← T2.out, ← HM.out, Sp.once, if_neg (fun h => by simpa using HQ.out.2 h)]
              have HW := Lib.hid hnew
              clear hnew
              go_wp2_with (first
                | (at_builtin; refine wpList_append_own _ rfl _ _ 25 rfl (w.heap.size + 1) 9 i0 (.string ByteArray.empty) 1 16 Try.underlying25 hi hz0 hz1 hz2 rfl (by decide) _ _ _ rfl (HO.out.alloc _) ⟨wc.heap.size, 0, none⟩ 1 1 [.string t] rfl rfl (cell_one_new _ _ _) (by intro u hu; simp at hu; subst hu; rfl) (by unfold maxLen; omega) (by omega) (by simp; omega) ?_; intro v' w1 hown' hgrow hnil))
              have HO' := Lib.hid hown'
              have BX2 := Lib.hid ((BX'.out.on' ((Below.refl _ _).alloc (by omega) _)).grown hgrow (fun j hj => by have := own_block HO.out j hj; omega))
              clear hown' hgrow hnil HO BX'
              go_wp2
              go_roundw
              case rel =>
                exact ⟨k + 1, by omega, by go_num, ⟨xs ++ [t], fun x hx => by
                  rcases List.mem_append.1 hx with h | h
                  · exact HX.out x h
                  · simp at h; subst h; exact T1.out, by rw [← HW.out]; simp, by simpa using HO'.out⟩, BX2.out⟩
              case measure => simp [intOf]; omega
            · have hnew : xs.map (·.data.toList) = Sp.dd (Sp.ld (k + 1) (s.diffs.map (·.data.toList))) := by
                rw [Sp.dd_ld_succ, ← T2.out, ← HM.out, Sp.once, if_pos (HQ.out.1 rfl)]
              have HW := Lib.hid hnew
              clear hnew
              go_wp2
              go_roundw
              case rel => exact ⟨k + 1, by omega, by go_num, ⟨xs, HX.out, HW.out, HO.out⟩, BX'.out⟩
              case measure => simp [intOf]; omega
    · have he : k = s.layers.length := by omega
      subst he
      clear HD R3
      go_wp2
      go_ret
      exact ⟨_, xs, rfl, HX.out, HM.out, own_mono HO.out (by omega), BX'.out.below⟩

set_option maxRecDepth 100000 in
set_option maxHeartbeats 1000000 in
theorem ref39_Blobs_any (h : RStore w w.heap.size [.slice ba bn bc, .slice ia im ic, .slice la ln lc, .slice da dn dc, .slice ma mn mc] s) (hf : FewS s) :
    Calls Try.prog 14 #[.agg #[.slice ba bn bc, .slice ia im ic, .slice la ln lc, .slice da dn dc, .slice ma mn mc]] w (RInt64 (blobsOf s) w) := by
  have hbx : BoxedAt w (w.alloc (.cells #[.slice ba bn bc, .slice ia im ic, .slice la ln lc, .slice da dn dc, .slice ma mn mc] 28)) [.slice ba bn bc, .slice ia im ic, .slice la ln lc, .slice da dn dc, .slice ma mn mc] := BoxedAt.alloc _ _ _
  have H1 := Lib.hid (kept_store.on hbx.below h)
  have BX := Lib.hid hbx
  have HF := Lib.hid hf
  clear hbx h hf
  go_enter Try.func14, Try.ntmps14
  go_wp2_with (first
    | (go_at_call 32; refine (ref39_diffs_any _ _ _ _ _ _ _ _ _ _ _ _ _ _ _ _ _ H1.out HF.out).mono ?_; rintro e w1 ⟨v, xs, rfl, hxs, hm, hown, hb1⟩; have HB := Lib.hid hb1; have HM := Lib.hid hm; obtain ⟨-, a, cap, rfl, -⟩ := own_strs hown hxs; clear hb1 hm hown hxs))
  go_ret
  exact ⟨ret_int (by unfold blobsOf; rw [← HM.out]; simp), (BX.out.on HB.out).below⟩

set_option maxRecDepth 100000 in
set_option maxHeartbeats 1000000 in
theorem ref39_Most_any (h : RStore w w.heap.size [.slice ba bn bc, .slice ia im ic, .slice la ln lc, .slice da dn dc, .slice ma mn mc] s) (hf : FewS s) :
    Calls Try.prog 12 #[.agg #[.slice ba bn bc, .slice ia im ic, .slice la ln lc, .slice da dn dc, .slice ma mn mc]] w (RInt64 (mostOf s) w) := by
  obtain ⟨w0, hw0⟩ : ∃ w0, w0 = w.alloc (.cells #[.slice ba bn bc, .slice ia im ic, .slice la ln lc, .slice da dn dc, .slice ma mn mc] 28) := ⟨_, rfl⟩
  have hbx : BoxedAt w w0 [.slice ba bn bc, .slice ia im ic, .slice la ln lc, .slice da dn dc, .slice ma mn mc] := by rw [hw0]; exact BoxedAt.alloc _ _ _
  have H1 := Lib.hid (kept_store.on hbx.below h)
  have BX := Lib.hid hbx
  have HF := Lib.hid hf
  obtain ⟨-, -, -, -, rfl, -⟩ := store_open h
  have hmm : (s.mounts.length : Int) ≤ 40 := by have := hf.2.2.2.2.1; omega
  have hr0 : 0 ≤ recs s ∧ recs s ≤ 92 := by obtain ⟨f1, f2, f3, -⟩ := hf; unfold recs; omega
  obtain ⟨r0, r1⟩ := hr0
  clear hbx h hf
  have BXx : ∀ x : Ext w0.heap.size w0, BoxedAt w x.w [.slice ba bn bc, .slice ia im ic, .slice la ln lc, .slice da dn dc, .slice ma s.mounts.length mc] := fun x => BX.out.on x.b
  have Hx := Lib.hid (show ∀ x : Ext w0.heap.size w0, RStore x.w x.w.heap.size [.slice ba bn bc, .slice ia im ic, .slice la ln lc, .slice da dn dc, .slice ma s.mounts.length mc] s from fun x => kept_store.on x.b H1.out)
  have d0 : ∀ x : Ext w0.heap.size w0, x.w.cell? ⟨w.heap.size, 0, none⟩ = some (.slice ba bn bc) := fun x => (BXx x).cell 0 _ rfl
  have d1 : ∀ x : Ext w0.heap.size w0, x.w.cell? ⟨w.heap.size, 1, none⟩ = some (.slice ia im ic) := fun x => (BXx x).cell 1 _ rfl
  have d2 : ∀ x : Ext w0.heap.size w0, x.w.cell? ⟨w.heap.size, 2, none⟩ = some (.slice la ln lc) := fun x => (BXx x).cell 2 _ rfl
  have d3 : ∀ x : Ext w0.heap.size w0, x.w.cell? ⟨w.heap.size, 3, none⟩ = some (.slice da dn dc) := fun x => (BXx x).cell 3 _ rfl
  have d4 : ∀ x : Ext w0.heap.size w0, x.w.cell? ⟨w.heap.size, 4, none⟩ = some (.slice ma s.mounts.length mc) := fun x => (BXx x).cell 4 _ rfl
  have BXx' := Lib.hid BXx
  clear BXx
  have e1 : IntKind.i64.wrap (2048 * recs s) = 2048 * recs s := IntWalk.i64_in _ (by omega)
  have e2 : IntKind.i64.wrap (4096 + 2048 * recs s) = 4096 + 2048 * recs s := IntWalk.i64_in _ (by omega)
  have e3 : IntKind.i64.wrap (64 * (s.mounts.length : Int)) = 64 * (s.mounts.length : Int) := IntWalk.i64_in _ (by omega)
  have e4 : IntKind.i64.wrap (4096 + 2048 * recs s + 64 * (s.mounts.length : Int)) = 4096 + 2048 * recs s + 64 * (s.mounts.length : Int) := IntWalk.i64_in _ (by omega)
  rw [hw0] at Hx d0 d1 d2 d3 d4 BXx'
  clear hw0
  go_enter Try.func12, Try.ntmps12
  go_wp2
  refine wp_region_bel (w.alloc (.cells #[.slice ba bn bc, .slice ia im ic, .slice la ln lc, .slice da dn dc, .slice ma s.mounts.length mc] 28)).heap.size (by kernel_rfl) (by kernel_rfl) ?_
  repeat (go_big_quiet_step (first
      | (go_at_call 16; exact Calls.bel_of (Nat.le_refl _) (ref39_Records_any _ _ _ _ _ _ _ _ _ _ _ _ _ _ _ _ _ (Hx.out _) HF.out))))
  refine wpQuiet_nil ?_
  intro x
  obtain ⟨w1, hb1⟩ := x
  have BX1 := Lib.hid (BXx'.out ⟨w1, hb1⟩)
  have H2 := Lib.hid (Hx.out ⟨w1, hb1⟩)
  have c0 := d0 ⟨w1, hb1⟩
  have c1 := d1 ⟨w1, hb1⟩
  have c2 := d2 ⟨w1, hb1⟩
  have c3 := d3 ⟨w1, hb1⟩
  have c4 := d4 ⟨w1, hb1⟩
  dsimp only at BX1 H2 c0 c1 c2 c3 c4 ⊢
  clear d0 d1 d2 d3 d4 BXx' Hx H1 BX hb1 e1 e2 e3 e4
  obtain ⟨base, hbase⟩ : ∃ base, base = 4096 + 2048 * recs s + 64 * (s.mounts.length : Int) := ⟨_, rfl⟩
  rw [← hbase]
  have hb0 : 0 ≤ base ∧ base ≤ 300000 := by omega
  have HB := Lib.hid hbase
  clear hbase
  obtain ⟨b0, b1⟩ := hb0
  go_wp2_with (first
    | (go_at_call 32; refine (ref39_diffs_any _ _ _ _ _ _ _ _ _ _ _ _ _ _ _ _ _ H2.out HF.out).mono ?_; rintro e w2 ⟨v, xs, rfl, hxs, hm, hown, hb2⟩; have HB2 := Lib.hid hb2; have HM := Lib.hid hm; obtain ⟨-, a, cap, rfl, hr⟩ := own_strs hown hxs; have HR := Lib.hid hr; clear hb2 hm hown hxs hr c0 c1 c2 c3 c4))
  obtain ⟨-, r2, r3, -, r4⟩ := strs_open HR.out
  have R4 := Lib.hid r4
  have hxl : xs.length ≤ 12 := by have h1 := sdd_len HF.out; rw [← HM.out] at h1; simpa using h1
  have hwt : Sp.weight (xs.map (·.data.toList)) ≤ 99072 := by
    rw [HM.out, ← Sp.done_all (fun _ => false) _ (fun _ _ => rfl)]; exact done_bound HF.out _
  clear r4
  rw [maxLen_val] at r3
  go_loop [3, 5] (fun m i => ∃ k : Nat, k ≤ xs.length ∧ i = .int .i64 k ∧ m = .int .i64 (base + (Sp.weight ((xs.take k).map (·.data.toList)) : Int))) (fun _ i => xs.length - (intOf i).toNat)
  case atStart => exact ⟨0, Nat.zero_le _, rfl, by simp [Sp.weight]⟩
  case round =>
    obtain ⟨k, hk, rfl, rfl⟩ := hrel
    have hw1 := weight_take_le xs k
    obtain ⟨W, hWk⟩ : ∃ W, W = Sp.weight ((xs.take k).map (·.data.toList)) := ⟨_, rfl⟩
    have HWk := Lib.hid hWk
    rw [← hWk] at hw1 ⊢
    clear hWk
    by_cases hlt : k < xs.length
    · obtain ⟨b, off, rfl, hb, hc⟩ := R4.out (by omega)
      obtain ⟨x, hx⟩ := get_at hlt
      obtain ⟨x1, x2⟩ := hc k x hx
      have hn := weight_take hx
      have hw2 := weight_take_le xs (k + 1)
      rw [← HWk.out] at hn
      have HN := Lib.hid hn
      have hxs : x.size ≤ 100000 := by omega
      have hW := Lib.hid hw2
      clear hn hc hx R4 x1 hw2
      go_wp2
      go_round
      case rel => exact ⟨k + 1, by omega, by go_num, by rw [HN.out]; go_num⟩
      case measure => simp [intOf]; omega
    · have he : k = xs.length := by omega
      subst he
      clear R4
      go_wp2
      go_ret
      exact ⟨ret_int (by rw [HWk.out, List.take_of_length_le (Nat.le_refl _), HM.out]; unfold mostOf; rw [HB.out]), (BX1.out.on HB2.out).below⟩
end
end Go.Proofs.Ytlniiaopindjnaa
