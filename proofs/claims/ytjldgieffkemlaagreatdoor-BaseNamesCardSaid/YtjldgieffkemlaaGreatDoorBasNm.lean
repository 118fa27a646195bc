/-
  BaseNames: where any kind's lock and file are, and any process's file; which of any layers are complete.
  Conditions: none beyond the card's own: the listed tables and errors lie as the program's text lays them.
-/
import Derived.Test.YtjldgieffkemlaaGreatDoorIntT
import Derived.Test.YtjldgieffkemlaaGreatDoorBasT
import Derived.OpenShut
import Derived.ChangeOld
namespace Go.Proofs.YtjldgieffkemlaaGreatDoor
set_option linter.unusedVariables false
set_option linter.unusedSimpArgs false
open Go.Shelf
open Go.ChangeShapes Go.WideShapes Go.ChangeAt Go.RowKit
open Go.Lib hiding intOf

theorem baseNames_laid : Rows.baseNamesRow.laid = tabsLaidI := rfl
theorem opensW_strsB : OpensW Tryz.prog 59 (RSized 16 RStrs) := opensW_slice Tryz.underlying59 (e := 9) (by kernel_rfl) (by decide) (by kernel_rfl) (opens_str Tryz.underlying9).toW
theorem len7 {cs : List Value} (h : cs.length = 7) : ∃ c0 c1 c2 c3 c4 c5 c6, cs = [c0, c1, c2, c3, c4, c5, c6] := by
  match cs, h with
  | [c0, c1, c2, c3, c4, c5, c6], _ => exact ⟨c0, c1, c2, c3, c4, c5, c6, rfl⟩
theorem opensW_layer : OpensW Tryz.prog 64 RLayerS := ⟨by
  intro H enc w sp held k B cs y h hp hw
  obtain ⟨hl, hf⟩ := opensW_fields Tryz.underlying64 h hp hw
  rw [show Tryz.prog.cellsOf 64 = 7 from by kernel_rfl] at hl
  obtain ⟨c0, c1, c2, c3, c4, c5, c6, rfl⟩ := len7 hl
  have cs9 : Tryz.prog.cellsOf 9 = 1 := by kernel_rfl
  have cs59 : Tryz.prog.cellsOf 59 = 1 := by kernel_rfl
  have cs3 : Tryz.prog.cellsOf 3 = 1 := by kernel_rfl
  have cs4 : Tryz.prog.cellsOf 4 = 1 := by kernel_rfl
  obtain ⟨x0, h0⟩ := hf 0 _ rfl (opens_str Tryz.underlying9).toW
  obtain ⟨x1, h1⟩ := hf 1 _ rfl (opens_str Tryz.underlying9).toW
  obtain ⟨x2, h2⟩ := hf 2 _ rfl opensW_strsB
  obtain ⟨x3, h3⟩ := hf 3 _ rfl (opens_str Tryz.underlying9).toW
  obtain ⟨x4, h4⟩ := hf 4 _ rfl (opens_int (k := .i64) Tryz.underlying3).toW
  obtain ⟨x5, h5⟩ := hf 5 _ rfl (opens_int (k := .i64) Tryz.underlying3).toW
  obtain ⟨x6, h6⟩ := hf 6 _ rfl (opens_bool Tryz.underlying4).toW
  replace h0 : (RStr) w B (([c0, c1, c2, c3, c4, c5, c6].drop 0).take (Tryz.prog.cellsOf 9)) x0 := h0
  rw [cs9] at h0
  replace h0 : (RStr) w B [c0] x0 := h0
  replace h1 : (RStr) w B (([c0, c1, c2, c3, c4, c5, c6].drop 1).take (Tryz.prog.cellsOf 9)) x1 := h1
  rw [cs9] at h1
  replace h1 : (RStr) w B [c1] x1 := h1
  replace h2 : (RSized 16 RStrs) w B (([c0, c1, c2, c3, c4, c5, c6].drop 2).take (Tryz.prog.cellsOf 59)) x2 := h2
  rw [cs59] at h2
  replace h2 : (RSized 16 RStrs) w B [c2] x2 := h2
  replace h3 : (RStr) w B (([c0, c1, c2, c3, c4, c5, c6].drop 3).take (Tryz.prog.cellsOf 9)) x3 := h3
  rw [cs9] at h3
  replace h3 : (RStr) w B [c3] x3 := h3
  replace h4 : (RInt .i64) w B (([c0, c1, c2, c3, c4, c5, c6].drop 4).take (Tryz.prog.cellsOf 3)) x4 := h4
  rw [cs3] at h4
  replace h4 : (RInt .i64) w B [c4] x4 := h4
  replace h5 : (RInt .i64) w B (([c0, c1, c2, c3, c4, c5, c6].drop 5).take (Tryz.prog.cellsOf 3)) x5 := h5
  rw [cs3] at h5
  replace h5 : (RInt .i64) w B [c5] x5 := h5
  replace h6 : (RBool) w B (([c0, c1, c2, c3, c4, c5, c6].drop 6).take (Tryz.prog.cellsOf 4)) x6 := h6
  rw [cs4] at h6
  replace h6 : (RBool) w B [c6] x6 := h6
  obtain ⟨e0, -⟩ := h0
  obtain ⟨e1, -⟩ := h1
  obtain ⟨na, nc, rfl⟩ := slice_form h2.1
  obtain ⟨e3, -⟩ := h3
  obtain ⟨e4, -⟩ := h4
  obtain ⟨e5, -⟩ := h5
  have e6 : [c6] = [.bool x6] := h6
  simp only [List.cons.injEq, and_true] at e0 e1 e3 e4 e5 e6
  subst e0 e1 e3 e4 e5 e6
  exact ⟨⟨x0, x1, x2, x3, x4, x5, x6⟩, na, x2.length, nc, rfl, h2⟩⟩
theorem opensW_layers : OpensW Tryz.prog 29 (RSized 96 RLayersS) := opensW_slice Tryz.underlying29 (e := 64) (by kernel_rfl) (by decide) (by kernel_rfl) opensW_layer
set_option maxRecDepth 100000 in
theorem open_three {base : Nat} {H : Type} {enc : TypeId × Value → H} {W : World} {v : Value} {d : DataW H} {ps : List MemPlace} (hv : Value.okWide Tryz.prog W .any base 28 v) (h : DataW.Trod enc Tryz.prog W 0 (fun _ => true) true 28 v d ps) :
    ∃ n0 n1 n2, v = .agg #[.int .i64 n0, .int .i64 n1, .int .i64 n2] ∧ Fits n0 ∧ Fits n1 ∧ Fits n2 := by
  have hc : ∃ cs, v = .agg cs := by
    unfold Value.okWide at hv
    rw [Tryz.underlying28] at hv
    obtain ⟨cs, rfl, -⟩ := hv
    exact ⟨cs, rfl⟩
  obtain ⟨cs, rfl⟩ := hc
  obtain ⟨fuel, hf⟩ := h
  obtain ⟨xs, m, rfl, -, hl, hxl, hx⟩ := DataW.trod_array Tryz.underlying28 hf
  rw [show Tryz.prog.cellsOf 28 = 3 from by kernel_rfl] at hl
  have cs3 : Tryz.prog.cellsOf 3 = 1 := by kernel_rfl
  obtain ⟨l⟩ := cs
  match l, hl with
  | [c0, c1, c2], _ =>
    have hx0 := hx 0 (by decide)
    have hx1 := hx 1 (by decide)
    have hx2 := hx 2 (by decide)
    rw [List.getElem?_eq_getElem (by omega), cs3] at hx0 hx1 hx2
    obtain ⟨n0, e0, -, w0⟩ := DataW.trod_int Tryz.underlying3 hx0
    obtain ⟨n1, e1, -, w1⟩ := DataW.trod_int Tryz.underlying3 hx1
    obtain ⟨n2, e2, -, w2⟩ := DataW.trod_int Tryz.underlying3 hx2
    have e0' : [c0] = [.int .i64 n0] := e0
    have e1' : [c1] = [.int .i64 n1] := e1
    have e2' : [c2] = [.int .i64 n2] := e2
    simp only [List.cons.injEq, and_true] at e0' e1' e2'
    subst e0' e1' e2'
    exact ⟨n0, n1, n2, rfl, w0, w1, w2⟩
theorem baseNames_witness (os : Os) {H : Type} (enc : TypeId × Value → H) :
    (OpenSpec.ofChange Rows.baseNamesSpec).preRow enc Tryz.prog Tryz.f4 Rows.baseNamesRow.domain false Rows.baseNamesRow.laid ((laidWorldI os).forCall (fun _ _ => 0) ⟨#[], #[.agg #[.int .i64 0, .int .i64 0, .int .i64 0], .slice none 0 0], []⟩).memory #[.agg #[.int .i64 0, .int .i64 0, .int .i64 0], .slice none 0 0] := by
  have hw : (DataW.whole enc Tryz.prog ((laidWorldI os).forCall (fun _ _ => 0) ⟨#[], #[.agg #[.int .i64 0, .int .i64 0, .int .i64 0], .slice none 0 0], []⟩).memory Tryz.f4.params.toList (OpenSpec.ofChange Rows.baseNamesSpec).vars false #[Value.agg #[.int .i64 0, .int .i64 0, .int .i64 0], .slice none 0 0].toList 8).map (fun x => (x.1, x.2.1)) =
      some ([.agg [.lit (.int .i64 0), .lit (.int .i64 0), .lit (.int .i64 0)], .nil], []) := by kernel_rfl
  obtain ⟨⟨x1, x2, x3⟩, hx, hx1⟩ := Option.map_eq_some_iff.1 hw
  simp only [Prod.mk.injEq] at hx1
  obtain ⟨rfl, rfl⟩ := hx1
  exact OpenSpec.preRow_of_cond 8 hx (by kernel_rfl) (fun k hk => by cases hk) (by kernel_rfl) (laid_metI os _)

set_option maxRecDepth 100000 in
set_option maxHeartbeats 2000000 in
theorem baseNames_lifted (os : Os) (started : os.Started) (H : Type) (enc : TypeId × Value → H) (F : Stop.Interp) :
    ReturnsInHanded {} Tryz.checked os 4 .any ((OpenSpec.ofChange Rows.baseNamesSpec).preRow enc Tryz.prog Tryz.f4 Rows.baseNamesRow.domain false Rows.baseNamesRow.laid) (((OpenSpec.ofChange Rows.baseNamesSpec).at F).post enc Tryz.prog Tryz.f4 false true false false) := by
  refine returnsInHanded_of_row (C := Tryz.checked) (s := OpenSpec.ofChange Rows.baseNamesSpec) topOwnI started (by kernel_rfl) Tryz.func4
    (witness_row_atRef (enc := enc) (C := Tryz.checked) false (laidWorldI os) #[.agg #[.int .i64 0, .int .i64 0, .int .i64 0], .slice none 0 0] rfl (by kernel_rfl) (by kernel_rfl) (by kernel_rfl) (baseNames_witness os enc)) ?_
  intro W base args ds gs before hval0 hW _ _ hz hL hsh _
  have hval : ∀ (j : Nat) t v, Tryz.f4.params[j]? = some t → args[j]? = some v → Value.okWide Tryz.prog W .any base t v := hval0
  have hW' := hW
  obtain ⟨p, q, hA0, hV0, rfl, _, _⟩ := hW
  have hA : DataW.TrodAll enc Tryz.prog W 0 (fun _ => true) true Tryz.f4.params.toList args.toList ds p := hA0
  have hz' : (DataW.weightsEach Tryz.prog (Tryz.f4.params.toList ++ (OpenSpec.ofChange Rows.baseNamesSpec).bare.plain.varTypes Tryz.prog) (ds ++ gs)).all (· ≤ reachBytes) = true := hz
  rw [Tryz.params4] at hA hval hz'
  obtain ⟨v0, v1, d0, d1, p0, p1, rfl, rfl, rfl, h0, h1⟩ := trodAll_two hA
  obtain ⟨rfl, rfl⟩ := trodVars_none hV0
  have lt0 : ∀ x ∈ p0, x.block < W.heap.size := by obtain ⟨m, hm⟩ := h0; exact DataW.trod_lt m _ _ _ hm
  have lt1 : ∀ x ∈ p1, x.block < W.heap.size := by obtain ⟨m, hm⟩ := h1; exact DataW.trod_lt m _ _ _ hm
  have k0 := h0
  have k1 := h1
  obtain ⟨n0, n1, n2, rfl, w0, w1, w2⟩ := open_three (hval 0 28 v0 rfl rfl) h0
  obtain ⟨a1, m1, c1, rfl⟩ := okWide_slice Tryz.underlying29 (hval 1 29 v1 rfl rfl)
  have hw1 : ∀ n ∈ d1.weights Tryz.prog 29, n ≤ reachBytes := fun n hn => by
    have := List.all_eq_true.1 hz' n (DataW.weights_mem_each (j := 1) (t := 29) (d := d1) rfl rfl n hn)
    simpa using this
  obtain ⟨xs, hx⟩ : ∃ xs, RSized 96 RLayersS W W.heap.size [.slice a1 m1 c1] xs := by
    obtain ⟨fuel, hf⟩ := h1
    exact opensW_layers.out hf lt1 hw1
  clear hA0 hV0 hval0
  refine (law31_names_any n0 n1 n2 a1 m1 c1 xs W w0 w1 w2 hx.1 (tabs_ofI hL hsh)).mono ?_
  rintro e W' ⟨rfl, bel⟩
  exact ⟨_, rfl, _, _, _, [], _, [], hW', trodAll_mk1 (shut_bool Tryz.underlying4 _), (trodAll_cons_mk (Below.trod laidOutI (by kernel_rfl) (of_decide_eq_true (by kernel_rfl)) k0 bel lt0) (trodAll_mk1 (Below.trod laidOutI (by kernel_rfl) (of_decide_eq_true (by kernel_rfl)) k1 bel lt1))), rfl, bel.frame _, fun h => by cases h⟩

theorem baseNames_row_holds : Rows.BaseNamesSaid :=
  OpenClaim.holds_of_cond 4 Tryz.f4 rfl rfl rfl rfl rfl rfl rfl ⟨rfl, rfl, rfl, rfl, rfl⟩ rfl rfl rfl rfl rfl (by kernel_rfl) Tryz.func4 (by kernel_rfl)
    (of_decide_eq_true (by kernel_rfl)) (by unfold Func.isWrapper; first | (rw [if_pos (by decide +kernel)]; kernel_rfl) | (rw [if_neg (by decide +kernel)]; exact ⟨rfl, rfl⟩))
    (fun os started H enc _ F0 => by rw [OpenClaim.pre_eq_preRow]; exact baseNames_lifted os started H enc F0)

theorem baseNames_holds : Rows.BaseNamesCardSaid :=
  Claim7.holds_tied_plain_at .later [] [.data, .data, .data, .data, .sentinel, .sentinel, .pinned] true Rows.baseNamesCard.stood.harness true
    baseNames_row_holds (fun _ h => by cases h) (by kernel_rfl) (fun _ h => by cases h) baseNames_row_tie rfl ⟨rfl, rfl⟩ (by kernel_rfl) rfl
    (fun f fn hf hfn => by
      obtain rfl : f = 4 := Option.some.inj ((show Tryz.prog.funcNamed "cooperage/cooperagelaw31.BaseNames" = some 4 by kernel_rfl).symm.trans hf) |>.symm
      obtain rfl : fn = Tryz.f4 := (Option.some.inj (Tryz.func4.symm.trans hfn)).symm
      exact ⟨by kernel_rfl, fun j t ht => by
        rw [Tryz.params4] at ht
        have h3 : t = 28 ∨ t = 29 := by
          rcases j with _ | j
          · exact .inl (by simpa using ht.symm)
          · rcases j with _ | j
            · exact .inr (by simpa using ht.symm)
            · simp at ht
        rcases h3 with rfl | rfl
        · exact (show Tryz.prog.wantsStandIn 28 = false by kernel_rfl)
        · exact (show Tryz.prog.wantsStandIn 29 = false by kernel_rfl)⟩)
    (by kernel_rfl)
#print axioms baseNames_holds
end Go.Proofs.YtjldgieffkemlaaGreatDoor
