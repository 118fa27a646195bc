/-
  HistoryIs: whether any report may be, which calls are ahead of any one, and its lines.
  Conditions: none beyond the card's own: the three listed tables lie as the program's text lays them.
-/
import Derived.Test.YtlniiaopindjnaaDoorHisIw
import Derived.Test.YtlniiaopindjnaaDoorHisTp
import Derived.OpenShut
import Derived.ChangeOld
namespace Go.Proofs.YtlniiaopindjnaaDoor
set_option linter.unusedVariables false
open Go.Shelf
open Go.ChangeShapes Go.WideShapes Go.ChangeAt Go.RowKit
open Go.Lib hiding intOf

theorem report_form {cs : Array Value} {W : World} {B : Nat} {r : ReportD} (h : RReport W B cs.toList r) : ∃ ea en ec pa pn pc, cs = #[.slice ea en ec, .slice pa pn pc] ∧ REvents W B [.slice ea en ec] r.events ∧ RInts W B [.slice pa pn pc] r.powers := by
  obtain ⟨ev, pw, he, h1, h2⟩ := h
  obtain ⟨ea, ec, rfl⟩ := slice_form h1
  obtain ⟨pa, pc, rfl⟩ := slice_form h2
  exact ⟨_, _, _, _, _, _, by obtain ⟨l⟩ := cs; simp at he; rw [he], h1, h2⟩
theorem historyIs_witness (os : Os) {H : Type} (enc : TypeId × Value → H) :
    (OpenSpec.ofChange Rows.historyIsSpec).preRow enc Tryd.prog Tryd.f8 Rows.historyIsRow.domain false Rows.historyIsRow.laid ((laidWorldH os).forCall (fun _ _ => 0) ⟨#[], #[.agg #[.slice none 0 0, .slice none 0 0], .int .i64 0], []⟩).memory #[.agg #[.slice none 0 0, .slice none 0 0], .int .i64 0] := by
  have hw : (DataW.whole enc Tryd.prog ((laidWorldH os).forCall (fun _ _ => 0) ⟨#[], #[.agg #[.slice none 0 0, .slice none 0 0], .int .i64 0], []⟩).memory Tryd.f8.params.toList (OpenSpec.ofChange Rows.historyIsSpec).vars false #[Value.agg #[.slice none 0 0, .slice none 0 0], .int .i64 0].toList 8).map (fun x => (x.1, x.2.1)) =
      some ([.agg [.nil, .nil], .lit (.int .i64 0)], []) := by kernel_rfl
  obtain ⟨⟨x1, x2, x3⟩, hx, hx1⟩ := Option.map_eq_some_iff.1 hw
  simp only [Prod.mk.injEq] at hx1
  obtain ⟨rfl, rfl⟩ := hx1
  exact OpenSpec.preRow_of_cond 8 hx (by kernel_rfl) (fun k hk => by cases hk) (by kernel_rfl) (laid_metH os _)

set_option maxRecDepth 100000 in
set_option maxHeartbeats 2000000 in
theorem historyIs_lifted (os : Os) (started : os.Started) (H : Type) (enc : TypeId × Value → H) (F : Stop.Interp) :
    ReturnsInHanded {} Tryd.checked os 8 .any ((OpenSpec.ofChange Rows.historyIsSpec).preRow enc Tryd.prog Tryd.f8 Rows.historyIsRow.domain false Rows.historyIsRow.laid) (((OpenSpec.ofChange Rows.historyIsSpec).at F).post enc Tryd.prog Tryd.f8 false true false false) := by
  refine returnsInHanded_of_row (C := Tryd.checked) (s := OpenSpec.ofChange Rows.historyIsSpec) topOwnH started (by kernel_rfl) Tryd.func8
    (witness_row_atRef (enc := enc) (C := Tryd.checked) false (laidWorldH os) #[.agg #[.slice none 0 0, .slice none 0 0], .int .i64 0] rfl (by kernel_rfl) (by kernel_rfl) (by kernel_rfl) (historyIs_witness os enc)) ?_
  intro W base args ds gs before hval0 hW _ _ _ hL _ _
  have hval : ∀ (j : Nat) t v, Tryd.f8.params[j]? = some t → args[j]? = some v → Value.okWide Tryd.prog W .any base t v := hval0
  have hW' := hW
  obtain ⟨p, q, hA0, hV0, rfl, _, _⟩ := hW
  have hA : DataW.TrodAll enc Tryd.prog W 0 (fun _ => true) true Tryd.f8.params.toList args.toList ds p := hA0
  rw [Tryd.params8] at hA hval
  obtain ⟨v0, v1, d0, d1, p0, p1, rfl, rfl, rfl, h0, h1⟩ := trodAll_two hA
  obtain ⟨rfl, rfl⟩ := trodVars_none hV0
  have k0 := h0
  have lt0 : ∀ x ∈ p0, x.block < W.heap.size := by obtain ⟨m, hm⟩ := k0; exact DataW.trod_lt m _ _ _ hm
  obtain ⟨cs, rfl, -⟩ := okWide_struct Tryd.underlying34 (hval 0 34 v0 rfl rfl)
  obtain ⟨r, hr⟩ : ∃ r, RReport W W.heap.size cs.toList r := by
    obtain ⟨fuel, hf⟩ := h0
    exact opens_report.out hf lt0
  obtain ⟨ea, en, ec, pa, pn, pc, rfl, he, hp⟩ := report_form hr
  obtain ⟨a, rfl, rfl, rfl, wa⟩ := open_int Tryd.underlying3 (hval 1 3 v1 rfl rfl) h1
  clear hA0 hV0 hval0
  refine (historyIs_walk ea pa en ec pn pc a r W he hp (pow_of hL)).mono ?_
  rintro e W' ⟨rfl, bel⟩
  exact ⟨_, rfl, _, _, _, [], _, [], hW', trodAll_mk1 (shut_bool Tryd.underlying4 _), (trodAll_cons_mk (Below.trod laidOutH (by kernel_rfl) (of_decide_eq_true (by kernel_rfl)) k0 bel lt0) (trodAll_mk1 (shut_int Tryd.underlying3 wa))), rfl, bel.frame _, fun h => by cases h⟩

theorem historyIs_row_holds : Rows.HistoryIsSaid :=
  OpenClaim.holds_of_cond 8 Tryd.f8 rfl rfl rfl rfl rfl rfl rfl ⟨rfl, rfl, rfl, rfl, rfl⟩ rfl rfl rfl rfl rfl (by kernel_rfl) Tryd.func8 (by kernel_rfl)
    (of_decide_eq_true (by kernel_rfl)) (by unfold Func.isWrapper; first | (rw [if_pos (by decide +kernel)]; kernel_rfl) | (rw [if_neg (by decide +kernel)]; exact ⟨rfl, rfl⟩))
    (fun os started H enc _ F0 => by rw [OpenClaim.pre_eq_preRow]; exact historyIs_lifted os started H enc F0)

theorem historyIs_holds : Rows.HistoryIsCardSaid :=
  Claim7.holds_tied_plain_at .later [] [.data, .data, .data] true Rows.historyIsCard.stood.harness false
    historyIs_row_holds (fun _ h => by cases h) (by kernel_rfl) (fun _ h => by cases h) historyIs_row_tie rfl ⟨rfl, rfl⟩ (by kernel_rfl) rfl
    (fun f fn hf hfn => by
      obtain rfl : f = 8 := Option.some.inj ((show Tryd.prog.funcNamed "cooperage/cooperagelaw35.HistoryIs" = some 8 by kernel_rfl).symm.trans hf) |>.symm
      obtain rfl : fn = Tryd.f8 := (Option.some.inj (Tryd.func8.symm.trans hfn)).symm
      exact ⟨by kernel_rfl, fun j t ht => by
        rw [Tryd.params8] at ht
        have h3 : t = 34 ∨ t = 3 := by
          rcases j with _ | j
          · exact .inl (by simpa using ht.symm)
          · rcases j with _ | j
            · exact .inr (by simpa using ht.symm)
            · simp at ht
        rcases h3 with rfl | rfl
        · exact (show Tryd.prog.wantsStandIn 34 = false by kernel_rfl)
        · exact (show Tryd.prog.wantsStandIn 3 = false by kernel_rfl)⟩)
    (by kernel_rfl)
#print axioms historyIs_holds
end Go.Proofs.YtlniiaopindjnaaDoor
