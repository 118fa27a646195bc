/-
  HistoryOrder: whatever report is asked of, and whichever calls: before is a strict order.
  Conditions: none beyond the card's own: the three listed tables lie as the program's text lays them.
-/
import Derived.Test.YtlniiaopindjnaaDoorHisM
import Derived.Test.YtlniiaopindjnaaDoorHisTp
import Derived.Laws.IdiomArrays
import Derived.OpenShut
import Derived.ChangeOld
namespace Go.Proofs.YtlniiaopindjnaaDoor
set_option linter.unusedVariables false
open Go.Shelf
open Go.ChangeShapes Go.WideShapes Go.ChangeAt Go.RowKit
open Go.Lib hiding intOf

theorem historyOrder_walk (ea pa : Option Addr) (en ec pn pc : Nat) (r : ReportD) (p q s : Nat) (w : World) (h : REvents w w.heap.size [.slice ea en ec] r.events) (hp : RInts w w.heap.size [.slice pa pn pc] r.powers) (ht : Pow w)
    (hlp : p < 256) (hlq : q < 256) (hls : s < 256) :
    Calls Tryd.prog 7 #[.agg #[.slice ea en ec, .slice pa pn pc], .agg #[.int .u8 p, .int .u8 q, .int .u8 s]] w fun e w' => e = .returned (.bool true) ∧ Below w.heap.size w w' := by
  cases hck : Hi.check r with
  | false => exact historyOrder_early ea pa en ec pn pc r p q s w h hp ht 1 (by rw [hck]; rfl) (.inl rfl)
  | true =>
    by_cases h0 : r.events.length = 0
    · exact historyOrder_early ea pa en ec pn pc r p q s w h hp ht 0 (by rw [hck]; rfl) (.inr ⟨rfl, h0⟩)
    · exact historyOrder_main ea pa en ec pn pc r p q s w h hp ht hck (by omega) hlp hlq hls

theorem report_form {cs : Array Value} {W : World} {B : Nat} {r : ReportD} (h : RReport W B cs.toList r) : ∃ ea en ec pa pn pc, cs = #[.slice ea en ec, .slice pa pn pc] ∧ REvents W B [.slice ea en ec] r.events ∧ RInts W B [.slice pa pn pc] r.powers := by
  obtain ⟨ev, pw, he, h1, h2⟩ := h
  obtain ⟨ea, ec, rfl⟩ := slice_form h1
  obtain ⟨pa, pc, rfl⟩ := slice_form h2
  exact ⟨_, _, _, _, _, _, by obtain ⟨l⟩ := cs; simp at he; rw [he], h1, h2⟩
theorem u8_nat {c : Value} {H : Type} {enc : TypeId × Value → H} {W : World} {sp : Nat → Bool} {held : Bool} {n : Nat} {y : DataW H × List MemPlace} (h : DataW.trod enc Tryd.prog W 0 sp held n 5 [c] = some y) : ∃ p : Nat, p < 256 ∧ c = .int .u8 (p : Int) := by
  obtain ⟨v, hv, _, wf⟩ := DataW.trod_int Tryd.underlying5 h
  injection hv with hv
  subst hv
  simp [Lit.wf, IntKind.min, IntKind.max, IntKind.signed, IntKind.bits] at wf
  obtain ⟨m, rfl⟩ := Int.eq_ofNat_of_zero_le wf.1
  exact ⟨m, by omega, rfl⟩
set_option maxRecDepth 100000 in
theorem three_form {H : Type} {enc : TypeId × Value → H} {W : World} {sp : Nat → Bool} {held : Bool} {b0 : Nat} {v : Value} {d : DataW H} {ps : List MemPlace} (hv : Value.okWide Tryd.prog W .any b0 35 v) (h : DataW.Trod enc Tryd.prog W 0 sp held 35 v d ps) :
    ∃ p q s : Nat, p < 256 ∧ q < 256 ∧ s < 256 ∧ v = .agg #[.int .u8 p, .int .u8 q, .int .u8 s] := by
  simp only [Value.okWide, Tryd.underlying35] at hv
  obtain ⟨cs, rfl, hsz, _⟩ := hv
  rw [show Tryd.prog.cellsOf 35 = 3 from by kernel_rfl] at hsz
  obtain ⟨c0, c1, c2, rfl⟩ : ∃ c0 c1 c2, cs = #[c0, c1, c2] := by
    obtain ⟨l⟩ := cs
    match l, hsz with
    | [c0, c1, c2], _ => exact ⟨c0, c1, c2, rfl⟩
  obtain ⟨fuel, hf⟩ := h
  obtain ⟨y0, y1, y2, n, _, h0, h1, h2⟩ := trod_array3 Tryd.underlying35 (by kernel_rfl) hf
  obtain ⟨p, hp, rfl⟩ := u8_nat h0
  obtain ⟨q, hq, rfl⟩ := u8_nat h1
  obtain ⟨s, hs, rfl⟩ := u8_nat h2
  exact ⟨p, q, s, hp, hq, hs, rfl⟩

theorem historyOrder_witness (os : Os) {H : Type} (enc : TypeId × Value → H) :
    (OpenSpec.ofChange Rows.historyOrderSpec).preRow enc Tryd.prog Tryd.f7 Rows.historyOrderRow.domain false Rows.historyOrderRow.laid ((laidWorldH os).forCall (fun _ _ => 0) ⟨#[], #[.agg #[.slice none 0 0, .slice none 0 0], .agg #[.int .u8 0, .int .u8 0, .int .u8 0]], []⟩).memory #[.agg #[.slice none 0 0, .slice none 0 0], .agg #[.int .u8 0, .int .u8 0, .int .u8 0]] := by
  have hw : (DataW.whole enc Tryd.prog ((laidWorldH os).forCall (fun _ _ => 0) ⟨#[], #[.agg #[.slice none 0 0, .slice none 0 0], .agg #[.int .u8 0, .int .u8 0, .int .u8 0]], []⟩).memory Tryd.f7.params.toList (OpenSpec.ofChange Rows.historyOrderSpec).vars false #[Value.agg #[.slice none 0 0, .slice none 0 0], .agg #[.int .u8 0, .int .u8 0, .int .u8 0]].toList 8).map (fun x => (x.1, x.2.1)) =
      some ([.agg [.nil, .nil], .agg [.lit (.int .u8 0), .lit (.int .u8 0), .lit (.int .u8 0)]], []) := by kernel_rfl
  obtain ⟨⟨x1, x2, x3⟩, hx, hx1⟩ := Option.map_eq_some_iff.1 hw
  simp only [Prod.mk.injEq] at hx1
  obtain ⟨rfl, rfl⟩ := hx1
  exact OpenSpec.preRow_of_cond 8 hx (by kernel_rfl) (fun k hk => by cases hk) (by kernel_rfl) (laid_metH os _)

set_option maxRecDepth 100000 in
set_option maxHeartbeats 2000000 in
theorem historyOrder_lifted (os : Os) (started : os.Started) (H : Type) (enc : TypeId × Value → H) (F : Stop.Interp) :
    ReturnsInHanded {} Tryd.checked os 7 .any ((OpenSpec.ofChange Rows.historyOrderSpec).preRow enc Tryd.prog Tryd.f7 Rows.historyOrderRow.domain false Rows.historyOrderRow.laid) (((OpenSpec.ofChange Rows.historyOrderSpec).at F).post enc Tryd.prog Tryd.f7 false true false false) := by
  refine returnsInHanded_of_row (C := Tryd.checked) (s := OpenSpec.ofChange Rows.historyOrderSpec) topOwnH started (by kernel_rfl) Tryd.func7
    (witness_row_atRef (enc := enc) (C := Tryd.checked) false (laidWorldH os) #[.agg #[.slice none 0 0, .slice none 0 0], .agg #[.int .u8 0, .int .u8 0, .int .u8 0]] rfl (by kernel_rfl) (by kernel_rfl) (by kernel_rfl) (historyOrder_witness os enc)) ?_
  intro W base args ds gs before hval0 hW _ _ _ hL _ _
  have hval : ∀ (j : Nat) t v, Tryd.f7.params[j]? = some t → args[j]? = some v → Value.okWide Tryd.prog W .any base t v := hval0
  have hW' := hW
  obtain ⟨p, q, hA0, hV0, rfl, _, _⟩ := hW
  have hA : DataW.TrodAll enc Tryd.prog W 0 (fun _ => true) true Tryd.f7.params.toList args.toList ds p := hA0
  rw [Tryd.params7] at hA hval
  obtain ⟨v0, v1, d0, d1, p0, p1, rfl, rfl, rfl, h0, h1⟩ := trodAll_two hA
  obtain ⟨rfl, rfl⟩ := trodVars_none hV0
  have k0 := h0
  have k1 := h1
  have lt0 : ∀ x ∈ p0, x.block < W.heap.size := by obtain ⟨m, hm⟩ := k0; exact DataW.trod_lt m _ _ _ hm
  have lt1 : ∀ x ∈ p1, x.block < W.heap.size := by obtain ⟨m, hm⟩ := k1; exact DataW.trod_lt m _ _ _ hm
  obtain ⟨cs, rfl, -⟩ := okWide_struct Tryd.underlying34 (hval 0 34 v0 rfl rfl)
  obtain ⟨r, hr⟩ : ∃ r, RReport W W.heap.size cs.toList r := by
    obtain ⟨fuel, hf⟩ := h0
    exact opens_report.out hf lt0
  obtain ⟨ea, en, ec, pa, pn, pc, rfl, he, hp⟩ := report_form hr
  obtain ⟨a, b, c, ha, hb, hc, rfl⟩ := three_form (hval 1 35 v1 rfl rfl) h1
  clear hA0 hV0 hval0
  refine (historyOrder_walk ea pa en ec pn pc r a b c W he hp (pow_of hL) ha hb hc).mono ?_
  rintro e W' ⟨rfl, bel⟩
  exact ⟨_, rfl, _, _, _, [], _, [], hW', trodAll_mk1 (shut_bool Tryd.underlying4 _), (trodAll_cons_mk (Below.trod laidOutH (by kernel_rfl) (of_decide_eq_true (by kernel_rfl)) k0 bel lt0) (trodAll_mk1 (Below.trod laidOutH (by kernel_rfl) (of_decide_eq_true (by kernel_rfl)) k1 bel lt1))), rfl, bel.frame _, fun h => by cases h⟩

theorem historyOrder_row_holds : Rows.HistoryOrderSaid :=
  OpenClaim.holds_of_cond 7 Tryd.f7 rfl rfl rfl rfl rfl rfl rfl ⟨rfl, rfl, rfl, rfl, rfl⟩ rfl rfl rfl rfl rfl (by kernel_rfl) Tryd.func7 (by kernel_rfl)
    (of_decide_eq_true (by kernel_rfl)) (by unfold Func.isWrapper; first | (rw [if_pos (by decide +kernel)]; kernel_rfl) | (rw [if_neg (by decide +kernel)]; exact ⟨rfl, rfl⟩))
    (fun os started H enc _ F0 => by rw [OpenClaim.pre_eq_preRow]; exact historyOrder_lifted os started H enc F0)

theorem historyOrder_holds : Rows.HistoryOrderCardSaid :=
  Claim7.holds_tied_plain_at .later [] [.data, .data, .data] true Rows.historyOrderCard.stood.harness false
    historyOrder_row_holds (fun _ h => by cases h) (by kernel_rfl) (fun _ h => by cases h) historyOrder_row_tie rfl ⟨rfl, rfl⟩ (by kernel_rfl) rfl
    (fun f fn hf hfn => by
      obtain rfl : f = 7 := Option.some.inj ((show Tryd.prog.funcNamed "cooperage/cooperagelaw35.HistoryOrder" = some 7 by kernel_rfl).symm.trans hf) |>.symm
      obtain rfl : fn = Tryd.f7 := (Option.some.inj (Tryd.func7.symm.trans hfn)).symm
      exact ⟨by kernel_rfl, fun j t ht => by
        rw [Tryd.params7] at ht
        have h3 : t = 34 ∨ t = 35 := by
          rcases j with _ | j
          · exact .inl (by simpa using ht.symm)
          · rcases j with _ | j
            · exact .inr (by simpa using ht.symm)
            · simp at ht
        rcases h3 with rfl | rfl
        · exact (show Tryd.prog.wantsStandIn 34 = false by kernel_rfl)
        · exact (show Tryd.prog.wantsStandIn 35 = false by kernel_rfl)⟩)
    (by kernel_rfl)
#print axioms historyOrder_holds
end Go.Proofs.YtlniiaopindjnaaDoor
