/-
  QuoteLimit: a text of just as many bytes as may be is quoted; one more is too many.
  Conditions: none beyond the card's own: the two listed tables lie as the program's text lays them.
-/
import Derived.Test.YtlniiaopindjnaaDoorQuoT
import Derived.Test.YtlniiaopindjnaaDoorLimW
namespace Go.Proofs.YtlniiaopindjnaaDoor
set_option linter.unusedVariables false
open Go.Shelf
open Go.ChangeShapes Go.WideShapes Go.ChangeAt Go.RowKit
open Go.Lib hiding intOf
open Go.ChangeMaps (open_string shut_string)

theorem quoteLimit_witness (os : Os) {H : Type} (enc : TypeId × Value → H) :
    (OpenSpec.ofChange Rows.quoteLimitSpec).preRow enc Tryd.prog Tryd.f6 Rows.quoteLimitRow.domain false Rows.quoteLimitRow.laid ((laidWorld os).forCall (fun _ _ => 0) ⟨#[], #[.bool false], []⟩).memory #[.bool false] := by
  have hw : (DataW.whole enc Tryd.prog ((laidWorld os).forCall (fun _ _ => 0) ⟨#[], #[.bool false], []⟩).memory Tryd.f6.params.toList (OpenSpec.ofChange Rows.quoteLimitSpec).vars false #[Value.bool false].toList 8).map (fun x => (x.1, x.2.1)) =
      some ([.lit (.bool false)], []) := by kernel_rfl
  obtain ⟨⟨x1, x2, x3⟩, hx, hx1⟩ := Option.map_eq_some_iff.1 hw
  simp only [Prod.mk.injEq] at hx1
  obtain ⟨rfl, rfl⟩ := hx1
  exact OpenSpec.preRow_of_cond 8 hx (by kernel_rfl) (fun k hk => by cases hk) (by kernel_rfl) (laid_met os _)

set_option maxRecDepth 100000 in
set_option maxHeartbeats 2000000 in
theorem quoteLimit_lifted (os : Os) (started : os.Started) (H : Type) (enc : TypeId × Value → H) (F : Stop.Interp) :
    ReturnsInHanded {} Tryd.checked os 6 .any ((OpenSpec.ofChange Rows.quoteLimitSpec).preRow enc Tryd.prog Tryd.f6 Rows.quoteLimitRow.domain false Rows.quoteLimitRow.laid) (((OpenSpec.ofChange Rows.quoteLimitSpec).at F).post enc Tryd.prog Tryd.f6 false true false false) := by
  refine returnsInHanded_of_row (C := Tryd.checked) (s := OpenSpec.ofChange Rows.quoteLimitSpec) topOwn started (by kernel_rfl) Tryd.func6
    (witness_row_atRef (enc := enc) (C := Tryd.checked) false (laidWorld os) #[.bool false] rfl (by kernel_rfl) (by kernel_rfl) (by kernel_rfl) (quoteLimit_witness os enc)) ?_
  intro W base args ds gs before hval0 hW _ _ _ hL _ _
  have hval : ∀ (j : Nat) t v, Tryd.f6.params[j]? = some t → args[j]? = some v → Value.okWide Tryd.prog W .any base t v := hval0
  have hW' := hW
  obtain ⟨p, q, hA0, hV0, rfl, _, _⟩ := hW
  have hA : DataW.TrodAll enc Tryd.prog W 0 (fun _ => true) true Tryd.f6.params.toList args.toList ds p := hA0
  rw [Tryd.params6] at hA hval
  obtain ⟨v0, d0, rfl, rfl, h0⟩ := trodAll_one hA
  obtain ⟨rfl, rfl⟩ := trodVars_none hV0
  obtain ⟨s0, rfl, rfl, rfl⟩ := Go.RowKit.open_bool Tryd.underlying4 (hval 0 4 v0 rfl rfl) h0
  clear hA0 hV0 hval0
  refine (quoteLimit_walk s0 W (tabs_of hL)).mono ?_
  rintro e W' ⟨rfl, bel⟩
  refine ⟨_, rfl, _, _, _, [], [], [], hW', ?_, ?_, ?_, bel.frame _, fun h => by cases h⟩
  · exact trodAll_mk1 (shut_bool Tryd.underlying4 _)
  · exact trodAll_mk1 (shut_bool Tryd.underlying4 s0)
  · rfl

theorem quoteLimit_row_holds : Rows.QuoteLimitSaid :=
  OpenClaim.holds_of_cond 6 Tryd.f6 rfl rfl rfl rfl rfl rfl rfl ⟨rfl, rfl, rfl, rfl, rfl⟩ rfl rfl rfl rfl rfl (by kernel_rfl) Tryd.func6 (by kernel_rfl)
    (of_decide_eq_true (by kernel_rfl)) (by unfold Func.isWrapper; first | (rw [if_pos (by decide +kernel)]; kernel_rfl) | (rw [if_neg (by decide +kernel)]; exact ⟨rfl, rfl⟩))
    (fun os started H enc _ F0 => by rw [OpenClaim.pre_eq_preRow]; exact quoteLimit_lifted os started H enc F0)

theorem quoteLimit_holds : Rows.QuoteLimitCardSaid :=
  Claim7.holds_tied_plain_at .later [] [.data, .pinned] true Rows.quoteLimitCard.stood.harness false
    quoteLimit_row_holds (fun _ h => by cases h) (by kernel_rfl) (fun _ h => by cases h) quoteLimit_row_tie rfl ⟨rfl, rfl⟩ (by kernel_rfl) rfl
    (fun f fn hf hfn => by
      obtain rfl : f = 6 := Option.some.inj ((show Tryd.prog.funcNamed "cooperage/cooperagelaw04.QuoteLimit" = some 6 by kernel_rfl).symm.trans hf) |>.symm
      obtain rfl : fn = Tryd.f6 := (Option.some.inj (Tryd.func6.symm.trans hfn)).symm
      exact ⟨by kernel_rfl, fun j t ht => by
        rw [Tryd.params6] at ht
        have h3 : t = 4 := by
          rcases j with _ | j
          · simpa using ht.symm
          · simp at ht
        subst h3
        exact (show Tryd.prog.wantsStandIn 4 = false by kernel_rfl)⟩)
    (by kernel_rfl)
#print axioms quoteLimit_holds
end Go.Proofs.YtlniiaopindjnaaDoor
