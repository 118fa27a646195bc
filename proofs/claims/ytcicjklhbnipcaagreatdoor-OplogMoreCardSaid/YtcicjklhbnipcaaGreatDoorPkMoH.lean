/-
  OplogMore: of two cuts the one that keeps more has done what the other one has, whatever is done ahead.
  Conditions: none beyond the card's own: the two listed tables lie as the program's text lays them.
-/
import Derived.Test.YtcicjklhbnipcaaGreatDoorPkMoG
namespace Go.Proofs.YtcicjklhbnipcaaGreatDoor
set_option linter.unusedVariables false
set_option linter.unusedSimpArgs false
open Go.Shelf
open Go.ChangeShapes Go.WideShapes Go.ChangeAt Go.RowKit
open Go.Lib hiding intOf

theorem oplogMore_witness (os : Os) {H : Type} (enc : TypeId × Value → H) :
    (OpenSpec.ofChange Rows.oplogMoreSpec).preRow enc Tryz.prog Tryz.f7 Rows.oplogMoreRow.domain false Rows.oplogMoreRow.laid ((laidWorldF os).forCall (fun _ _ => 0) ⟨#[], #[.slice none 0 0, .int .u8 0], []⟩).memory #[.slice none 0 0, .int .u8 0] := by
  have hw : (DataW.whole enc Tryz.prog ((laidWorldF os).forCall (fun _ _ => 0) ⟨#[], #[.slice none 0 0, .int .u8 0], []⟩).memory Tryz.f7.params.toList (OpenSpec.ofChange Rows.oplogMoreSpec).vars false #[Value.slice none 0 0, .int .u8 0].toList 8).map (fun x => (x.1, x.2.1)) =
      some ([.nil, .lit (.int .u8 0)], []) := by kernel_rfl
  obtain ⟨⟨x1, x2, x3⟩, hx, hx1⟩ := Option.map_eq_some_iff.1 hw
  simp only [Prod.mk.injEq] at hx1
  obtain ⟨rfl, rfl⟩ := hx1
  exact OpenSpec.preRow_of_cond 8 hx (by kernel_rfl) (fun k hk => by cases hk) (by kernel_rfl) (laid_metF os _)

set_option maxRecDepth 100000 in
set_option maxHeartbeats 2000000 in
theorem oplogMore_lifted (os : Os) (started : os.Started) (H : Type) (enc : TypeId × Value → H) (F : Stop.Interp) :
    ReturnsInHanded {} Tryz.checked os 7 .any ((OpenSpec.ofChange Rows.oplogMoreSpec).preRow enc Tryz.prog Tryz.f7 Rows.oplogMoreRow.domain false Rows.oplogMoreRow.laid) (((OpenSpec.ofChange Rows.oplogMoreSpec).at F).post enc Tryz.prog Tryz.f7 false true false false) := by
  refine returnsInHanded_of_row (C := Tryz.checked) (s := OpenSpec.ofChange Rows.oplogMoreSpec) topOwn started (by kernel_rfl) Tryz.func7
    (witness_row_atRef (enc := enc) (C := Tryz.checked) false (laidWorldF os) #[.slice none 0 0, .int .u8 0] rfl (by kernel_rfl) (by kernel_rfl) (by kernel_rfl) (oplogMore_witness os enc)) ?_
  intro W base args ds gs before hval0 hW _ _ _ hL hsh _
  have hval : ∀ (j : Nat) t v, Tryz.f7.params[j]? = some t → args[j]? = some v → Value.okWide Tryz.prog W .any base t v := hval0
  have hW' := hW
  obtain ⟨p, q, hA0, hV0, rfl, _, _⟩ := hW
  have hA : DataW.TrodAll enc Tryz.prog W 0 (fun _ => true) true Tryz.f7.params.toList args.toList ds p := hA0
  rw [Tryz.params7] at hA hval
  obtain ⟨v0, vs0, d0, ds0, p0, q0, hargs, rfl, rfl, h0, r0⟩ := trodAll_cons hA
  obtain ⟨v1, vs1, d1, ds1, p1, q1, rfl, rfl, rfl, h1, r1⟩ := trodAll_cons r0
  obtain ⟨rfl, rfl, rfl⟩ := trodAll_nil r1
  obtain rfl : args = #[v0, v1] := by cases args; simp_all
  obtain ⟨rfl, rfl⟩ := trodVars_none hV0
  clear hA0 hval0
  obtain ⟨a0, n0, c0, rfl⟩ := okWide_slice Tryz.underlying53 (hval 0 53 v0 rfl rfl)
  obtain ⟨xs0, hx0⟩ := opened opens_actOs h0 rfl
  obtain ⟨i1, rfl⟩ := okWide_int Tryz.underlying5 (hval 1 5 v1 rfl rfl)
  obtain ⟨i1', hi1, hw1⟩ := opened (R := RInt .u8) (opens_int Tryz.underlying5) h1 rfl
  obtain rfl : i1 = i1' := by simpa using hi1
  refine (oplogMore_walk a0 n0 c0 xs0 i1 W hx0 hw1 (mx_of hsh)).mono fun e W' ⟨he, bel⟩ => ?_
  subst he
  exact ⟨_, rfl, _, _, _, [], _, [], hW', trodAll_mk1 (shut_bool Tryz.underlying4 _), (trodAll_cons_mk (Below.trod topLaid (by kernel_rfl) (of_decide_eq_true (by kernel_rfl)) h0 bel (trod_lt_of h0)) (trodAll_cons_mk (Below.trod topLaid (by kernel_rfl) (of_decide_eq_true (by kernel_rfl)) h1 bel (trod_lt_of h1)) trodAll_mk0)), rfl, bel.frame _, fun h => by cases h⟩

set_option maxRecDepth 100000 in
set_option maxHeartbeats 8000000 in
theorem oplogMore_facts : joinedFacts Tryz.prog 7 Tryz.f7 (OpenSpec.ofChange Rows.oplogMoreSpec).bare Rows.oplogMoreRow = true := by
  unfold joinedFacts
  repeat' (with_reducible refine band ?_ ?_)
  all_goals (as_aux_lemma => kernel_rfl)
theorem oplogMore_row_holds : Rows.OplogMoreSaid :=
  OpenClaim.holds_of_cond 7 Tryz.f7 rfl rfl rfl rfl rfl rfl rfl ⟨rfl, rfl, rfl, rfl, rfl⟩ rfl rfl rfl rfl rfl (by kernel_rfl) Tryz.func7 oplogMore_facts
    (of_decide_eq_true (by kernel_rfl)) (by unfold Func.isWrapper; first | (rw [if_pos (by decide +kernel)]; kernel_rfl) | (rw [if_neg (by decide +kernel)]; exact ⟨rfl, rfl⟩))
    (fun os started H enc _ F0 => by rw [OpenClaim.pre_eq_preRow]; exact oplogMore_lifted os started H enc F0)

theorem oplogMore_holds : Rows.OplogMoreCardSaid :=
  Claim7.holds_tied_plain_at .later [] [.data, .pinned] true Rows.oplogMoreCard.stood.harness true
    oplogMore_row_holds (fun _ h => by cases h) (by kernel_rfl) (fun _ h => by cases h) oplogMore_row_tie rfl ⟨rfl, rfl⟩ (by kernel_rfl) rfl
    (fun f fn hf hfn => by
      obtain rfl : f = 7 := Option.some.inj ((show Tryz.prog.funcNamed "cooperage/cooperagelaw10.OplogMore" = some 7 by kernel_rfl).symm.trans hf) |>.symm
      obtain rfl : fn = Tryz.f7 := (Option.some.inj (Tryz.func7.symm.trans hfn)).symm
      exact ⟨by kernel_rfl, fun j t ht => by
        rw [Tryz.params7] at ht
        have h3 : t = 53 ∨ t = 5 := by
          rcases j with _ | j
          · exact (.inl (by simpa using ht.symm))
          · rcases j with _ | j
            · exact (.inr (by simpa using ht.symm))
            · simp at ht
        rcases h3 with rfl | rfl
        · exact (show Tryz.prog.wantsStandIn 53 = false by kernel_rfl)
        · exact (show Tryz.prog.wantsStandIn 5 = false by kernel_rfl)⟩)
    (by kernel_rfl)
#print axioms oplogMore_holds
end Go.Proofs.YtcicjklhbnipcaaGreatDoor
