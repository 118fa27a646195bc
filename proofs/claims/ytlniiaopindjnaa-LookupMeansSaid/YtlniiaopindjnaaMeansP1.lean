/-
  LookupMeans: for every input the call returns true, and each argument reads afterwards as it read before.
  No condition: any list of records that can be read, any number.
-/
import Derived.Test.YtlniiaopindjnaaTop
import Derived.Test.YtlniiaopindjnaaMeansL
namespace Go.Proofs.Ytlniiaopindjnaa
set_option linter.unusedVariables false
open Go.ChangeShapes Go.WideShapes Go.ChangeAt Go.RowKit

set_option maxRecDepth 100000 in
theorem lookupMeans_lifted (os : Os) (started : os.Started) (H : Type) (enc : TypeId × Value → H) :
    ReturnsInHanded {} Try.checked os 5 .any (Rows.lookupMeansSpec.pre6 enc Try.prog Try.f5 Rows.lookupMeansRow.domain false) (Rows.lookupMeansSpec.post enc Try.prog Try.f5 false true false false) := by
  refine returnsInHanded_of_change (C := Try.checked) topOwn started (by kernel_rfl) Try.func5
    (ChangeSpec.witness6 (enc := enc) (C := Try.checked) false ⟨#[], #[.slice none 0 0, .int .i64 0], []⟩ 8 (by kernel_rfl) (by kernel_rfl) (by kernel_rfl) (by kernel_rfl)) ?_
  intro W base args ds gs before hval0 hW hcnd _
  have hval : ∀ (j : Nat) t v, Try.f5.params[j]? = some t → args[j]? = some v → Value.okWide Try.prog W .any base t v := hval0
  have hW' := hW
  obtain ⟨p, q, hA0, hV, rfl, hfz, hnd⟩ := hW
  have hA : DataW.TrodAll enc Try.prog W 0 (fun _ => true) true Try.f5.params.toList args.toList ds p := hA0
  rw [Try.params5] at hA hval
  obtain ⟨v0, vs0, d0, ds0, p0, q0, hargs, rfl, rfl, h0, r0⟩ := trodAll_cons hA
  obtain ⟨v1, vs1, d1, ds1, p1, q1, rfl, rfl, rfl, h1, r1⟩ := trodAll_cons r0
  obtain ⟨rfl, rfl, rfl⟩ := trodAll_nil r1
  obtain rfl : args = #[v0, v1] := by cases args; simp_all
  obtain ⟨rfl, rfl⟩ := trodVars_none hV
  clear hA0 hval0
  obtain ⟨a0, n0, c0, rfl⟩ := okWide_slice Try.underlying34 (hval 0 34 v0 rfl rfl)
  obtain ⟨x0, hx0⟩ := opened opens_nameds h0 rfl
  obtain ⟨i1, rfl⟩ := okWide_int Try.underlying3 (hval 1 3 v1 rfl rfl)
  obtain ⟨x1, hs1, hx1⟩ := opened (opens_int Try.underlying3) h1 rfl
  obtain rfl : i1 = x1 := by simpa using hs1
  refine (lookupMeans_walk a0 n0 c0 x0 i1 W hx0).mono fun e W' ⟨he, bel⟩ => ?_
  subst he
  exact ⟨_, rfl, _, _, _, [], _, [], hW', trodAll_mk1 (shut_bool Try.underlying4 _), (trodAll_cons_mk (Below.trod topLaid (by kernel_rfl) (of_decide_eq_true (by kernel_rfl)) h0 bel (trod_lt_of h0)) (trodAll_cons_mk (Below.trod topLaid (by kernel_rfl) (of_decide_eq_true (by kernel_rfl)) h1 bel (trod_lt_of h1)) trodAll_mk0)), rfl, bel.frame _, fun h => by cases h⟩

theorem lookupMeans_holds : Rows.LookupMeansSaid :=
  OpenClaim.holds_of_wide 5 Try.f5 rfl rfl rfl rfl rfl rfl rfl ⟨rfl, rfl, rfl, rfl, rfl⟩ rfl rfl rfl rfl rfl (by kernel_rfl) Try.func5 (by kernel_rfl)
    (of_decide_eq_true (by kernel_rfl)) (by unfold Func.isWrapper; first | (rw [if_pos (by decide +kernel)]; kernel_rfl) | (rw [if_neg (by decide +kernel)]; exact ⟨rfl, rfl⟩))
    (fun os started H enc _ => lookupMeans_lifted os started H enc)
#print axioms lookupMeans_holds
end Go.Proofs.Ytlniiaopindjnaa
