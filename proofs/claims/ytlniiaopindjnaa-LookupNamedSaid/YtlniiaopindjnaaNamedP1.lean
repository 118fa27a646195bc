/-
  LookupNamed: a name means who has it, if it is nobody's id.
  Conditions: none.
-/
import Derived.Test.YtlniiaopindjnaaTop
import Derived.Test.YtlniiaopindjnaaNamedL
namespace Go.Proofs.Ytlniiaopindjnaa
set_option linter.unusedVariables false
open Go.ChangeShapes Go.WideShapes Go.ChangeAt Go.RowKit

theorem named_form {cs : Array Value} {W : World} {B : Nat} {x : NamedD} (h : RNamed W B cs.toList x) : ∃ a c, cs = #[.string x.id, .slice a x.names.length c] ∧ RStrs W B [.slice a x.names.length c] x.names ∧ x.id.size ≤ maxLen := by
  obtain ⟨nm, he, hn, hs⟩ := h
  obtain ⟨a, c, rfl⟩ := slice_form hn
  exact ⟨a, c, by obtain ⟨l⟩ := cs; simp at he; rw [he], hn, hs⟩

set_option maxRecDepth 100000 in
theorem lookupNamed_lifted (os : Os) (started : os.Started) (H : Type) (enc : TypeId × Value → H) :
    ReturnsInHanded {} Try.checked os 6 .any (Rows.lookupNamedSpec.pre6 enc Try.prog Try.f6 Rows.lookupNamedRow.domain false) (Rows.lookupNamedSpec.post enc Try.prog Try.f6 false true false false) := by
  refine returnsInHanded_of_change (C := Try.checked) topOwn started (by kernel_rfl) Try.func6
    (ChangeSpec.witness6 (enc := enc) (C := Try.checked) false ⟨#[], #[.slice none 0 0, .int .u8 0, .agg #[.string ⟨#[]⟩, .slice none 0 0]], []⟩ 8 (by kernel_rfl) (by kernel_rfl) (by kernel_rfl) (by kernel_rfl)) ?_
  intro W base args ds gs before hval0 hW hcnd _
  have hval : ∀ (j : Nat) t v, Try.f6.params[j]? = some t → args[j]? = some v → Value.okWide Try.prog W .any base t v := hval0
  have hW' := hW
  obtain ⟨p, q, hA0, hV, rfl, hfz, hnd⟩ := hW
  have hA : DataW.TrodAll enc Try.prog W 0 (fun _ => true) true Try.f6.params.toList args.toList ds p := hA0
  rw [Try.params6] at hA hval
  obtain ⟨v0, vs0, d0, ds0, p0, q0, hargs, rfl, rfl, h0, r0⟩ := trodAll_cons hA
  obtain ⟨v1, vs1, d1, ds1, p1, q1, rfl, rfl, rfl, h1, r1⟩ := trodAll_cons r0
  obtain ⟨v2, vs2, d2, ds2, p2, q2, rfl, rfl, rfl, h2, r2⟩ := trodAll_cons r1
  obtain ⟨rfl, rfl, rfl⟩ := trodAll_nil r2
  obtain rfl : args = #[v0, v1, v2] := by cases args; simp_all
  obtain ⟨rfl, rfl⟩ := trodVars_none hV
  clear hA0 hval0
  obtain ⟨a0, n0, c0, rfl⟩ := okWide_slice Try.underlying34 (hval 0 34 v0 rfl rfl)
  obtain ⟨x0, hx0⟩ := opened opens_nameds h0 rfl
  obtain ⟨i1, rfl⟩ := okWide_int Try.underlying5 (hval 1 5 v1 rfl rfl)
  obtain ⟨x1, hs1, hx1⟩ := opened (opens_int Try.underlying5) h1 rfl
  obtain rfl : i1 = x1 := by simpa using hs1
  obtain ⟨cs2, rfl, -⟩ := okWide_struct Try.underlying44 (hval 2 44 v2 rfl rfl)
  have lt2 := trod_lt_of h2
  obtain ⟨x2, hx2⟩ : ∃ x, RNamed W W.heap.size cs2.toList x := by obtain ⟨fuel, hf⟩ := h2; exact opens_named.out hf lt2
  obtain ⟨a2, c2, rfl, hn2, hs2⟩ := named_form hx2
  refine (lookupNamed_walk a0 n0 c0 x0 i1 a2 c2 x2 W (bounds_u8 hx1).1 (bounds_u8 hx1).2 hx0 hn2 hs2).mono fun e W' ⟨he, bel⟩ => ?_
  subst he
  exact ⟨_, rfl, _, _, _, [], _, [], hW', trodAll_mk1 (shut_bool Try.underlying4 _), (trodAll_cons_mk (Below.trod topLaid (by kernel_rfl) (of_decide_eq_true (by kernel_rfl)) h0 bel (trod_lt_of h0)) (trodAll_cons_mk (Below.trod topLaid (by kernel_rfl) (of_decide_eq_true (by kernel_rfl)) h1 bel (trod_lt_of h1)) (trodAll_cons_mk (Below.trod topLaid (by kernel_rfl) (of_decide_eq_true (by kernel_rfl)) h2 bel (trod_lt_of h2)) trodAll_mk0))), rfl, bel.frame _, fun h => by cases h⟩

theorem lookupNamed_holds : Rows.LookupNamedSaid :=
  OpenClaim.holds_of_wide 6 Try.f6 rfl rfl rfl rfl rfl rfl rfl ⟨rfl, rfl, rfl, rfl, rfl⟩ rfl rfl rfl rfl rfl (by kernel_rfl) Try.func6 (by kernel_rfl)
    (of_decide_eq_true (by kernel_rfl)) (by unfold Func.isWrapper; first | (rw [if_pos (by decide +kernel)]; kernel_rfl) | (rw [if_neg (by decide +kernel)]; exact ⟨rfl, rfl⟩))
    (fun os started H enc _ => lookupNamed_lifted os started H enc)
#print axioms lookupNamed_holds
end Go.Proofs.Ytlniiaopindjnaa
