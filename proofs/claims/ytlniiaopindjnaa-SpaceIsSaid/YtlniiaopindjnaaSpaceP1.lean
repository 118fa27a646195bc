/-
  SpaceIs: for every input the call returns true, and each argument reads afterwards as it read before.
  No condition: any numbers, any store that can be read.
-/
import Derived.Test.YtlniiaopindjnaaRows
import Derived.Test.YtlniiaopindjnaaSpaceL
import Derived.ProofKit
import Derived.OpenShut
import Derived.ChangeOld
namespace Go.Proofs.Ytlniiaopindjnaa
set_option linter.unusedVariables false
open Go.ChangeShapes Go.WideShapes Go.ChangeAt Go.RowKit

theorem own : ownKnob Try.prog.godebug = none := by kernel_rfl
theorem laidOut : laidOutB Try.prog = true := by kernel_rfl
theorem int_bounds {a : Int} (h : (Lit.int .i64 a).wf = true) : -9223372036854775808 ≤ a ∧ a ≤ 9223372036854775807 := bounds_i64 h

theorem store_form {cs : Array Value} {W : World} {B : Nat} {s : StoreD} (h : RStore W B cs.toList s) : ∃ ba bn bc ia im ic la ln lc da dn dc ma mn mc, cs = #[.slice ba bn bc, .slice ia im ic, .slice la ln lc, .slice da dn dc, .slice ma mn mc] := by
  obtain ⟨_, _, _, _, _, he, hb, hi, hl, hd, hm⟩ := h
  obtain ⟨ba, bc, rfl⟩ := slice_form hb
  obtain ⟨ia, ic, rfl⟩ := slice_form hi
  obtain ⟨la, lc, rfl⟩ := slice_form hl
  obtain ⟨da, dc, rfl⟩ := slice_form hd
  obtain ⟨ma, mc, rfl⟩ := slice_form hm
  have e : cs = #[.slice ba s.boxes.length bc, .slice ia s.images.length ic, .slice la s.layers.length lc, .slice da s.diffs.length dc, .slice ma s.mounts.length mc] := by
    obtain ⟨l⟩ := cs; simp at he; rw [he]
  exact ⟨_, _, _, _, _, _, _, _, _, _, _, _, _, _, _, e⟩

set_option maxRecDepth 100000 in
theorem spaceIs_lifted (os : Os) (started : os.Started) (H : Type) (enc : TypeId × Value → H) :
    ReturnsInHanded {} Try.checked os 3 .any (Rows.spaceIsSpec.pre6 enc Try.prog Try.f3 Rows.spaceIsRow.domain false) (Rows.spaceIsSpec.post enc Try.prog Try.f3 false true false false) := by
  refine returnsInHanded_of_change (C := Try.checked) own started (by kernel_rfl) Try.func3
    (ChangeSpec.witness6 (enc := enc) (C := Try.checked) false ⟨#[], #[.int .i64 0, .int .i64 0, .agg #[.slice none 0 0, .slice none 0 0, .slice none 0 0, .slice none 0 0, .slice none 0 0]], []⟩ 8 (by kernel_rfl) (by kernel_rfl) (by kernel_rfl) (by kernel_rfl)) ?_
  intro W base args ds gs before hval0 hW hcnd _
  have hval : ∀ (j : Nat) t v, Try.f3.params[j]? = some t → args[j]? = some v → Value.okWide Try.prog W .any base t v := hval0
  have hW' := hW
  obtain ⟨p, q, hA0, hV, rfl, hfz, hnd⟩ := hW
  have hA : DataW.TrodAll enc Try.prog W 0 (fun _ => true) true Try.f3.params.toList args.toList ds p := hA0
  rw [Try.params3] at hA hval
  obtain ⟨v0, vs0, d0, ds0, p0, q0, hargs, rfl, rfl, h0, r0⟩ := trodAll_cons hA
  obtain ⟨v1, vs1, d1, ds1, p1, q1, rfl, rfl, rfl, h1, r1⟩ := trodAll_cons r0
  obtain ⟨v2, vs2, d2, ds2, p2, q2, rfl, rfl, rfl, h2, r2⟩ := trodAll_cons r1
  obtain ⟨rfl, rfl, rfl⟩ := trodAll_nil r2
  obtain rfl : args = #[v0, v1, v2] := by cases args; simp_all
  obtain ⟨rfl, rfl⟩ := trodVars_none hV
  obtain ⟨a0, rfl, rfl, rfl, w0⟩ := open_int Try.underlying3 (hval 0 3 v0 rfl rfl) h0
  obtain ⟨a1, rfl, rfl, rfl, w1⟩ := open_int Try.underlying3 (hval 1 3 v1 rfl rfl) h1
  have k2 := h2
  have lt2 : ∀ x ∈ p2, x.block < W.heap.size := by obtain ⟨m, hm⟩ := k2; exact DataW.trod_lt m _ _ _ hm
  obtain ⟨cs, rfl, -⟩ := okWide_struct Try.underlying28 (hval 2 28 v2 rfl rfl)
  obtain ⟨st, hst⟩ : ∃ st, RStore W W.heap.size cs.toList st := by
    obtain ⟨fuel, hf⟩ := h2
    exact opens_store.out hf lt2
  obtain ⟨ba, bn, bc, ia, im, ic, la, ln, lc, da, dn, dc, ma, mn, mc, rfl⟩ := store_form hst
  obtain ⟨x1, x2⟩ := int_bounds w0
  obtain ⟨y1, y2⟩ := int_bounds w1
  clear hA0 hval0
  refine (spaceIs_walk ba ia la da ma bn bc im ic ln lc dn dc mn mc st W a0 a1 x1 x2 y1 y2 hst).mono fun e W' ⟨he, bel⟩ => ?_
  subst he
  exact ⟨_, rfl, _, _, _, [], _, [], hW', trodAll_mk1 (shut_bool Try.underlying4 _), (trodAll_cons_mk (shut_int Try.underlying3 w0) (trodAll_cons_mk (shut_int Try.underlying3 w1) (trodAll_cons_mk (Below.trod laidOut (by kernel_rfl) (of_decide_eq_true (by kernel_rfl)) k2 bel lt2) trodAll_mk0))), rfl, bel.frame _, fun h => by cases h⟩

theorem spaceIs_holds : Rows.SpaceIsSaid :=
  OpenClaim.holds_of_wide 3 Try.f3 rfl rfl rfl rfl rfl rfl rfl ⟨rfl, rfl, rfl, rfl, rfl⟩ rfl rfl rfl rfl rfl (by kernel_rfl) Try.func3 (by kernel_rfl)
    (of_decide_eq_true (by kernel_rfl)) (by unfold Func.isWrapper; first | (rw [if_pos (by decide +kernel)]; kernel_rfl) | (rw [if_neg (by decide +kernel)]; exact ⟨rfl, rfl⟩))
    (fun os started H enc _ => spaceIs_lifted os started H enc)
#print axioms spaceIs_holds
end Go.Proofs.Ytlniiaopindjnaa
