/-
  The append of records inside a region that draws its order: the step law.
-/
import Derived.Test.YtlniiaopindjnaaAppend3
namespace Go.Proofs.Ytlniiaopindjnaa
set_option linter.unusedVariables false
open Go.RowKit

theorem OwnsN.none' {w : World} {base : Nat} (hb : base ≤ w.heap.size) : OwnsN (w.alloc (.cells #[] 44)) base (.slice (some ⟨w.heap.size, 0, Option.none⟩) 0 0) [] :=
  ⟨by simp; omega, [], own_mono (own_fresh w 44 2 0 [] rfl (by decide)) hb, CellsRead.nil⟩
theorem OwnsN.one' {w : World} {base : Nat} (x : NamedD) {na : Option Addr} {c : Nat} (hn : RStrs w base [.slice na x.names.length c] x.names) (hs : x.id.size ≤ maxLen) (hb : base ≤ w.heap.size) :
    OwnsN (w.alloc (.cells #[.string x.id, .slice na x.names.length c] 44)) base (.slice (some ⟨w.heap.size, 0, Option.none⟩) 1 1) [x] :=
  ⟨by simp; omega, _, own_mono (own_fresh w 44 2 1 [.string x.id, .slice na x.names.length c] rfl (by decide)) hb, (named_cells hn hs).go kept_named (Same.alloc _ _ _ hb) (Nat.le_refl _)⟩
theorem cell_lt {w : World} {a : Addr} {v : Value} (h : w.cell? a = some v) : a.block < w.heap.size := by
  rcases Nat.lt_or_ge a.block w.heap.size with h' | h'
  · exact h'
  · unfold World.cell? at h
    rw [Array.getElem?_eq_none h'] at h
    cases h
theorem BringsN.on {w w' : World} {base : Nat} {na : Option Addr} {m c : Nat} {ys : List NamedD} (h : BringsN w base na m c ys) (h0 : base ≤ w.heap.size) (hb : Below w.heap.size w w') : BringsN w' base na m c ys := by
  obtain ⟨h1, h2, news, h3, h4, h5⟩ := h
  exact ⟨h1, h2, news, h3, fun ad had j u hu => (hb.cell (cell_lt (h4 ad had j u hu))).trans (h4 ad had j u hu), h5.go kept_named (Same.of_below hb h0) (Nat.le_refl _)⟩
theorem BringsN.grown {w w' : World} {base : Nat} {na : Option Addr} {m c : Nat} {ys : List NamedD} {row : Option Nat} (h : BringsN w base na m c ys) (hb : Below base w w') (hg : w.grownBy w' row) (hne : ∀ ad, na = some ad → some ad.block ≠ row) : BringsN w' base na m c ys := by
  obtain ⟨h1, h2, news, h3, h4, h5⟩ := h
  refine ⟨h1, h2, news, h3, fun ad had j u hu => ?_, h5.go kept_named (Same.of_below hb (Nat.le_refl _)) (Nat.le_refl _)⟩
  have hc := h4 ad had j u hu
  rw [hg.cell_far (ad.add j) (cell_lt hc) (by rw [add_block]; exact hne ad had)]
  exact hc
theorem BringsN.alloc {w : World} {base : Nat} {na : Option Addr} {m c : Nat} {ys : List NamedD} (h : BringsN w base na m c ys) (h0 : base ≤ w.heap.size) (o : Obj) : BringsN (w.alloc o) base na m c ys := h.on h0 ((Below.refl _ _).alloc (Nat.le_refl _) _)

theorem wp_append_nameds {w : World} {o : Oper} {a : Act} {K : Act → World → Prop} {Q : Exit → Act → World → Prop} (s x : Operand)
    (ho : o.op = .call { callee := .builtin .append, args := #[s, x], argTypes := #[34, 34] }) (base : Nat) (v : Value) (xs : List NamedD) (hs : a.eval s = v) (hown : OwnsN w base v xs)
    (na : Option Addr) (m c : Nat) (ys : List NamedD) (hx : a.eval x = .slice na m c) (hr : BringsN w base na m c ys) (hlen : xs.length + ys.length ≤ 1000000)
    (h : ∀ v' w', OwnsN w' base v' (xs ++ ys) → Below base w w' → w.grownBy w' v.ownBlock → K (a.put o.dst v') w') : o.wp Try.prog a w K Q := by
  obtain ⟨i0, hi, hz0, hz1, hz2⟩ := info_parts named_info
  obtain ⟨hbase, cells, h1, h2⟩ := hown
  obtain ⟨rfl, n1, news, n2, n3, n4⟩ := hr
  cases na with
  | some ad =>
    refine wp_append_own w s x 34 ho base 44 i0 _ 2 40 Try.underlying34 hi hz0 hz1 hz2 rfl (by decide) v xs.length cells hs h1 ad ys.length c news hx n2 (n3 ad rfl) (named_one n4) (by unfold maxLen; omega) (by omega) hbase ?_
    intro v' w' ho' hg _
    have hb : Below base w w' := (Below.refl base w).grown hg hbase (fun k hk => own_block h1 k hk)
    refine h v' w' ⟨Nat.le_trans hbase hb.size, cells ++ news, by rw [List.length_append]; exact ho', ?_⟩ hb hg
    exact (h2.go kept_named (Same.of_below hb (Nat.le_refl _)) (Nat.le_refl _)).append (n4.go kept_named (Same.of_below hb (Nat.le_refl _)) (Nat.le_refl _))
  | none =>
    obtain ⟨hl0, rfl⟩ := n1 rfl
    have hys : ys = [] := List.length_eq_zero_iff.1 hl0
    subst hys
    have hrun := run_append_owned_none (P := Try.prog) (w := w) base 34 o.type 44 i0 2 Try.underlying34 hi v xs.length cells h1
    unfold Oper.wp
    simp [execOp, ho, resolve, invoke, builtin, hs, hx, hrun, Result.andThen]
    exact h v w ⟨hbase, cells, by simpa using h1, by simpa using h2⟩ (Below.refl _ _) ⟨rfl, rfl, rfl, Nat.le_refl _, fun _ _ _ => rfl⟩
end Go.Proofs.Ytlniiaopindjnaa
