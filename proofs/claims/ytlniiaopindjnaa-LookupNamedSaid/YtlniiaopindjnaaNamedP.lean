/-
  Whom a name means, over plain lists.
-/
import Derived.Test.YtlniiaopindjnaaMeansP
namespace Go.Proofs.Ytlniiaopindjnaa
set_option linter.unusedVariables false
namespace Lk
/-- No two records have a name. -/
def AloneP (xs : List NamedD) : Prop := ∀ (i k : Nat) (x y : NamedD), k < i → xs[i]? = some x → xs[k]? = some y → ∀ m ∈ x.names, m ∉ y.names
theorem AloneP.only {xs : List NamedD} (h : AloneP xs) {i k : Nat} {x y : NamedD} {m : ByteArray} (hx : xs[i]? = some x) (hy : xs[k]? = some y) (hmx : m ∈ x.names) (hmy : m ∈ y.names) : i = k := by
  rcases Nat.lt_trichotomy i k with hlt | he | hgt
  · exact absurd hmx (h k i y x hlt hy hx m hmy)
  · exact he
  · exact absurd hmy (h i k x y hgt hx hy m hmx)
theorem meant_name {xs : List NamedD} {ref : ByteArray} {x : NamedD} (hn : ∀ y ∈ xs, y.id ≠ ref) (hx : x ∈ xs) (hm : ref ∈ x.names) (ho : ∀ y ∈ xs, ref ∈ y.names → y = x) : meant xs ref = (x.id, 0) := by
  unfold meant
  rw [any_none hn]
  have hf : xs.find? (hasName ref) = some x := by
    cases hq : xs.find? (hasName ref) with
    | none =>
      rw [List.find?_eq_none] at hq
      exact absurd (hasName_iff.2 hm) (hq x hx)
    | some y =>
      rw [ho y (List.mem_of_find?_eq_some hq) (hasName_iff.1 (List.find?_some hq))]
  rw [hf]
  rfl
theorem named_three {l : List NamedD} {more x : NamedD} {k : Nat} {ref : ByteArray} (ha : AloneP (l ++ [more])) (hk : l[k]? = some x) (hm : ref ∈ x.names) (hid : ∀ y ∈ l, y.id ≠ ref) (hmo : more.id ≠ ref) :
    meant l ref = (x.id, 0) ∧ meant (l ++ [more]) ref = (x.id, 0) ∧ meant ([more] ++ l) ref = (x.id, 0) := by
  have hkl : k < l.length := (List.getElem?_eq_some_iff.1 hk).1
  have hxm := List.mem_of_getElem? hk
  have hk' : (l ++ [more])[k]? = some x := by rw [List.getElem?_append_left hkl]; exact hk
  have ho : ∀ y ∈ l, ref ∈ y.names → y = x := by
    intro y hy hr
    obtain ⟨j, hj, rfl⟩ := List.getElem_of_mem hy
    have hj' : (l ++ [more])[j]? = some l[j] := by rw [List.getElem?_append_left hj, List.getElem?_eq_getElem hj]
    have := ha.only hk' hj' hm hr
    subst this
    rw [hj'] at hk'; exact Option.some.inj hk'
  have hmn : ref ∉ more.names := by
    intro hr
    have hl : (l ++ [more])[l.length]? = some more := by simp
    have := ha.only hk' hl hm hr
    omega
  refine ⟨meant_name hid hxm hm ho, meant_name ?_ ?_ hm ?_, meant_name ?_ ?_ hm ?_⟩
  · intro y hy
    rcases List.mem_append.1 hy with h | h
    · exact hid y h
    · simp at h; subst h; exact hmo
  · simp [hxm]
  · intro y hy hr
    rcases List.mem_append.1 hy with h | h
    · exact ho y h hr
    · simp at h; subst h; exact absurd hr hmn
  · intro y hy
    rcases List.mem_append.1 hy with h | h
    · simp at h; subst h; exact hmo
    · exact hid y h
  · simp [hxm]
  · intro y hy hr
    rcases List.mem_append.1 hy with h | h
    · simp at h; subst h; exact absurd hr hmn
    · exact ho y h hr
end Lk
end Go.Proofs.Ytlniiaopindjnaa
