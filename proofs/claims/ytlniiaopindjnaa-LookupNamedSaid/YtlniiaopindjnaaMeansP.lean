/-
  What an id, the beginning of an id, and a fresh id mean, over plain lists.
-/
import Derived.Test.YtlniiaopindjnaaFreeP
import Derived.Test.YtlniiaopindjnaaUnhexP
import Derived.Lib.Strings
namespace Go.Proofs.Ytlniiaopindjnaa
set_option linter.unusedVariables false
namespace Lk
/-- Records whose Ids are ids, and who have no names. -/
def Plain (xs : List NamedD) : Prop := ∀ x ∈ xs, Hx.isId x.id.data.toList = true ∧ x.names = []
theorem isId_size {s : ByteArray} (h : Hx.isId s.data.toList = true) : s.size = 6 := by
  unfold Hx.isId at h
  rw [Bool.and_eq_true, decide_eq_true_eq] at h
  simpa using h.1
theorem meant_id {xs : List NamedD} {ref : ByteArray} {x : NamedD} (hx : x ∈ xs) (h : x.id = ref) : meant xs ref = (ref, 0) := by
  unfold meant
  have : xs.any (hasId ref) = true := List.any_eq_true.2 ⟨x, hx, hasId_iff.2 h⟩
  rw [this]; rfl
theorem find_none {xs : List NamedD} {ref : ByteArray} (h : ∀ x ∈ xs, ref ∉ x.names) : xs.find? (hasName ref) = none := by
  rw [List.find?_eq_none]
  intro x hx hn
  exact h x hx (hasName_iff.1 hn)
theorem any_none {xs : List NamedD} {ref : ByteArray} (h : ∀ x ∈ xs, x.id ≠ ref) : xs.any (hasId ref) = false := by
  rw [List.any_eq_false]
  intro x hx hn
  exact h x hx (hasId_iff.1 hn)
theorem extract_size (s : ByteArray) (k : Nat) (h : k ≤ s.size) : (s.extract 0 k).size = k := by simp; omega
theorem extract_list (s : ByteArray) (k : Nat) : (s.extract 0 k).data.toList = s.data.toList.take k := by simp
theorem begins_iff {ref : ByteArray} {n : NamedD} : begins ref n = true ↔ ref.data.toList <+: n.id.data.toList := by
  unfold begins Lib.hasPrefix
  exact List.isPrefixOf_iff_prefix
theorem meant_begin {xs : List NamedD} (hp : Plain xs) {ref : ByteArray} (h1 : 1 ≤ ref.size) (h2 : ref.size ≤ 5) :
    meant xs ref = if (found xs ref).length = 0 then (⟨#[]⟩, 3) else if 1 < (found xs ref).length then (⟨#[]⟩, 9) else ((found xs ref).headD ⟨#[]⟩, 0) := by
  unfold meant
  rw [any_none (fun x hx he => by have := isId_size (hp x hx).1; rw [he] at this; omega), find_none (fun x hx => by rw [(hp x hx).2]; simp)]
  simp only [Bool.false_eq_true, if_false]
  by_cases h0 : (found xs ref).length = 0
  · rw [if_pos (.inr (.inr h0)), if_pos h0]
  · rw [if_neg (by omega), if_neg h0]
theorem filter_shrink {α : Type} (p q : α → Bool) (l : List α) (h : ∀ x, q x = true → p x = true) : l.filter q = (l.filter p).filter q := by
  rw [List.filter_filter]
  congr 1
  funext x
  cases hq : q x with
  | false => simp
  | true => rw [h x hq]; rfl
theorem meant_prefix {xs : List NamedD} (hp : Plain xs) {x : NamedD} (hx : x ∈ xs) {k : Nat} (hk1 : 1 ≤ k) (hk2 : k < 5) :
    meant xs (x.id.extract 0 k) = (⟨#[]⟩, 9) ∨ meant xs (x.id.extract 0 k) = (x.id, 0) ∧ meant xs (x.id.extract 0 (k + 1)) = (x.id, 0) := by
  have hs := isId_size (hp x hx).1
  have hb : ∀ j, begins (x.id.extract 0 j) x = true := fun j => by rw [begins_iff, extract_list]; exact List.take_prefix _ _
  have hsh : ∀ y, begins (x.id.extract 0 (k + 1)) y = true → begins (x.id.extract 0 k) y = true := by
    intro y hy
    rw [begins_iff, extract_list] at hy ⊢
    refine List.IsPrefix.trans ?_ hy
    have : x.id.data.toList.take k = (x.id.data.toList.take (k + 1)).take k := by rw [List.take_take]; congr 1; omega
    rw [this]
    exact List.take_prefix _ _
  have hmem : ∀ j, x ∈ xs.filter (begins (x.id.extract 0 j)) := fun j => List.mem_filter.2 ⟨hx, hb j⟩
  rw [meant_begin hp (by rw [extract_size _ _ (by omega)]; omega) (by rw [extract_size _ _ (by omega)]; omega)]
  rw [meant_begin hp (by rw [extract_size _ _ (by omega)]; omega) (by rw [extract_size _ _ (by omega)]; omega)]
  unfold found
  have hf := filter_shrink _ _ xs hsh
  have hm := hmem k
  rw [hf]
  generalize xs.filter (begins (x.id.extract 0 k)) = l at hm hf ⊢
  match l, hm with
  | [y], hm =>
    obtain rfl : x = y := by simpa using hm
    right
    have : ([x].filter (begins (x.id.extract 0 (k + 1)))) = [x] := by simp [hb]
    rw [this]
    simp
  | _ :: _ :: _, _ => left; simp
theorem fresh_ok {xs : List NamedD} (h : xs.length < 32) (first : Nat) : ∃ s : ByteArray, fresh xs first = (s, 0) ∧ Hx.isId s.data.toList = true ∧ s.size = 6 ∧ ∀ x ∈ xs, x.id ≠ s := by
  obtain ⟨k, hk, h0, hb⟩ := exists_free xs first h
  refine ⟨_, fresh_at h hk h0 hb, Hx.isId_idL _ (Nat.mod_lt _ (by decide)), Hx.idS_size _, fun x hx he => ?_⟩
  unfold taken at h0
  rw [List.any_eq_false] at h0
  exact h0 x hx (hasId_iff.2 he)
end Lk
end Go.Proofs.Ytlniiaopindjnaa
