/-
  Looking up, over plain lists: no program in sight.
-/
import Derived.Test.YtlniiaopindjnaaBase
import Derived.Lib.SlicesS
import Derived.Lib.Strings
import Derived.Test.YtlniiaopindjnaaIdP
namespace Go.Proofs.Ytlniiaopindjnaa
set_option linter.unusedVariables false
namespace Lk
def hasId (ref : ByteArray) (n : NamedD) : Bool := n.id.toList == ref.toList
def hasName (ref : ByteArray) (n : NamedD) : Bool := Lib.containsS n.names ref
def begins (ref : ByteArray) (n : NamedD) : Bool := Lib.hasPrefix n.id.data.toList ref.data.toList
def found (l : List NamedD) (ref : ByteArray) : List ByteArray := (l.filter (begins ref)).map (·.id)
theorem toList_inj {x y : ByteArray} : x.toList = y.toList ↔ x = y := by
  rw [ByteArray.toList_eq, ByteArray.toList_eq]
  constructor
  · intro h; cases x; cases y; congr 1; exact Array.toList_inj.1 h
  · intro h; rw [h]
theorem hasId_iff {ref : ByteArray} {n : NamedD} : hasId ref n = true ↔ n.id = ref := by
  unfold hasId; rw [beq_iff_eq, toList_inj]
theorem hasName_iff {ref : ByteArray} {n : NamedD} : hasName ref n = true ↔ ref ∈ n.names := Lib.containsS_iff _ _
/-- Which id a text means, and how it is answered. -/
def meant (l : List NamedD) (ref : ByteArray) : ByteArray × Int :=
  if l.any (hasId ref) then (ref, 0) else
  match l.find? (hasName ref) with
  | some n => (n.id, 0)
  | none =>
    if ref.size = 0 ∨ 6 ≤ ref.size ∨ (found l ref).length = 0 then (⟨#[]⟩, 3)
    else if 1 < (found l ref).length then (⟨#[]⟩, 9)
    else ((found l ref).headD ⟨#[]⟩, 0)
/-- Which id none has yet. -/
def free (l : List NamedD) (first : Nat) : Nat → Nat → Option ByteArray
  | _, 0 => none
  | k, m + 1 => if l.any (hasId (Hx.idS ((first + k) % 16777216))) then free l first (k + 1) m else some (Hx.idS ((first + k) % 16777216))
def line (n : NamedD) : List UInt8 := n.id.data.toList ++ n.names.flatMap (fun m => 32 :: m.data.toList) ++ [10]
def lines (l : List NamedD) : List UInt8 := l.flatMap line

def idxOf (p : NamedD → Bool) (xs : List NamedD) : Int := match xs.findIdx? p with | some i => i | none => -1
theorem idx_miss {p : NamedD → Bool} {xs : List NamedD} (h : ∀ x ∈ xs, p x = false) : idxOf p xs = -1 := by
  unfold idxOf
  rw [List.findIdx?_eq_none_iff.2 h]
theorem idx_hit {p : NamedD → Bool} {xs : List NamedD} {k : Nat} {x : NamedD} (hk : xs[k]? = some x) (hp : p x = true) (h : ∀ j y, j < k → xs[j]? = some y → p y = false) : idxOf p xs = k := by
  unfold idxOf
  have : xs.findIdx? p = some k := by
    obtain ⟨hl, he⟩ := List.getElem?_eq_some_iff.1 hk
    rw [List.findIdx?_eq_some_iff_getElem]
    refine ⟨hl, by rw [he]; exact hp, fun j hj => ?_⟩
    rw [h j _ hj (List.getElem?_eq_getElem (by omega))]
    decide
  rw [this]
theorem idx_cases (p : NamedD → Bool) (xs : List NamedD) : (idxOf p xs = -1 ∧ xs.any p = false ∧ xs.find? p = none) ∨ ∃ (k : Nat) (x : NamedD), idxOf p xs = k ∧ xs[k]? = some x ∧ xs.find? p = some x ∧ xs.any p = true := by
  cases h : xs.findIdx? p with
  | none =>
    refine .inl ⟨by unfold idxOf; rw [h], ?_, ?_⟩
    · rw [List.any_eq_false]
      intro x hx
      rw [List.findIdx?_eq_none_iff.1 h x hx]; decide
    · rw [List.find?_eq_none]
      intro x hx
      rw [List.findIdx?_eq_none_iff.1 h x hx]; decide
  | some k =>
    obtain ⟨hl, hp, hb⟩ := List.findIdx?_eq_some_iff_getElem.1 h
    refine .inr ⟨k, xs[k], by unfold idxOf; rw [h], List.getElem?_eq_getElem hl, ?_, ?_⟩
    · rw [List.find?_eq_some_iff_getElem]
      exact ⟨hp, k, hl, rfl, fun j hj => by simpa using hb j hj⟩
    · rw [List.any_eq_true]
      exact ⟨_, List.getElem_mem hl, hp⟩
theorem nneg (p : NamedD → Bool) (xs : List NamedD) : decide (0 ≤ idxOf p xs) = xs.any p := by
  rcases idx_cases p xs with ⟨h1, h2, _⟩ | ⟨k, x, h1, _, _, h2⟩
  · rw [h1, h2]; rfl
  · rw [h1, h2]; simp
theorem found_snoc (l : List NamedD) (ref : ByteArray) (k : Nat) (x : NamedD) (h : l[k]? = some x) : found (l.take (k + 1)) ref = found (l.take k) ref ++ (if begins ref x then [x.id] else []) := by
  rw [List.take_add_one, h]
  unfold found
  rw [List.filter_append, List.map_append]
  congr 1
  by_cases hb : begins ref x = true
  · simp [hb]
  · simp [hb]
theorem found_length (l : List NamedD) (ref : ByteArray) : (found l ref).length ≤ l.length := by
  unfold found; rw [List.length_map]; exact List.length_filter_le _ _
end Lk
end Go.Proofs.Ytlniiaopindjnaa
