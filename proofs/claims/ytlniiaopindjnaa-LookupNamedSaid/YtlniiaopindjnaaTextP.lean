/-
  Lines of records: plain lists. Which records are few and small.
-/
import Derived.Test.YtlniiaopindjnaaLookP
import Derived.Lib.Join
namespace Go.Proofs.Ytlniiaopindjnaa
set_option linter.unusedVariables false
/-- Few records, of few bytes. -/
def FewN (xs : List NamedD) : Prop := xs.length ≤ 40 ∧ ∀ x ∈ xs, x.id.size ≤ 100 ∧ x.names.length ≤ 8 ∧ ∀ y ∈ x.names, y.size ≤ 100
namespace Lk
theorem line_join (x : NamedD) : line x = Lib.join ((x.id :: x.names).map (·.data.toList)) [32] ++ [10] := by
  rw [List.map_cons, Lib.join_cons]
  unfold line Lib.joinTail
  rw [List.map_map, List.flatMap_def]
  rfl
theorem names_length (l : List ByteArray) (h : ∀ y ∈ l, y.size ≤ 100) : (l.flatMap (fun m => 32 :: m.data.toList)).length ≤ 101 * l.length := by
  induction l with
  | nil => simp
  | cons a r ih =>
    rw [List.flatMap_cons, List.length_append, List.length_cons, List.length_cons]
    have h1 := h a (by simp)
    have h2 := ih (fun y hy => h y (by simp [hy]))
    have : a.data.toList.length = a.size := by simp
    omega
theorem line_length {x : NamedD} (h1 : x.id.size ≤ 100) (h2 : x.names.length ≤ 8) (h3 : ∀ y ∈ x.names, y.size ≤ 100) : (line x).length ≤ 909 := by
  unfold line
  have h4 := names_length x.names h3
  have : x.id.data.toList.length = x.id.size := by simp
  simp only [List.length_append, List.length_cons, List.length_nil]
  omega
theorem lines_length (xs : List NamedD) (h : ∀ x ∈ xs, x.id.size ≤ 100 ∧ x.names.length ≤ 8 ∧ ∀ y ∈ x.names, y.size ≤ 100) : (lines xs).length ≤ 909 * xs.length := by
  induction xs with
  | nil => simp [lines]
  | cons a r ih =>
    unfold lines at ih ⊢
    rw [List.flatMap_cons, List.length_append, List.length_cons]
    obtain ⟨h1, h2, h3⟩ := h a (by simp)
    have h4 := line_length h1 h2 h3
    have h5 := ih (fun y hy => h y (by simp [hy]))
    omega
theorem lines_snoc {xs : List NamedD} {k : Nat} {x : NamedD} (h : xs[k]? = some x) : lines (xs.take (k + 1)) = lines (xs.take k) ++ line x := by
  rw [List.take_add_one, h]
  simp [lines]
def tail (ns : List ByteArray) : List UInt8 := ns.flatMap (fun m => 32 :: m.data.toList)
theorem tail_snoc {ns : List ByteArray} {m : Nat} {y : ByteArray} (h : ns[m]? = some y) : tail (ns.take (m + 1)) = tail (ns.take m) ++ 32 :: y.data.toList := by
  rw [List.take_add_one, h]
  simp [tail]
theorem tail_length {ns : List ByteArray} (h : ∀ y ∈ ns, y.size ≤ 100) (k : Nat) (hk : ns.length ≤ 8) : (tail (ns.take k)).length ≤ 808 := by
  have h1 := names_length (ns.take k) (fun y hy => h y (List.mem_of_mem_take hy))
  have h2 : (ns.take k).length ≤ ns.length := by simp; omega
  unfold tail
  omega
theorem lines_take {xs : List NamedD} (h : FewN xs) (k : Nat) : (lines (xs.take k)).length ≤ 36360 := by
  have h1 := lines_length (xs.take k) (fun x hx => h.2 x (List.mem_of_mem_take hx))
  have h2 : (xs.take k).length ≤ xs.length := by simp; omega
  have := h.1
  omega
end Lk
end Go.Proofs.Ytlniiaopindjnaa
