/-
  The first id that none has: there is one. Plain lists.
-/
import Derived.Test.YtlniiaopindjnaaLookP
namespace Go.Proofs.Ytlniiaopindjnaa
set_option linter.unusedVariables false
namespace Lk
def taken (xs : List NamedD) (first k : Nat) : Bool := xs.any (hasId (Hx.idS ((first + k) % 16777216)))
def fresh (xs : List NamedD) (first : Nat) : ByteArray × Int :=
  if 32 ≤ xs.length then (⟨#[]⟩, 5) else ((free xs first 0 (xs.length + 1)).getD ⟨#[]⟩, 0)
theorem free_at (xs : List NamedD) (first k0 : Nat) (h0 : taken xs first k0 = false) : ∀ (m k : Nat), k ≤ k0 → k0 < k + m → (∀ j, k ≤ j → j < k0 → taken xs first j = true) → free xs first k m = some (Hx.idS ((first + k0) % 16777216))
  | 0, k, h1, h2, _ => by omega
  | m + 1, k, h1, h2, h3 => by
    unfold free
    by_cases he : k = k0
    · subst he
      have : xs.any (hasId (Hx.idS ((first + k) % 16777216))) = false := h0
      rw [this]; rfl
    · have : xs.any (hasId (Hx.idS ((first + k) % 16777216))) = true := h3 k (Nat.le_refl _) (by omega)
      rw [this, if_pos rfl]
      exact free_at xs first k0 h0 m (k + 1) (by omega) (by omega) (fun j hj => h3 j (by omega))
theorem dig_inj {a b : Nat} (ha : a < 16) (hb : b < 16) (h : Hx.dig a = Hx.dig b) : a = b := by
  have : ∀ a b : Fin 16, Hx.dig a = Hx.dig b → a = b := by decide
  exact congrArg Fin.val (this ⟨a, ha⟩ ⟨b, hb⟩ h)
theorem idS_inj {a b : Nat} (ha : a < 16777216) (hb : b < 16777216) (h : Hx.idS a = Hx.idS b) : a = b := by
  have h1 : Hx.last a 6 = Hx.last b 6 := by
    rw [Hx.last_six a ha, Hx.last_six b hb]
    have := congrArg (fun x : ByteArray => x.data.toList) h
    simpa [Hx.idS] using this
  simp only [Hx.last, List.cons.injEq, and_true] at h1
  obtain ⟨h5, h4, h3, h2, h1, h0⟩ := h1
  have e5 := dig_inj (by omega) (by omega) h5
  have e4 := dig_inj (by omega) (by omega) h4
  have e3 := dig_inj (by omega) (by omega) h3
  have e2 := dig_inj (by omega) (by omega) h2
  have e1 := dig_inj (by omega) (by omega) h1
  have e0 := dig_inj (by omega) (by omega) h0
  omega
theorem nodup_le {α : Type} [DecidableEq α] : ∀ (l m : List α), l.Nodup → (∀ x ∈ l, x ∈ m) → l.length ≤ m.length
  | [], _, _, _ => by simp
  | a :: l, m, hd, hs => by
    have ham : a ∈ m := hs a (by simp)
    have h1 := nodup_le l (m.erase a) (List.nodup_cons.1 hd).2 (fun x hx => by
      have hne : x ≠ a := fun h => (List.nodup_cons.1 hd).1 (h ▸ hx)
      exact (List.mem_erase_of_ne hne).2 (hs x (by simp [hx])))
    have h2 := List.length_erase_of_mem ham
    have h3 : 0 < m.length := List.length_pos_of_mem ham
    simp only [List.length_cons]
    omega
theorem exists_least (p : Nat → Bool) : ∀ n, (∃ k, k ≤ n ∧ p k = false) → ∃ k, k ≤ n ∧ p k = false ∧ ∀ j, j < k → p j = true
  | 0, ⟨k, hk, h⟩ => ⟨k, hk, h, fun j hj => by omega⟩
  | n + 1, ⟨k, hk, h⟩ => by
    by_cases hex : ∃ k, k ≤ n ∧ p k = false
    · obtain ⟨k', h1, h2, h3⟩ := exists_least p n hex
      exact ⟨k', by omega, h2, h3⟩
    · refine ⟨k, hk, h, fun j hj => ?_⟩
      cases hq : p j with
      | true => rfl
      | false => exact absurd ⟨j, by omega, hq⟩ hex
theorem exists_free (xs : List NamedD) (first : Nat) (h : xs.length < 32) : ∃ k, k ≤ xs.length ∧ taken xs first k = false ∧ ∀ j, j < k → taken xs first j = true := by
  apply exists_least
  apply Classical.byContradiction
  intro hno
  have hall : ∀ k, k ≤ xs.length → taken xs first k = true := fun k hk => by
    cases hq : taken xs first k with
    | true => rfl
    | false => exact absurd ⟨k, hk, hq⟩ hno
  have hle := nodup_le ((List.range (xs.length + 1)).map fun k => (Hx.idS ((first + k) % 16777216)).data.toList) (xs.map fun n => n.id.data.toList) ?_ ?_
  · simp at hle; omega
  · unfold List.Nodup
    rw [List.pairwise_map]
    refine List.Pairwise.imp_of_mem ?_ (List.nodup_range (n := xs.length + 1))
    intro a b ha hb hne he
    rw [List.mem_range] at ha hb
    have hs : Hx.idS ((first + a) % 16777216) = Hx.idS ((first + b) % 16777216) := by
      rw [← toList_inj, ByteArray.toList_eq, ByteArray.toList_eq]; exact he
    have := idS_inj (Nat.mod_lt _ (by decide)) (Nat.mod_lt _ (by decide)) hs
    omega
  · intro x hx
    obtain ⟨k, hk, rfl⟩ := List.mem_map.1 hx
    rw [List.mem_range] at hk
    have := hall k (by omega)
    unfold taken at this
    obtain ⟨n, hn, hi⟩ := List.any_eq_true.1 this
    rw [hasId_iff] at hi
    exact List.mem_map.2 ⟨n, hn, by rw [hi]⟩
theorem fresh_at {xs : List NamedD} {first k : Nat} (h : xs.length < 32) (hk : k ≤ xs.length) (h0 : taken xs first k = false) (hb : ∀ j, j < k → taken xs first j = true) : fresh xs first = (Hx.idS ((first + k) % 16777216), 0) := by
  unfold fresh
  rw [if_neg (by omega), free_at xs first k h0 _ 0 (Nat.zero_le _) (by omega) (fun j _ hj => hb j hj)]
  rfl
end Lk
end Go.Proofs.Ytlniiaopindjnaa
