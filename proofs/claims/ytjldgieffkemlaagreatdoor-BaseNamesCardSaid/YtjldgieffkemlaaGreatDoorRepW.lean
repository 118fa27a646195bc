/-
  What an argument reads as, where the form also tells how much a slice takes: 'OpensW' is 'Opens' with the reading's weights. No program is named here.
-/
import Derived.Test.YtjldgieffkemlaaGreatDoorRep
import Derived.SizedLaws
namespace Go.Proofs.YtjldgieffkemlaaGreatDoor
set_option linter.unusedVariables false
set_option linter.unusedSimpArgs false
open Go.RowKit Go.ChangeShapes Go.WideShapes

structure OpensW (P : Program) (t : TypeId) {α : Type} (R : Rep α) : Prop where
  out : ∀ {H : Type} {enc : TypeId × Value → H} {w : World} {sp : Nat → Bool} {held : Bool} {n B : Nat} {cs : List Value} {y : DataW H × List MemPlace},
    DataW.trod enc P w 0 sp held n t cs = some y → (∀ p ∈ y.2, p.block < B) → (∀ n ∈ y.1.weights P t, n ≤ reachBytes) → ∃ x, R w B cs x
theorem Opens.toW {P : Program} {t : TypeId} {α : Type} {R : Rep α} (h : Opens P t R) : OpensW P t R := ⟨fun h1 h2 _ => h.out h1 h2⟩
/-- A slice that takes no more than may be. -/
def RSized (bytes : Nat) {α : Type} (R : Rep (List α)) : Rep (List α) := fun w B cs xs => R w B cs xs ∧ xs.length * bytes ≤ reachBytes
theorem kept_sized {bytes : Nat} {α : Type} {R : Rep (List α)} (h : Kept R) : Kept (RSized bytes R) := ⟨fun hs hB hr => ⟨h.go hs hB hr.1, hr.2⟩⟩
theorem weightsAll_mem {H : Type} {P : Program} {e : TypeId} : ∀ {l : List (DataW H)} {d : DataW H}, d ∈ l → ∀ n ∈ d.weights P e, n ∈ DataW.weightsAll P e l
  | x :: l, d, hd, n, hn => by
    simp only [DataW.weightsAll, List.mem_append]
    rcases List.mem_cons.1 hd with rfl | hd
    · exact .inl hn
    · exact .inr (weightsAll_mem hd n hn)
theorem opensW_slice {P : Program} {t e : TypeId} {size bytes : Nat} {α : Type} {R : Rep α} (ht : P.underlying t = some (.slice e)) (hsz : P.cellsOf e = size) (hpos : 0 < size) (hby : P.bytesOf e = bytes) (hR : OpensW P e R) : OpensW P t (RSized bytes (RSlice size R)) := ⟨by
  intro H enc w sp held n B cs y h hp hw
  rcases Go.Deep.open_slice ht h with ⟨rfl, rfl⟩ | ⟨a, len, cap, m, n', D, Pl, rfl, _, hl, hm, hmm, rfl, hi⟩
  · exact ⟨[], ⟨none, 0, rfl, Nat.le_refl _, by simp [maxLen], fun _ => rfl, fun h => absurd h (Nat.lt_irrefl _)⟩, by simp⟩
  · have hlm : len ≤ m := by rw [hmm]; split <;> omega
    have hlen : len * bytes ≤ reachBytes := by
      have := hw ((((List.range len).map D).length + ((List.range (m - len)).map fun j => D (len + j)).length) * P.bytesOf e) (by simp [DataW.weights, ht])
      simp only [List.length_map, List.length_range, hby] at this
      exact Nat.le_trans (Nat.mul_le_mul_right _ (Nat.le_add_right _ _)) this
    have hpl : ∀ i, i < m → ∀ p ∈ Pl i, p.block < B := fun i hi' p hp' => hp p (by
      simp only [List.mem_append, List.mem_flatMap, List.mem_range]
      exact .inr ⟨i, hi', hp'⟩)
    by_cases h0 : len = 0
    · subst h0
      exact ⟨[], ⟨some a, cap, rfl, Nat.zero_le _, hm, (fun h => by cases h), fun h => absurd h (Nat.lt_irrefl _)⟩, by simp⟩
    · have hB : a.block < B := by
        have := hp (.cell a.block (a.off + 0)) (by
          simp only [List.mem_append]
          left
          unfold MemPlace.row
          rw [List.mem_map]
          exact ⟨0, by rw [List.mem_range, hsz]; exact Nat.mul_pos (by omega) hpos, rfl⟩)
        exact this
      have hspot : a.spot = none := by
        obtain ⟨cs', hc, _⟩ := hi 0 (by omega)
        obtain ⟨_, _, hat⟩ := World.cells?_some hc
        have h1 := hat 0 (by rw [hsz]; exact hpos)
        have hlen := (World.cells?_some hc).2.1
        rw [List.getElem?_eq_getElem (by rw [hlen, hsz]; exact hpos)] at h1
        have := World.cell?_spot h1
        simpa [Addr.add] using this
      obtain ⟨xs, hxl, hxs⟩ := exists_list (α := α) len (fun i x => ∃ es : List Value, es.length = size ∧ (∀ j, j < size → w.cell? ⟨a.block, a.off + i * size + j, none⟩ = es[j]?) ∧ R w B es x) (fun i hil => by
        obtain ⟨cs', hc, ht'⟩ := hi i (by omega)
        obtain ⟨_, hlen, hat⟩ := World.cells?_some hc
        obtain ⟨x, hx⟩ := hR.out ht' (fun p hp' => hpl i (by omega) p hp') (fun k hk => hw k (by
          simp only [DataW.weights, ht]
          refine List.mem_cons_of_mem _ (List.mem_append_left _ (weightsAll_mem (d := D i) ?_ k hk))
          exact List.mem_map_of_mem (List.mem_range.2 hil)))
        refine ⟨x, cs', by rw [hlen, hsz], fun j hj => ?_, hx⟩
        rw [← hat j (by rw [hsz]; exact hj), hsz]
        congr 1
        obtain ⟨b, off, spot⟩ := a
        simp only at hspot
        subst hspot
        rw [Go.Deep.add_add]
        unfold Addr.add
        by_cases h0 : i * size + j = 0
        · rw [if_pos h0]
          simp only [Addr.mk.injEq, and_true, true_and]
          omega
        · rw [if_neg h0]
          simp only [Addr.mk.injEq, and_true, true_and]
          omega)
      subst hxl
      refine ⟨xs, ⟨some a, cap, rfl, hl, hm, (fun h => by cases h), fun _ => ⟨a.block, a.off, ?_, hB, hxs⟩⟩, hlen⟩
      obtain ⟨b, off, spot⟩ := a
      simp only at hspot
      subst hspot
      rfl⟩
/-- A struct's cells, field by field. -/
theorem opensW_fields {H : Type} {enc : TypeId × Value → H} {P : Program} {w : World} {sp : Nat → Bool} {held : Bool} {n B : Nat} {t : TypeId} {fs : Array Field} {cs : List Value} {y : DataW H × List MemPlace}
    (ht : P.underlying t = some (.struct fs)) (h : DataW.trod enc P w 0 sp held n t cs = some y) (hp : ∀ p ∈ y.2, p.block < B) (hw : ∀ n ∈ y.1.weights P t, n ≤ reachBytes) :
    cs.length = P.cellsOf t ∧ ∀ (i : Nat) (f : Field) {α : Type} {R : Rep α}, fs[i]? = some f → OpensW P f.type R → ∃ x, R w B ((cs.drop f.offset).take (P.cellsOf f.type)) x := by
  obtain ⟨xs, n', _, rfl, hlen, hxl, hf⟩ := DataW.trod_struct ht h
  refine ⟨hlen, fun i f α R hi hR => ?_⟩
  have h1 := hf i f hi
  have hil : i < xs.length := by rw [hxl]; exact (Array.getElem?_eq_some_iff.1 hi).1
  rw [List.getElem?_eq_getElem hil] at h1
  refine hR.out h1 (fun p hp' => hp p ?_) (fun k hk => hw k ?_)
  · simp only [List.mem_flatMap]
    exact ⟨xs[i], List.getElem_mem hil, hp'⟩
  · simp only [DataW.weights, ht]
    refine DataW.weights_mem_each (j := i) (t := f.type) (d := xs[i].1) ?_ ?_ k hk
    · rw [List.getElem?_map, Array.getElem?_toList, hi]; rfl
    · rw [List.getElem?_map, List.getElem?_eq_getElem hil]; rfl
end Go.Proofs.YtjldgieffkemlaaGreatDoor
