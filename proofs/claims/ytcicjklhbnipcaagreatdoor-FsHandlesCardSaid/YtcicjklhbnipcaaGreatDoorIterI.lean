/-
  slices.Sorted(maps.Keys(m)) over a table's inodes: their numbers, in order.
-/
import Derived.Test.YtcicjklhbnipcaaGreatDoorIter
namespace Go.Proofs.YtcicjklhbnipcaaGreatDoor
set_option linter.unusedVariables false
set_option linter.unusedSimpArgs false
open Go.RowKit Go.Maps Go.Sort Go.Shelf

theorem sort_ints {ss ks : List Int} (h : ss.Perm ks) (hs : ks.Pairwise fun a b => a < b) : ss.mergeSort leI = ks := by
  rw [mergeSort_of_perm_i h]
  refine List.mergeSort_of_pairwise (hs.imp fun {a b} hab => ?_)
  simp only [leI, decide_eq_true_eq]
  omega
theorem keys_nodes (β : Int → Nat × Nat) (l : List NodeD) : intKeys (heldD (nodesL β l)) = l.map fun n => n.id := by
  simp [heldD, nodesL, intKeys, Go.intOf]
theorem sortsI (m : Nat) : AnyZI.SortsIn Tryz.prog Tryz.sortedI_ren Fence.wide m :=
  ⟨fun blk off cap ss W hH hblk hsz => callsIn_wide.2 (AnyM.slices_Sort_int Tryz.sortI blk off cap ss W hH hblk hsz), fun p cap W => callsIn_wide.2 (AnyM.slices_Sort_int_none Tryz.sortI p cap W)⟩
theorem keysI_any (mb : Option Nat) (W : World) : Calls Tryz.prog 120 #[.map mb] W fun e w' => e = .returned (.func (.func 168) #[] #[.pointer (some ⟨W.heap.size, 0, none⟩)]) ∧ w' = W.alloc (.cells #[.map mb] 160) :=
  (callsIn_wide (n := 5)).1 (AnyZI.keys_in Tryz.keysI Fence.wide 5 trivial rfl mb W)
/-- The inodes' numbers, in order, in a new slice. -/
theorem sortedI_any {m : Nat} {β : Int → Nat × Nat} {l : List NodeD} (w : World) (h : NodesAt w m β l) (hl : l.length ≤ 4611686018427) :
    Calls Tryz.prog 72 #[.func (.func 168) #[] #[.pointer (some ⟨w.heap.size, 0, none⟩)]] (w.alloc (.cells #[.map (some m)] 160)) fun e w' => ∃ v : Value, e = .returned v ∧
      w'.ownsRow (w.heap.size + 1) 3 1 v l.length (l.map fun n => .int .i64 n.id) ∧ Below w.heap.size w w' := by
  have hbl := MapAt.lt h
  have hsz : Maps.size (heldD (nodesL β l)) = l.length := by rw [size_held]; simp [nodesL]
  have hown : w.ownsMap Tryz.prog 3 anyElem m (nodesL β l).length (heldD (nodesL β l)) := h
  have hseq : SeqGives Fence.wide 2 Tryz.prog 168 #[.pointer (some ⟨w.heap.size, 0, none⟩)] encZ (fun ss => ss.Perm (intKeys (heldD (nodesL β l)))) (Maps.size (heldD (nodesL β l))) (w.alloc (.cells #[.map (some m)] 160)) :=
    AnyZI.keys_gives (ρ := Tryz.keysI_ren) { Tryz.keysI with } Fence.wide _ trivial rfl (by omega) w.heap.size m _ _ _ (by simp) (by simp) (by
      obtain ⟨es, clock, hb, Ft, hs, hD⟩ := hown
      exact ⟨es, clock, (Below.heap_alloc _ _ m hbl).trans hb, Ft, hs, hD⟩)
  have key := AnyZI.sorted_in Tryz.sortedI Fence.wide 5 trivial trivial trivial trivial rfl (by omega) (sortsI _) (enters_of Tryz.func124 (by kernel_rfl) rfl) 168 #[.pointer (some ⟨w.heap.size, 0, none⟩)] trivial (enters_of Tryz.func168 (by kernel_rfl) rfl) _ _ (by rw [hsz, maxLen_val]; omega) (by rw [hsz]; omega) _ hseq
  refine ((callsIn_wide (n := 5)).1 key).mono fun e w' hx => ?_
  obtain ⟨v, ss, he, hp, hrow, _, hb⟩ := hx
  refine ⟨v, he, ?_, ((Below.refl _ w).alloc (Nat.le_refl _) _).trans (hb.mono (by simp))⟩
  rw [keys_nodes] at hp
  have hs : (l.map fun n => n.id).Pairwise fun a b => a < b := by
    have := MapAt.sorted h key_int
    unfold nodesL at this
    rw [List.pairwise_map] at this ⊢
    exact this.imp fun h => by simpa [Lit.before] using h
  have e := sort_ints hp hs
  have hlen : ss.length = l.length := by rw [hp.length_eq]; simp
  rw [show (fun x y : Int => decide (x ≤ y)) = leI from rfl, e, hlen, List.map_map] at hrow
  rw [size_alloc] at hrow
  exact hrow
end Go.Proofs.YtcicjklhbnipcaaGreatDoor
