/-
  slices.Sorted(maps.Keys(m)) over a map of names: the names, in order.
-/
import Derived.Test.YtcicjklhbnipcaaGreatDoorInoK
import Derived.Test.YtcicjklhbnipcaaGreatDoorLayI
namespace Go.Proofs.YtcicjklhbnipcaaGreatDoor
set_option linter.unusedVariables false
set_option linter.unusedSimpArgs false
open Go.RowKit Go.Maps Go.Sort Go.Shelf

theorem bytes_lt : ∀ {a b : List UInt8}, bytesBefore a b = true → a < b
  | [], [], h => by cases h
  | [], _ :: _, _ => List.nil_lt_cons _ _
  | _ :: _, [], h => by cases h
  | a :: r, b :: s, h => by
    rw [List.cons_lt_cons_iff]
    simp only [bytesBefore, Bool.or_eq_true, decide_eq_true_eq, Bool.and_eq_true, beq_iff_eq] at h
    rcases h with h | ⟨rfl, h⟩
    · exact .inl h
    · exact .inr ⟨rfl, bytes_lt h⟩
theorem sort_keys {ss ks : List (List UInt8)} (h : ss.Perm ks) (hs : ks.Pairwise fun a b => bytesBefore a b = true) : ss.mergeSort leB = ks := by
  rw [mergeSort_of_perm h]
  refine List.mergeSort_of_pairwise (hs.imp fun {a b} hab => ?_)
  simp only [leB, decide_eq_true_eq]
  exact List.le_of_lt (bytes_lt hab)
theorem keys_names (d : List (ByteArray × Int)) : strKeys (heldD (namesL d)) = d.map fun p => p.1.data.toList := by
  simp [heldD, namesL, strKeys, strOf]
theorem sortsS (m : Nat) : AnyZ.SortsIn Tryz.prog Tryz.sortedS_ren Fence.wide m :=
  ⟨fun blk off cap ss W hH hblk hsz => callsIn_wide.2 (AnyM.slices_Sort_string Tryz.sortS blk off cap ss W hH hblk hsz), fun p cap W => callsIn_wide.2 (AnyM.slices_Sort_string_none Tryz.sortS p cap W)⟩
theorem keysS_any (mb : Option Nat) (W : World) : Calls Tryz.prog 122 #[.map mb] W fun e w' => e = .returned (.func (.func 171) #[] #[.pointer (some ⟨W.heap.size, 0, none⟩)]) ∧ w' = W.alloc (.cells #[.map mb] 164) :=
  (callsIn_wide (n := 5)).1 (AnyZ.keys_in Tryz.keysS Fence.wide 5 trivial rfl mb W)
/-- The names, in order, in a new slice. -/
theorem sortedS_any {m : Nat} {d : List (ByteArray × Int)} (w : World) (h : NamesAt w m d) (hl : d.length ≤ 4611686018427) :
    Calls Tryz.prog 121 #[.func (.func 171) #[] #[.pointer (some ⟨w.heap.size, 0, none⟩)]] (w.alloc (.cells #[.map (some m)] 164)) fun e w' => ∃ v : Value, e = .returned v ∧
      w'.ownsRow (w.heap.size + 1) 9 1 v d.length (d.map fun p => .string p.1) ∧ Below w.heap.size w w' := by
  have hbl := MapAt.lt h
  have hsz : Maps.size (heldD (namesL d)) = d.length := by rw [size_held]; simp [namesL]
  have hown : w.ownsMap Tryz.prog 9 anyElem m (namesL d).length (heldD (namesL d)) := h
  have hseq : SeqGives Fence.wide 2 Tryz.prog 171 #[.pointer (some ⟨w.heap.size, 0, none⟩)] encStr (fun ss => ss.Perm (strKeys (heldD (namesL d)))) (Maps.size (heldD (namesL d))) (w.alloc (.cells #[.map (some m)] 164)) :=
    AnyZ.keys_gives (ρ := Tryz.keysS_ren) { Tryz.keysS with } Fence.wide _ trivial rfl (by omega) w.heap.size m _ _ _ (by simp) (by simp) (by
      obtain ⟨es, clock, hb, Ft, hs, hD⟩ := hown
      exact ⟨es, clock, (Below.heap_alloc _ _ m hbl).trans hb, Ft, hs, hD⟩)
  have key := AnyZ.sorted_in Tryz.sortedS Fence.wide 5 trivial trivial trivial trivial rfl (by omega) (sortsS _) (enters_of Tryz.func170 (by kernel_rfl) rfl) 171 #[.pointer (some ⟨w.heap.size, 0, none⟩)] trivial (enters_of Tryz.func171 (by kernel_rfl) rfl) _ _ (by rw [hsz, maxLen_val]; omega) (by rw [hsz]; omega) _ hseq
  refine ((callsIn_wide (n := 5)).1 key).mono fun e w' hx => ?_
  obtain ⟨v, ss, he, hp, hrow, _, hb⟩ := hx
  refine ⟨v, he, ?_, ((Below.refl _ w).alloc (Nat.le_refl _) _).trans (hb.mono (by simp))⟩
  rw [keys_names] at hp
  have hs : (d.map fun p => p.1.data.toList).Pairwise fun a b => bytesBefore a b = true := by
    have := MapAt.sorted h key_str
    unfold namesL at this
    rw [List.pairwise_map] at this ⊢
    exact this
  have e := sort_keys hp hs
  have hlen : ss.length = d.length := by rw [hp.length_eq]; simp
  rw [show (fun x y : List UInt8 => decide (x ≤ y)) = leB from rfl, e, hlen, List.map_map] at hrow
  rw [size_alloc] at hrow
  exact hrow
end Go.Proofs.YtcicjklhbnipcaaGreatDoor
