/-
  Layer 8: a table as it always is: what 'sound' asks of its inodes holds.
-/
import Derived.Test.YtfepbjlaffpojaaGreatNodD
import Derived.Test.YtfepbjlaffpojaaGreatInoW
namespace Go.Proofs.YtfepbjlaffpojaaGreat
set_option linter.unusedVariables false
open Go.RowKit Go.Maps

section
variable {N : Nat} {t : TabD}
theorem root_first (h : In.Inv N t) : ∃ r, t.nodes[0]? = some r ∧ r.id = 1 ∧ r.dir = true := by
  obtain ⟨r, hr, hd⟩ := h.root
  obtain ⟨hm, hid⟩ := find_mem hr
  have hasc := h.asc
  have hpos := h.pos
  cases hl : t.nodes with
  | nil => rw [hl] at hm; cases hm
  | cons y l =>
    rw [hl] at hm
    unfold In.asc at hasc
    rw [hl] at hasc
    rcases List.mem_cons.1 hm with rfl | hm
    · exact ⟨r, rfl, hid, hd⟩
    · have h1 := (List.pairwise_cons.1 hasc).1 r hm
      have h2 := hpos y (by rw [hl]; simp)
      omega
theorem cnt_tot (l : List NodeD) (id : Int) : In.cnt l id ≤ In.tot l := by
  unfold In.cnt In.tot
  induction l with
  | nil => simp
  | cons y r ih =>
    simp only [List.map_cons, List.sum_cons]
    have : In.cntN y.names id ≤ y.names.length := List.countP_le_length
    omega
theorem sum_len (l : List NodeD) : 64 * l.length ≤ In.sum l := by
  unfold In.sum In.cost
  induction l with
  | nil => simp
  | cons y r ih =>
    simp only [List.map_cons, List.sum_cons, List.length_cons]
    omega
theorem sound_inv (h : In.Inv N t) (hN : N ≤ 1000000) (hl : t.nodes.length ≤ 1000000) : SoundL t.nodes where
  links := fun i n hi => by
    have hm := List.mem_of_getElem? hi
    have hk := h.links n hm
    obtain ⟨r, hr, hr1, _⟩ := root_first h
    have hroot : In.rootI n.id = if i = 0 then 1 else 0 := by
      unfold In.rootI
      by_cases h0 : i = 0
      · subst h0
        rw [hr] at hi
        injection hi with hi
        subst hi
        rw [if_pos hr1, if_pos rfl]
      · have hlt : r.id < n.id := by
          have := List.pairwise_iff_getElem.1 h.asc 0 i (List.getElem?_eq_some_iff.1 hr).1 (List.getElem?_eq_some_iff.1 hi).1 (by omega)
          rw [(List.getElem?_eq_some_iff.1 hr).2, (List.getElem?_eq_some_iff.1 hi).2] at this
          exact this
        rw [if_neg (by omega), if_neg h0]
    rw [hk, hroot]
    split <;> simp
  alive := fun n hn => (h.alive n hn (by have := h.pos n hn; omega)).1
  asc := fun i a b ha hb => by
    have := List.pairwise_iff_getElem.1 h.asc i (i + 1) (List.getElem?_eq_some_iff.1 ha).1 (List.getElem?_eq_some_iff.1 hb).1 (by omega)
    rw [(List.getElem?_eq_some_iff.1 ha).2, (List.getElem?_eq_some_iff.1 hb).2] at this
    exact this
  dirs := fun n hn hd => (h.dirs n hn hd).2
  files := h.files
  root := root_first h
  len := hl
  tot := fun id => Nat.le_trans (cnt_tot _ id) (Nat.le_trans h.tot hN)
  sum := by
    have h1 := h.used
    have h2 := h.cap
    have h3 := h.q1
    omega
end
end Go.Proofs.YtfepbjlaffpojaaGreat
