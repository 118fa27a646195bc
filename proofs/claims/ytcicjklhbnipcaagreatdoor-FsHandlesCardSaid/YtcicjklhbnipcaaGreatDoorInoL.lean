/-
  Layer 8: List, walked.
-/
import Derived.Test.YtcicjklhbnipcaaGreatDoorIter
namespace Go.Proofs.YtcicjklhbnipcaaGreatDoor
set_option linter.unusedVariables false
set_option linter.unusedSimpArgs false
open Go.RowKit Go.Maps

theorem keys_small {w : World} {m : Nat} {d : List (ByteArray × Int)} (h : NamesAt w m d) : ∀ p ∈ d, p.1.size ≤ maxLen := by
  have := strKeys_le h Tryz.underlying9
  rw [keys_names] at this
  intro p hp
  have := this p.1.data.toList (List.mem_map.2 ⟨p, hp, rfl⟩)
  simpa using this
/-- A row of texts that was made is a slice of these texts. -/
theorem strs_of_own {w : World} {base : Nat} {v : Value} {xs : List ByteArray} (h : w.ownsRow base 9 1 v xs.length (xs.map .string)) (hs : ∀ s ∈ xs, s.size ≤ maxLen) : ∃ a c, v = .slice a xs.length c ∧ RSlice 1 RStr w w.heap.size [.slice a xs.length c] xs := by
  rcases h.2 with ⟨rfl, hz⟩ | ⟨g, cap, cur, rfl, hb, hg, h1, h2, h3, h4⟩
  · have : xs = [] := List.eq_nil_of_length_eq_zero hz
    subst this
    exact ⟨none, 0, rfl, slice_nil⟩
  · refine ⟨some ⟨g, 0, none⟩, cap, rfl, slice_of_block hg (lt_of_get hg) h1 h2 fun i x hi => ⟨[.string x], rfl, fun j hj => ?_, rfl, hs x (List.mem_of_getElem? hi)⟩⟩
    obtain rfl : j = 0 := by omega
    have hil : i < xs.length := (List.getElem?_eq_some_iff.1 hi).1
    have := congrArg (fun l => l[i]?) h4
    simp only [List.getElem?_map, hi, Option.map_some] at this
    rw [List.getElem?_take_of_lt (by omega)] at this
    simpa using this
section
variable {w : World} {g mb : Nat} {β : Int → Nat × Nat} {t : TabD}
/-- What List answers. -/
def RList (w : World) (t : TabD) (dir : Int) (e : Ending) (w' : World) : Prop :=
  ∃ a c, e = .returned (.tuple #[.slice a (In.list t dir).length c, .int .i64 (In.listE t dir)]) ∧ RSlice 1 RStr w' w'.heap.size [.slice a (In.list t dir).length c] (In.list t dir) ∧ Below w.heap.size w w'
set_option maxHeartbeats 1000000 in
theorem List_any (h : TblAt w g mb β t) (hq : 0 < t.quota) {dir : Int} (hdir : Fits dir) (hlen : ∀ n ∈ t.nodes, n.names.length ≤ 4611686018427) :
    Calls Tryz.prog 113 #[.pointer (some ⟨g, 0, none⟩), .int .i64 dir] w (RList w t dir) := by
  rcases getE_dec (t := t) (id := dir) (dir := true) with ⟨h1, d, hd, hdd⟩ | h1
  · have cg := get_yes h hq hdir hd hdd
    have hE : In.listE t dir = 0 := h1
    have hL : In.list t dir = d.names.map Prod.fst := by unfold In.list; rw [hE, at_find hd]; rfl
    have hA := h.at hd
    have d4 := (node_cells hA).2.2.2.2
    have HNm := Lib.hid hA.names
    have HS := Lib.hid (sortedS_any w hA.names (hlen d (find_mem hd).1))
    have HE := Lib.hid hE
    have HL := Lib.hid hL
    have HK := Lib.hid (keys_small hA.names)
    have CK := Lib.hid (keysS_any (some (β dir).2) w)
    clear h hq h1 hd hdd hA hlen hE hL
    go_enter Tryz.func113, Tryz.ntmps113
    go_wp2_with (first
      | (go_at_call 165; refine cg.mono ?_; rintro e w' ⟨rfl, rfl⟩)
      | (go_at_call 122; refine CK.out.mono ?_; rintro e w' ⟨rfl, rfl⟩)
      | (go_at_call 121; refine HS.out.mono ?_; rintro e w2 ⟨v, rfl, hrow, hb⟩; have HR := Lib.hid hrow; have HB := Lib.hid hb; clear hrow hb))
    have hr := HR.out
    have e1 : (d.names.map fun p => Value.string p.1) = (d.names.map Prod.fst).map .string := by rw [List.map_map]; rfl
    have e2 : d.names.length = (d.names.map Prod.fst).length := by simp
    rw [e1, e2] at hr
    obtain ⟨a, c, rfl, hsl⟩ := strs_of_own hr (fun s hs => by obtain ⟨p, hp, rfl⟩ := List.mem_map.1 hs; exact HK.out p hp)
    go_ret2
    unfold RList
    rw [HE.out, HL.out]
    exact ⟨a, c, rfl, hsl, HB.out⟩
  · obtain ⟨E, hE⟩ : ∃ E, In.listE t dir = E := ⟨_, rfl⟩
    have hE' : In.getE t dir true = E := hE
    have h0 : E ≠ 0 := hE' ▸ h1
    have cg := get_no h hq hdir hE' h0
    have e0 := bne0_true h0
    have HE := Lib.hid hE
    have HL := Lib.hid (show In.list t dir = [] by unfold In.list; rw [hE, beq0_false h0]; rfl)
    clear h hq h1 hlen hE hE' h0
    go_enter Tryz.func113, Tryz.ntmps113
    go_wp2_with (go_at_call 165; refine cg.mono ?_; rintro e w' ⟨rfl, rfl⟩)
    go_ret2
    unfold RList
    rw [HE.out, HL.out]
    exact ⟨none, 0, rfl, slice_nil, Below.refl _ _⟩
end
end Go.Proofs.YtcicjklhbnipcaaGreatDoor
