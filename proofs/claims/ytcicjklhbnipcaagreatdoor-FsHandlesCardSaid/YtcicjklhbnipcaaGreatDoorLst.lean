/-
  Layer 8: List, its names in a slice of its own.
-/
import Derived.Test.YtcicjklhbnipcaaGreatDoorTbl
import Derived.Test.YtcicjklhbnipcaaGreatDoorPth
namespace Go.Proofs.YtcicjklhbnipcaaGreatDoor
set_option linter.unusedVariables false
set_option linter.unusedSimpArgs false
open Go.RowKit Go.Maps
section
variable {w : World} {g mb : Nat} {β : Int → Nat × Nat} {t : TabD}
theorem st_of_own {w w' : World} {base n : Nat} {v : Value} {xs : List Value} {e : TypeId} (h : w'.ownsRow base e 1 v n xs) (hb : Below w.heap.size w w') (hB : w.heap.size ≤ base) : ∃ s, v = slV s n ∧ SlOK s n xs 1 ∧ St w [] w' (slL s xs e 1) := by
  obtain ⟨hl, h⟩ := h
  rcases h with ⟨rfl, rfl⟩ | ⟨g, cap, cur, rfl, hg, hc, h1, h2, h3, h4⟩
  · exact ⟨none, rfl, ⟨hl, rfl⟩, ⟨Only.of_below hb, nofun, List.nodup_nil, nofun⟩⟩
  · refine ⟨some (g, cap), rfl, ⟨hl, h1, h2⟩, ⟨Only.of_below hb, fun z hz => ?_, by simp [slL], fun z hz _ => ?_⟩⟩
    · obtain rfl := List.mem_singleton.1 hz
      refine ⟨cur.toList.drop (n * 1), ?_, ?_⟩
      · rw [← h4, List.take_append_drop]; simpa using hc
      · rw [← h4, List.take_append_drop]; simpa using h3
    · obtain rfl := List.mem_singleton.1 hz
      exact .inr (Nat.le_trans hB hg)
/-- What List answers, in a slice of its own. -/
def RList9 (w : World) (t : TabD) (dir : Int) (e : Ending) (w' : World) : Prop :=
  ∃ s, e = .returned (.tuple #[slV s (In.list t dir).length, .int .i64 (In.listE t dir)]) ∧ TxOK s (In.list t dir) ∧ St w [] w' (txL s (In.list t dir))
set_option maxHeartbeats 1000000 in
theorem List9_any (h : TblAt w g mb β t) (hq : 0 < t.quota) {dir : Int} (hdir : Fits dir) (hlen : ∀ n ∈ t.nodes, n.names.length ≤ 4611686018427) :
    Calls Tryz.prog 113 #[.pointer (some ⟨g, 0, none⟩), .int .i64 dir] w (RList9 w t dir) := by
  rcases getE_dec (t := t) (id := dir) (dir := true) with ⟨h1, d, hd, hdd⟩ | h1
  · have cg := get_yes h hq hdir hd hdd
    have hE : In.listE t dir = 0 := h1
    have hL : In.list t dir = d.names.map Prod.fst := by unfold In.list; rw [hE, at_find hd]; rfl
    have hA := h.at hd
    have d4 := (node_cells hA).2.2.2.2
    have HNm := Lib.hid hA.names
    have HS := Lib.hid (sortedS_any w hA.names (hlen d (find_mem hd).1))
    have HE := Lib.hid hE
    have HL := Lib.hid hL
    have HK := Lib.hid (keys_small hA.names)
    have CK := Lib.hid (keysS_any (some (β dir).2) w)
    clear h hq h1 hd hdd hA hlen hE hL
    go_enter Tryz.func113, Tryz.ntmps113
    go_wp2_with (first
      | (go_at_call 165; refine cg.mono ?_; rintro e w' ⟨rfl, rfl⟩)
      | (go_at_call 122; refine CK.out.mono ?_; rintro e w' ⟨rfl, rfl⟩)
      | (go_at_call 121; refine HS.out.mono ?_; rintro e w2 ⟨v, rfl, hrow, hb⟩; have HR := Lib.hid hrow; have HB := Lib.hid hb; clear hrow hb))
    have hr := HR.out
    have e1 : (d.names.map fun p => Value.string p.1) = (d.names.map Prod.fst).map .string := by rw [List.map_map]; rfl
    have e2 : d.names.length = (d.names.map Prod.fst).length := by simp
    rw [e1, e2] at hr
    obtain ⟨s, rfl, hok, hst⟩ := st_of_own hr HB.out (Nat.le_succ _)
    go_ret2
    unfold RList9
    rw [HE.out, HL.out]
    exact ⟨s, rfl, hok, hst⟩
  · obtain ⟨E, hE⟩ : ∃ E, In.listE t dir = E := ⟨_, rfl⟩
    have hE' : In.getE t dir true = E := hE
    have h0 : E ≠ 0 := hE' ▸ h1
    have cg := get_no h hq hdir hE' h0
    have e0 := bne0_true h0
    have HE := Lib.hid hE
    have HL := Lib.hid (show In.list t dir = [] by unfold In.list; rw [hE, beq0_false h0]; rfl)
    clear h hq h1 hlen hE hE' h0
    go_enter Tryz.func113, Tryz.ntmps113
    go_wp2_with (go_at_call 165; refine cg.mono ?_; rintro e w' ⟨rfl, rfl⟩)
    go_ret2
    unfold RList9
    rw [HE.out, HL.out]
    exact ⟨none, rfl, ⟨rfl, rfl⟩, St.start _ _⟩
end
end Go.Proofs.YtcicjklhbnipcaaGreatDoor
