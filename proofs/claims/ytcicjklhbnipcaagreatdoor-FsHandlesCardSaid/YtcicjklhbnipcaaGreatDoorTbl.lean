/-
  Layer 8: a table as a chunk of the memory, and its calls over chunks.
-/
import Derived.Test.YtcicjklhbnipcaaGreatDoorObj
import Derived.Test.YtcicjklhbnipcaaGreatDoorInoQ
namespace Go.Proofs.YtcicjklhbnipcaaGreatDoor
set_option linter.unusedVariables false
set_option linter.unusedSimpArgs false
open Go.RowKit Go.Maps

def nodeL (β : Int → Nat × Nat) (n : NodeD) : List Ent :=
  [((β n.id).1, true, .cells [.bool n.dir, .int .i64 n.links, .int .i64 n.holds, .string n.data, .map (some (β n.id).2)] 166), ((β n.id).2, true, mapR Tryz.prog 9 (namesL n.names))]
def tblE (g mb : Nat) (t : TabD) : Ent := (g, true, .cells [.int .i64 t.quota, .int .i64 t.used, .int .i64 t.last, .map (some mb)] 162)
/-- A table's blocks. -/
def tblL (g mb : Nat) (β : Int → Nat × Nat) (t : TabD) : List Ent := tblE g mb t :: (mb, true, mapR Tryz.prog 3 (nodesL β t.nodes)) :: t.nodes.flatMap (nodeL β)
section
variable {w w' : World} {g mb : Nat} {β : Int → Nat × Nat} {t t' : TabD}
theorem tblL_keys : keysOf (tblL g mb β t) = foot g mb β t.nodes := by
  unfold keysOf tblL foot tblE
  simp only [List.map_cons, List.cons.injEq, true_and]
  rw [List.map_flatMap]
  rfl
theorem tblL_flag : flagged (tblL g mb β t) := fun x hx => by
  unfold tblL at hx
  rcases List.mem_cons.1 hx with rfl | hx
  · rfl
  rcases List.mem_cons.1 hx with rfl | hx
  · rfl
  obtain ⟨n, hn, hx⟩ := List.mem_flatMap.1 hx
  unfold nodeL at hx
  simp only [List.mem_cons, List.not_mem_nil, or_false] at hx
  rcases hx with rfl | rfl <;> rfl
theorem TblAt.at_ (h : TblAt w g mb β t) : At (tblL g mb β t) w := by
  refine ⟨fun x hx => ?_, by rw [tblL_keys]; exact h.apart⟩
  unfold tblL at hx
  rcases List.mem_cons.1 hx with rfl | hx
  · exact h.row
  rcases List.mem_cons.1 hx with rfl | hx
  · exact mapR_of h.map
  obtain ⟨n, hn, hx⟩ := List.mem_flatMap.1 hx
  unfold nodeL at hx
  simp only [List.mem_cons, List.not_mem_nil, or_false] at hx
  rcases hx with rfl | rfl
  · exact (h.node n hn).row
  · exact mapR_of (h.node n hn).names
theorem At.tbl (h : At (tblL g mb β t) w) : TblAt w g mb β t where
  row := h.has (tblE g mb t) (by unfold tblL; exact .head _)
  map := mapR_at (k := 3) (P := Tryz.prog) (h.has (mb, true, mapR Tryz.prog 3 (nodesL β t.nodes)) (by unfold tblL; exact .tail _ (.head _)))
  node := fun n hn => by
    have h1 := h.has ((β n.id).1, true, .cells [.bool n.dir, .int .i64 n.links, .int .i64 n.holds, .string n.data, .map (some (β n.id).2)] 166) (by
      unfold tblL; refine .tail _ (.tail _ (List.mem_flatMap.2 ⟨n, hn, ?_⟩)); unfold nodeL; exact .head _)
    have h2 := h.has ((β n.id).2, true, mapR Tryz.prog 9 (namesL n.names)) (by
      unfold tblL; refine .tail _ (.tail _ (List.mem_flatMap.2 ⟨n, hn, ?_⟩)); unfold nodeL; exact .tail _ (.head _))
    exact ⟨h1, mapR_at h2⟩
  apart := by have := h.nd; rwa [tblL_keys] at this
theorem Goes.st (h : Goes w g mb β t w' t') : ∃ β', St w (keysOf (tblL g mb β t)) w' (tblL g mb β' t') := by
  obtain ⟨β', h1, h2, h3⟩ := h
  refine ⟨β', by rw [tblL_keys]; exact h2, h1.at_.has, h1.at_.nd, fun x hx _ => ?_⟩
  rw [tblL_keys]
  refine h3 x.1 ?_
  rw [← tblL_keys]
  exact List.mem_map_of_mem hx
theorem Step.st (h : Step w w' g mb β t t') : ∃ β', St w (keysOf (tblL g mb β t)) w' (tblL g mb β' t') := h.goes.st
/-- Since 'w' the table has become this one. -/
def TGoes (w : World) (g mb : Nat) (β : Int → Nat × Nat) (t : TabD) (w' : World) (t' : TabD) : Prop := ∃ β', St w (keysOf (tblL g mb β t)) w' (tblL g mb β' t')
end
end Go.Proofs.YtcicjklhbnipcaaGreatDoor
