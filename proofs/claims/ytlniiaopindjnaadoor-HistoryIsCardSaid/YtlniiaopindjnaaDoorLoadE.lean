/-
  A call that was seen, loaded whole, as one step.
-/
import Derived.Test.YtlniiaopindjnaaDoorHisA
import Derived.Test.YtlniiaopindjnaaDoorOpAt
namespace Go.Proofs.YtlniiaopindjnaaDoor
set_option linter.unusedVariables false
open Go.RowKit

set_option maxHeartbeats 4000000 in
set_option maxRecDepth 100000 in
theorem load_event0 (d : Option Nat) (t : Nat) (ty : TypeId) (pos : String) (aft : Array _) (g : Option (Nat × Bool)) (ev : Operand → Value) (b q : Nat) (x : EventD) (w : World) (hev : ev (.tmp t) = .pointer (some ⟨b, q, none⟩))
    (h : ∀ j, j < 16 → w.cell? ⟨b, q + j, none⟩ = x.cells[j]?) :
    Sem.run Tryd.prog (execOp ev { dst := d, op := .load 44 (.tmp t), type := ty, pos := pos, after := aft, guard := g }) w = .ok (.value x.agg) w := by
  obtain ⟨c0, c1, c2, c3, c4, c5, c6, c7, c8, c9, c10, c11, c12, c13, c14, c15⟩ := event_cells h
  clear h
  go_simp
end Go.Proofs.YtlniiaopindjnaaDoor
