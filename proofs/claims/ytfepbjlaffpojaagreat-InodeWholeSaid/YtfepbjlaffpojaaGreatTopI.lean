/-
  What every claim of this seat uses at its top: the program's laid-out facts; arguments opened.
-/
import Derived.Test.YtfepbjlaffpojaaGreatRows
import Derived.Test.YtfepbjlaffpojaaGreatActR
import Derived.ProofKit
import Derived.OpenShut
import Derived.ChangeOld
namespace Go.Proofs.YtfepbjlaffpojaaGreat
set_option linter.unusedVariables false
open Go.ChangeShapes Go.WideShapes Go.ChangeAt Go.RowKit

theorem topOwn : ownKnob Tryz.prog.godebug = none := by kernel_rfl
theorem topLaid : laidOutB Tryz.prog = true := by kernel_rfl
theorem trod_lt_of {H : Type} {enc : TypeId × Value → H} {W : World} {t : TypeId} {v : Value} {d : DataW H} {ps : List MemPlace} (h : DataW.Trod enc Tryz.prog W 0 (fun _ => true) true t v d ps) : ∀ x ∈ ps, x.block < W.heap.size := by
  obtain ⟨m, hm⟩ := h; exact DataW.trod_lt m _ _ _ hm
/-- A one-cell argument, read. -/
theorem opened {H : Type} {enc : TypeId × Value → H} {W : World} {t : TypeId} {v : Value} {d : DataW H} {ps : List MemPlace} {α : Type} {R : Rep α} (hR : Opens Tryz.prog t R)
    (h : DataW.Trod enc Tryz.prog W 0 (fun _ => true) true t v d ps) (hc : v.cells.toList = [v]) : ∃ x, R W W.heap.size [v] x := by
  have lt := trod_lt_of h
  obtain ⟨fuel, hf⟩ := h
  rw [hc] at hf
  exact hR.out hf lt
end Go.Proofs.YtfepbjlaffpojaaGreat
