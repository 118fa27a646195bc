/-
  What every card of this seat uses at its top: the two tables as the condition lays them; a world that meets it; arguments opened.
-/
import Derived.Test.YtcicjklhbnipcaaGreatDoorFsW
import Derived.Test.YtcicjklhbnipcaaGreatDoorActF
import Derived.Test.YtcicjklhbnipcaaGreatDoorRows
import Derived.Test.YtcicjklhbnipcaaGreatDoorTie
import Derived.Test.YtcicjklhbnipcaaGreatDoorCards
import Derived.Lib.LaidIn
import Derived.Lib.LaidU8T
import Derived.LaidSub
import Derived.Deep.DeepHandedRow
import Derived.Deep.DeepWitnessRowRef
import Derived.ProofKit
import Derived.OpenShut
import Derived.ChangeOld
import Derived.SizedLaws
import Derived.SevenTiedAt
namespace Go.Proofs.YtcicjklhbnipcaaGreatDoor
set_option linter.unusedVariables false
set_option linter.unusedSimpArgs false
open Go.Shelf
open Go.ChangeShapes Go.WideShapes Go.ChangeAt Go.RowKit
open Go.Lib hiding intOf

theorem band {a b : Bool} (ha : a = true) (hb : b = true) : (a && b) = true := by rw [ha, hb]; rfl
theorem topOwn : ownKnob Tryz.prog.godebug = none := by kernel_rfl
theorem topLaid : laidOutB Tryz.prog = true := by kernel_rfl
abbrev tabsLaidF : List (String × DataW Unit) := [("unicode/utf8.acceptRanges", Rows.laid_unicode_utf8_acceptRanges), ("unicode/utf8.first", Rows.laid_unicode_utf8_first)]
/-- A world in which the two tables lie as their initialisers lay them. -/
noncomputable def laidWorldF (os : Os) : World :=
  let w0 := World.holding Tryz.prog os ⟨#[], #[], []⟩
  let put (h : Array Obj) (g : Nat) (cs : Array Value) : Array Obj := h.modify g fun
    | .cells _ t frozen => .cells cs t frozen
    | o => o
  let h1 := put w0.heap 1 (Lib.firstTab.map fun z => Value.int .u8 z).toArray
  let h2 := put h1 2 ((List.range 16).flatMap fun i => [Value.int .u8 (Lib.accLo i), Value.int .u8 (Lib.accHi i)]).toArray
  { w0 with heap := h2 }
theorem laid_metF (os : Os) (args : Array Value) : laidMet Tryz.prog tabsLaidF ((laidWorldF os).forCall (fun _ _ => 0) ⟨#[], args, []⟩).memory :=
  (LaidIn.of_run (l := tabsLaidF) [2, 1] 8 (by kernel_rfl) (by kernel_rfl) (by kernel_rfl) (by kernel_rfl)).met
theorem mx_of {W : World} (hsh : W.ShapedOpen Tryz.prog) : Mx W :=
  Go.Proofs.cell_of_shapedOpen_int (zero := #[.int .i64 0]) (t := 3) hsh (of_decide_eq_true (by kernel_rfl)) (by kernel_rfl) rfl (by kernel_rfl) (by kernel_rfl) Tryz.underlying3
theorem trod_lt_of {H : Type} {enc : TypeId × Value → H} {W : World} {t : TypeId} {v : Value} {d : DataW H} {ps : List MemPlace} (h : DataW.Trod enc Tryz.prog W 0 (fun _ => true) true t v d ps) : ∀ x ∈ ps, x.block < W.heap.size := by
  obtain ⟨m, hm⟩ := h; exact DataW.trod_lt m _ _ _ hm
/-- A one-cell argument, read. -/
theorem opened {H : Type} {enc : TypeId × Value → H} {W : World} {t : TypeId} {v : Value} {d : DataW H} {ps : List MemPlace} {α : Type} {R : Rep α} (hR : Opens Tryz.prog t R)
    (h : DataW.Trod enc Tryz.prog W 0 (fun _ => true) true t v d ps) (hc : v.cells.toList = [v]) : ∃ x, R W W.heap.size [v] x := by
  have lt := trod_lt_of h
  obtain ⟨fuel, hf⟩ := h
  rw [hc] at hf
  exact hR.out hf lt
end Go.Proofs.YtcicjklhbnipcaaGreatDoor
