/-
  Layer 9: acts as they come in: an owner, whether it goes, an operation.
-/
import Derived.Test.YtcicjklhbnipcaaGreatDoorPts
import Derived.OpenShut
namespace Go.Proofs.YtcicjklhbnipcaaGreatDoor
set_option linter.unusedVariables false
set_option linter.unusedSimpArgs false
open Go.ChangeShapes Go.WideShapes Go.RowKit

theorem len9 {cs : List Value} (h : cs.length = 9) : ∃ c0 c1 c2 c3 c4 c5 c6 c7 c8, cs = [c0, c1, c2, c3, c4, c5, c6, c7, c8] := by
  match cs, h with
  | [c0, c1, c2, c3, c4, c5, c6, c7, c8], _ => exact ⟨c0, c1, c2, c3, c4, c5, c6, c7, c8, rfl⟩
theorem len11 {cs : List Value} (h : cs.length = 11) : ∃ c0 c1 c2 c3 c4 c5 c6 c7 c8 c9 c10, cs = [c0, c1, c2, c3, c4, c5, c6, c7, c8, c9, c10] := by
  match cs, h with
  | [c0, c1, c2, c3, c4, c5, c6, c7, c8, c9, c10], _ => exact ⟨c0, c1, c2, c3, c4, c5, c6, c7, c8, c9, c10, rfl⟩
/-- What every operation's numbers and texts are. -/
structure OpD.Fit (o : OpD) : Prop where
  kind : Fits o.kind
  h : Fits o.h
  at_ : Fits o.at_
  n : Fits o.n
  path : o.path.size ≤ maxLen
  dest : o.dest.size ≤ maxLen
  data : o.data.size ≤ maxLen
structure ActF where
  owner : Int
  exit : Bool
  op : OpD
def ActF.cells (a : ActF) : List Value := .int .i64 a.owner :: .bool a.exit :: a.op.cells
structure ActF.Fit (a : ActF) : Prop where
  owner : Fits a.owner
  op : a.op.Fit
def ROp9 : Rep OpD := fun _ _ cs x => cs = x.cells ∧ x.Fit
def RActF : Rep ActF := fun _ _ cs x => cs = x.cells ∧ x.Fit
theorem kept_actF : Kept RActF := ⟨fun _ _ h => h⟩
def RActsF : Rep (List ActF) := RSlice 11 RActF
theorem kept_actsF : Kept RActsF := kept_slice kept_actF
theorem opens_named_str : Opens Tryz.prog 9 RStr := opens_str Tryz.underlying9
theorem opens_named_int : Opens Tryz.prog 3 (RInt .i64) := opens_int Tryz.underlying3
theorem opens_named_bool : Opens Tryz.prog 4 RBool := opens_bool Tryz.underlying4
theorem cells_op9 : Tryz.prog.cellsOf 34 = 9 := by kernel_rfl
theorem opens_op9 : Opens Tryz.prog 34 ROp9 := ⟨by
  intro H enc w sp held k B cs y h hp
  obtain ⟨hl, hf⟩ := opens_fields Tryz.underlying34 h hp
  rw [cells_op9] at hl
  obtain ⟨c0, c1, c2, c3, c4, c5, c6, c7, c8, rfl⟩ := len9 hl
  obtain ⟨x0, h0⟩ := hf 0 _ rfl opens_named_int
  replace h0 : (RInt .i64) w B (([c0, c1, c2, c3, c4, c5, c6, c7, c8].drop 0).take (Tryz.prog.cellsOf 3)) x0 := h0
  rw [show Tryz.prog.cellsOf 3 = 1 from by kernel_rfl] at h0
  replace h0 : (RInt .i64) w B [c0] x0 := h0
  obtain ⟨x1, h1⟩ := hf 1 _ rfl opens_named_str
  replace h1 : RStr w B (([c0, c1, c2, c3, c4, c5, c6, c7, c8].drop 1).take (Tryz.prog.cellsOf 9)) x1 := h1
  rw [show Tryz.prog.cellsOf 9 = 1 from by kernel_rfl] at h1
  replace h1 : RStr w B [c1] x1 := h1
  obtain ⟨x2, h2⟩ := hf 2 _ rfl opens_named_str
  replace h2 : RStr w B (([c0, c1, c2, c3, c4, c5, c6, c7, c8].drop 2).take (Tryz.prog.cellsOf 9)) x2 := h2
  rw [show Tryz.prog.cellsOf 9 = 1 from by kernel_rfl] at h2
  replace h2 : RStr w B [c2] x2 := h2
  obtain ⟨x3, h3⟩ := hf 3 _ rfl opens_named_int
  replace h3 : (RInt .i64) w B (([c0, c1, c2, c3, c4, c5, c6, c7, c8].drop 3).take (Tryz.prog.cellsOf 3)) x3 := h3
  rw [show Tryz.prog.cellsOf 3 = 1 from by kernel_rfl] at h3
  replace h3 : (RInt .i64) w B [c3] x3 := h3
  obtain ⟨x4, h4⟩ := hf 4 _ rfl opens_named_int
  replace h4 : (RInt .i64) w B (([c0, c1, c2, c3, c4, c5, c6, c7, c8].drop 4).take (Tryz.prog.cellsOf 3)) x4 := h4
  rw [show Tryz.prog.cellsOf 3 = 1 from by kernel_rfl] at h4
  replace h4 : (RInt .i64) w B [c4] x4 := h4
  obtain ⟨x5, h5⟩ := hf 5 _ rfl opens_named_int
  replace h5 : (RInt .i64) w B (([c0, c1, c2, c3, c4, c5, c6, c7, c8].drop 5).take (Tryz.prog.cellsOf 3)) x5 := h5
  rw [show Tryz.prog.cellsOf 3 = 1 from by kernel_rfl] at h5
  replace h5 : (RInt .i64) w B [c5] x5 := h5
  obtain ⟨x6, h6⟩ := hf 6 _ rfl opens_named_str
  replace h6 : RStr w B (([c0, c1, c2, c3, c4, c5, c6, c7, c8].drop 6).take (Tryz.prog.cellsOf 9)) x6 := h6
  rw [show Tryz.prog.cellsOf 9 = 1 from by kernel_rfl] at h6
  replace h6 : RStr w B [c6] x6 := h6
  obtain ⟨x7, h7⟩ := hf 7 _ rfl opens_named_int
  replace h7 : (RInt .i64) w B (([c0, c1, c2, c3, c4, c5, c6, c7, c8].drop 7).take (Tryz.prog.cellsOf 3)) x7 := h7
  rw [show Tryz.prog.cellsOf 3 = 1 from by kernel_rfl] at h7
  replace h7 : (RInt .i64) w B [c7] x7 := h7
  obtain ⟨x8, h8⟩ := hf 8 _ rfl opens_named_int
  replace h8 : (RInt .i64) w B (([c0, c1, c2, c3, c4, c5, c6, c7, c8].drop 8).take (Tryz.prog.cellsOf 3)) x8 := h8
  rw [show Tryz.prog.cellsOf 3 = 1 from by kernel_rfl] at h8
  replace h8 : (RInt .i64) w B [c8] x8 := h8
  obtain ⟨e0, b0⟩ := h0
  obtain ⟨e1, b1⟩ := h1
  obtain ⟨e2, b2⟩ := h2
  obtain ⟨e3, b3⟩ := h3
  obtain ⟨e4, b4⟩ := h4
  obtain ⟨e5, b5⟩ := h5
  obtain ⟨e6, b6⟩ := h6
  obtain ⟨e7, b7⟩ := h7
  obtain ⟨e8, b8⟩ := h8
  simp only [List.cons.injEq, and_true] at e0 e1 e2 e3 e4 e5 e6 e7 e8
  subst e0 e1 e2 e3 e4 e5 e6 e7 e8
  exact ⟨⟨x0, x1, x2, x3, x4, x5, x6, x7, x8⟩, rfl, ⟨b0, b3, b4, b5, b1, b2, b6⟩⟩⟩
theorem cells_actF : Tryz.prog.cellsOf 36 = 11 := by kernel_rfl
theorem opens_actF : Opens Tryz.prog 36 RActF := ⟨by
  intro H enc w sp held k B cs y h hp
  obtain ⟨hl, hf⟩ := opens_fields Tryz.underlying36 h hp
  rw [cells_actF] at hl
  obtain ⟨c0, c1, c2, c3, c4, c5, c6, c7, c8, c9, c10, rfl⟩ := len11 hl
  obtain ⟨x0, h0⟩ := hf 0 _ rfl opens_named_int
  replace h0 : (RInt .i64) w B (([c0, c1, c2, c3, c4, c5, c6, c7, c8, c9, c10].drop 0).take (Tryz.prog.cellsOf 3)) x0 := h0
  rw [show Tryz.prog.cellsOf 3 = 1 from by kernel_rfl] at h0
  replace h0 : (RInt .i64) w B [c0] x0 := h0
  obtain ⟨x1, h1⟩ := hf 1 _ rfl opens_named_bool
  replace h1 : RBool w B (([c0, c1, c2, c3, c4, c5, c6, c7, c8, c9, c10].drop 1).take (Tryz.prog.cellsOf 4)) x1 := h1
  rw [show Tryz.prog.cellsOf 4 = 1 from by kernel_rfl] at h1
  replace h1 : RBool w B [c1] x1 := h1
  obtain ⟨x2, h2⟩ := hf 2 _ rfl opens_op9
  replace h2 : ROp9 w B (([c0, c1, c2, c3, c4, c5, c6, c7, c8, c9, c10].drop 2).take (Tryz.prog.cellsOf 34)) x2 := h2
  rw [show Tryz.prog.cellsOf 34 = 9 from by kernel_rfl] at h2
  replace h2 : ROp9 w B [c2, c3, c4, c5, c6, c7, c8, c9, c10] x2 := h2
  obtain ⟨e0, b0⟩ := h0
  have e1 : [c1] = [Value.bool x1] := h1
  obtain ⟨e2, b2⟩ := h2
  simp only [List.cons.injEq, and_true] at e0 e1
  subst e0 e1
  exact ⟨⟨x0, x1, x2⟩, congrArg (fun r => Value.int .i64 x0 :: Value.bool x1 :: r) e2, ⟨b0, b2⟩⟩⟩
theorem opens_actsF : Opens Tryz.prog 22 RActsF := opens_slice Tryz.underlying22 cells_actF (by omega) opens_actF
/-- Acts that lie in memory: cell by cell. -/
def ActsIn (w : World) (a : Option Addr) (n : Nat) (xs : List ActF) : Prop :=
  n = xs.length ∧ n ≤ maxLen ∧ ∀ k x, xs[k]? = some x → x.Fit ∧ ∃ b off, a = some ⟨b, off, none⟩ ∧ ∀ j, j < 11 → w.cell? ⟨b, off + k * 11 + j, none⟩ = x.cells[j]?
theorem actsF_in {w : World} {B : Nat} {a : Option Addr} {n cap : Nat} {xs : List ActF} (h : RActsF w B [.slice a n cap] xs) : ActsIn w a n xs := by
  obtain ⟨a', cap', h1, h2, h3, h5, h4⟩ := h
  simp only [List.cons.injEq, Value.slice.injEq, and_true] at h1
  obtain ⟨rfl, rfl, rfl⟩ := h1
  refine ⟨rfl, by omega, fun k x hk => ?_⟩
  have hp : 0 < xs.length := by have := (List.getElem?_eq_some_iff.1 hk).1; omega
  obtain ⟨b, off, rfl, hb, hx⟩ := h4 hp
  obtain ⟨es, hl, hc, rfl, hs⟩ := hx k x hk
  exact ⟨hs, b, off, rfl, hc⟩
theorem ActsIn.below {w w' : World} {a : Option Addr} {n : Nat} {xs : List ActF} (h : ActsIn w a n xs) (hb : Below w.heap.size w w') : ActsIn w' a n xs := by
  obtain ⟨h1, h2, h3⟩ := h
  refine ⟨h1, h2, fun k x hk => ?_⟩
  obtain ⟨hf, b, off, ha, hc⟩ := h3 k x hk
  refine ⟨hf, b, off, ha, fun j hj => ?_⟩
  have := hc j hj
  have hlen : x.cells.length = 11 := rfl
  have hs : x.cells[j]? = some x.cells[j] := List.getElem?_eq_getElem (by omega)
  rw [hs] at this ⊢
  exact (hb.cell (p := ⟨b, off + k * 11 + j, none⟩) (World.block_lt_of_cell? w _ this)).trans this
end Go.Proofs.YtcicjklhbnipcaaGreatDoor
