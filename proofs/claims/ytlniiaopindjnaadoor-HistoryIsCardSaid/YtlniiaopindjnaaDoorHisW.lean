/-
  Layer 35: awake, walked.
-/
import Derived.Test.YtlniiaopindjnaaDoorHisX
import Derived.Test.YtlniiaopindjnaaDoorHisG
import Derived.Deep.RegionHeld3
namespace Go.Proofs.YtlniiaopindjnaaDoor
set_option linter.unusedVariables false
open Go.RowKit
open Go.Lib hiding intOf

namespace Hi
def noCall : CallD := ⟨0, 0, ⟨#[]⟩, ⟨#[]⟩, none, 0, 0, ⟨#[]⟩, ⟨#[]⟩, 0⟩
def ev1 : EventD := ⟨1, noCall, 1, 2, 1, ⟨0, ⟨#[120]⟩, 0, ⟨#[]⟩⟩⟩
def ev2 : EventD := ⟨2, noCall, 3, 0, 3, ⟨0, ⟨#[]⟩, 0, ⟨#[]⟩⟩⟩
def ev3 : EventD := ⟨0, noCall, 2, 2, 1, ⟨0, ⟨#[]⟩, 0, ⟨#[]⟩⟩⟩
def rA : ReportD := ⟨[ev1, ev2], []⟩
def rB : ReportD := ⟨[ev3], []⟩
theorem checkA : check rA = true := by kernel_rfl
theorem checkB : check rB = false := by kernel_rfl
theorem before12 : before ev1 ev2 = true := by kernel_rfl
theorem before21 : before ev2 ev1 = false := by kernel_rfl
theorem aheadA : aheadD rA 1 = [0] := by kernel_rfl
theorem textA : textL rA = [49, 32, 50, 32, 49, 32, 49, 32, 48, 32, 48, 32, 48, 32, 120, 10, 51, 32, 48, 32, 50, 32, 51, 32, 48, 32, 48, 32, 48, 32, 10] := by decide +kernel
theorem ok1 : ev1.Ok := ⟨by decide, by decide, by decide, by decide, by decide, by decide, by decide, by decide, by decide⟩
theorem ok2 : ev2.Ok := ⟨by decide, by decide, by decide, by decide, by decide, by decide, by decide, by decide, by decide⟩
theorem ok3 : ev3.Ok := ⟨by decide, by decide, by decide, by decide, by decide, by decide, by decide, by decide, by decide⟩
theorem linedA : rA.Lined := ⟨by decide, by decide, fun e he => by
  simp only [rA, List.mem_cons, List.mem_nil_iff, or_false] at he
  rcases he with rfl | rfl
  · exact ⟨ok1, by decide⟩
  · exact ⟨ok2, by decide⟩, fun p hp => by cases hp⟩
end Hi
theorem one_nums (W : World) (x : Int) : RNums (W.alloc (.cells #[.int .i64 x] 3)) (W.alloc (.cells #[.int .i64 x] 3)).heap.size [.slice (some ⟨W.heap.size, 0, none⟩) 1 1] [x] :=
  slice_of_block (size := 1) (R := RNum) (xs := [x]) (cap := 1) (heap_alloc_new W _) (by simp) (Nat.le_refl 1) (by decide) fun i y hi => ⟨[.int .i64 y], rfl, fun j hj => by
    obtain rfl : j = 0 := by omega
    obtain rfl : i = 0 := by
      have := (List.getElem?_eq_some_iff.1 hi).1
      simpa using this
    simp at hi
    subst hi
    rfl, rfl⟩
theorem lieA (W : World) : REvents (W.alloc (.cells (Hi.ev1.cells ++ Hi.ev2.cells).toArray 44)) (W.alloc (.cells (Hi.ev1.cells ++ Hi.ev2.cells).toArray 44)).heap.size [.slice (some ⟨W.heap.size, 0, none⟩) 2 2] Hi.rA.events :=
  slice_of_block (size := 16) (R := REvent) (xs := Hi.rA.events) (cap := 2) (heap_alloc_new W _) (by simp) (Nat.le_refl 2) (by decide) fun i y hi => by
    have hl : i < 2 := (List.getElem?_eq_some_iff.1 hi).1
    rcases (by omega : i = 0 ∨ i = 1) with rfl | rfl
    · simp [Hi.rA] at hi
      subst hi
      refine ⟨Hi.ev1.cells, rfl, fun j hj => ?_, rfl, Hi.ok1⟩
      rcases (by omega : j = 0 ∨ j = 1 ∨ j = 2 ∨ j = 3 ∨ j = 4 ∨ j = 5 ∨ j = 6 ∨ j = 7 ∨ j = 8 ∨ j = 9 ∨ j = 10 ∨ j = 11 ∨ j = 12 ∨ j = 13 ∨ j = 14 ∨ j = 15) with h | h | h | h | h | h | h | h | h | h | h | h | h | h | h | h <;> (subst h; rfl)
    · simp [Hi.rA] at hi
      subst hi
      refine ⟨Hi.ev2.cells, rfl, fun j hj => ?_, rfl, Hi.ok2⟩
      rcases (by omega : j = 0 ∨ j = 1 ∨ j = 2 ∨ j = 3 ∨ j = 4 ∨ j = 5 ∨ j = 6 ∨ j = 7 ∨ j = 8 ∨ j = 9 ∨ j = 10 ∨ j = 11 ∨ j = 12 ∨ j = 13 ∨ j = 14 ∨ j = 15) with h | h | h | h | h | h | h | h | h | h | h | h | h | h | h | h <;> (subst h; rfl)
theorem lieB (W : World) : REvents (W.alloc (.cells Hi.ev3.cells.toArray 44)) (W.alloc (.cells Hi.ev3.cells.toArray 44)).heap.size [.slice (some ⟨W.heap.size, 0, none⟩) 1 1] Hi.rB.events :=
  slice_of_block (size := 16) (R := REvent) (xs := Hi.rB.events) (cap := 1) (heap_alloc_new W _) (by simp) (Nat.le_refl 1) (by decide) fun i y hi => by
    have hl : i < 1 := (List.getElem?_eq_some_iff.1 hi).1
    obtain rfl : i = 0 := by omega
    simp [Hi.rB] at hi
    subst hi
    refine ⟨Hi.ev3.cells, rfl, fun j hj => ?_, rfl, Hi.ok3⟩
    rcases (by omega : j = 0 ∨ j = 1 ∨ j = 2 ∨ j = 3 ∨ j = 4 ∨ j = 5 ∨ j = 6 ∨ j = 7 ∨ j = 8 ∨ j = 9 ∨ j = 10 ∨ j = 11 ∨ j = 12 ∨ j = 13 ∨ j = 14 ∨ j = 15) with h | h | h | h | h | h | h | h | h | h | h | h | h | h | h | h <;> (subst h; rfl)
end Go.Proofs.YtlniiaopindjnaaDoor
