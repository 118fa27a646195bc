/-
  A call that was seen, copied into a row of its own, in the order of the text.
-/
import Derived.Test.YtlniiaopindjnaaDoorLoadF
namespace Go.Proofs.YtlniiaopindjnaaDoor
set_option linter.unusedVariables false
open Go.RowKit

theorem wpList_store_event {ops : Array Oper} {rest : List Oper} {a : Act} {w : World} {Q : Exit → Act → World → Prop} {d : Option Nat} {ty : TypeId} {pos : String} {aft : Array _} {gd : Option (Nat × Bool)} {s t : Nat} (x : EventD) {g : Nat} (hr : RowAt w g)
    (hs : a.eval (.tmp s) = .pointer (some ⟨g, 0, none⟩)) (ht : a.eval (.tmp t) = x.agg)
    (hw : Region.wanted { dst := d, op := .store 44 (.tmp s) (.tmp t), type := ty, pos := pos, after := aft, guard := gd } (yielded ops a.tmps) = true)
    (hn : wpList Tryd.prog ops Q rest (a.put d undef) (w.setCells g 0 x.cells)) :
    wpList Tryd.prog ops Q ({ dst := d, op := .store 44 (.tmp s) (.tmp t), type := ty, pos := pos, after := aft, guard := gd } :: rest) a w := by
  unfold wpList
  rw [if_pos hw]
  left
  unfold Oper.wp
  rw [store_event0 d s t ty pos aft gd a.eval g x w hs ht hr.cell hr.free, Oper.upon_skip]
  exact hn
theorem AllAt.copied {w wr : World} {cs : List Value} (h : BoxedAt w wr cs) (x : EventD) (z : Array Value) (hz : z.size = 16) (t : TypeId) : AllAt w ((wr.alloc (.cells z t)).setCells wr.heap.size 0 x.cells) cs wr.heap.size x :=
  ⟨h.on (below_stored ((Below.refl _ _).alloc (Nat.le_refl _) _) (Nat.le_refl _) _), CapAt.stored (RowAt.new wr z t hz) x, h.size⟩
end Go.Proofs.YtlniiaopindjnaaDoor
