/-
  A call that was seen, loaded whole, in a region that only reads.
-/
import Derived.Test.YtlniiaopindjnaaDoorLoadF
import Derived.Test.YtlniiaopindjnaaDoorBel
namespace Go.Proofs.YtlniiaopindjnaaDoor
set_option linter.unusedVariables false
open Go.RowKit

theorem wpQuiet_load_event {B : Nat} {W : World} {ops : Array Oper} {rest : List Oper} {a : Act} {Q : Act → Prop} {d : Option Nat} {ty : TypeId} {pos : String} {aft : Array _} {g : Option (Nat × Bool)} {t : Nat} (x : EventD) {b q : Nat}
    (h : ∀ y : Ext B W, ∀ j, j < 16 → y.w.cell? ⟨b, q + j, none⟩ = x.cells[j]?)
    (hev : a.eval (.tmp t) = .pointer (some ⟨b, q, none⟩))
    (hw : Region.wanted { dst := d, op := .load 44 (.tmp t), type := ty, pos := pos, after := aft, guard := g } (yielded ops a.tmps) = true)
    (hn : wpQuiet Tryd.prog ops (fun w' => ∃ y : Ext B W, w' = y.w) Q rest (a.put d x.agg)) :
    wpQuiet Tryd.prog ops (fun w' => ∃ y : Ext B W, w' = y.w) Q ({ dst := d, op := .load 44 (.tmp t), type := ty, pos := pos, after := aft, guard := g } :: rest) a := by
  unfold wpQuiet
  rw [if_pos hw]
  refine ⟨x.agg, fun w hC => ?_, hn⟩
  obtain ⟨y, rfl⟩ := hC
  unfold Oper.quietAt
  rw [load_event0 d t ty pos aft g a.eval b q x y.w hev (h y)]
  exact ⟨rfl, rfl⟩
end Go.Proofs.YtlniiaopindjnaaDoor
