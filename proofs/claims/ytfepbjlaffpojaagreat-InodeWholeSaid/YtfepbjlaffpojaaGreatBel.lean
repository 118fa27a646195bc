/-
  A region that draws its order, whose operations only read and whose calls answer one known value and leave what was there as it is: one walk in the order of the text serves every order. The class of worlds: those that are as W was below block B.
-/
import Derived.BigQuiet
import Derived.Below
namespace Go.Proofs.YtfepbjlaffpojaaGreat
set_option linter.unusedVariables false
open Go.RowKit

structure Ext (B : Nat) (W : World) : Type where
  w : World
  b : Below B W w

instance (B : Nat) (W : World) : Nonempty (Ext B W) := ⟨⟨W, Below.refl B W⟩⟩

theorem wp_region_bel {P : Program} {id : Nat} {Q : Exit → Act → World → Prop} {a : Act} {w : World} {l : List Oper} (B : Nat) (hm : P.follows .mixedOrders = true) (hB : Region.lexB .any l.toArray = true)
    (h : wpQuiet P l.toArray (fun w' => ∃ x : Ext B w, w' = x.w) (fun a' => ∀ x : Ext B w, Q .normal a' x.w) l a) : (Code.region id l.toArray true).wp P Q a w := by
  refine wp_region_quiet (C := fun w' => ∃ x : Ext B w, w' = x.w) hm hB ⟨⟨w.drew, (Below.refl B w).drew⟩, rfl⟩ ?_
  have e : (fun a' => ∀ w', (∃ x : Ext B w, w' = x.w) → Q .normal a' w') = (fun a' => ∀ x : Ext B w, Q .normal a' x.w) := by
    funext a'
    exact propext ⟨fun h x => h _ ⟨x, rfl⟩, fun h w' ⟨x, hx⟩ => by rw [hx]; exact h x⟩
  rw [e]
  exact h

theorem Ext.step {B : Nat} {W : World} (hB : B ≤ W.heap.size) (x : Ext B W) {w' : World} (h : Below x.w.heap.size x.w w') : ∃ y : Ext B W, w' = y.w :=
  ⟨⟨w', x.b.trans (h.mono (Nat.le_trans hB x.b.size))⟩, rfl⟩

theorem Calls.bel_of {P : Program} {f : FuncId} {args : Array Value} {B : Nat} {W : World} {x : Ext B W} {v : Value} (hB : B ≤ W.heap.size)
    (h : Calls P f args x.w fun e w' => e = .returned v ∧ Below x.w.heap.size x.w w') : Calls P f args x.w fun e w'' => e = .returned v ∧ ∃ y : Ext B W, w'' = y.w :=
  h.mono fun _ _ ⟨he, hm⟩ => ⟨he, x.step hB hm⟩
theorem Calls.bel_same {P : Program} {f : FuncId} {args : Array Value} {B : Nat} {W : World} {x : Ext B W} {v : Value}
    (h : Calls P f args x.w fun e w' => e = .returned v ∧ x.w = w') : Calls P f args x.w fun e w'' => e = .returned v ∧ ∃ y : Ext B W, w'' = y.w :=
  h.mono fun _ _ ⟨he, hm⟩ => ⟨he, ⟨x, hm.symm⟩⟩

/-- The same for a region in the order of the text. -/
theorem wpList_of_quiet {P : Program} {ops : Array Oper} {C : World → Prop} {K : Act → Prop} {Q : Exit → Act → World → Prop} (hQ : ∀ a w, C w → K a → Q .normal a w) :
    ∀ (l : List Oper) (a : Act) (w : World), C w → wpQuiet P ops C K l a → wpList P ops Q l a w
  | [], a, w, hw, h => hQ a w hw h
  | o :: rest, a, w, hw, h => by
    unfold wpQuiet at h
    unfold wpList
    by_cases hwant : Region.wanted o (yielded ops a.tmps) = true
    · rw [if_pos hwant] at h ⊢
      exact .inl (Oper.wp_of_quiet hw (fun a' w' hw' h' => wpList_of_quiet hQ rest a' w' hw' h') h)
    · rw [if_neg hwant] at h ⊢
      exact wpList_of_quiet hQ rest _ w hw h
theorem wp_region_bel_plain {P : Program} {id : Nat} {Q : Exit → Act → World → Prop} {a : Act} {w : World} {l : List Oper} (B : Nat)
    (h : wpQuiet P l.toArray (fun w' => ∃ x : Ext B w, w' = x.w) (fun a' => ∀ x : Ext B w, Q .normal a' x.w) l a) : (Code.region id l.toArray false).wp P Q a w :=
  wp_region_lit (wpList_of_quiet (fun a' w' ⟨x, hx⟩ h => by rw [hx]; exact h x) l a w ⟨⟨w, Below.refl B w⟩, rfl⟩ h)
end Go.Proofs.YtfepbjlaffpojaaGreat
