/-
  Layer 8: what a table that is right gives the walks; a file, or a directory, made.
-/
import Derived.Test.YtcicjklhbnipcaaGreatDoorInoL
import Derived.Test.YtcicjklhbnipcaaGreatDoorIno2
namespace Go.Proofs.YtcicjklhbnipcaaGreatDoor
set_option linter.unusedVariables false
set_option linter.unusedSimpArgs false
open Go.RowKit Go.Maps

theorem fit_inv {N : Nat} {t : TabD} (h : In.Inv N t) (hN : N ≤ 1000000000) : Fit t where
  q0 := by have := h.q0; omega
  q1 := h.q1
  u0 := by rw [h.used]; omega
  u1 := by have := h.cap; have := h.q1; omega
  node := fun n hn => by
    have h1 := h.links n hn
    have h2 := In.cnt_le t.nodes n.id
    have h3 := h.tot
    have h4 : n.names.length ≤ In.tot t.nodes := In.le_sum (f := fun n => n.names.length) hn
    have h5 : In.rootI n.id = 0 ∨ In.rootI n.id = 1 := by unfold In.rootI; split <;> simp
    omega
  holds := fun n hn => by have := h.holds n hn; omega
  data := h.data
  ids := fun n hn => by have h1 := h.pos n hn; have h2 := h.last; exact fits_of (by omega) (by omega)
  leads := h.leads
theorem names_inv {N : Nat} {t : TabD} (h : In.Inv N t) (hN : N ≤ 1000000000) : ∀ n ∈ t.nodes, n.names.length ≤ 4611686018427 := fun n hn => by
  have h3 := h.tot
  have h4 : n.names.length ≤ In.tot t.nodes := In.le_sum (f := fun n => n.names.length) hn
  omega
section
variable {w : World} {g mb : Nat} {β : Int → Nat × Nat} {t : TabD} {N : Nat}
theorem Goes.pre {w1 w' : World} {t' : TabD} (hb : Below w.heap.size w w1) (h : Goes w1 g mb β t w' t') : Goes w g mb β t w' t' := by
  obtain ⟨β', h1, h2, h3⟩ := h
  exact ⟨β', h1, (Only.of_below hb).trans h2, fun k hk => by rcases h3 k hk with h | h; exact .inl h; exact .inr (Nat.le_trans hb.size h)⟩
theorem Make_any (h : TblAt w g mb β t) (I : In.Inv N t) (hN : N ≤ 1000000000) {dir : Int} (hdir : Fits dir) {s : ByteArray} (hs : s.size ≤ maxLen) (isDir : Bool) :
    Calls Tryz.prog 106 #[.pointer (some ⟨g, 0, none⟩), .int .i64 dir, .string s, .bool isDir] w fun e w' => e = .returned (.tuple #[.int .i64 (In.make t dir s isDir).1, .int .i64 (In.make t dir s isDir).2.1]) ∧ Goes w g mb β t w' (In.make t dir s isDir).2.2 := by
  have F := fit_inv I hN
  have hl := I.last
  by_cases h0 : In.makeE t dir s = 0
  · have e : In.make t dir s isDir = (t.last + 1, 0, In.makeT t dir s isDir) := by unfold In.make; rw [h0]; rfl
    rw [e]
    exact Make_yes h F hdir hs isDir h0 (fun n hn => (I.pos n hn).2) (by omega) (by omega)
  · have e : In.make t dir s isDir = (0, In.makeE t dir s, t) := by unfold In.make; rw [beq0_false h0]; rfl
    rw [e]
    have hsum : t.nodes.length ≤ In.sum t.nodes := by
      unfold In.sum
      generalize t.nodes = l
      induction l with
      | nil => simp
      | cons y r ih => rw [List.map_cons, List.sum_cons, List.length_cons]; unfold In.cost; unfold In.cost at ih; omega
    have hu := I.used
    have hu1 := F.u1
    exact (Make_no h F hdir hs isDir rfl h0 (by omega)).mono fun e w' ⟨h1, h2⟩ => ⟨h1, (Step.below h h2).goes⟩
end
end Go.Proofs.YtcicjklhbnipcaaGreatDoor
