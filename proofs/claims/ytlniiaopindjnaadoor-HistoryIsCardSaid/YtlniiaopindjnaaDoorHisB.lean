/-
  Layer 35: the library's ContainsFunc, IndexFunc over Check's closures, IsSorted, walked.
-/
import Derived.Test.YtlniiaopindjnaaDoorHisA
namespace Go.Proofs.YtlniiaopindjnaaDoor
set_option linter.unusedVariables false
open Go.RowKit

/-- It answers a place, or less than 0: of which Q says whether there is one; what was there is as it was. -/
def SomePlace (Q : Bool) (w : World) (e : Ending) (w' : World) : Prop := ∃ z : Int, e = .returned (.int .i64 z) ∧ decide (0 ≤ z) = Q ∧ Below w.heap.size w w'
theorem any_grow {α : Type} {p : α → Bool} {xs : List α} {k : Nat} {x : α} (h : (xs.take k).any p = false) (hx : xs[k]? = some x) (hp : p x = false) : (xs.take (k + 1)).any p = false := by
  rw [List.take_add_one, hx]
  simp only [List.any_append, h, Option.toList_some, List.any_cons, List.any_nil, hp, Bool.or_self]
theorem any_found {α : Type} {p : α → Bool} {xs : List α} {k : Nat} {x : α} (hx : xs[k]? = some x) (hp : p x = true) : xs.any p = true := by
  rw [List.any_eq_true]
  exact ⟨x, List.mem_of_getElem? hx, hp⟩
/-- The world in which a closure's call lies: its capture is what it was. -/
structure CapAt (w : World) (g : Nat) (e0 : EventD) : Prop where
  lt : g < w.heap.size
  cell : ∀ j v, e0.cells[j]? = some v → w.cell? ⟨g, j, none⟩ = some v
theorem CapAt.on {w w' : World} {g : Nat} {e0 : EventD} (h : CapAt w g e0) (hb : Below w.heap.size w w') : CapAt w' g e0 :=
  ⟨Nat.lt_of_lt_of_le h.lt hb.size, fun j v hj => (hb.cell (p := ⟨g, j, none⟩) h.lt).trans (h.cell j v hj)⟩

set_option maxHeartbeats 1000000 in
theorem indexFunc_event (a : Option Addr) (n cap : Nat) (xs : List EventD) (e0 : EventD) (g : Nat) (w : World) (h : REvents w w.heap.size [.slice a n cap] xs) (hg : CapAt w g e0) :
    Calls Tryd.prog 62 #[.slice a n cap, .func (.func 43) #[] #[.pointer (some ⟨g, 0, none⟩)]] w (SomePlace (xs.any (Hi.clash e0)) w) := by
  obtain ⟨rfl, hm1, hm2, _, _⟩ := events_open h
  rw [maxLen_val] at hm2
  have H := Lib.hid h
  have HG := Lib.hid hg
  clear h hg
  go_enter Tryd.func62, Tryd.ntmps62
  go_wp2
  go_loopw [8] (fun i wr => ∃ k : Nat, k ≤ xs.length ∧ i = .int .i64 k ∧ Below w.heap.size w wr ∧ (xs.take k).any (Hi.clash e0) = false) (fun i _ => xs.length - (intOf i).toNat)
  case atStart => exact ⟨0, by omega, rfl, Below.refl _ _, by simp⟩
  case round =>
    obtain ⟨k, hk, rfl, hbel, hany⟩ := hrel
    by_cases hlt : k < xs.length
    · obtain ⟨x, hx⟩ := get_at hlt
      obtain ⟨_, _, _, _, hev⟩ := events_open (kept_events.on hbel H.out)
      obtain ⟨b, off, rfl, hb, hc⟩ := hev (by omega)
      obtain ⟨hok, hcell⟩ := hc k x hx
      obtain ⟨c0, c1, c2, c3, c4, c5, c6, c7, c8, c9, c10, c11, c12, c13, c14, c15⟩ := event_cells hcell
      clear hcell hc hev
      have HC1 := Lib.hid (fun W hW => check1_any x e0 g W (CapAt.lt hW) (CapAt.cell hW))
      have HX := Lib.hid hx
      have HA := Lib.hid hany
      have HB := Lib.hid hbel
      have HGr := Lib.hid (HG.out.on hbel)
      clear hx hany hbel
      cases hcl : Hi.clash e0 x with
      | true =>
        simp only [hcl] at HC1
        have HQ := Lib.hid (any_found HX.out hcl)
        clear hcl
        go_wp2_with (go_at_call 43; refine (HC1.out _ HGr.out).mono ?_; rintro e w2 ⟨rfl, hb2⟩; have HB2 := Lib.hid hb2; clear hb2)
        go_ret
        exact ⟨_, rfl, by rw [HQ.out]; simp, HB.out.trans (HB2.out.mono HB.out.size)⟩
      | false =>
        simp only [hcl] at HC1
        have HQ := Lib.hid (any_grow HA.out HX.out hcl)
        clear hcl
        go_wp2_with (go_at_call 43; refine (HC1.out _ HGr.out).mono ?_; rintro e w2 ⟨rfl, hb2⟩; have HB2 := Lib.hid hb2; clear hb2)
        go_roundw
        case rel => exact ⟨k + 1, by omega, by go_num, HB.out.trans (HB2.out.mono HB.out.size), HQ.out⟩
        case measure => simp [intOf]; omega
    · have he : k = xs.length := by omega
      subst he
      rw [List.take_length] at hany
      have HA := Lib.hid hany
      have HB := Lib.hid hbel
      clear hany hbel
      go_wp2
      go_ret
      exact ⟨_, rfl, by rw [HA.out]; rfl, HB.out⟩
end Go.Proofs.YtlniiaopindjnaaDoor
