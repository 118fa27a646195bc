/-
  Layer 35: the small functions of history, walked: Before, isEvent, cut, the closures of Check.
-/
import Derived.Test.YtlniiaopindjnaaDoorHisP
namespace Go.Proofs.YtlniiaopindjnaaDoor
set_option linter.unusedVariables false
open Go.RowKit

/-- A call as a value. -/
abbrev EventD.agg (x : EventD) : Value := .agg #[.int .i64 x.pid, .int .i64 x.call.kind, .int .i64 x.call.of_, .string x.call.ref_, .string x.call.on_, .slice x.call.na x.call.nn x.call.nc, .string x.call.data, .string x.call.key, .int .i64 x.call.drawn,
  .int .i64 x.begin_, .int .i64 x.end_, .int .i64 x.state, .int .i64 x.answer.err, .string x.answer.id, .int .i64 x.answer.n, .string x.answer.text]
theorem ret_bool {a b : Bool} (h : a = b) : Ending.returned (.bool a) = .returned (.bool b) := by rw [h]
theorem bel1 (w : World) (o : Obj) : Below w.heap.size w (w.alloc o) := (Below.refl _ _).alloc (Nat.le_refl _) _
theorem bel2 (w : World) (o o' : Obj) : Below w.heap.size w ((w.alloc o).alloc o') := (bel1 w o).alloc (by simp) _
set_option maxHeartbeats 400000 in
theorem history_Before_any (a b : EventD) (w : World) : Calls Tryd.prog 19 #[a.agg, b.agg] w fun e w' => e = .returned (.bool (Hi.before a b)) ∧ Below w.heap.size w w' := by
  go_enter Tryd.func19, Tryd.ntmps19
  go_wp2
  all_goals
    go_ret
    exact ⟨ret_bool (by simp [Hi.before, *]), bel2 _ _ _⟩
set_option maxHeartbeats 400000 in
theorem ref35_Before_any (a b : EventD) (w : World) : Calls Tryd.prog 21 #[a.agg, b.agg] w fun e w' => e = .returned (.bool (Hi.before a b)) ∧ Below w.heap.size w w' := by
  go_enter Tryd.func21, Tryd.ntmps21
  go_wp2
  all_goals
    go_ret
    exact ⟨ret_bool (by simp [Hi.before, *]), bel2 _ _ _⟩
set_option maxHeartbeats 400000 in
theorem history_isEvent_any (a : EventD) (w : World) : Calls Tryd.prog 47 #[a.agg] w fun e w' => e = .returned (.bool (Hi.isEvent a)) ∧ Below w.heap.size w w' := by
  by_cases h1 : a.state = 1
  · go_enter Tryd.func47, Tryd.ntmps47
    go_wp2
    all_goals
      go_ret
      exact ⟨ret_bool (by first | (simp [Hi.isEvent, *]; done) | (simp [Hi.isEvent, *]; omega)), bel1 _ _⟩
  · by_cases h2 : a.state = 2
    · go_enter Tryd.func47, Tryd.ntmps47
      go_wp2
      all_goals
        go_ret
        exact ⟨ret_bool (by first | (simp [Hi.isEvent, Hi.ans0, *]; done) | (simp [Hi.isEvent, Hi.ans0, *]; omega)), bel1 _ _⟩
    · by_cases h3 : a.state = 3
      · go_enter Tryd.func47, Tryd.ntmps47
        go_wp2
        all_goals
          go_ret
          exact ⟨ret_bool (by first | (simp [Hi.isEvent, Hi.ans0, *]; done) | (simp [Hi.isEvent, Hi.ans0, *]; omega)), bel1 _ _⟩
      · have e1 : (a.state == 1) = false := by simp [h1]
        have e2 : (a.state == 2) = false := by simp [h2]
        have e3 : (a.state == 3) = false := by simp [h3]
        go_enter Tryd.func47, Tryd.ntmps47
        go_wp2
        all_goals
          go_ret
          exact ⟨ret_bool (by simp [Hi.isEvent, *]), bel1 _ _⟩
set_option maxHeartbeats 400000 in
theorem history_cut_any (a : EventD) (t : Int) (w : World) : Calls Tryd.prog 46 #[a.agg, .int .i64 t] w fun e w' => e = .returned (.bool (Hi.cut a t)) ∧ Below w.heap.size w w' := by
  go_enter Tryd.func46, Tryd.ntmps46
  go_wp2
  all_goals
    go_ret
    exact ⟨ret_bool (by first | (simp [Hi.cut, *]; done) | (rw [Bool.eq_iff_iff]; simp [Hi.cut, *]; done) | (rw [Bool.eq_iff_iff]; simp [Hi.cut, *]; omega)), bel1 _ _⟩
set_option maxHeartbeats 400000 in
theorem check1_any (f e0 : EventD) (g : Nat) (w : World) (hg : g < w.heap.size) (hc : ∀ j v, e0.cells[j]? = some v → w.cell? ⟨g, j, none⟩ = some v) :
    Calls Tryd.prog 43 #[f.agg, .pointer (some ⟨g, 0, none⟩)] w fun e w' => e = .returned (.bool (Hi.clash e0 f)) ∧ Below w.heap.size w w' := by
  have c0 := hc 0 _ rfl
  have c9 := hc 9 _ rfl
  clear hc
  go_enter Tryd.func43, Tryd.ntmps43
  go_wp2
  all_goals
    go_ret
    exact ⟨ret_bool (by first | (simp [Hi.clash, *]; done) | (rw [Bool.eq_iff_iff]; simp [Hi.clash, *]; omega)), bel1 _ _⟩
set_option maxHeartbeats 400000 in
theorem check2_any (e0 : EventD) (t : Int) (g : Nat) (w : World) (hg : g < w.heap.size) (hc : ∀ j v, e0.cells[j]? = some v → w.cell? ⟨g, j, none⟩ = some v) :
    Calls Tryd.prog 45 #[.int .i64 t, .pointer (some ⟨g, 0, none⟩)] w fun e w' => e = .returned (.bool (!Hi.cut e0 t)) ∧ Below w.heap.size w w' := by
  have c0 := hc 0 _ rfl
  have c1 := hc 1 _ rfl
  have c2 := hc 2 _ rfl
  have c3 := hc 3 _ rfl
  have c4 := hc 4 _ rfl
  have c5 := hc 5 _ rfl
  have c6 := hc 6 _ rfl
  have c7 := hc 7 _ rfl
  have c8 := hc 8 _ rfl
  have c9 := hc 9 _ rfl
  have c10 := hc 10 _ rfl
  have c11 := hc 11 _ rfl
  have c12 := hc 12 _ rfl
  have c13 := hc 13 _ rfl
  have c14 := hc 14 _ rfl
  have c15 := hc 15 _ rfl
  clear hc
  go_enter Tryd.func45, Tryd.ntmps45
  go_wp2_with (go_at_call 46; refine (history_cut_any e0 _ _).mono ?_; rintro e w2 ⟨rfl, hb2⟩; have HB := Lib.hid hb2; clear hb2)
  go_ret
  exact ⟨rfl, HB.out⟩
end Go.Proofs.YtlniiaopindjnaaDoor
