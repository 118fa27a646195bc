/-
  What a report reads as: its calls as they were seen, and the times at which the power failed.
-/
import Derived.Test.YtlniiaopindjnaaDoorRep
import Derived.Test.YtlniiaopindjnaaDoorBase0
import Derived.Test.YtlniiaopindjnaaDoorProg
import Derived.KernelRfl
import Derived.OpenShut
namespace Go.Proofs.YtlniiaopindjnaaDoor
set_option linter.unusedVariables false
open Go.ChangeShapes Go.WideShapes Go.RowKit

theorem len2 {cs : List Value} (h : cs.length = 2) : ∃ c0 c1, cs = [c0, c1] := by
  match cs, h with
  | [c0, c1], _ => exact ⟨c0, c1, rfl⟩
theorem len4 {cs : List Value} (h : cs.length = 4) : ∃ c0 c1 c2 c3, cs = [c0, c1, c2, c3] := by
  match cs, h with
  | [c0, c1, c2, c3], _ => exact ⟨c0, c1, c2, c3, rfl⟩
theorem len8 {cs : List Value} (h : cs.length = 8) : ∃ c0 c1 c2 c3 c4 c5 c6 c7, cs = [c0, c1, c2, c3, c4, c5, c6, c7] := by
  match cs, h with
  | [c0, c1, c2, c3, c4, c5, c6, c7], _ => exact ⟨c0, c1, c2, c3, c4, c5, c6, c7, rfl⟩
theorem len16 {cs : List Value} (h : cs.length = 16) : ∃ c0 c1 c2 c3 c4 c5 c6 c7 c8 c9 c10 c11 c12 c13 c14 c15, cs = [c0, c1, c2, c3, c4, c5, c6, c7, c8, c9, c10, c11, c12, c13, c14, c15] := by
  match cs, h with
  | [c0, c1, c2, c3, c4, c5, c6, c7, c8, c9, c10, c11, c12, c13, c14, c15], _ => exact ⟨c0, c1, c2, c3, c4, c5, c6, c7, c8, c9, c10, c11, c12, c13, c14, c15, rfl⟩
structure AnswerD where
  err : Int
  id : ByteArray
  n : Int
  text : ByteArray
structure CallD where
  kind : Int
  of_ : Int
  ref_ : ByteArray
  on_ : ByteArray
  na : Option Addr
  nn : Nat
  nc : Nat
  data : ByteArray
  key : ByteArray
  drawn : Int
structure EventD where
  pid : Int
  call : CallD
  begin_ : Int
  end_ : Int
  state : Int
  answer : AnswerD
/-- A number fits into an int. -/
abbrev Fits (x : Int) : Prop := (Lit.int .i64 x).wf = true
def AnswerD.cells (x : AnswerD) : List Value := [.int .i64 x.err, .string x.id, .int .i64 x.n, .string x.text]
def CallD.cells (x : CallD) : List Value := [.int .i64 x.kind, .int .i64 x.of_, .string x.ref_, .string x.on_, .slice x.na x.nn x.nc, .string x.data, .string x.key, .int .i64 x.drawn]
def EventD.cells (x : EventD) : List Value := [.int .i64 x.pid, .int .i64 x.call.kind, .int .i64 x.call.of_, .string x.call.ref_, .string x.call.on_, .slice x.call.na x.call.nn x.call.nc, .string x.call.data, .string x.call.key, .int .i64 x.call.drawn,
  .int .i64 x.begin_, .int .i64 x.end_, .int .i64 x.state, .int .i64 x.answer.err, .string x.answer.id, .int .i64 x.answer.n, .string x.answer.text]
def RAnswer : Rep AnswerD := fun _ _ cs x => cs = x.cells ∧ Fits x.err ∧ x.id.size ≤ maxLen ∧ Fits x.n ∧ x.text.size ≤ maxLen
def RCall : Rep CallD := fun _ _ cs x => cs = x.cells ∧ Fits x.kind
/-- What is asked of a call's numbers and texts. -/
structure EventD.Ok (x : EventD) : Prop where
  pid : Fits x.pid
  kind : Fits x.call.kind
  begin_ : Fits x.begin_
  end_ : Fits x.end_
  state : Fits x.state
  err : Fits x.answer.err
  id : x.answer.id.size ≤ maxLen
  n : Fits x.answer.n
  text : x.answer.text.size ≤ maxLen
def REvent : Rep EventD := fun _ _ cs x => cs = x.cells ∧ x.Ok
theorem kept_event : Kept REvent := ⟨fun _ _ h => h⟩
def REvents : Rep (List EventD) := RSlice 16 REvent
theorem kept_events : Kept REvents := kept_slice kept_event
def RInts : Rep (List Int) := RSlice 1 (RInt .i64)
theorem kept_ints : Kept RInts := kept_slice (kept_int .i64)
structure ReportD where
  events : List EventD
  powers : List Int
def RReport : Rep ReportD := fun w B cs x => ∃ ev pw, cs = [ev, pw] ∧ REvents w B [ev] x.events ∧ RInts w B [pw] x.powers
theorem kept_report : Kept RReport := ⟨fun hs hB ⟨ev, pw, h0, h1, h2⟩ => ⟨ev, pw, h0, kept_events.go hs hB h1, kept_ints.go hs hB h2⟩⟩

def RStrs : Rep (List ByteArray) := RSlice 1 RStr
theorem opens_named_str : Opens Tryd.prog 9 RStr := opens_str Tryd.underlying9
theorem opens_named_int : Opens Tryd.prog 3 (RInt .i64) := opens_int Tryd.underlying3
theorem opens_strs : Opens Tryd.prog 38 RStrs := opens_slice Tryd.underlying38 (by kernel_rfl) (by omega) opens_named_str
theorem opens_named_errno : Opens Tryd.prog 23 (RInt .i64) := opens_int Tryd.underlying23
theorem cells_answer : Tryd.prog.cellsOf 42 = 4 := by kernel_rfl
theorem opens_answer : Opens Tryd.prog 42 RAnswer := ⟨by
  intro H enc w sp held k B cs y h hp
  obtain ⟨hl, hf⟩ := opens_fields Tryd.underlying42 h hp
  rw [cells_answer] at hl
  obtain ⟨c0, c1, c2, c3, rfl⟩ := len4 hl
  obtain ⟨x0, h0⟩ := hf 0 _ rfl opens_named_errno
  replace h0 : (RInt .i64) w B (([c0, c1, c2, c3].drop 0).take (Tryd.prog.cellsOf 23)) x0 := h0
  rw [show Tryd.prog.cellsOf 23 = 1 from by kernel_rfl] at h0
  replace h0 : (RInt .i64) w B [c0] x0 := h0
  obtain ⟨x1, h1⟩ := hf 1 _ rfl opens_named_str
  replace h1 : RStr w B (([c0, c1, c2, c3].drop 1).take (Tryd.prog.cellsOf 9)) x1 := h1
  rw [show Tryd.prog.cellsOf 9 = 1 from by kernel_rfl] at h1
  replace h1 : RStr w B [c1] x1 := h1
  obtain ⟨x2, h2⟩ := hf 2 _ rfl opens_named_int
  replace h2 : (RInt .i64) w B (([c0, c1, c2, c3].drop 2).take (Tryd.prog.cellsOf 3)) x2 := h2
  rw [show Tryd.prog.cellsOf 3 = 1 from by kernel_rfl] at h2
  replace h2 : (RInt .i64) w B [c2] x2 := h2
  obtain ⟨x3, h3⟩ := hf 3 _ rfl opens_named_str
  replace h3 : RStr w B (([c0, c1, c2, c3].drop 3).take (Tryd.prog.cellsOf 9)) x3 := h3
  rw [show Tryd.prog.cellsOf 9 = 1 from by kernel_rfl] at h3
  replace h3 : RStr w B [c3] x3 := h3
  obtain ⟨e0, b0⟩ := h0
  obtain ⟨e1, b1⟩ := h1
  obtain ⟨e2, b2⟩ := h2
  obtain ⟨e3, b3⟩ := h3
  simp only [List.cons.injEq, and_true] at e0 e1 e2 e3
  subst e0 e1 e2 e3
  exact ⟨⟨x0, x1, x2, x3⟩, rfl, b0, b1, b2, b3⟩⟩
theorem cells_call : Tryd.prog.cellsOf 40 = 8 := by kernel_rfl
theorem opens_call : Opens Tryd.prog 40 RCall := ⟨by
  intro H enc w sp held k B cs y h hp
  obtain ⟨hl, hf⟩ := opens_fields Tryd.underlying40 h hp
  rw [cells_call] at hl
  obtain ⟨c0, c1, c2, c3, c4, c5, c6, c7, rfl⟩ := len8 hl
  obtain ⟨x0, h0⟩ := hf 0 _ rfl opens_named_int
  replace h0 : (RInt .i64) w B (([c0, c1, c2, c3, c4, c5, c6, c7].drop 0).take (Tryd.prog.cellsOf 3)) x0 := h0
  rw [show Tryd.prog.cellsOf 3 = 1 from by kernel_rfl] at h0
  replace h0 : (RInt .i64) w B [c0] x0 := h0
  obtain ⟨x1, h1⟩ := hf 1 _ rfl opens_named_int
  replace h1 : (RInt .i64) w B (([c0, c1, c2, c3, c4, c5, c6, c7].drop 1).take (Tryd.prog.cellsOf 3)) x1 := h1
  rw [show Tryd.prog.cellsOf 3 = 1 from by kernel_rfl] at h1
  replace h1 : (RInt .i64) w B [c1] x1 := h1
  obtain ⟨x2, h2⟩ := hf 2 _ rfl opens_named_str
  replace h2 : RStr w B (([c0, c1, c2, c3, c4, c5, c6, c7].drop 2).take (Tryd.prog.cellsOf 9)) x2 := h2
  rw [show Tryd.prog.cellsOf 9 = 1 from by kernel_rfl] at h2
  replace h2 : RStr w B [c2] x2 := h2
  obtain ⟨x3, h3⟩ := hf 3 _ rfl opens_named_str
  replace h3 : RStr w B (([c0, c1, c2, c3, c4, c5, c6, c7].drop 3).take (Tryd.prog.cellsOf 9)) x3 := h3
  rw [show Tryd.prog.cellsOf 9 = 1 from by kernel_rfl] at h3
  replace h3 : RStr w B [c3] x3 := h3
  obtain ⟨x4, h4⟩ := hf 4 _ rfl opens_strs
  replace h4 : RStrs w B (([c0, c1, c2, c3, c4, c5, c6, c7].drop 4).take (Tryd.prog.cellsOf 38)) x4 := h4
  rw [show Tryd.prog.cellsOf 38 = 1 from by kernel_rfl] at h4
  replace h4 : RStrs w B [c4] x4 := h4
  obtain ⟨x5, h5⟩ := hf 5 _ rfl opens_named_str
  replace h5 : RStr w B (([c0, c1, c2, c3, c4, c5, c6, c7].drop 5).take (Tryd.prog.cellsOf 9)) x5 := h5
  rw [show Tryd.prog.cellsOf 9 = 1 from by kernel_rfl] at h5
  replace h5 : RStr w B [c5] x5 := h5
  obtain ⟨x6, h6⟩ := hf 6 _ rfl opens_named_str
  replace h6 : RStr w B (([c0, c1, c2, c3, c4, c5, c6, c7].drop 6).take (Tryd.prog.cellsOf 9)) x6 := h6
  rw [show Tryd.prog.cellsOf 9 = 1 from by kernel_rfl] at h6
  replace h6 : RStr w B [c6] x6 := h6
  obtain ⟨x7, h7⟩ := hf 7 _ rfl opens_named_int
  replace h7 : (RInt .i64) w B (([c0, c1, c2, c3, c4, c5, c6, c7].drop 7).take (Tryd.prog.cellsOf 3)) x7 := h7
  rw [show Tryd.prog.cellsOf 3 = 1 from by kernel_rfl] at h7
  replace h7 : (RInt .i64) w B [c7] x7 := h7
  obtain ⟨e0, b0⟩ := h0
  obtain ⟨e1, b1⟩ := h1
  obtain ⟨e2, b2⟩ := h2
  obtain ⟨e3, b3⟩ := h3
  obtain ⟨na, nc, rfl⟩ := slice_form h4
  obtain ⟨e5, b5⟩ := h5
  obtain ⟨e6, b6⟩ := h6
  obtain ⟨e7, b7⟩ := h7
  simp only [List.cons.injEq, and_true] at e0 e1 e2 e3 e5 e6 e7
  subst e0 e1 e2 e3 e5 e6 e7
  exact ⟨⟨x0, x1, x2, x3, na, x4.length, nc, x5, x6, x7⟩, rfl, b0⟩⟩
theorem cells_event : Tryd.prog.cellsOf 44 = 16 := by kernel_rfl
theorem opens_event : Opens Tryd.prog 44 REvent := ⟨by
  intro H enc w sp held k B cs y h hp
  obtain ⟨hl, hf⟩ := opens_fields Tryd.underlying44 h hp
  rw [cells_event] at hl
  obtain ⟨c0, c1, c2, c3, c4, c5, c6, c7, c8, c9, c10, c11, c12, c13, c14, c15, rfl⟩ := len16 hl
  obtain ⟨x0, h0⟩ := hf 0 _ rfl opens_named_int
  replace h0 : (RInt .i64) w B (([c0, c1, c2, c3, c4, c5, c6, c7, c8, c9, c10, c11, c12, c13, c14, c15].drop 0).take (Tryd.prog.cellsOf 3)) x0 := h0
  rw [show Tryd.prog.cellsOf 3 = 1 from by kernel_rfl] at h0
  replace h0 : (RInt .i64) w B [c0] x0 := h0
  obtain ⟨x1, h1⟩ := hf 1 _ rfl opens_call
  replace h1 : RCall w B (([c0, c1, c2, c3, c4, c5, c6, c7, c8, c9, c10, c11, c12, c13, c14, c15].drop 1).take (Tryd.prog.cellsOf 40)) x1 := h1
  rw [show Tryd.prog.cellsOf 40 = 8 from by kernel_rfl] at h1
  replace h1 : RCall w B [c1, c2, c3, c4, c5, c6, c7, c8] x1 := h1
  obtain ⟨x2, h2⟩ := hf 2 _ rfl opens_named_int
  replace h2 : (RInt .i64) w B (([c0, c1, c2, c3, c4, c5, c6, c7, c8, c9, c10, c11, c12, c13, c14, c15].drop 9).take (Tryd.prog.cellsOf 3)) x2 := h2
  rw [show Tryd.prog.cellsOf 3 = 1 from by kernel_rfl] at h2
  replace h2 : (RInt .i64) w B [c9] x2 := h2
  obtain ⟨x3, h3⟩ := hf 3 _ rfl opens_named_int
  replace h3 : (RInt .i64) w B (([c0, c1, c2, c3, c4, c5, c6, c7, c8, c9, c10, c11, c12, c13, c14, c15].drop 10).take (Tryd.prog.cellsOf 3)) x3 := h3
  rw [show Tryd.prog.cellsOf 3 = 1 from by kernel_rfl] at h3
  replace h3 : (RInt .i64) w B [c10] x3 := h3
  obtain ⟨x4, h4⟩ := hf 4 _ rfl opens_named_int
  replace h4 : (RInt .i64) w B (([c0, c1, c2, c3, c4, c5, c6, c7, c8, c9, c10, c11, c12, c13, c14, c15].drop 11).take (Tryd.prog.cellsOf 3)) x4 := h4
  rw [show Tryd.prog.cellsOf 3 = 1 from by kernel_rfl] at h4
  replace h4 : (RInt .i64) w B [c11] x4 := h4
  obtain ⟨x5, h5⟩ := hf 5 _ rfl opens_answer
  replace h5 : RAnswer w B (([c0, c1, c2, c3, c4, c5, c6, c7, c8, c9, c10, c11, c12, c13, c14, c15].drop 12).take (Tryd.prog.cellsOf 42)) x5 := h5
  rw [show Tryd.prog.cellsOf 42 = 4 from by kernel_rfl] at h5
  replace h5 : RAnswer w B [c12, c13, c14, c15] x5 := h5
  obtain ⟨e0, b0⟩ := h0
  obtain ⟨e1, b1⟩ := h1
  obtain ⟨e2, b2⟩ := h2
  obtain ⟨e3, b3⟩ := h3
  obtain ⟨e4, b4⟩ := h4
  obtain ⟨e5, b5, b6, b7, b8⟩ := h5
  simp only [List.cons.injEq, and_true] at e0 e1 e2 e3 e4 e5
  obtain ⟨rfl, rfl, rfl, rfl, rfl, rfl, rfl, rfl⟩ := e1
  obtain ⟨rfl, rfl, rfl, rfl⟩ := e5
  subst e0 e2 e3 e4
  exact ⟨⟨x0, x1, x2, x3, x4, x5⟩, rfl, ⟨b0, b1, b2, b3, b4, b5, b6, b7, b8⟩⟩⟩
theorem opens_events : Opens Tryd.prog 31 REvents := opens_slice Tryd.underlying31 cells_event (by omega) opens_event
theorem opens_ints : Opens Tryd.prog 32 RInts := opens_slice Tryd.underlying32 (by kernel_rfl) (by omega) opens_named_int
theorem cells_report : Tryd.prog.cellsOf 34 = 2 := by kernel_rfl
theorem opens_report : Opens Tryd.prog 34 RReport := ⟨by
  intro H enc w sp held k B cs y h hp
  obtain ⟨hl, hf⟩ := opens_fields Tryd.underlying34 h hp
  rw [cells_report] at hl
  obtain ⟨c0, c1, rfl⟩ := len2 hl
  obtain ⟨x0, h0⟩ := hf 0 _ rfl opens_events
  replace h0 : REvents w B (([c0, c1].drop 0).take (Tryd.prog.cellsOf 31)) x0 := h0
  rw [show Tryd.prog.cellsOf 31 = 1 from by kernel_rfl] at h0
  replace h0 : REvents w B [c0] x0 := h0
  obtain ⟨x1, h1⟩ := hf 1 _ rfl opens_ints
  replace h1 : RInts w B (([c0, c1].drop 1).take (Tryd.prog.cellsOf 32)) x1 := h1
  rw [show Tryd.prog.cellsOf 32 = 1 from by kernel_rfl] at h1
  replace h1 : RInts w B [c1] x1 := h1
  exact ⟨⟨x0, x1⟩, c0, c1, rfl, h0, h1⟩⟩
theorem fits_bounds {a : Int} (h : Fits a) : -9223372036854775808 ≤ a ∧ a ≤ 9223372036854775807 := bounds_i64 h
/-- Calls: at an index. -/
theorem events_open {w : World} {B : Nat} {a : Option Addr} {n cap : Nat} {xs : List EventD} (h : REvents w B [.slice a n cap] xs) :
    n = xs.length ∧ n ≤ cap ∧ cap ≤ maxLen ∧ (a = none → cap = 0) ∧ (0 < n → ∃ b off, a = some ⟨b, off, none⟩ ∧ b < B ∧
      ∀ k x, xs[k]? = some x → x.Ok ∧ ∀ j, j < 16 → w.cell? ⟨b, off + k * 16 + j, none⟩ = x.cells[j]?) := by
  obtain ⟨h1, h2, h3, h5, h4⟩ := slice_open h
  refine ⟨h1, h2, h3, h5, fun hp => ?_⟩
  obtain ⟨b, off, rfl, hb, hx⟩ := h4 hp
  refine ⟨b, off, rfl, hb, fun k s hk => ?_⟩
  obtain ⟨es, hl, hc, rfl, hs⟩ := hx k s hk
  exact ⟨hs, hc⟩
theorem ints_open {w : World} {B : Nat} {a : Option Addr} {n cap : Nat} {xs : List Int} (h : RInts w B [.slice a n cap] xs) :
    n = xs.length ∧ n ≤ cap ∧ cap ≤ maxLen ∧ (a = none → cap = 0) ∧ (0 < n → ∃ b off, a = some ⟨b, off, none⟩ ∧ b < B ∧
      ∀ k x, xs[k]? = some x → Fits x ∧ w.cell? ⟨b, off + k, none⟩ = some (.int .i64 x)) := by
  obtain ⟨h1, h2, h3, h5, h4⟩ := slice_open h
  refine ⟨h1, h2, h3, h5, fun hp => ?_⟩
  obtain ⟨b, off, rfl, hb, hx⟩ := h4 hp
  refine ⟨b, off, rfl, hb, fun k s hk => ?_⟩
  obtain ⟨es, hl, hc, rfl, hs⟩ := hx k s hk
  exact ⟨hs, by simpa using hc 0 (by omega)⟩
theorem event_cells {w : World} {b q : Nat} {x : EventD} (h : ∀ j, j < 16 → w.cell? ⟨b, q + j, none⟩ = x.cells[j]?) : w.cell? ⟨b, q, none⟩ = some (.int .i64 x.pid) ∧ w.cell? ⟨b, q + 1, none⟩ = some (.int .i64 x.call.kind) ∧ w.cell? ⟨b, q + 2, none⟩ = some (.int .i64 x.call.of_) ∧ w.cell? ⟨b, q + 3, none⟩ = some (.string x.call.ref_) ∧ w.cell? ⟨b, q + 4, none⟩ = some (.string x.call.on_) ∧ w.cell? ⟨b, q + 5, none⟩ = some (.slice x.call.na x.call.nn x.call.nc) ∧ w.cell? ⟨b, q + 6, none⟩ = some (.string x.call.data) ∧ w.cell? ⟨b, q + 7, none⟩ = some (.string x.call.key) ∧ w.cell? ⟨b, q + 8, none⟩ = some (.int .i64 x.call.drawn) ∧ w.cell? ⟨b, q + 9, none⟩ = some (.int .i64 x.begin_) ∧ w.cell? ⟨b, q + 10, none⟩ = some (.int .i64 x.end_) ∧ w.cell? ⟨b, q + 11, none⟩ = some (.int .i64 x.state) ∧ w.cell? ⟨b, q + 12, none⟩ = some (.int .i64 x.answer.err) ∧ w.cell? ⟨b, q + 13, none⟩ = some (.string x.answer.id) ∧ w.cell? ⟨b, q + 14, none⟩ = some (.int .i64 x.answer.n) ∧ w.cell? ⟨b, q + 15, none⟩ = some (.string x.answer.text) :=
  ⟨h 0 (by omega), h 1 (by omega), h 2 (by omega), h 3 (by omega), h 4 (by omega), h 5 (by omega), h 6 (by omega), h 7 (by omega), h 8 (by omega), h 9 (by omega), h 10 (by omega), h 11 (by omega), h 12 (by omega), h 13 (by omega), h 14 (by omega), h 15 (by omega)⟩
end Go.Proofs.YtlniiaopindjnaaDoor
