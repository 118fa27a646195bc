/-
  Layer 8: acts as they come in; few acts.
-/
import Derived.Test.YtfepbjlaffpojaaGreatInoX
import Derived.OpenShut
namespace Go.Proofs.YtfepbjlaffpojaaGreat
set_option linter.unusedVariables false
open Go.ChangeShapes Go.WideShapes Go.RowKit

theorem len8 {cs : List Value} (h : cs.length = 8) : ∃ c0 c1 c2 c3 c4 c5 c6 c7, cs = [c0, c1, c2, c3, c4, c5, c6, c7] := by
  match cs, h with
  | [c0, c1, c2, c3, c4, c5, c6, c7], _ => exact ⟨c0, c1, c2, c3, c4, c5, c6, c7, rfl⟩
def RAct : Rep ActD := fun _ _ cs x => cs = x.cells ∧ x.Ok
theorem kept_act : Kept RAct := ⟨fun _ _ h => h⟩
def RActs : Rep (List ActD) := RSlice 8 RAct
theorem kept_acts : Kept RActs := kept_slice kept_act
theorem opens_named_str : Opens Tryz.prog 9 RStr := opens_str Tryz.underlying9
theorem opens_named_int : Opens Tryz.prog 3 (RInt .i64) := opens_int Tryz.underlying3
theorem opens_named_bool : Opens Tryz.prog 4 RBool := opens_bool Tryz.underlying4
theorem cells_act : Tryz.prog.cellsOf 35 = 8 := by kernel_rfl
theorem opens_act : Opens Tryz.prog 35 RAct := ⟨by
  intro H enc w sp held k B cs y h hp
  obtain ⟨hl, hf⟩ := opens_fields Tryz.underlying35 h hp
  rw [cells_act] at hl
  obtain ⟨c0, c1, c2, c3, c4, c5, c6, c7, rfl⟩ := len8 hl
  obtain ⟨x0, h0⟩ := hf 0 _ rfl opens_named_int
  replace h0 : (RInt .i64) w B (([c0, c1, c2, c3, c4, c5, c6, c7].drop 0).take (Tryz.prog.cellsOf 3)) x0 := h0
  rw [show Tryz.prog.cellsOf 3 = 1 from by kernel_rfl] at h0
  replace h0 : (RInt .i64) w B [c0] x0 := h0
  obtain ⟨x1, h1⟩ := hf 1 _ rfl opens_named_int
  replace h1 : (RInt .i64) w B (([c0, c1, c2, c3, c4, c5, c6, c7].drop 1).take (Tryz.prog.cellsOf 3)) x1 := h1
  rw [show Tryz.prog.cellsOf 3 = 1 from by kernel_rfl] at h1
  replace h1 : (RInt .i64) w B [c1] x1 := h1
  obtain ⟨x2, h2⟩ := hf 2 _ rfl opens_named_int
  replace h2 : (RInt .i64) w B (([c0, c1, c2, c3, c4, c5, c6, c7].drop 2).take (Tryz.prog.cellsOf 3)) x2 := h2
  rw [show Tryz.prog.cellsOf 3 = 1 from by kernel_rfl] at h2
  replace h2 : (RInt .i64) w B [c2] x2 := h2
  obtain ⟨x3, h3⟩ := hf 3 _ rfl opens_named_int
  replace h3 : (RInt .i64) w B (([c0, c1, c2, c3, c4, c5, c6, c7].drop 3).take (Tryz.prog.cellsOf 3)) x3 := h3
  rw [show Tryz.prog.cellsOf 3 = 1 from by kernel_rfl] at h3
  replace h3 : (RInt .i64) w B [c3] x3 := h3
  obtain ⟨x4, h4⟩ := hf 4 _ rfl opens_named_int
  replace h4 : (RInt .i64) w B (([c0, c1, c2, c3, c4, c5, c6, c7].drop 4).take (Tryz.prog.cellsOf 3)) x4 := h4
  rw [show Tryz.prog.cellsOf 3 = 1 from by kernel_rfl] at h4
  replace h4 : (RInt .i64) w B [c4] x4 := h4
  obtain ⟨x5, h5⟩ := hf 5 _ rfl opens_named_str
  replace h5 : RStr w B (([c0, c1, c2, c3, c4, c5, c6, c7].drop 5).take (Tryz.prog.cellsOf 9)) x5 := h5
  rw [show Tryz.prog.cellsOf 9 = 1 from by kernel_rfl] at h5
  replace h5 : RStr w B [c5] x5 := h5
  obtain ⟨x6, h6⟩ := hf 6 _ rfl opens_named_str
  replace h6 : RStr w B (([c0, c1, c2, c3, c4, c5, c6, c7].drop 6).take (Tryz.prog.cellsOf 9)) x6 := h6
  rw [show Tryz.prog.cellsOf 9 = 1 from by kernel_rfl] at h6
  replace h6 : RStr w B [c6] x6 := h6
  obtain ⟨x7, h7⟩ := hf 7 _ rfl opens_named_bool
  replace h7 : RBool w B (([c0, c1, c2, c3, c4, c5, c6, c7].drop 7).take (Tryz.prog.cellsOf 4)) x7 := h7
  rw [show Tryz.prog.cellsOf 4 = 1 from by kernel_rfl] at h7
  replace h7 : RBool w B [c7] x7 := h7
  obtain ⟨e0, b0⟩ := h0
  obtain ⟨e1, b1⟩ := h1
  obtain ⟨e2, b2⟩ := h2
  obtain ⟨e3, b3⟩ := h3
  obtain ⟨e4, b4⟩ := h4
  obtain ⟨e5, b5⟩ := h5
  obtain ⟨e6, b6⟩ := h6
  have e7 : [c7] = [Value.bool x7] := h7
  simp only [List.cons.injEq, and_true] at e0 e1 e2 e3 e4 e5 e6 e7
  subst e0 e1 e2 e3 e4 e5 e6 e7
  exact ⟨⟨x0, x1, x2, x3, x4, x5, x6, x7⟩, rfl, ⟨b0, b1, b2, b3, b4, b5, b6⟩⟩⟩
theorem opens_acts : Opens Tryz.prog 23 RActs := opens_slice Tryz.underlying23 cells_act (by omega) opens_act
/-- Acts: at an index. -/
theorem acts_open {w : World} {B : Nat} {a : Option Addr} {n cap : Nat} {xs : List ActD} (h : RActs w B [.slice a n cap] xs) :
    n = xs.length ∧ n ≤ cap ∧ cap ≤ maxLen ∧ (0 < n → ∃ b off, a = some ⟨b, off, none⟩ ∧ b < B ∧ ∀ k x, xs[k]? = some x → x.Ok ∧ ∀ j, j < 8 → w.cell? ⟨b, off + k * 8 + j, none⟩ = x.cells[j]?) := by
  obtain ⟨a', cap', h1, h2, h3, h5, h4⟩ := h
  simp only [List.cons.injEq, Value.slice.injEq, and_true] at h1
  obtain ⟨rfl, rfl, rfl⟩ := h1
  refine ⟨rfl, h2, h3, fun hp => ?_⟩
  obtain ⟨b, off, rfl, hb, hx⟩ := h4 hp
  refine ⟨b, off, rfl, hb, fun k s hk => ?_⟩
  obtain ⟨es, hl, hc, rfl, hs⟩ := hx k s hk
  exact ⟨hs, hc⟩
theorem act_cells {w : World} {b q : Nat} {x : ActD} (h : ∀ j, j < 8 → w.cell? ⟨b, q + j, none⟩ = x.cells[j]?) : w.cell? ⟨b, q, none⟩ = some (.int .i64 x.kind) ∧ w.cell? ⟨b, q + 1, none⟩ = some (.int .i64 x.id) ∧ w.cell? ⟨b, q + 2, none⟩ = some (.int .i64 x.dir) ∧ w.cell? ⟨b, q + 3, none⟩ = some (.int .i64 x.at_) ∧ w.cell? ⟨b, q + 4, none⟩ = some (.int .i64 x.n) ∧ w.cell? ⟨b, q + 5, none⟩ = some (.string x.name) ∧ w.cell? ⟨b, q + 6, none⟩ = some (.string x.as_) ∧ w.cell? ⟨b, q + 7, none⟩ = some (.bool x.flag) :=
  ⟨h 0 (by omega), h 1 (by omega), h 2 (by omega), h 3 (by omega), h 4 (by omega), h 5 (by omega), h 6 (by omega), h 7 (by omega)⟩
/-- What Small answers: that there are no more than so many, if it says yes. -/
def SomeSmall (w : World) (n : Nat) (most : Int) (e : Ending) (w' : World) : Prop := ∃ b : Bool, e = .returned (.bool b) ∧ (b = true → (n : Int) ≤ most) ∧ w = w'
set_option maxHeartbeats 4000000 in
set_option maxRecDepth 100000 in
theorem small_any (a : Option Addr) (n c : Nat) (xs : List ActD) (w : World) (most : Int) (hm0 : 0 ≤ most) (hm1 : most ≤ 1000) (h : RActs w w.heap.size [.slice a n c] xs) :
    Calls Tryz.prog 7 #[.slice a n c, .int .i64 most] w (SomeSmall w xs.length most) := by
  obtain ⟨rfl, h1, h2, hx⟩ := acts_open h
  rw [maxLen_val] at h2
  have HX := Lib.hid hx
  clear h hx
  go_enter Tryz.func7, Tryz.ntmps7
  go_wp2_with fail
  go_loop [5] (fun i => ∃ k : Nat, k ≤ xs.length ∧ i = .int .i64 k) (fun i => xs.length - (intOf i).toNat)
  case atStart => exact ⟨0, by omega, rfl⟩
  case round =>
    obtain ⟨k, hk, rfl⟩ := hrel
    by_cases hlt : k < xs.length
    · by_cases hmo : (k : Int) < most
      · obtain ⟨x, hxk⟩ := get_at hlt
        obtain ⟨b, off, rfl, hb, hc⟩ := HX.out (by omega)
        obtain ⟨hok, hcell⟩ := hc k x hxk
        obtain ⟨-, -, -, c3, c4, c5, c6, -⟩ := act_cells hcell
        have s5 := hok.name
        have s6 := hok.as_
        rw [maxLen_val] at s5 s6
        clear hc hcell hxk hok
        by_cases t1 : (60 : Int) < x.name.size
        · go_wp2_with fail
          go_ret
          exact ⟨false, rfl, (fun h => by cases h), rfl⟩
        by_cases t2 : (200 : Int) < x.as_.size
        · have f1 : decide ((60 : Int) < x.name.size) = false := decide_eq_false t1
          go_wp2_with fail
          go_ret
          exact ⟨false, rfl, (fun h => by cases h), rfl⟩
        have f1 : decide ((60 : Int) < x.name.size) = false := decide_eq_false t1
        have f2 : decide ((200 : Int) < x.as_.size) = false := decide_eq_false t2
        by_cases t3 : (4096 : Int) < x.at_
        · by_cases t4 : x.at_ ≤ 1048576
          · go_wp2_with fail
            go_ret
            exact ⟨false, rfl, (fun h => by cases h), rfl⟩
          · have f4 : decide (x.at_ ≤ 1048576) = false := decide_eq_false t4
            by_cases t5 : (4096 : Int) < x.n
            · by_cases t6 : x.n ≤ 1048576
              · go_wp2_with fail
                go_ret
                exact ⟨false, rfl, (fun h => by cases h), rfl⟩
              · have f6 : decide (x.n ≤ 1048576) = false := decide_eq_false t6
                go_wp2_with fail
                go_round
                case rel => exact ⟨k + 1, by omega, by go_num⟩
                case measure => simp [intOf]; omega
            · have f5 : decide ((4096 : Int) < x.n) = false := decide_eq_false t5
              go_wp2_with fail
              go_round
              case rel => exact ⟨k + 1, by omega, by go_num⟩
              case measure => simp [intOf]; omega
        · have f3 : decide ((4096 : Int) < x.at_) = false := decide_eq_false t3
          by_cases t5 : (4096 : Int) < x.n
          · by_cases t6 : x.n ≤ 1048576
            · go_wp2_with fail
              go_ret
              exact ⟨false, rfl, (fun h => by cases h), rfl⟩
            · have f6 : decide (x.n ≤ 1048576) = false := decide_eq_false t6
              go_wp2_with fail
              go_round
              case rel => exact ⟨k + 1, by omega, by go_num⟩
              case measure => simp [intOf]; omega
          · have f5 : decide ((4096 : Int) < x.n) = false := decide_eq_false t5
            go_wp2_with fail
            go_round
            case rel => exact ⟨k + 1, by omega, by go_num⟩
            case measure => simp [intOf]; omega
      · have hmf : decide ((k : Int) < most) = false := decide_eq_false hmo
        go_wp2_with fail
        go_ret
        exact ⟨_, rfl, (fun h => by simpa using h), rfl⟩
    · obtain rfl : k = xs.length := by omega
      go_wp2_with fail
      go_ret
      exact ⟨_, rfl, (fun h => by simpa using h), rfl⟩
end Go.Proofs.YtfepbjlaffpojaaGreat
