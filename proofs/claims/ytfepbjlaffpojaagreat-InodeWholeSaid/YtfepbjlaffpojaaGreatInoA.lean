/-
  Layer 8: given, get, walked.
-/
import Derived.Test.YtfepbjlaffpojaaGreatInoM
namespace Go.Proofs.YtfepbjlaffpojaaGreat
set_option linter.unusedVariables false
open Go.RowKit Go.Maps

theorem given_yes {w : World} {g mb : Nat} {β : Int → Nat × Nat} {t : TabD} (h : TblAt w g mb β t) (hq : 0 < t.quota) : Calls Tryz.prog 24 #[.pointer (some ⟨g, 0, none⟩)] w fun e w' => e = .returned (.bool true) ∧ w = w' := by
  have c0 := cell_row h.row 0
  simp only [List.getElem?_toArray, List.getElem?_cons_zero] at c0
  clear h
  go_enter Tryz.func24, Tryz.ntmps24
  go_wp2_with fail
  go_ret
  exact ⟨rfl, rfl⟩
theorem zero_ptr (w : World) : (zeroValue 53).run Tryz.prog w = .ok (.pointer none) w := by kernel_rfl
theorem zero_int (w : World) : (zeroValue 3).run Tryz.prog w = .ok (.int .i64 0) w := by kernel_rfl
/-- What a table's map holds at a number. -/
def ptrAt (β : Int → Nat × Nat) (t : TabD) (id : Int) : Value := match In.find t.nodes id with | some n => .pointer (some ⟨(β n.id).1, 0, none⟩) | none => .pointer none
theorem look_at {w : World} {g mb : Nat} {β : Int → Nat × Nat} {t : TabD} (h : TblAt w g mb β t) {id : Int} (hid : Fits id) :
    (Instr.lookup 48 (.map (some mb)) (.int .i64 id) false).run Tryz.prog w = .ok (ptrAt β t id) w := by
  rw [MapAt.look h.map key_int Tryz.underlying48 (zero_ptr w) (keyOf_int_mk Tryz.underlying3 hid), look_nodes]
  rfl
theorem ptr_some {β : Int → Nat × Nat} {t : TabD} {id : Int} {n : NodeD} (h : In.find t.nodes id = some n) : ptrAt β t id = .pointer (some ⟨(β id).1, 0, none⟩) := by
  unfold ptrAt; rw [h]; simp only [(find_mem h).2]
theorem ptr_none {β : Int → Nat × Nat} {t : TabD} {id : Int} (h : In.find t.nodes id = none) : ptrAt β t id = .pointer none := by
  unfold ptrAt; rw [h]
theorem look_name {w : World} {m : Nat} {d : List (ByteArray × Int)} (h : NamesAt w m d) {s : ByteArray} (hs : s.size ≤ maxLen) :
    (Instr.lookup 54 (.map (some m)) (.string s) false).run Tryz.prog w = .ok (.int .i64 (In.leads d s)) w := by
  rw [MapAt.look h key_str Tryz.underlying54 (zero_int w) (WideMaps.keyOf_string_mk Tryz.underlying9 hs), look_names]

/-- It is an inode of that kind. -/
theorem get_yes {w : World} {g mb : Nat} {β : Int → Nat × Nat} {t : TabD} (h : TblAt w g mb β t) (hq : 0 < t.quota) {id : Int} (hid : Fits id) {dir : Bool} {n : NodeD} (hn : In.find t.nodes id = some n) (hd : n.dir = dir) :
    Calls Tryz.prog 51 #[.pointer (some ⟨g, 0, none⟩), .int .i64 id, .bool dir] w fun e w' => e = .returned (.tuple #[.pointer (some ⟨(β id).1, 0, none⟩), .int .i64 0]) ∧ w = w' := by
  have hg := given_yes h hq
  have hl := look_at h hid
  rw [ptr_some hn] at hl
  have c3 := cell_row h.row 3
  simp only [List.getElem?_toArray, List.getElem?_cons_zero, List.getElem?_cons_succ] at c3
  have d0 := cell_row (h.at hn).row 0
  simp only [List.getElem?_toArray, List.getElem?_cons_zero, hd] at d0
  clear h hn hd hq
  go_enter Tryz.func51, Tryz.ntmps51
  cases dir
  all_goals
    go_wp2_with (go_at_call 24; refine hg.mono ?_; rintro e w' ⟨rfl, rfl⟩)
    go_ret2
    exact ⟨rfl, rfl⟩
/-- It is none, or none of that kind. -/
theorem get_no {w : World} {g mb : Nat} {β : Int → Nat × Nat} {t : TabD} (h : TblAt w g mb β t) (hq : 0 < t.quota) {id : Int} (hid : Fits id) {dir : Bool} {E : Int} (hE : In.getE t id dir = E) (h0 : E ≠ 0) :
    Calls Tryz.prog 51 #[.pointer (some ⟨g, 0, none⟩), .int .i64 id, .bool dir] w fun e w' => e = .returned (.tuple #[.pointer none, .int .i64 E]) ∧ w = w' := by
  have hg := given_yes h hq
  have hl := look_at h hid
  have c3 := cell_row h.row 3
  simp only [List.getElem?_toArray, List.getElem?_cons_zero, List.getElem?_cons_succ] at c3
  unfold In.getE at hE
  cases hn : In.find t.nodes id with
  | none =>
    rw [hn] at hE
    subst hE
    rw [ptr_none hn] at hl
    clear h hn hq h0
    go_enter Tryz.func51, Tryz.ntmps51
    go_wp2_with (go_at_call 24; refine hg.mono ?_; rintro e w' ⟨rfl, rfl⟩)
    go_ret2
    exact ⟨rfl, rfl⟩
  | some n =>
    rw [hn] at hE
    rw [ptr_some hn] at hl
    have d0 := cell_row (h.at hn).row 0
    simp only [List.getElem?_toArray, List.getElem?_cons_zero] at d0
    obtain ⟨nd, hnd⟩ : ∃ x, n.dir = x := ⟨_, rfl⟩
    rw [hnd] at d0
    simp only [hnd] at hE
    clear h hn hq hnd
    cases nd <;> cases dir
    all_goals simp at hE
    all_goals first | (exact absurd hE.symm h0) | skip
    all_goals
      subst hE
      go_enter Tryz.func51, Tryz.ntmps51
      go_wp2_with (go_at_call 24; refine hg.mono ?_; rintro e w' ⟨rfl, rfl⟩)
      go_ret2
      exact ⟨rfl, rfl⟩
/-- What is no table, or one that New did not give. -/
def Bare (w : World) (p : Option Addr) : Prop := p = none ∨ ∃ g, p = some ⟨g, 0, none⟩ ∧ w.cell? ⟨g, 0, none⟩ = some (.int .i64 0)
theorem given_no {w : World} {p : Option Addr} (h : Bare w p) : Calls Tryz.prog 24 #[.pointer p] w fun e w' => e = .returned (.bool false) ∧ w = w' := by
  rcases h with rfl | ⟨g, rfl, c0⟩
  all_goals
    go_enter Tryz.func24, Tryz.ntmps24
    go_wp2_with fail
    go_ret
    exact ⟨rfl, rfl⟩
theorem get_bare {w : World} {p : Option Addr} (h : Bare w p) (id : Int) (dir : Bool) : Calls Tryz.prog 51 #[.pointer p, .int .i64 id, .bool dir] w fun e w' => e = .returned (.tuple #[.pointer none, .int .i64 1]) ∧ w = w' := by
  have hg := given_no h
  clear h
  go_enter Tryz.func51, Tryz.ntmps51
  go_wp2_with (go_at_call 24; refine hg.mono ?_; rintro e w' ⟨rfl, rfl⟩)
  go_ret2
  exact ⟨rfl, rfl⟩
end Go.Proofs.YtfepbjlaffpojaaGreat
