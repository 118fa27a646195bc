/-
  Layer 8: sized, Write, Truncate, Read, walked.
-/
import Derived.Test.YtcicjklhbnipcaaGreatDoorInoG
import Derived.Deep.RegionWith
namespace Go.Proofs.YtcicjklhbnipcaaGreatDoor
set_option linter.unusedVariables false
set_option linter.unusedSimpArgs false
open Go.RowKit Go.Maps

theorem repeat_zero : ∀ c : Nat, Lib.repeatL [0] c = List.replicate c (0 : UInt8)
  | 0 => rfl
  | c + 1 => by
    have := repeat_zero c
    simp [Lib.repeatL, List.replicate_succ] at this ⊢
    exact this
theorem noughts_eq (c : Nat) : (⟨(Lib.repeatL (⟨#[0]⟩ : ByteArray).data.toList c).toArray⟩ : ByteArray) = In.noughts c := by
  show (⟨(Lib.repeatL [0] c).toArray⟩ : ByteArray) = _
  rw [repeat_zero]; rfl
theorem noughts_size (c : Nat) : (In.noughts c).size = c := by
  show ((List.replicate c (0 : UInt8)).toArray).size = c
  simp
theorem set_set {l : List NodeD} {n m : NodeD} (h : n.id = m.id) : In.set (In.set l n) m = In.set l m := by
  unfold In.set
  rw [List.map_map]
  refine List.map_congr_left fun x _ => ?_
  simp only [Function.comp]
  by_cases hx : x.id = n.id
  · have e1 : (x.id == n.id) = true := by simpa using hx
    have e2 : (x.id == m.id) = true := by rw [hx, h]; simp
    have e3 : (n.id == m.id) = true := by simpa using h
    simp only [e1, e2, e3, if_true]
  · have e1 : (x.id == n.id) = false := by simpa using hx
    simp only [e1, Bool.false_eq_true, if_false]
theorem setN_setN {t : TabD} {n m : NodeD} (h : n.id = m.id) : In.setN (In.setN t n) m = In.setN t m := by
  unfold In.setN
  simp only [set_set h]
section
variable {w : World} {g mb : Nat} {β : Int → Nat × Nat} {t : TabD}
theorem sized_tail (h : TblAt w g mb β t) {id : Int} {x : NodeD} (hx : In.find t.nodes id = some x) (n : Nat) :
    Step w (((w.setCell ⟨(β id).1, 3, none⟩ (.string (x.data ++ In.noughts (n - x.data.size)))).setCell ⟨(β id).1, 3, none⟩ (.string ((x.data ++ In.noughts (n - x.data.size)).extract 0 n))).setCell ⟨g, 1, none⟩ (.int .i64 (t.used + ((n : Int) - x.data.size)))) g mb β t (In.sizedT t id n) := by
  have hi := (find_mem hx).2
  have T := ((h.set_data hx (x.data ++ In.noughts (n - x.data.size))).set_data (find_self (n := { x with data := x.data ++ In.noughts (n - x.data.size) }) hx hi) ((x.data ++ In.noughts (n - x.data.size)).extract 0 n)).set_used (t.used + ((n : Int) - x.data.size))
  have e : In.sizedT t id n = ⟨t.quota, t.used + ((n : Int) - x.data.size), t.last, (In.setN t { x with data := (x.data ++ In.noughts (n - x.data.size)).extract 0 n }).nodes⟩ := by
    unfold In.sizedT
    rw [at_find hx, dataOf_eq hx]
    rfl
  have e2 : (In.setN (In.setN t { x with data := x.data ++ In.noughts (n - x.data.size) }) { x with data := (x.data ++ In.noughts (n - x.data.size)).extract 0 n }).nodes = (In.setN t { x with data := (x.data ++ In.noughts (n - x.data.size)).extract 0 n }).nodes :=
    congrArg TabD.nodes (setN_setN (t := t) (n := { x with data := x.data ++ In.noughts (n - x.data.size) }) (m := { x with data := (x.data ++ In.noughts (n - x.data.size)).extract 0 n }) rfl)
  rw [e, ← e2]
  refine ⟨T, (((Only.refl (foot g mb β t.nodes) w).setCell (p := ⟨(β id).1, 3, none⟩) (.inl (in_foot1 hx)) _).setCell (p := ⟨(β id).1, 3, none⟩) (.inl (in_foot1 hx)) _).setCell (p := ⟨g, 1, none⟩) (.inl (mem_foot.2 (.inl rfl))) _, fun k hk => ?_⟩
  have hf : foot g mb β (In.setN (In.setN t { x with data := x.data ++ In.noughts (n - x.data.size) }) { x with data := (x.data ++ In.noughts (n - x.data.size)).extract 0 n }).nodes = foot g mb β t.nodes := (foot_setN _).trans (foot_setN _)
  have hk' : k ∈ foot g mb β (In.setN (In.setN t { x with data := x.data ++ In.noughts (n - x.data.size) }) { x with data := (x.data ++ In.noughts (n - x.data.size)).extract 0 n }).nodes := hk
  rw [hf] at hk'
  exact hk'
theorem drewN_same (W : World) (k : Nat) : Below W.heap.size W (W.drewN k) := ⟨rfl, rfl, rfl, Nat.le_refl _, fun _ _ => rfl⟩
set_option maxHeartbeats 2000000 in
set_option maxRecDepth 100000 in
theorem sized_go (h : TblAt w g mb β t) (F : Fit t) {id : Int} (hid : Fits id) {x : NodeD} (hx : In.find t.nodes id = some x) {n : Nat} (hE : In.sizedE t x n = 0) :
    Calls Tryz.prog 163 #[.pointer (some ⟨g, 0, none⟩), .pointer (some ⟨(β id).1, 0, none⟩), .int .i64 n] w fun e w' => e = .returned (.int .i64 0) ∧ Step w w' g mb β t (In.sizedT t id n) := by
  unfold In.sizedE at hE
  have hn1 : (n : Int) ≤ 1048576 := by
    by_cases h : (1048576 : Int) < n
    · rw [decide_eq_true h] at hE; simp at hE
    · omega
  rw [decide_eq_false (show ¬ (1048576 : Int) < n by omega)] at hE
  have hsp : ¬ t.quota - t.used < (n : Int) - x.data.size := by
    by_cases h : t.quota - t.used < (n : Int) - x.data.size
    · rw [decide_eq_true h] at hE; simp at hE
    · exact h
  have hds := F.data x (find_mem hx).1
  have hA := h.at hx
  obtain ⟨c0, c1, c2, c3⟩ := tbl_cells h
  have d3 := (node_cells hA).2.2.2.1
  have f3 := free_row hA.row 3
  have f1 := free_row h.row 1
  have q1 := F.q1
  have q0 := F.q0
  have u0 := F.u0
  have u1 := F.u1
  have CR := Lib.hid (fun W : World => (by
    have e : max (0 : Int) ((n : Int) - x.data.size) = ((n - x.data.size : Nat) : Int) := by omega
    rw [e, ← noughts_eq]
    exact Tryz.strings_Repeat ⟨#[0]⟩ (n - x.data.size) W (by omega) (by show 1 * _ ≤ _; omega) : Calls Tryz.prog 196 #[.string ⟨#[0]⟩, .int .i64 (max (0 : Int) ((n : Int) - x.data.size))] W fun e w' => e = .returned (.string (In.noughts (n - x.data.size))) ∧ Below W.heap.size W w'))
  have hcat : x.data.size + (In.noughts (n - x.data.size)).size ≤ 9223372036854775807 := by rw [noughts_size]; omega
  have hle : (n : Int) ≤ ((x.data ++ In.noughts (n - x.data.size)).size : Int) := by rw [ByteArray.size_append, noughts_size]; omega
  have hne : g ≠ (β id).1 := by have := (h.apart_self (find_mem hx).1).2.1; rw [(find_mem hx).2] at this; exact this
  have hne' : (β id).1 ≠ g := fun e => hne e.symm
  have HT := Lib.hid h
  have HX := Lib.hid hx
  clear h F hx hA hE
  go_enter Tryz.func163, Tryz.ntmps163
  go_wp2_with fail
  go_quiet (fail)
  go_wp2_with fail
  go_region_with (go_at_call 196; refine (CR.out _).mono ?_; rintro e w1 ⟨rfl, hb⟩; have TB := (HT.out.on (w' := w.drewN _) (fun _ _ => rfl)).below hb; have HTB := Lib.hid TB; have hA1 := TB.at HX.out; have d3' := (node_cells hA1).2.2.2.1; have f3' := free_row hA1.row 3; have c1' := (tbl_cells TB).2.1; have f1' := free_row TB.row 1; have HB := Lib.hid hb; clear hb TB hA1)
  all_goals
    clear d3 f3 c1 f1 c0 c2 c3
    go_wp2_with fail
    go_ret
    exact ⟨rfl, (Step.below HT.out ((drewN_same w _).trans HB.out)).trans (sized_tail HTB.out HX.out n)⟩
end
end Go.Proofs.YtcicjklhbnipcaaGreatDoor
