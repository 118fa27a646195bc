/-
  Layer 8: sized that refuses; Truncate, Write, walked.
-/
import Derived.Test.YtcicjklhbnipcaaGreatDoorInoH
import Derived.StillTailTactics
namespace Go.Proofs.YtcicjklhbnipcaaGreatDoor
set_option linter.unusedVariables false
set_option linter.unusedSimpArgs false
open Go.RowKit Go.Maps

section
variable {w : World} {g mb : Nat} {β : Int → Nat × Nat} {t : TabD}
set_option maxHeartbeats 1000000 in
theorem sized_no (h : TblAt w g mb β t) (F : Fit t) {id : Int} {x : NodeD} (hx : In.find t.nodes id = some x) {n : Nat} (hn : n ≤ 9223372036854775807) {E : Int} (hE : In.sizedE t x n = E) (h0 : E ≠ 0) :
    Calls Tryz.prog 163 #[.pointer (some ⟨g, 0, none⟩), .pointer (some ⟨(β id).1, 0, none⟩), .int .i64 n] w fun e w' => e = .returned (.int .i64 E) ∧ Below w.heap.size w w' := by
  unfold In.sizedE at hE
  have hA := h.at hx
  obtain ⟨c0, c1, c2, c3⟩ := tbl_cells h
  have d3 := (node_cells hA).2.2.2.1
  have hds := F.data x (find_mem hx).1
  have q1 := F.q1
  have q0 := F.q0
  have u0 := F.u0
  have u1 := F.u1
  clear F
  by_cases h1 : (1048576 : Int) < n
  · rw [decide_eq_true h1] at hE
    have hE : 5 = E := hE
    subst hE
    clear h hx hA
    go_enter Tryz.func163, Tryz.ntmps163
    go_wp2_with fail
    go_ret
    exact ⟨rfl, Below.refl _ _⟩
  · rw [decide_eq_false h1] at hE
    have h1' : (n : Int) ≤ 1048576 := by omega
    cases hsp : decide (t.quota - t.used < (n : Int) - x.data.size) with
    | false => rw [hsp] at hE; exact absurd hE.symm h0
    | true =>
      rw [hsp] at hE
      have hE : 6 = E := hE
      subst hE
      have hsp' := of_decide_eq_true hsp
      clear h hx hA hsp h1
      go_enter Tryz.func163, Tryz.ntmps163
      go_wp2_with fail
      go_quiet (fail)
      go_wp2_with fail
      go_ret
      exact ⟨rfl, drewN_same _ _⟩
theorem sized_dec {x : NodeD} {n : Nat} : In.sizedE t x n = 0 ∨ In.sizedE t x n ≠ 0 := by omega
theorem trunc_eq {id : Int} {n : Int} : In.trunc t id n = if In.truncE t id n == 0 then (0, In.sizedT t id n) else (In.truncE t id n, t) := rfl
set_option maxHeartbeats 1000000 in
theorem Truncate_any (h : TblAt w g mb β t) (F : Fit t) {id : Int} (hid : Fits id) {n : Int} (hn : n ≤ 9223372036854775807) :
    Calls Tryz.prog 111 #[.pointer (some ⟨g, 0, none⟩), .int .i64 id, .int .i64 n] w (RStep w g mb β t (In.trunc t id n)) := by
  obtain ⟨E, hE⟩ : ∃ E, In.truncE t id n = E := ⟨_, rfl⟩
  obtain ⟨R, hRR⟩ : ∃ R, In.trunc t id n = R := ⟨_, rfl⟩
  have hR : R = if E == 0 then (0, In.sizedT t id n) else (E, t) := by rw [← hRR, ← hE]; rfl
  rw [hRR]
  have HRR := Lib.hid hR
  clear hR hRR
  unfold In.truncE at hE
  have HT := Lib.hid h
  rcases fileE_dec (t := t) (id := id) (k := n) with ⟨h1, x, hx, hxd, hk⟩ | h1
  · have cf := file_yes h F.q0 hid hx hxd hk
    obtain ⟨m, rfl⟩ : ∃ m : Nat, n = m := ⟨n.toNat, by have := of_decide_eq_false hk; omega⟩
    rw [h1, at_find hx] at hE
    have hE : In.sizedE t x m = E := hE
    rcases sized_dec (t := t) (x := x) (n := m) with h2 | h2
    · have cs := sized_go h F hid hx h2
      rw [h2] at hE
      subst hE
      have HR := Lib.hid (show R = (0, In.sizedT t id m) from HRR.out)
      clear h F h1 hx hxd hk h2
      go_enter Tryz.func111, Tryz.ntmps111
      go_wp2_with (first
        | (go_at_call 162; refine cf.mono ?_; rintro e w' ⟨rfl, rfl⟩)
        | (go_at_call 163; refine cs.mono ?_; rintro e w3 ⟨rfl, hs3⟩; have HS3 := Lib.hid hs3; clear hs3))
      go_ret
      rw [HR.out]
      exact ⟨rfl, HS3.out⟩
    · have cs := sized_no h F hx (by omega) hE (hE ▸ h2)
      have e0 := beq0_false (hE ▸ h2 : E ≠ 0)
      have HR := Lib.hid (show R = (E, t) by rw [HRR.out, e0]; rfl)
      clear h F h1 hx hxd hk h2 hE
      go_enter Tryz.func111, Tryz.ntmps111
      go_wp2_with (first
        | (go_at_call 162; refine cf.mono ?_; rintro e w' ⟨rfl, rfl⟩)
        | (go_at_call 163; refine cs.mono ?_; rintro e w3 ⟨rfl, hb⟩; have HB := Lib.hid hb; clear hb))
      go_ret
      rw [HR.out]
      exact ⟨rfl, Step.below HT.out HB.out⟩
  · rw [beq0_false h1] at hE
    have hE : In.fileE t id n = E := hE
    have cf := file_no h F.q0 hid hE (hE ▸ h1)
    have e0 := bne0_true (hE ▸ h1 : E ≠ 0)
    have HR := Lib.hid (show R = (E, t) by rw [HRR.out, beq0_false (hE ▸ h1 : E ≠ 0)]; rfl)
    clear h F h1 hE
    go_enter Tryz.func111, Tryz.ntmps111
    go_wp2_with (go_at_call 162; refine cf.mono ?_; rintro e w' ⟨rfl, rfl⟩)
    go_ret
    rw [HR.out]
    exact ⟨rfl, Step.refl HT.out⟩
theorem resized_size (d : ByteArray) (n : Nat) : (In.resized d n).size = n := by
  unfold In.resized
  rw [ByteArray.size_extract, ByteArray.size_append, noughts_size]
  omega
theorem find_sized {id : Int} {x : NodeD} (hx : In.find t.nodes id = some x) (n : Int) : In.find (In.sizedT t id n).nodes id = some { x with data := In.resized x.data n.toNat } := by
  unfold In.sizedT
  show In.find (In.dataOf t id (In.resized (In.at_ t id).data n.toNat)).nodes id = _
  rw [at_find hx, dataOf_eq hx]
  exact find_self (n := { x with data := In.resized x.data n.toNat }) hx (find_mem hx).2
theorem foot_same {w' : World} {t' : TabD} (S : Step w w' g mb β t t') {k : Nat} (hk : k ∈ foot g mb β t'.nodes) : k ∈ foot g mb β t.nodes := S.foot k hk
theorem step_data {w' : World} {t' : TabD} (S : Step w w' g mb β t t') {id : Int} {x : NodeD} (hx : In.find t'.nodes id = some x) (v : ByteArray) : Step w (w'.setCell ⟨(β id).1, 3, none⟩ (.string v)) g mb β t (In.dataOf t' id v) := by
  rw [dataOf_eq hx]
  refine ⟨S.tbl.set_data hx v, S.only.setCell (p := ⟨(β id).1, 3, none⟩) (.inl (S.foot _ (in_foot1 hx))) _, fun k hk => S.foot k ?_⟩
  have e : foot g mb β (In.setN t' { x with data := v }).nodes = foot g mb β t'.nodes := foot_setN _
  rw [e] at hk
  exact hk
theorem step_drew {w' : World} {t' : TabD} (S : Step w w' g mb β t t') : Step w w'.drew g mb β t t' := ⟨S.tbl.on (fun _ _ => rfl), S.only.drew, S.foot⟩
theorem empty_eq (s : ByteArray) : s.toList.isEmpty = decide (s.size = 0) := by
  rw [ByteArray.toList_eq, Bool.eq_iff_iff, List.isEmpty_iff, decide_eq_true_iff]
  constructor
  · intro h; have := congrArg List.length h; simpa using this
  · intro h; exact List.length_eq_zero_iff.1 (by simpa using h)
set_option maxHeartbeats 4000000 in
set_option maxRecDepth 100000 in
theorem Write_any (h : TblAt w g mb β t) (F : Fit t) {id : Int} (hid : Fits id) {a : Int} (ha : a ≤ 9223372036854775807) {s : ByteArray} (hs : s.size ≤ maxLen) :
    Calls Tryz.prog 110 #[.pointer (some ⟨g, 0, none⟩), .int .i64 id, .int .i64 a, .string s] w (RStep w g mb β t (In.write t id a s)) := by
  rw [maxLen_val] at hs
  obtain ⟨E, hE⟩ : ∃ E, In.writeE t id a s = E := ⟨_, rfl⟩
  obtain ⟨R, hRR⟩ : ∃ R, In.write t id a s = R := ⟨_, rfl⟩
  have hR : R = if E == 0 then (0, In.writeT t id a s) else (E, t) := by rw [← hRR, ← hE]; rfl
  rw [hRR]
  have HRR := Lib.hid hR
  clear hR hRR
  unfold In.writeE at hE
  have HT := Lib.hid h
  rcases fileE_dec (t := t) (id := id) (k := a) with ⟨h1, x, hx, hxd, hk⟩ | h1
  · have cf := file_yes h F.q0 hid hx hxd hk
    obtain ⟨m, rfl⟩ : ∃ m : Nat, a = m := ⟨a.toNat, by have := of_decide_eq_false hk; omega⟩
    rw [h1, at_find hx] at hE
    have hds := F.data x (find_mem hx).1
    cases k1 : decide ((1048576 : Int) < m) with
    | true =>
      rw [k1] at hE
      have hE : 5 = E := hE
      subst hE
      have HR := Lib.hid (show R = (5, t) from HRR.out)
      clear h F h1 hx hxd hk
      go_enter Tryz.func110, Tryz.ntmps110
      go_wp2_with (go_at_call 162; refine cf.mono ?_; rintro e w' ⟨rfl, rfl⟩)
      go_ret
      rw [HR.out]
      exact ⟨rfl, Step.refl HT.out⟩
    | false =>
      have m1 := of_decide_eq_false k1
      cases k2 : decide ((1048576 : Int) - m < s.size) with
      | true =>
        rw [k1, k2] at hE
        have hE : 5 = E := hE
        subst hE
        have HR := Lib.hid (show R = (5, t) from HRR.out)
        clear h F h1 hx hxd hk
        go_enter Tryz.func110, Tryz.ntmps110
        go_wp2_with (go_at_call 162; refine cf.mono ?_; rintro e w' ⟨rfl, rfl⟩)
        go_ret
        rw [HR.out]
        exact ⟨rfl, Step.refl HT.out⟩
      | false =>
        have m2 := of_decide_eq_false k2
        rw [k1, k2] at hE
        have hE : (if s.size == 0 then 0 else In.sizedE t x (max ((m : Int) + s.size) x.data.size)) = E := hE
        have hemp := empty_eq s
        by_cases hz : s.size = 0
        · rw [decide_eq_true hz] at hemp
          rw [hz] at hE
          have hE : 0 = E := hE
          subst hE
          have HR := Lib.hid (show R = (0, t) by
            rw [HRR.out]
            show (0, In.writeT t id m s) = _
            unfold In.writeT
            rw [hz]; rfl)
          clear h F h1 hx hxd hk
          go_enter Tryz.func110, Tryz.ntmps110
          go_wp2_with (go_at_call 162; refine cf.mono ?_; rintro e w' ⟨rfl, rfl⟩)
          go_ret
          rw [HR.out]
          exact ⟨rfl, Step.refl HT.out⟩
        · rw [decide_eq_false hz] at hemp
          have hz' : (s.size == 0) = false := by simpa using hz
          rw [hz'] at hE
          have hE : In.sizedE t x (max ((m : Int) + s.size) x.data.size) = E := hE
          have em : max ((m : Int) + s.size) (x.data.size : Int) = ((max (m + s.size) x.data.size : Nat) : Int) := by omega
          have d3 := (node_cells (h.at hx)).2.2.2.1
          rw [em] at hE
          rcases sized_dec (t := t) (x := x) (n := max (m + s.size) x.data.size) with h2 | h2
          · have cs := sized_go h F hid hx h2
            rw [h2] at hE
            subst hE
            have HR := Lib.hid (show R = (0, In.overT (In.sizedT t id ((max (m + s.size) x.data.size : Nat) : Int)) id m s) by
              rw [HRR.out]
              show (0, In.writeT t id m s) = _
              unfold In.writeT
              rw [at_find hx, hz', em]; rfl)
            have hx1 := find_sized hx ((max (m + s.size) x.data.size : Nat) : Int)
            rw [Int.toNat_natCast] at hx1
            have hr := resized_size x.data (max (m + s.size) x.data.size)
            generalize In.resized x.data (max (m + s.size) x.data.size) = D at hx1 hr
            generalize In.sizedT t id ((max (m + s.size) x.data.size : Nat) : Int) = t1 at cs hx1 HR
            rw [← em] at cs
            have hl1 : (m : Int) ≤ D.size := by omega
            have hl2 : (m : Int) + s.size ≤ D.size := by omega
            have hl0 : (0 : Int) ≤ (m : Int) + s.size := by omega
            have ht0 : ((m : Int) + s.size).toNat = m + s.size := by omega
            have g1 : ¬ (9223372036854775807 < min m D.size + s.size) := by omega
            have g2 : ¬ (9223372036854775807 < min m D.size + s.size + (D.size - (m + s.size))) := by omega
            have HX1 := Lib.hid hx1
            clear h F h1 hx hxd hk h2 hx1 hr em
            go_enter Tryz.func110, Tryz.ntmps110
            go_wp2_with (first
              | (go_at_call 162; refine cf.mono ?_; rintro e w' ⟨rfl, rfl⟩)
              | (go_at_call 163; refine cs.mono ?_; rintro e w3 ⟨rfl, hs3⟩; have HS3 := Lib.hid hs3; have hA3 := hs3.tbl.at HX1.out; have e3 := (node_cells hA3).2.2.2.1; have f3 := free_row hA3.row 3; clear hs3 hA3 d3))
            go_still_tail 18, (by kernel_rfl)
            change wpList _ _ _ _ _ w3.drew
            go_wp2_with fail
            go_ret
            rw [HR.out]
            exact ⟨rfl, (by unfold In.overT; rw [at_find HX1.out]; exact step_data (step_drew HS3.out) HX1.out _)⟩
          · have cs := sized_no h F hx (by omega) hE (hE ▸ h2)
            rw [← em] at cs
            have e0 := beq0_false (hE ▸ h2 : E ≠ 0)
            have e1 := bne0_true (hE ▸ h2 : E ≠ 0)
            have HR := Lib.hid (show R = (E, t) by rw [HRR.out, e0]; rfl)
            clear h F h1 hx hxd hk h2 hE em
            go_enter Tryz.func110, Tryz.ntmps110
            go_wp2_with (first
              | (go_at_call 162; refine cf.mono ?_; rintro e w' ⟨rfl, rfl⟩)
              | (go_at_call 163; refine cs.mono ?_; rintro e w3 ⟨rfl, hb⟩; have HB := Lib.hid hb; clear hb))
            go_ret
            rw [HR.out]
            exact ⟨rfl, Step.below HT.out HB.out⟩
  · rw [beq0_false h1] at hE
    have hE : In.fileE t id a = E := hE
    have cf := file_no h F.q0 hid hE (hE ▸ h1)
    have e0 := bne0_true (hE ▸ h1 : E ≠ 0)
    have HR := Lib.hid (show R = (E, t) by rw [HRR.out, beq0_false (hE ▸ h1 : E ≠ 0)]; rfl)
    clear h F h1 hE
    go_enter Tryz.func110, Tryz.ntmps110
    go_wp2_with (go_at_call 162; refine cf.mono ?_; rintro e w' ⟨rfl, rfl⟩)
    go_ret
    rw [HR.out]
    exact ⟨rfl, Step.refl HT.out⟩
end
end Go.Proofs.YtcicjklhbnipcaaGreatDoor
