/-
  Layer 35: awake, walked.
-/
import Derived.Test.YtlniiaopindjnaaDoorHisW
import Derived.Test.YtlniiaopindjnaaDoorLoadE
namespace Go.Proofs.YtlniiaopindjnaaDoor
set_option linter.unusedVariables false
open Go.RowKit
open Go.Lib hiding intOf

/-- The world behind awake's two reports. -/
structure TwoAt (w w1 : World) : Prop where
  below : Below w.heap.size w w1
  size : w1.heap.size = w.heap.size + 4
  eventsA : REvents w1 w1.heap.size [.slice (some ⟨w.heap.size, 0, none⟩) 2 2] Hi.rA.events
  eventsB : REvents w1 w1.heap.size [.slice (some ⟨w.heap.size + 1 + 1, 0, none⟩) 1 1] Hi.rB.events
  c32 : w1.cell? ⟨w.heap.size + 1, 0, none⟩ = some (.slice (some ⟨w.heap.size, 0, none⟩) 2 2)
  c33 : w1.cell? ⟨w.heap.size + 1, 1, none⟩ = some (.slice none 0 0)
  c34 : w1.cell? ⟨w.heap.size + 1 + 1 + 1, 0, none⟩ = some (.slice (some ⟨w.heap.size + 1 + 1, 0, none⟩) 1 1)
  c35 : w1.cell? ⟨w.heap.size + 1 + 1 + 1, 1, none⟩ = some (.slice none 0 0)
theorem TwoAt.of (w : World) : TwoAt w ((((w.alloc (.cells (Hi.ev1.cells ++ Hi.ev2.cells).toArray 44)).alloc (.cells #[.slice (some ⟨w.heap.size, 0, none⟩) 2 2, .slice none 0 0] 34)).alloc (.cells Hi.ev3.cells.toArray 44)).alloc (.cells #[.slice (some ⟨w.heap.size + 1 + 1, 0, none⟩) 1 1, .slice none 0 0] 34)) := by
  have ha := lieA w
  have hb := lieB ((w.alloc (.cells (Hi.ev1.cells ++ Hi.ev2.cells).toArray 44)).alloc (.cells #[.slice (some ⟨w.heap.size, 0, none⟩) 2 2, .slice none 0 0] 34))
  obtain ⟨wa, hwa⟩ : ∃ wa, w.alloc (.cells (Hi.ev1.cells ++ Hi.ev2.cells).toArray 44) = wa := ⟨_, rfl⟩
  have sa : wa.heap.size = w.heap.size + 1 := by rw [← hwa]; simp
  have ca := heap_alloc_new w (.cells (Hi.ev1.cells ++ Hi.ev2.cells).toArray 44)
  have la := bel1 w (.cells (Hi.ev1.cells ++ Hi.ev2.cells).toArray 44)
  rw [hwa] at ha hb ca la ⊢
  obtain ⟨wb, hwb⟩ : ∃ wb, wa.alloc (.cells #[.slice (some ⟨w.heap.size, 0, none⟩) 2 2, .slice none 0 0] 34) = wb := ⟨_, rfl⟩
  have sb : wb.heap.size = w.heap.size + 2 := by rw [← hwb]; simp [sa]
  have cb := heap_alloc_new wa (.cells #[.slice (some ⟨w.heap.size, 0, none⟩) 2 2, .slice none 0 0] 34)
  have lb := bel1 wa (.cells #[.slice (some ⟨w.heap.size, 0, none⟩) 2 2, .slice none 0 0] 34)
  rw [hwb] at hb cb lb ⊢
  obtain ⟨wc, hwc⟩ : ∃ wc, wb.alloc (.cells Hi.ev3.cells.toArray 44) = wc := ⟨_, rfl⟩
  have sc : wc.heap.size = w.heap.size + 3 := by rw [← hwc]; simp [sb]
  have lc := bel1 wb (.cells Hi.ev3.cells.toArray 44)
  rw [hwc] at hb lc ⊢
  obtain ⟨wd, hwd⟩ : ∃ wd, wc.alloc (.cells #[.slice (some ⟨w.heap.size + 1 + 1, 0, none⟩) 1 1, .slice none 0 0] 34) = wd := ⟨_, rfl⟩
  have sd : wd.heap.size = w.heap.size + 4 := by rw [← hwd]; simp [sc]
  have cd := heap_alloc_new wc (.cells #[.slice (some ⟨w.heap.size + 1 + 1, 0, none⟩) 1 1, .slice none 0 0] 34)
  have ld := bel1 wc (.cells #[.slice (some ⟨w.heap.size + 1 + 1, 0, none⟩) 1 1, .slice none 0 0] 34)
  rw [hwd] at cd ld ⊢
  rw [sa] at cb lb
  rw [sb] at lc
  rw [sc] at cd ld
  have lcd := lc.trans (ld.mono (by omega))
  have lbd := lb.trans (lcd.mono (by omega))
  have r1 : wd.heap[w.heap.size]? = some (.cells (Hi.ev1.cells ++ Hi.ev2.cells).toArray 44 (0, 0)) := (lbd.block _ (by omega)).trans ca
  have r2 : wd.heap[w.heap.size + 1]? = some (.cells #[.slice (some ⟨w.heap.size, 0, none⟩) 2 2, .slice none 0 0] 34 (0, 0)) := (lcd.block _ (by omega)).trans cb
  have r3 : wd.heap[w.heap.size + 3]? = some (.cells #[.slice (some ⟨w.heap.size + 1 + 1, 0, none⟩) 1 1, .slice none 0 0] 34 (0, 0)) := cd
  refine ⟨la.trans (lbd.mono (by omega)), sd, kept_events.on (by rw [sa]; exact lbd) ha, kept_events.on (by rw [sc]; exact ld) (by rw [sb] at hb; exact hb), ?_, ?_, ?_, ?_⟩
  all_goals first | (rw [cell_of_row _ _ _ _ _ _ r1]; rfl) | (rw [cell_of_row _ _ _ _ _ _ r2]; rfl) | (rw [cell_of_row _ _ _ _ _ _ r3]; rfl)
theorem TwoAt.on {w w1 W : World} (h : TwoAt w w1) (hb : Below w1.heap.size w1 W) : Below w.heap.size w W ∧ REvents W W.heap.size [.slice (some ⟨w.heap.size, 0, none⟩) 2 2] Hi.rA.events ∧ REvents W W.heap.size [.slice (some ⟨w.heap.size + 1 + 1, 0, none⟩) 1 1] Hi.rB.events :=
  ⟨h.below.trans (hb.mono h.below.size), kept_events.on hb h.eventsA, kept_events.on hb h.eventsB⟩
theorem pair_cells {W : World} {g : Nat} {x y : EventD} (h : REvents W W.heap.size [.slice (some ⟨g, 0, none⟩) 2 2] [x, y]) :
    (∀ j, j < 16 → W.cell? ⟨g, 0 + j, none⟩ = x.cells[j]?) ∧ ∀ j, j < 16 → W.cell? ⟨g, 16 + j, none⟩ = y.cells[j]? := by
  obtain ⟨_, _, _, _, hev⟩ := events_open h
  obtain ⟨b, off, he, _, hc⟩ := hev (by omega)
  injection he with he
  injection he with e1 e2 e3
  subst e1 e2
  exact ⟨(hc 0 x rfl).2, (hc 1 y rfl).2⟩
set_option maxHeartbeats 8000000 in
set_option maxRecDepth 100000 in
theorem law35_awake_any (w : World) (ht : Pow w) : Calls Tryd.prog 18 #[] w fun e w' => e = .returned (.bool true) ∧ Below w.heap.size w w' := by
  have HT := Lib.hid ht
  have hTwo : TwoAt w ((((w.alloc (.cells #[.int .i64 1, .int .i64 0, .int .i64 0, .string ⟨#[]⟩, .string ⟨#[]⟩, .slice none 0 0, .string ⟨#[]⟩, .string ⟨#[]⟩, .int .i64 0, .int .i64 1, .int .i64 2, .int .i64 1, .int .i64 0, .string ⟨#[120]⟩, .int .i64 0, .string ⟨#[]⟩, .int .i64 2, .int .i64 0, .int .i64 0, .string ⟨#[]⟩, .string ⟨#[]⟩, .slice none 0 0, .string ⟨#[]⟩, .string ⟨#[]⟩, .int .i64 0, .int .i64 3, .int .i64 0, .int .i64 3, .int .i64 0, .string ⟨#[]⟩, .int .i64 0, .string ⟨#[]⟩] 44)).alloc (.cells #[.slice (some ⟨w.heap.size, 0, none⟩) 2 2, .slice none 0 0] 34)).alloc (.cells #[.int .i64 0, .int .i64 0, .int .i64 0, .string ⟨#[]⟩, .string ⟨#[]⟩, .slice none 0 0, .string ⟨#[]⟩, .string ⟨#[]⟩, .int .i64 0, .int .i64 2, .int .i64 2, .int .i64 1, .int .i64 0, .string ⟨#[]⟩, .int .i64 0, .string ⟨#[]⟩] 44)).alloc (.cells #[.slice (some ⟨w.heap.size + 1 + 1, 0, none⟩) 1 1, .slice none 0 0] 34)) := TwoAt.of w
  have HTwo0 := Lib.hid hTwo
  clear ht hTwo
  go_enter Tryd.func18, Tryd.ntmps18
  go_upto_region 2 with fail
  go_cut [1, 2] (fun p q wc => p = .pointer (some ⟨w.heap.size + 1, 0, none⟩) ∧ q = .pointer (some ⟨w.heap.size + 1 + 1 + 1, 0, none⟩) ∧ Hid (TwoAt w wc))
  case first =>
    go_wp2_with fail
    go_meet
    exact ⟨rfl, rfl, HTwo0⟩
  case rest =>
  obtain ⟨rfl, rfl, HTwo⟩ := hcut
  clear HTwo0
  have hs := HTwo.out.size
  have hsb := HTwo.out.below.size
  have K1 := Lib.hid (fun (W : World) (hW : Below wc.heap.size wc W) => (by have h := history_Check_any (some ⟨w.heap.size, 0, none⟩) none 2 2 0 0 Hi.rA W (HTwo.out.on hW).2.1 slice_nil (by decide); rw [Hi.checkA] at h; exact h : Calls Tryd.prog 17 #[.agg #[.slice (some ⟨w.heap.size, 0, none⟩) 2 2, .slice none 0 0]] W fun e w' => e = .returned (.int .i64 0) ∧ Below W.heap.size W w'))
  have K2 := Lib.hid (fun (W : World) (hW : Below wc.heap.size wc W) => (by have h := history_Check_any (some ⟨w.heap.size + 1 + 1, 0, none⟩) none 1 1 0 0 Hi.rB W (HTwo.out.on hW).2.2 slice_nil (by decide); rw [Hi.checkB] at h; exact h : Calls Tryd.prog 17 #[.agg #[.slice (some ⟨w.heap.size + 1 + 1, 0, none⟩) 1 1, .slice none 0 0]] W fun e w' => e = .returned (.int .i64 1) ∧ Below W.heap.size W w'))
  have K3 := fun (W : World) => history_Before_any Hi.ev1 Hi.ev2 W
  have K4 := fun (W : World) => history_Before_any Hi.ev2 Hi.ev1 W
  have K5 := Lib.hid (fun (W : World) (hW : Below wc.heap.size wc W) => ((history_Ahead_any (some ⟨w.heap.size, 0, none⟩) none 2 2 0 0 1 Hi.rA W (HTwo.out.on hW).2.1 (by decide)).mono (fun e w' ⟨v, h1, h2, h3⟩ => by
    rw [Hi.aheadA] at h2
    obtain ⟨a, c, rfl⟩ := own_form h2
    exact ⟨a, c, h1, nums_of_own h2, h3⟩) : Calls Tryd.prog 20 #[.agg #[.slice (some ⟨w.heap.size, 0, none⟩) 2 2, .slice none 0 0], .int .i64 1] W fun e w' => ∃ a c, e = .returned (.slice a 1 c) ∧ RNums w' w'.heap.size [.slice a 1 c] [0] ∧ Below W.heap.size W w'))
  have K6 := Lib.hid (fun (W : World) (a b : Option Addr) (c d : Nat) (_ : Below wc.heap.size wc W) (h1 : RNums W W.heap.size [.slice a 1 c] [0]) (h2 : RNums W W.heap.size [.slice b 1 d] [0]) => (sameInts_any a b 1 1 c d [0] [0] W h1 h2 : Calls Tryd.prog 23 #[.slice a 1 c, .slice b 1 d] W fun e w' => e = .returned (.bool true) ∧ Below W.heap.size W w'))
  have K7 := Lib.hid (fun (W : World) (hW : Below wc.heap.size wc W) => (by have h := history_Text_any (some ⟨w.heap.size, 0, none⟩) none 2 2 0 0 Hi.rA W (HTwo.out.on hW).2.1 slice_nil Hi.linedA (HT.out.on (HTwo.out.on hW).1); rw [Hi.textA] at h; exact h : Calls Tryd.prog 27 #[.agg #[.slice (some ⟨w.heap.size, 0, none⟩) 2 2, .slice none 0 0]] W fun e w' => e = .returned (.string ⟨#[49, 32, 50, 32, 49, 32, 49, 32, 48, 32, 48, 32, 48, 32, 120, 10, 51, 32, 48, 32, 50, 32, 51, 32, 48, 32, 48, 32, 48, 32, 10]⟩) ∧ Below W.heap.size W w'))
  rw [Hi.before12] at K3
  rw [Hi.before21] at K4
  have hcells : REvents wc wc.heap.size [.slice (some ⟨w.heap.size, 0, none⟩) 2 2] [Hi.ev1, Hi.ev2] := HTwo.out.eventsA
  generalize Hi.ev1 = x at K3 K4 hcells
  generalize Hi.ev2 = y at K3 K4 hcells
  replace K3 := Lib.hid K3
  replace K4 := Lib.hid K4
  have HX44 := Lib.hid (fun (W : World) (hW : Below wc.heap.size wc W) => (pair_cells (kept_events.on hW hcells)).1)
  have HY44 := Lib.hid (fun (W : World) (hW : Below wc.heap.size wc W) => (pair_cells (kept_events.on hW hcells)).2)
  have Q32 := Lib.hid (fun (W : World) (hW : Below wc.heap.size wc W) => (hW.cell (p := ⟨w.heap.size + 1, 0, none⟩) (by simp only; omega)).trans HTwo.out.c32)
  have Q33 := Lib.hid (fun (W : World) (hW : Below wc.heap.size wc W) => (hW.cell (p := ⟨w.heap.size + 1, 1, none⟩) (by simp only; omega)).trans HTwo.out.c33)
  have Q34 := Lib.hid (fun (W : World) (hW : Below wc.heap.size wc W) => (hW.cell (p := ⟨w.heap.size + 1 + 1 + 1, 0, none⟩) (by simp only; omega)).trans HTwo.out.c34)
  have Q35 := Lib.hid (fun (W : World) (hW : Below wc.heap.size wc W) => (hW.cell (p := ⟨w.heap.size + 1 + 1 + 1, 1, none⟩) (by simp only; omega)).trans HTwo.out.c35)
  clear hcells hs hsb
  go_upto_region 3 with fail
  refine wp_region_noPanic ?_
  refine wp_region_held_drew (S := (fun w' => Below wc.heap.size wc w')) (by kernel_rfl) (Below.refl _ _).drew (fun hHeld => ?_)
  refine wpAnyH_take (i := 0) (v := ?_) (opAt0) (by kernel_rfl) (by kernel_rfl) (by kernel_rfl) (fun _ _ _ h => h) (Or.inl ⟨by rfl, ?_⟩) (by assumption) ?_
  rotate_left
  · intro w hSw
    have g32 := Q32.out w hSw
    have g33 := Q33.out w hSw
    (try dsimp only at hSw)
    go_simp
    try with_reducible rfl
  try simp only [Act.put, List.setIfInBounds_toArray, List.set_cons_zero, List.set_cons_succ]
  refine wpAnyH_ready (rs := [1]) (by kernel_rfl) (by simp) ?_
  refine AllReadyH.cons ((opAtS opAt0)) (fun K hK => ?_) AllReadyH.nil
  go_simp
  with_reducible refine (K1.out _ hHeld).mono ?_
  rintro e w' ⟨rfl, hb⟩
  have hb' := Below.trans hHeld (hb.mono (Below.size hHeld)); clear hHeld
  go_wp2_with fail
  refine hK.out _ _ ?_ (fun hHeld => ?_)
  · exact hb'
  clear hK K
  try simp only [Act.put, List.setIfInBounds_toArray, List.set_cons_zero, List.set_cons_succ]
  refine wpAnyH_take (i := 2) (v := ?_) ((opAtS (opAtS opAt0))) (by kernel_rfl) (by kernel_rfl) (by kernel_rfl) (fun _ _ _ h => h) (Or.inl ⟨by rfl, ?_⟩) (by assumption) ?_
  rotate_left
  · intro w hSw
    (try dsimp only at hSw)
    go_simp
    try with_reducible rfl
  try simp only [Act.put, List.setIfInBounds_toArray, List.set_cons_zero, List.set_cons_succ]
  refine wpAnyH_take (i := 3) (v := ?_) ((opAtS (opAtS (opAtS opAt0)))) (by kernel_rfl) (by kernel_rfl) (by kernel_rfl) (fun _ _ _ h => h) (Or.inl ⟨by rfl, ?_⟩) (by assumption) ?_
  rotate_left
  · intro w hSw
    (try dsimp only at hSw)
    go_simp
    try with_reducible rfl
  try simp only [Act.put, List.setIfInBounds_toArray, List.set_cons_zero, List.set_cons_succ]
  refine wpAnyH_take (i := 4) (v := ?_) ((opAtS (opAtS (opAtS (opAtS opAt0))))) (by kernel_rfl) (by kernel_rfl) (by kernel_rfl) (fun _ _ _ h => h) (Or.inl ⟨by rfl, ?_⟩) (by assumption) ?_
  rotate_left
  · intro w hSw
    have g34 := Q34.out w hSw
    have g35 := Q35.out w hSw
    (try dsimp only at hSw)
    go_simp
    try with_reducible rfl
  try simp only [Act.put, List.setIfInBounds_toArray, List.set_cons_zero, List.set_cons_succ]
  refine wpAnyH_ready (rs := [5]) (by kernel_rfl) (by simp) ?_
  refine AllReadyH.cons ((opAtS (opAtS (opAtS (opAtS (opAtS opAt0)))))) (fun K hK => ?_) AllReadyH.nil
  go_simp
  with_reducible refine (K2.out _ hHeld).mono ?_
  rintro e w' ⟨rfl, hb⟩
  have hb' := Below.trans hHeld (hb.mono (Below.size hHeld)); clear hHeld
  go_wp2_with fail
  refine hK.out _ _ ?_ (fun hHeld => ?_)
  · exact hb'
  clear hK K
  try simp only [Act.put, List.setIfInBounds_toArray, List.set_cons_zero, List.set_cons_succ]
  refine wpAnyH_take (i := 6) (v := ?_) ((opAtS (opAtS (opAtS (opAtS (opAtS (opAtS opAt0))))))) (by kernel_rfl) (by kernel_rfl) (by kernel_rfl) (fun _ _ _ h => h) (Or.inl ⟨by rfl, ?_⟩) (by assumption) ?_
  rotate_left
  · intro w hSw
    (try dsimp only at hSw)
    go_simp
    try with_reducible rfl
  try simp only [Act.put, List.setIfInBounds_toArray, List.set_cons_zero, List.set_cons_succ]
  refine wpAnyH_take (i := 7) (v := ?_) ((opAtS (opAtS (opAtS (opAtS (opAtS (opAtS (opAtS opAt0)))))))) (by kernel_rfl) (by kernel_rfl) (by kernel_rfl) (fun _ _ _ h => h) (Or.inl ⟨by rfl, ?_⟩) (by assumption) ?_
  rotate_left
  · intro w hSw
    (try dsimp only at hSw)
    go_simp
    try with_reducible rfl
  try simp only [Act.put, List.setIfInBounds_toArray, List.set_cons_zero, List.set_cons_succ]
  refine wpAnyH_take (i := 8) (v := ?_) ((opAtS (opAtS (opAtS (opAtS (opAtS (opAtS (opAtS (opAtS opAt0))))))))) (by kernel_rfl) (by kernel_rfl) (by kernel_rfl) (fun _ _ _ h => h) (Or.inl ⟨by rfl, ?_⟩) (by assumption) ?_
  rotate_left
  · intro w hSw
    (try dsimp only at hSw)
    go_simp
    try with_reducible rfl
  try simp only [Act.put, List.setIfInBounds_toArray, List.set_cons_zero, List.set_cons_succ]
  refine wpAnyH_take (i := 9) (v := ?_) ((opAtS (opAtS (opAtS (opAtS (opAtS (opAtS (opAtS (opAtS (opAtS opAt0)))))))))) (by kernel_rfl) (by kernel_rfl) (by kernel_rfl) (fun _ _ _ h => h) (Or.inl ⟨by rfl, ?_⟩) (by assumption) ?_
  rotate_left
  · intro w hSw
    (try dsimp only at hSw)
    go_simp
    try with_reducible rfl
  try simp only [Act.put, List.setIfInBounds_toArray, List.set_cons_zero, List.set_cons_succ]
  refine wpAnyH_take (i := 10) (v := ?_) ((opAtS (opAtS (opAtS (opAtS (opAtS (opAtS (opAtS (opAtS (opAtS (opAtS opAt0))))))))))) (by kernel_rfl) (by kernel_rfl) (by kernel_rfl) (fun _ _ _ h => h) (Or.inl ⟨by rfl, ?_⟩) (by assumption) ?_
  rotate_left
  · intro w hSw
    have g32 := Q32.out w hSw
    (try dsimp only at hSw)
    go_simp
    try with_reducible rfl
  try simp only [Act.put, List.setIfInBounds_toArray, List.set_cons_zero, List.set_cons_succ]
  refine wpAnyH_take (i := 11) (v := ?_) ((opAtS (opAtS (opAtS (opAtS (opAtS (opAtS (opAtS (opAtS (opAtS (opAtS (opAtS opAt0)))))))))))) (by kernel_rfl) (by kernel_rfl) (by kernel_rfl) (fun _ _ _ h => h) (Or.inl ⟨by rfl, ?_⟩) (by assumption) ?_
  rotate_left
  · intro w hSw
    (try dsimp only at hSw)
    go_simp
    try with_reducible rfl
  try simp only [Act.put, List.setIfInBounds_toArray, List.set_cons_zero, List.set_cons_succ]
  refine wpAnyH_take (i := 12) (v := ?_) ((opAtS (opAtS (opAtS (opAtS (opAtS (opAtS (opAtS (opAtS (opAtS (opAtS (opAtS (opAtS opAt0))))))))))))) (by kernel_rfl) (by kernel_rfl) (by kernel_rfl) (fun _ _ _ h => h) (Or.inl ⟨by rfl, ?_⟩) (by assumption) ?_
  rotate_left
  · intro w hSw
    refine load_event0 _ _ _ _ _ _ _ _ _ _ _ ?_ (HX44.out w hSw); rfl
  try simp only [Act.put, List.setIfInBounds_toArray, List.set_cons_zero, List.set_cons_succ]
  refine wpAnyH_take (i := 13) (v := ?_) ((opAtS (opAtS (opAtS (opAtS (opAtS (opAtS (opAtS (opAtS (opAtS (opAtS (opAtS (opAtS (opAtS opAt0)))))))))))))) (by kernel_rfl) (by kernel_rfl) (by kernel_rfl) (fun _ _ _ h => h) (Or.inl ⟨by rfl, ?_⟩) (by assumption) ?_
  rotate_left
  · intro w hSw
    (try dsimp only at hSw)
    go_simp
    try with_reducible rfl
  try simp only [Act.put, List.setIfInBounds_toArray, List.set_cons_zero, List.set_cons_succ]
  refine wpAnyH_take (i := 14) (v := ?_) ((opAtS (opAtS (opAtS (opAtS (opAtS (opAtS (opAtS (opAtS (opAtS (opAtS (opAtS (opAtS (opAtS (opAtS opAt0))))))))))))))) (by kernel_rfl) (by kernel_rfl) (by kernel_rfl) (fun _ _ _ h => h) (Or.inl ⟨by rfl, ?_⟩) (by assumption) ?_
  rotate_left
  · intro w hSw
    have g32 := Q32.out w hSw
    (try dsimp only at hSw)
    go_simp
    try with_reducible rfl
  try simp only [Act.put, List.setIfInBounds_toArray, List.set_cons_zero, List.set_cons_succ]
  refine wpAnyH_take (i := 15) (v := ?_) ((opAtS (opAtS (opAtS (opAtS (opAtS (opAtS (opAtS (opAtS (opAtS (opAtS (opAtS (opAtS (opAtS (opAtS (opAtS opAt0)))))))))))))))) (by kernel_rfl) (by kernel_rfl) (by kernel_rfl) (fun _ _ _ h => h) (Or.inl ⟨by rfl, ?_⟩) (by assumption) ?_
  rotate_left
  · intro w hSw
    (try dsimp only at hSw)
    go_simp
    try with_reducible rfl
  try simp only [Act.put, List.setIfInBounds_toArray, List.set_cons_zero, List.set_cons_succ]
  refine wpAnyH_take (i := 16) (v := ?_) ((opAtS (opAtS (opAtS (opAtS (opAtS (opAtS (opAtS (opAtS (opAtS (opAtS (opAtS (opAtS (opAtS (opAtS (opAtS (opAtS opAt0))))))))))))))))) (by kernel_rfl) (by kernel_rfl) (by kernel_rfl) (fun _ _ _ h => h) (Or.inl ⟨by rfl, ?_⟩) (by assumption) ?_
  rotate_left
  · intro w hSw
    refine load_event0 _ _ _ _ _ _ _ _ _ _ _ ?_ (HY44.out w hSw); rfl
  try simp only [Act.put, List.setIfInBounds_toArray, List.set_cons_zero, List.set_cons_succ]
  refine wpAnyH_ready (rs := [17]) (by kernel_rfl) (by simp) ?_
  refine AllReadyH.cons ((opAtS (opAtS (opAtS (opAtS (opAtS (opAtS (opAtS (opAtS (opAtS (opAtS (opAtS (opAtS (opAtS (opAtS (opAtS (opAtS (opAtS opAt0)))))))))))))))))) (fun K hK => ?_) AllReadyH.nil
  go_simp
  with_reducible refine (K3.out _).mono ?_
  rintro e w' ⟨rfl, hb⟩
  have hb' := Below.trans hHeld (hb.mono (Below.size hHeld)); clear hHeld
  go_wp2_with fail
  refine hK.out _ _ ?_ (fun hHeld => ?_)
  · exact hb'
  clear hK K
  try simp only [Act.put, List.setIfInBounds_toArray, List.set_cons_zero, List.set_cons_succ]
  refine wpAnyH_take (i := 18) (v := ?_) ((opAtS (opAtS (opAtS (opAtS (opAtS (opAtS (opAtS (opAtS (opAtS (opAtS (opAtS (opAtS (opAtS (opAtS (opAtS (opAtS (opAtS (opAtS opAt0))))))))))))))))))) (by kernel_rfl) (by kernel_rfl) (by kernel_rfl) (fun _ _ _ h => h) (Or.inl ⟨by rfl, ?_⟩) (by assumption) ?_
  rotate_left
  · intro w hSw
    (try dsimp only at hSw)
    go_simp
    try with_reducible rfl
  try simp only [Act.put, List.setIfInBounds_toArray, List.set_cons_zero, List.set_cons_succ]
  refine wpAnyH_take (i := 19) (v := ?_) ((opAtS (opAtS (opAtS (opAtS (opAtS (opAtS (opAtS (opAtS (opAtS (opAtS (opAtS (opAtS (opAtS (opAtS (opAtS (opAtS (opAtS (opAtS (opAtS opAt0)))))))))))))))))))) (by kernel_rfl) (by kernel_rfl) (by kernel_rfl) (fun _ _ _ h => h) (Or.inl ⟨by rfl, ?_⟩) (by assumption) ?_
  rotate_left
  · intro w hSw
    (try dsimp only at hSw)
    go_simp
    try with_reducible rfl
  try simp only [Act.put, List.setIfInBounds_toArray, List.set_cons_zero, List.set_cons_succ]
  refine wpAnyH_take (i := 20) (v := ?_) ((opAtS (opAtS (opAtS (opAtS (opAtS (opAtS (opAtS (opAtS (opAtS (opAtS (opAtS (opAtS (opAtS (opAtS (opAtS (opAtS (opAtS (opAtS (opAtS (opAtS opAt0))))))))))))))))))))) (by kernel_rfl) (by kernel_rfl) (by kernel_rfl) (fun _ _ _ h => h) (Or.inl ⟨by rfl, ?_⟩) (by assumption) ?_
  rotate_left
  · intro w hSw
    (try dsimp only at hSw)
    go_simp
    try with_reducible rfl
  try simp only [Act.put, List.setIfInBounds_toArray, List.set_cons_zero, List.set_cons_succ]
  refine wpAnyH_take (i := 21) (v := ?_) ((opAtS (opAtS (opAtS (opAtS (opAtS (opAtS (opAtS (opAtS (opAtS (opAtS (opAtS (opAtS (opAtS (opAtS (opAtS (opAtS (opAtS (opAtS (opAtS (opAtS (opAtS opAt0)))))))))))))))))))))) (by kernel_rfl) (by kernel_rfl) (by kernel_rfl) (fun _ _ _ h => h) (Or.inl ⟨by rfl, ?_⟩) (by assumption) ?_
  rotate_left
  · intro w hSw
    have g32 := Q32.out w hSw
    (try dsimp only at hSw)
    go_simp
    try with_reducible rfl
  try simp only [Act.put, List.setIfInBounds_toArray, List.set_cons_zero, List.set_cons_succ]
  refine wpAnyH_take (i := 22) (v := ?_) ((opAtS (opAtS (opAtS (opAtS (opAtS (opAtS (opAtS (opAtS (opAtS (opAtS (opAtS (opAtS (opAtS (opAtS (opAtS (opAtS (opAtS (opAtS (opAtS (opAtS (opAtS (opAtS opAt0))))))))))))))))))))))) (by kernel_rfl) (by kernel_rfl) (by kernel_rfl) (fun _ _ _ h => h) (Or.inl ⟨by rfl, ?_⟩) (by assumption) ?_
  rotate_left
  · intro w hSw
    (try dsimp only at hSw)
    go_simp
    try with_reducible rfl
  try simp only [Act.put, List.setIfInBounds_toArray, List.set_cons_zero, List.set_cons_succ]
  refine wpAnyH_take (i := 23) (v := ?_) ((opAtS (opAtS (opAtS (opAtS (opAtS (opAtS (opAtS (opAtS (opAtS (opAtS (opAtS (opAtS (opAtS (opAtS (opAtS (opAtS (opAtS (opAtS (opAtS (opAtS (opAtS (opAtS (opAtS opAt0)))))))))))))))))))))))) (by kernel_rfl) (by kernel_rfl) (by kernel_rfl) (fun _ _ _ h => h) (Or.inl ⟨by rfl, ?_⟩) (by assumption) ?_
  rotate_left
  · intro w hSw
    refine load_event0 _ _ _ _ _ _ _ _ _ _ _ ?_ (HY44.out w hSw); rfl
  try simp only [Act.put, List.setIfInBounds_toArray, List.set_cons_zero, List.set_cons_succ]
  refine wpAnyH_take (i := 24) (v := ?_) ((opAtS (opAtS (opAtS (opAtS (opAtS (opAtS (opAtS (opAtS (opAtS (opAtS (opAtS (opAtS (opAtS (opAtS (opAtS (opAtS (opAtS (opAtS (opAtS (opAtS (opAtS (opAtS (opAtS (opAtS opAt0))))))))))))))))))))))))) (by kernel_rfl) (by kernel_rfl) (by kernel_rfl) (fun _ _ _ h => h) (Or.inl ⟨by rfl, ?_⟩) (by assumption) ?_
  rotate_left
  · intro w hSw
    (try dsimp only at hSw)
    go_simp
    try with_reducible rfl
  try simp only [Act.put, List.setIfInBounds_toArray, List.set_cons_zero, List.set_cons_succ]
  refine wpAnyH_take (i := 25) (v := ?_) ((opAtS (opAtS (opAtS (opAtS (opAtS (opAtS (opAtS (opAtS (opAtS (opAtS (opAtS (opAtS (opAtS (opAtS (opAtS (opAtS (opAtS (opAtS (opAtS (opAtS (opAtS (opAtS (opAtS (opAtS (opAtS opAt0)))))))))))))))))))))))))) (by kernel_rfl) (by kernel_rfl) (by kernel_rfl) (fun _ _ _ h => h) (Or.inl ⟨by rfl, ?_⟩) (by assumption) ?_
  rotate_left
  · intro w hSw
    have g32 := Q32.out w hSw
    (try dsimp only at hSw)
    go_simp
    try with_reducible rfl
  try simp only [Act.put, List.setIfInBounds_toArray, List.set_cons_zero, List.set_cons_succ]
  refine wpAnyH_take (i := 26) (v := ?_) ((opAtS (opAtS (opAtS (opAtS (opAtS (opAtS (opAtS (opAtS (opAtS (opAtS (opAtS (opAtS (opAtS (opAtS (opAtS (opAtS (opAtS (opAtS (opAtS (opAtS (opAtS (opAtS (opAtS (opAtS (opAtS (opAtS opAt0))))))))))))))))))))))))))) (by kernel_rfl) (by kernel_rfl) (by kernel_rfl) (fun _ _ _ h => h) (Or.inl ⟨by rfl, ?_⟩) (by assumption) ?_
  rotate_left
  · intro w hSw
    (try dsimp only at hSw)
    go_simp
    try with_reducible rfl
  try simp only [Act.put, List.setIfInBounds_toArray, List.set_cons_zero, List.set_cons_succ]
  refine wpAnyH_take (i := 27) (v := ?_) ((opAtS (opAtS (opAtS (opAtS (opAtS (opAtS (opAtS (opAtS (opAtS (opAtS (opAtS (opAtS (opAtS (opAtS (opAtS (opAtS (opAtS (opAtS (opAtS (opAtS (opAtS (opAtS (opAtS (opAtS (opAtS (opAtS (opAtS opAt0)))))))))))))))))))))))))))) (by kernel_rfl) (by kernel_rfl) (by kernel_rfl) (fun _ _ _ h => h) (Or.inl ⟨by rfl, ?_⟩) (by assumption) ?_
  rotate_left
  · intro w hSw
    refine load_event0 _ _ _ _ _ _ _ _ _ _ _ ?_ (HX44.out w hSw); rfl
  try simp only [Act.put, List.setIfInBounds_toArray, List.set_cons_zero, List.set_cons_succ]
  refine wpAnyH_ready (rs := [28]) (by kernel_rfl) (by simp) ?_
  refine AllReadyH.cons ((opAtS (opAtS (opAtS (opAtS (opAtS (opAtS (opAtS (opAtS (opAtS (opAtS (opAtS (opAtS (opAtS (opAtS (opAtS (opAtS (opAtS (opAtS (opAtS (opAtS (opAtS (opAtS (opAtS (opAtS (opAtS (opAtS (opAtS (opAtS opAt0))))))))))))))))))))))))))))) (fun K hK => ?_) AllReadyH.nil
  go_simp
  with_reducible refine (K4.out _).mono ?_
  rintro e w' ⟨rfl, hb⟩
  have hb' := Below.trans hHeld (hb.mono (Below.size hHeld)); clear hHeld
  go_wp2_with fail
  refine hK.out _ _ ?_ (fun hHeld => ?_)
  · exact hb'
  clear hK K
  try simp only [Act.put, List.setIfInBounds_toArray, List.set_cons_zero, List.set_cons_succ]
  refine wpAnyH_take (i := 29) (v := ?_) ((opAtS (opAtS (opAtS (opAtS (opAtS (opAtS (opAtS (opAtS (opAtS (opAtS (opAtS (opAtS (opAtS (opAtS (opAtS (opAtS (opAtS (opAtS (opAtS (opAtS (opAtS (opAtS (opAtS (opAtS (opAtS (opAtS (opAtS (opAtS (opAtS opAt0)))))))))))))))))))))))))))))) (by kernel_rfl) (by kernel_rfl) (by kernel_rfl) (fun _ _ _ h => h) (Or.inl ⟨by rfl, ?_⟩) (by assumption) ?_
  rotate_left
  · intro w hSw
    (try dsimp only at hSw)
    go_simp
    try with_reducible rfl
  try simp only [Act.put, List.setIfInBounds_toArray, List.set_cons_zero, List.set_cons_succ]
  refine wpAnyH_take (i := 30) (v := ?_) ((opAtS (opAtS (opAtS (opAtS (opAtS (opAtS (opAtS (opAtS (opAtS (opAtS (opAtS (opAtS (opAtS (opAtS (opAtS (opAtS (opAtS (opAtS (opAtS (opAtS (opAtS (opAtS (opAtS (opAtS (opAtS (opAtS (opAtS (opAtS (opAtS (opAtS opAt0))))))))))))))))))))))))))))))) (by kernel_rfl) (by kernel_rfl) (by kernel_rfl) (fun _ _ _ h => h) (Or.inl ⟨by rfl, ?_⟩) (by assumption) ?_
  rotate_left
  · intro w hSw
    (try dsimp only at hSw)
    go_simp
    try with_reducible rfl
  try simp only [Act.put, List.setIfInBounds_toArray, List.set_cons_zero, List.set_cons_succ]
  refine wpAnyH_take (i := 31) (v := ?_) ((opAtS (opAtS (opAtS (opAtS (opAtS (opAtS (opAtS (opAtS (opAtS (opAtS (opAtS (opAtS (opAtS (opAtS (opAtS (opAtS (opAtS (opAtS (opAtS (opAtS (opAtS (opAtS (opAtS (opAtS (opAtS (opAtS (opAtS (opAtS (opAtS (opAtS (opAtS opAt0)))))))))))))))))))))))))))))))) (by kernel_rfl) (by kernel_rfl) (by kernel_rfl) (fun _ _ _ h => h) (Or.inl ⟨by rfl, ?_⟩) (by assumption) ?_
  rotate_left
  · intro w hSw
    (try dsimp only at hSw)
    go_simp
    try with_reducible rfl
  try simp only [Act.put, List.setIfInBounds_toArray, List.set_cons_zero, List.set_cons_succ]
  refine wpAnyH_take (i := 32) (v := ?_) ((opAtS (opAtS (opAtS (opAtS (opAtS (opAtS (opAtS (opAtS (opAtS (opAtS (opAtS (opAtS (opAtS (opAtS (opAtS (opAtS (opAtS (opAtS (opAtS (opAtS (opAtS (opAtS (opAtS (opAtS (opAtS (opAtS (opAtS (opAtS (opAtS (opAtS (opAtS (opAtS opAt0))))))))))))))))))))))))))))))))) (by kernel_rfl) (by kernel_rfl) (by kernel_rfl) (fun _ _ _ h => h) (Or.inl ⟨by rfl, ?_⟩) (by assumption) ?_
  rotate_left
  · intro w hSw
    have g32 := Q32.out w hSw
    have g33 := Q33.out w hSw
    (try dsimp only at hSw)
    go_simp
    try with_reducible rfl
  try simp only [Act.put, List.setIfInBounds_toArray, List.set_cons_zero, List.set_cons_succ]
  refine wpAnyH_ready (rs := [33, 34]) (by kernel_rfl) (by simp) ?_
  refine AllReadyH.cons ((opAtS (opAtS (opAtS (opAtS (opAtS (opAtS (opAtS (opAtS (opAtS (opAtS (opAtS (opAtS (opAtS (opAtS (opAtS (opAtS (opAtS (opAtS (opAtS (opAtS (opAtS (opAtS (opAtS (opAtS (opAtS (opAtS (opAtS (opAtS (opAtS (opAtS (opAtS (opAtS (opAtS opAt0)))))))))))))))))))))))))))))))))) (fun K hK => ?_) ?_
  · go_simp
    with_reducible refine (K5.out _ hHeld).mono ?_
    rintro e w' ⟨av, ac, rfl, hn, hb⟩
    have hb' := Below.trans hHeld (hb.mono (Below.size hHeld)); clear hHeld
    go_wp2_with fail
    refine hK.out _ _ ?_ (fun hHeld => ?_)
    · exact hb'
    clear hK K
    try simp only [Act.put, List.setIfInBounds_toArray, List.set_cons_zero, List.set_cons_succ]
    refine wpAnyH_ready (rs := [34]) (by kernel_rfl) (by simp) ?_
    refine AllReadyH.cons ((opAtS (opAtS (opAtS (opAtS (opAtS (opAtS (opAtS (opAtS (opAtS (opAtS (opAtS (opAtS (opAtS (opAtS (opAtS (opAtS (opAtS (opAtS (opAtS (opAtS (opAtS (opAtS (opAtS (opAtS (opAtS (opAtS (opAtS (opAtS (opAtS (opAtS (opAtS (opAtS (opAtS (opAtS opAt0))))))))))))))))))))))))))))))))))) (fun K hK => ?_) AllReadyH.nil
    go_simp
    go_wp2_with fail
    refine hK.out _ _ ?_ (fun hHeld => ?_)
    · exact (hHeld.alloc (Below.size hHeld) _)
    clear hK K
    try simp only [Act.put, List.setIfInBounds_toArray, List.set_cons_zero, List.set_cons_succ]
    refine wpAnyH_ready (rs := [35]) (by kernel_rfl) (by simp) ?_
    refine AllReadyH.cons ((opAtS (opAtS (opAtS (opAtS (opAtS (opAtS (opAtS (opAtS (opAtS (opAtS (opAtS (opAtS (opAtS (opAtS (opAtS (opAtS (opAtS (opAtS (opAtS (opAtS (opAtS (opAtS (opAtS (opAtS (opAtS (opAtS (opAtS (opAtS (opAtS (opAtS (opAtS (opAtS (opAtS (opAtS (opAtS opAt0)))))))))))))))))))))))))))))))))))) (fun K hK => ?_) AllReadyH.nil
    go_simp
    refine (K6.out _ _ _ _ _ hHeld (by first | with_reducible exact hn | with_reducible exact kept_nums.on (bel1 _ _) hn) (by first | with_reducible exact one_nums _ 0 | with_reducible exact hn0)).mono ?_
    rintro e w' ⟨rfl, hb⟩
    have hb' := Below.trans hHeld (hb.mono (Below.size hHeld)); clear hHeld
    go_wp2_with fail
    refine hK.out _ _ ?_ (fun hHeld => ?_)
    · exact hb'
    clear hK K
    try simp only [Act.put, List.setIfInBounds_toArray, List.set_cons_zero, List.set_cons_succ]
    refine wpAnyH_take (i := 36) (v := ?_) ((opAtS (opAtS (opAtS (opAtS (opAtS (opAtS (opAtS (opAtS (opAtS (opAtS (opAtS (opAtS (opAtS (opAtS (opAtS (opAtS (opAtS (opAtS (opAtS (opAtS (opAtS (opAtS (opAtS (opAtS (opAtS (opAtS (opAtS (opAtS (opAtS (opAtS (opAtS (opAtS (opAtS (opAtS (opAtS (opAtS opAt0))))))))))))))))))))))))))))))))))))) (by kernel_rfl) (by kernel_rfl) (by kernel_rfl) (fun _ _ _ h => h) (Or.inl ⟨by rfl, ?_⟩) (by assumption) ?_
    rotate_left
    · intro w hSw
      (try dsimp only at hSw)
      go_simp
      try with_reducible rfl
    try simp only [Act.put, List.setIfInBounds_toArray, List.set_cons_zero, List.set_cons_succ]
    refine wpAnyH_take (i := 37) (v := ?_) ((opAtS (opAtS (opAtS (opAtS (opAtS (opAtS (opAtS (opAtS (opAtS (opAtS (opAtS (opAtS (opAtS (opAtS (opAtS (opAtS (opAtS (opAtS (opAtS (opAtS (opAtS (opAtS (opAtS (opAtS (opAtS (opAtS (opAtS (opAtS (opAtS (opAtS (opAtS (opAtS (opAtS (opAtS (opAtS (opAtS (opAtS opAt0)))))))))))))))))))))))))))))))))))))) (by kernel_rfl) (by kernel_rfl) (by kernel_rfl) (fun _ _ _ h => h) (Or.inl ⟨by rfl, ?_⟩) (by assumption) ?_
    rotate_left
    · intro w hSw
      (try dsimp only at hSw)
      go_simp
      try with_reducible rfl
    try simp only [Act.put, List.setIfInBounds_toArray, List.set_cons_zero, List.set_cons_succ]
    refine wpAnyH_take (i := 38) (v := ?_) ((opAtS (opAtS (opAtS (opAtS (opAtS (opAtS (opAtS (opAtS (opAtS (opAtS (opAtS (opAtS (opAtS (opAtS (opAtS (opAtS (opAtS (opAtS (opAtS (opAtS (opAtS (opAtS (opAtS (opAtS (opAtS (opAtS (opAtS (opAtS (opAtS (opAtS (opAtS (opAtS (opAtS (opAtS (opAtS (opAtS (opAtS (opAtS opAt0))))))))))))))))))))))))))))))))))))))) (by kernel_rfl) (by kernel_rfl) (by kernel_rfl) (fun _ _ _ h => h) (Or.inl ⟨by rfl, ?_⟩) (by assumption) ?_
    rotate_left
    · intro w hSw
      have g32 := Q32.out w hSw
      have g33 := Q33.out w hSw
      (try dsimp only at hSw)
      go_simp
      try with_reducible rfl
    try simp only [Act.put, List.setIfInBounds_toArray, List.set_cons_zero, List.set_cons_succ]
    refine wpAnyH_ready (rs := [39]) (by kernel_rfl) (by simp) ?_
    refine AllReadyH.cons ((opAtS (opAtS (opAtS (opAtS (opAtS (opAtS (opAtS (opAtS (opAtS (opAtS (opAtS (opAtS (opAtS (opAtS (opAtS (opAtS (opAtS (opAtS (opAtS (opAtS (opAtS (opAtS (opAtS (opAtS (opAtS (opAtS (opAtS (opAtS (opAtS (opAtS (opAtS (opAtS (opAtS (opAtS (opAtS (opAtS (opAtS (opAtS (opAtS opAt0)))))))))))))))))))))))))))))))))))))))) (fun K hK => ?_) AllReadyH.nil
    go_simp
    with_reducible refine (K7.out _ hHeld).mono ?_
    rintro e w' ⟨rfl, hb⟩
    have hb' := Below.trans hHeld (hb.mono (Below.size hHeld)); clear hHeld
    go_wp2_with fail
    refine hK.out _ _ ?_ (fun hHeld => ?_)
    · exact hb'
    clear hK K
    try simp only [Act.put, List.setIfInBounds_toArray, List.set_cons_zero, List.set_cons_succ]
    refine wpAnyH_take (i := 40) (v := ?_) ((opAtS (opAtS (opAtS (opAtS (opAtS (opAtS (opAtS (opAtS (opAtS (opAtS (opAtS (opAtS (opAtS (opAtS (opAtS (opAtS (opAtS (opAtS (opAtS (opAtS (opAtS (opAtS (opAtS (opAtS (opAtS (opAtS (opAtS (opAtS (opAtS (opAtS (opAtS (opAtS (opAtS (opAtS (opAtS (opAtS (opAtS (opAtS (opAtS (opAtS opAt0))))))))))))))))))))))))))))))))))))))))) (by kernel_rfl) (by kernel_rfl) (by kernel_rfl) (fun _ _ _ h => h) (Or.inl ⟨by rfl, ?_⟩) (by assumption) ?_
    rotate_left
    · intro w hSw
      (try dsimp only at hSw)
      go_simp
      try with_reducible rfl
    try simp only [Act.put, List.setIfInBounds_toArray, List.set_cons_zero, List.set_cons_succ]
    refine wpAnyH_take (i := 41) (v := ?_) ((opAtS (opAtS (opAtS (opAtS (opAtS (opAtS (opAtS (opAtS (opAtS (opAtS (opAtS (opAtS (opAtS (opAtS (opAtS (opAtS (opAtS (opAtS (opAtS (opAtS (opAtS (opAtS (opAtS (opAtS (opAtS (opAtS (opAtS (opAtS (opAtS (opAtS (opAtS (opAtS (opAtS (opAtS (opAtS (opAtS (opAtS (opAtS (opAtS (opAtS (opAtS opAt0)))))))))))))))))))))))))))))))))))))))))) (by kernel_rfl) (by kernel_rfl) (by kernel_rfl) (fun _ _ _ h => h) (Or.inl ⟨by rfl, ?_⟩) (by assumption) ?_
    rotate_left
    · intro w hSw
      (try dsimp only at hSw)
      go_simp
      try with_reducible rfl
    try simp only [Act.put, List.setIfInBounds_toArray, List.set_cons_zero, List.set_cons_succ]
    refine wpAnyH_take (i := 42) (v := ?_) ((opAtS (opAtS (opAtS (opAtS (opAtS (opAtS (opAtS (opAtS (opAtS (opAtS (opAtS (opAtS (opAtS (opAtS (opAtS (opAtS (opAtS (opAtS (opAtS (opAtS (opAtS (opAtS (opAtS (opAtS (opAtS (opAtS (opAtS (opAtS (opAtS (opAtS (opAtS (opAtS (opAtS (opAtS (opAtS (opAtS (opAtS (opAtS (opAtS (opAtS (opAtS (opAtS opAt0))))))))))))))))))))))))))))))))))))))))))) (by kernel_rfl) (by kernel_rfl) (by kernel_rfl) (fun _ _ _ h => h) (Or.inl ⟨by rfl, ?_⟩) (by assumption) ?_
    rotate_left
    · intro w hSw
      (try dsimp only at hSw)
      go_simp
      try with_reducible rfl
    try simp only [Act.put, List.setIfInBounds_toArray, List.set_cons_zero]
    refine wpAnyH_done (by kernel_rfl) ?_ _
    refine NoPanic.normal ?_
    have HBX := Lib.hid (HTwo.out.below.trans (hHeld.mono HTwo.out.below.size))
    go_wp2_with fail
    go_ret
    exact ⟨rfl, HBX.out⟩
  · refine AllReadyH.cons ((opAtS (opAtS (opAtS (opAtS (opAtS (opAtS (opAtS (opAtS (opAtS (opAtS (opAtS (opAtS (opAtS (opAtS (opAtS (opAtS (opAtS (opAtS (opAtS (opAtS (opAtS (opAtS (opAtS (opAtS (opAtS (opAtS (opAtS (opAtS (opAtS (opAtS (opAtS (opAtS (opAtS (opAtS opAt0))))))))))))))))))))))))))))))))))) (fun K hK => ?_) AllReadyH.nil
    go_simp
    go_wp2_with fail
    refine hK.out _ _ ?_ (fun hHeld => ?_)
    · exact (hHeld.alloc (Below.size hHeld) _)
    clear hK K
    try simp only [Act.put, List.setIfInBounds_toArray, List.set_cons_zero, List.set_cons_succ]
    refine wpAnyH_ready (rs := [33]) (by kernel_rfl) (by simp) ?_
    refine AllReadyH.cons ((opAtS (opAtS (opAtS (opAtS (opAtS (opAtS (opAtS (opAtS (opAtS (opAtS (opAtS (opAtS (opAtS (opAtS (opAtS (opAtS (opAtS (opAtS (opAtS (opAtS (opAtS (opAtS (opAtS (opAtS (opAtS (opAtS (opAtS (opAtS (opAtS (opAtS (opAtS (opAtS (opAtS opAt0)))))))))))))))))))))))))))))))))) (fun K hK => ?_) AllReadyH.nil
    go_simp
    with_reducible refine (K5.out _ hHeld).mono ?_
    rintro e w' ⟨av, ac, rfl, hn, hb⟩
    have hn0 := kept_nums.on hb (one_nums _ 0)
    have hb' := Below.trans hHeld (hb.mono (Below.size hHeld)); clear hHeld
    go_wp2_with fail
    refine hK.out _ _ ?_ (fun hHeld => ?_)
    · exact hb'
    clear hK K
    try simp only [Act.put, List.setIfInBounds_toArray, List.set_cons_zero, List.set_cons_succ]
    refine wpAnyH_ready (rs := [35]) (by kernel_rfl) (by simp) ?_
    refine AllReadyH.cons ((opAtS (opAtS (opAtS (opAtS (opAtS (opAtS (opAtS (opAtS (opAtS (opAtS (opAtS (opAtS (opAtS (opAtS (opAtS (opAtS (opAtS (opAtS (opAtS (opAtS (opAtS (opAtS (opAtS (opAtS (opAtS (opAtS (opAtS (opAtS (opAtS (opAtS (opAtS (opAtS (opAtS (opAtS (opAtS opAt0)))))))))))))))))))))))))))))))))))) (fun K hK => ?_) AllReadyH.nil
    go_simp
    refine (K6.out _ _ _ _ _ hHeld (by first | with_reducible exact hn | with_reducible exact kept_nums.on (bel1 _ _) hn) (by first | with_reducible exact one_nums _ 0 | with_reducible exact hn0)).mono ?_
    rintro e w' ⟨rfl, hb⟩
    have hb' := Below.trans hHeld (hb.mono (Below.size hHeld)); clear hHeld
    go_wp2_with fail
    refine hK.out _ _ ?_ (fun hHeld => ?_)
    · exact hb'
    clear hK K
    try simp only [Act.put, List.setIfInBounds_toArray, List.set_cons_zero, List.set_cons_succ]
    refine wpAnyH_take (i := 36) (v := ?_) ((opAtS (opAtS (opAtS (opAtS (opAtS (opAtS (opAtS (opAtS (opAtS (opAtS (opAtS (opAtS (opAtS (opAtS (opAtS (opAtS (opAtS (opAtS (opAtS (opAtS (opAtS (opAtS (opAtS (opAtS (opAtS (opAtS (opAtS (opAtS (opAtS (opAtS (opAtS (opAtS (opAtS (opAtS (opAtS (opAtS opAt0))))))))))))))))))))))))))))))))))))) (by kernel_rfl) (by kernel_rfl) (by kernel_rfl) (fun _ _ _ h => h) (Or.inl ⟨by rfl, ?_⟩) (by assumption) ?_
    rotate_left
    · intro w hSw
      (try dsimp only at hSw)
      go_simp
      try with_reducible rfl
    try simp only [Act.put, List.setIfInBounds_toArray, List.set_cons_zero, List.set_cons_succ]
    refine wpAnyH_take (i := 37) (v := ?_) ((opAtS (opAtS (opAtS (opAtS (opAtS (opAtS (opAtS (opAtS (opAtS (opAtS (opAtS (opAtS (opAtS (opAtS (opAtS (opAtS (opAtS (opAtS (opAtS (opAtS (opAtS (opAtS (opAtS (opAtS (opAtS (opAtS (opAtS (opAtS (opAtS (opAtS (opAtS (opAtS (opAtS (opAtS (opAtS (opAtS (opAtS opAt0)))))))))))))))))))))))))))))))))))))) (by kernel_rfl) (by kernel_rfl) (by kernel_rfl) (fun _ _ _ h => h) (Or.inl ⟨by rfl, ?_⟩) (by assumption) ?_
    rotate_left
    · intro w hSw
      (try dsimp only at hSw)
      go_simp
      try with_reducible rfl
    try simp only [Act.put, List.setIfInBounds_toArray, List.set_cons_zero, List.set_cons_succ]
    refine wpAnyH_take (i := 38) (v := ?_) ((opAtS (opAtS (opAtS (opAtS (opAtS (opAtS (opAtS (opAtS (opAtS (opAtS (opAtS (opAtS (opAtS (opAtS (opAtS (opAtS (opAtS (opAtS (opAtS (opAtS (opAtS (opAtS (opAtS (opAtS (opAtS (opAtS (opAtS (opAtS (opAtS (opAtS (opAtS (opAtS (opAtS (opAtS (opAtS (opAtS (opAtS (opAtS opAt0))))))))))))))))))))))))))))))))))))))) (by kernel_rfl) (by kernel_rfl) (by kernel_rfl) (fun _ _ _ h => h) (Or.inl ⟨by rfl, ?_⟩) (by assumption) ?_
    rotate_left
    · intro w hSw
      have g32 := Q32.out w hSw
      have g33 := Q33.out w hSw
      (try dsimp only at hSw)
      go_simp
      try with_reducible rfl
    try simp only [Act.put, List.setIfInBounds_toArray, List.set_cons_zero, List.set_cons_succ]
    refine wpAnyH_ready (rs := [39]) (by kernel_rfl) (by simp) ?_
    refine AllReadyH.cons ((opAtS (opAtS (opAtS (opAtS (opAtS (opAtS (opAtS (opAtS (opAtS (opAtS (opAtS (opAtS (opAtS (opAtS (opAtS (opAtS (opAtS (opAtS (opAtS (opAtS (opAtS (opAtS (opAtS (opAtS (opAtS (opAtS (opAtS (opAtS (opAtS (opAtS (opAtS (opAtS (opAtS (opAtS (opAtS (opAtS (opAtS (opAtS (opAtS opAt0)))))))))))))))))))))))))))))))))))))))) (fun K hK => ?_) AllReadyH.nil
    go_simp
    with_reducible refine (K7.out _ hHeld).mono ?_
    rintro e w' ⟨rfl, hb⟩
    have hb' := Below.trans hHeld (hb.mono (Below.size hHeld)); clear hHeld
    go_wp2_with fail
    refine hK.out _ _ ?_ (fun hHeld => ?_)
    · exact hb'
    clear hK K
    try simp only [Act.put, List.setIfInBounds_toArray, List.set_cons_zero, List.set_cons_succ]
    refine wpAnyH_take (i := 40) (v := ?_) ((opAtS (opAtS (opAtS (opAtS (opAtS (opAtS (opAtS (opAtS (opAtS (opAtS (opAtS (opAtS (opAtS (opAtS (opAtS (opAtS (opAtS (opAtS (opAtS (opAtS (opAtS (opAtS (opAtS (opAtS (opAtS (opAtS (opAtS (opAtS (opAtS (opAtS (opAtS (opAtS (opAtS (opAtS (opAtS (opAtS (opAtS (opAtS (opAtS (opAtS opAt0))))))))))))))))))))))))))))))))))))))))) (by kernel_rfl) (by kernel_rfl) (by kernel_rfl) (fun _ _ _ h => h) (Or.inl ⟨by rfl, ?_⟩) (by assumption) ?_
    rotate_left
    · intro w hSw
      (try dsimp only at hSw)
      go_simp
      try with_reducible rfl
    try simp only [Act.put, List.setIfInBounds_toArray, List.set_cons_zero, List.set_cons_succ]
    refine wpAnyH_take (i := 41) (v := ?_) ((opAtS (opAtS (opAtS (opAtS (opAtS (opAtS (opAtS (opAtS (opAtS (opAtS (opAtS (opAtS (opAtS (opAtS (opAtS (opAtS (opAtS (opAtS (opAtS (opAtS (opAtS (opAtS (opAtS (opAtS (opAtS (opAtS (opAtS (opAtS (opAtS (opAtS (opAtS (opAtS (opAtS (opAtS (opAtS (opAtS (opAtS (opAtS (opAtS (opAtS (opAtS opAt0)))))))))))))))))))))))))))))))))))))))))) (by kernel_rfl) (by kernel_rfl) (by kernel_rfl) (fun _ _ _ h => h) (Or.inl ⟨by rfl, ?_⟩) (by assumption) ?_
    rotate_left
    · intro w hSw
      (try dsimp only at hSw)
      go_simp
      try with_reducible rfl
    try simp only [Act.put, List.setIfInBounds_toArray, List.set_cons_zero, List.set_cons_succ]
    refine wpAnyH_take (i := 42) (v := ?_) ((opAtS (opAtS (opAtS (opAtS (opAtS (opAtS (opAtS (opAtS (opAtS (opAtS (opAtS (opAtS (opAtS (opAtS (opAtS (opAtS (opAtS (opAtS (opAtS (opAtS (opAtS (opAtS (opAtS (opAtS (opAtS (opAtS (opAtS (opAtS (opAtS (opAtS (opAtS (opAtS (opAtS (opAtS (opAtS (opAtS (opAtS (opAtS (opAtS (opAtS (opAtS (opAtS opAt0))))))))))))))))))))))))))))))))))))))))))) (by kernel_rfl) (by kernel_rfl) (by kernel_rfl) (fun _ _ _ h => h) (Or.inl ⟨by rfl, ?_⟩) (by assumption) ?_
    rotate_left
    · intro w hSw
      (try dsimp only at hSw)
      go_simp
      try with_reducible rfl
    try simp only [Act.put, List.setIfInBounds_toArray, List.set_cons_zero]
    refine wpAnyH_done (by kernel_rfl) ?_ _
    refine NoPanic.normal ?_
    have HBX := Lib.hid (HTwo.out.below.trans (hHeld.mono HTwo.out.below.size))
    go_wp2_with fail
    go_ret
    exact ⟨rfl, HBX.out⟩
end Go.Proofs.YtlniiaopindjnaaDoor
