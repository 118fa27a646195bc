/-
  Layer 8: InodeNobody, walked.
-/
import Derived.Test.YtfepbjlaffpojaaGreatInoN
import Derived.Test.YtfepbjlaffpojaaGreatBel
namespace Go.Proofs.YtfepbjlaffpojaaGreat
set_option linter.unusedVariables false
open Go.RowKit Go.Maps

/-- One act in a slice that the walk laid. -/
theorem one_act (w : World) (x : ActD) (hx : x.Ok) : RActs (w.alloc (.cells x.cells.toArray 35)) (w.alloc (.cells x.cells.toArray 35)).heap.size [.slice (some ⟨w.heap.size, 0, none⟩) 1 1] [x] := by
  refine slice_of_block (size := 8) (R := RAct) (xs := [x]) (cap := 1) (heap_alloc_new w _) (by simp) (Nat.le_refl 1) (by decide) fun i y hi => ?_
  match i, hi with
  | 0, hi =>
    simp only [List.getElem?_cons_zero, Option.some.injEq] at hi
    subst hi
    exact ⟨x.cells, rfl, fun j hj => by simp [ActD.cells], rfl, hx⟩
  | i + 1, hi => simp at hi
/-- What the loop finds in memory. -/
structure NobAt (w W : World) (cs : List Value) : Prop where
  below : Below w.heap.size w W
  big : w.heap.size + 3 < W.heap.size
  box : ∀ j v, cs[j]? = some v → W.cell? ⟨w.heap.size, j, none⟩ = some v
  tab : W.cell? ⟨w.heap.size + 1 + 1, 0, none⟩ = some (.int .i64 0)
  s0 : W.cell? ⟨w.heap.size + 1 + 1 + 1, 0, none⟩ = some (.pointer none)
  s1 : W.cell? ⟨w.heap.size + 1 + 1 + 1, 1, none⟩ = some (.pointer (some ⟨w.heap.size + 1 + 1, 0, none⟩))
theorem NobAt.on {w W W' : World} {cs : List Value} (h : NobAt w W cs) (hb : Below W.heap.size W W') : NobAt w W' cs where
  below := h.below.trans (hb.mono h.below.size)
  big := Nat.lt_of_lt_of_le h.big hb.size
  box := fun j v hj => (hb.cell (p := ⟨w.heap.size, j, none⟩) (by have := h.big; show w.heap.size < _; omega)).trans (h.box j v hj)
  tab := (hb.cell (p := ⟨w.heap.size + 1 + 1, 0, none⟩) (by have := h.big; show w.heap.size + 1 + 1 < _; omega)).trans h.tab
  s0 := (hb.cell (p := ⟨w.heap.size + 1 + 1 + 1, 0, none⟩) (by have := h.big; show w.heap.size + 1 + 1 + 1 < _; omega)).trans h.s0
  s1 := (hb.cell (p := ⟨w.heap.size + 1 + 1 + 1, 1, none⟩) (by have := h.big; show w.heap.size + 1 + 1 + 1 < _; omega)).trans h.s1
theorem nob_start (w : World) (cs : List Value) : NobAt w ((((w.alloc (.cells cs.toArray 35)).alloc (.cells cs.toArray 35)).alloc (.cells #[.int .i64 0, .int .i64 0, .int .i64 0, .map none] 50)).alloc (.cells #[.pointer none, .pointer (some ⟨w.heap.size + 1 + 1, 0, none⟩)] 24)) cs where
  below := (((((Below.refl _ w).alloc (Nat.le_refl _) _).alloc (by simp only [size_alloc]; omega) _).alloc (by simp only [size_alloc]; omega) _).alloc (by simp only [size_alloc]; omega) _)
  big := by simp only [size_alloc]; omega
  box := fun j v hj => by
    have hb : Below (w.alloc (.cells cs.toArray 35)).heap.size (w.alloc (.cells cs.toArray 35)) _ := (((Below.refl _ (w.alloc (.cells cs.toArray 35))).alloc (Nat.le_refl _) (.cells cs.toArray 35)).alloc (by simp only [size_alloc]; omega) (.cells #[.int .i64 0, .int .i64 0, .int .i64 0, .map none] 50)).alloc (by simp only [size_alloc]; omega) (.cells #[.pointer none, .pointer (some ⟨w.heap.size + 1 + 1, 0, none⟩)] 24)
    exact ((BoxedAt.alloc w cs 35).on hb).cell j v hj
  tab := by
    have h := heap_alloc_new ((w.alloc (.cells cs.toArray 35)).alloc (.cells cs.toArray 35)) (.cells #[.int .i64 0, .int .i64 0, .int .i64 0, .map none] 50)
    simp only [size_alloc] at h
    rw [cell_row ((Below.heap_alloc _ _ _ (by simp only [size_alloc]; omega)).trans h)]
    rfl
  s0 := by
    have h := heap_alloc_new (((w.alloc (.cells cs.toArray 35)).alloc (.cells cs.toArray 35)).alloc (.cells #[.int .i64 0, .int .i64 0, .int .i64 0, .map none] 50)) (.cells #[.pointer none, .pointer (some ⟨w.heap.size + 1 + 1, 0, none⟩)] 24)
    simp only [size_alloc] at h
    rw [cell_row h]
    rfl
  s1 := by
    have h := heap_alloc_new (((w.alloc (.cells cs.toArray 35)).alloc (.cells cs.toArray 35)).alloc (.cells #[.int .i64 0, .int .i64 0, .int .i64 0, .map none] 50)) (.cells #[.pointer none, .pointer (some ⟨w.heap.size + 1 + 1, 0, none⟩)] 24)
    simp only [size_alloc] at h
    rw [cell_row h]
    rfl
set_option maxHeartbeats 4000000 in
set_option maxRecDepth 100000 in
theorem inodeNobody_walk (x : ActD) (w : World) (hx : x.Ok) : Calls Tryz.prog 5 #[.agg x.cells.toArray] w fun e w' => e = .returned (.bool true) ∧ Below w.heap.size w w' := by
  have h1 : ∀ (W : World) (k : Nat), k = W.heap.size → Calls Tryz.prog 7 #[.slice (some ⟨k, 0, none⟩) 1 1, .int .i64 1] (W.alloc (.cells x.cells.toArray 35)) (SomeSmall (W.alloc (.cells x.cells.toArray 35)) [x].length 1) := fun W k hk => by
    subst hk
    exact small_any (some ⟨W.heap.size, 0, none⟩) 1 1 [x] (W.alloc (.cells x.cells.toArray 35)) 1 (by omega) (by omega) (one_act W x hx)
  have H1 := Lib.hid h1
  clear h1
  have HD := Lib.hid (fun (W : World) (p : Option Addr) (h : Bare W p) => do_bare h x)
  unfold ActD.cells at H1 HD ⊢
  obtain ⟨kind, id, dir, at_, n, name, as_, flag⟩ := x
  simp only at H1 HD ⊢
  clear hx
  go_enter Tryz.func5, Tryz.ntmps5
  go_upto_block 0 with (first
    | (go_at_call 7; (with_reducible refine (H1.out _ _ (by simp)).mono ?_); rintro e w2 ⟨b, rfl, hb, rfl⟩; clear hb; cases b)
    | (go_at_call 8; refine (law08_awake_any _).mono ?_; rintro e w3 ⟨rfl, hb⟩; have HB3 := Lib.hid hb; clear hb))
  · go_ret
    exact ⟨rfl, (((Below.refl _ _).alloc (Nat.le_refl _) _).alloc (by simp only [size_alloc]; omega) _).trans (HB3.out.mono (by simp only [size_alloc]; omega))⟩
  have HS := Lib.hid (nob_start w [.int .i64 kind, .int .i64 id, .int .i64 dir, .int .i64 at_, .int .i64 n, .string name, .string as_, .bool flag])
  clear H1
  go_wp2_with fail
  go_loopw [4] (fun i wr => ∃ k : Nat, k ≤ 2 ∧ i = .int .i64 k ∧ Hid (NobAt w wr [.int .i64 kind, .int .i64 id, .int .i64 dir, .int .i64 at_, .int .i64 n, .string name, .string as_, .bool flag])) (fun i _ => 2 - (intOf i).toNat)
  case atStart => exact ⟨0, by omega, rfl, HS⟩
  case round =>
    obtain ⟨k, hk, rfl, HN⟩ := hrel
    clear HS
    by_cases k0 : k = 0
    · subst k0
      · skip
        have hb0 := fun z : Ext wr.heap.size wr => (HN.out.on z.b).box 0 _ rfl
        have hb1 := fun z : Ext wr.heap.size wr => (HN.out.on z.b).box 1 _ rfl
        have hb2 := fun z : Ext wr.heap.size wr => (HN.out.on z.b).box 2 _ rfl
        have hb3 := fun z : Ext wr.heap.size wr => (HN.out.on z.b).box 3 _ rfl
        have hb4 := fun z : Ext wr.heap.size wr => (HN.out.on z.b).box 4 _ rfl
        have hb5 := fun z : Ext wr.heap.size wr => (HN.out.on z.b).box 5 _ rfl
        have hb6 := fun z : Ext wr.heap.size wr => (HN.out.on z.b).box 6 _ rfl
        have hb7 := fun z : Ext wr.heap.size wr => (HN.out.on z.b).box 7 _ rfl
        have hsl := fun z : Ext wr.heap.size wr => (HN.out.on z.b).s0
        have HQ := Lib.hid (fun z : Ext wr.heap.size wr => Calls.bel_of (x := z) (Nat.le_refl _) (HD.out z.w none (.inl rfl)))
        have HU := Lib.hid (fun z : Ext wr.heap.size wr => (Used_bare (w := z.w) (p := none) (.inl rfl)))
        have HNo := Lib.hid (fun z : Ext wr.heap.size wr => (Nodes_bare (w := z.w) (p := none) (.inl rfl)))
        have HC := Lib.hid (fun z : Ext wr.heap.size wr => (Clone_bare (w := z.w) (p := none) (.inl rfl)))
        go_wp2_with fail
        refine wp_region_bel wr.heap.size (by kernel_rfl) (by kernel_rfl) ?_
        repeat (go_big_quiet_step ((go_at_call 10; exact HQ.out _)))
        refine wpQuiet_nil ?_
        intro x1
        go_wp2_with (first
          | (go_at_call 12; refine (HU.out x1).mono ?_; rintro e w' ⟨rfl, rfl⟩)
          | (go_at_call 9; refine (HNo.out x1).mono ?_; rintro e w' ⟨rfl, rfl⟩)
          | (go_at_call 15; refine (HC.out x1).mono ?_; rintro e w' ⟨rfl, rfl⟩))
        go_roundw
        case rel => exact ⟨1, by omega, by go_num, Lib.hid (HN.out.on x1.b)⟩
        case measure => simp [intOf]
    · by_cases k1 : k = 1
      · subst k1
        have hb0 := fun z : Ext wr.heap.size wr => (HN.out.on z.b).box 0 _ rfl
        have hb1 := fun z : Ext wr.heap.size wr => (HN.out.on z.b).box 1 _ rfl
        have hb2 := fun z : Ext wr.heap.size wr => (HN.out.on z.b).box 2 _ rfl
        have hb3 := fun z : Ext wr.heap.size wr => (HN.out.on z.b).box 3 _ rfl
        have hb4 := fun z : Ext wr.heap.size wr => (HN.out.on z.b).box 4 _ rfl
        have hb5 := fun z : Ext wr.heap.size wr => (HN.out.on z.b).box 5 _ rfl
        have hb6 := fun z : Ext wr.heap.size wr => (HN.out.on z.b).box 6 _ rfl
        have hb7 := fun z : Ext wr.heap.size wr => (HN.out.on z.b).box 7 _ rfl
        have hsl := fun z : Ext wr.heap.size wr => (HN.out.on z.b).s1
        have HQ := Lib.hid (fun z : Ext wr.heap.size wr => Calls.bel_of (x := z) (Nat.le_refl _) (HD.out z.w (some ⟨w.heap.size + 1 + 1, 0, none⟩) (.inr ⟨_, rfl, (HN.out.on z.b).tab⟩)))
        have HU := Lib.hid (fun z : Ext wr.heap.size wr => (Used_bare (w := z.w) (p := (some ⟨w.heap.size + 1 + 1, 0, none⟩)) (.inr ⟨_, rfl, (HN.out.on z.b).tab⟩)))
        have HNo := Lib.hid (fun z : Ext wr.heap.size wr => (Nodes_bare (w := z.w) (p := (some ⟨w.heap.size + 1 + 1, 0, none⟩)) (.inr ⟨_, rfl, (HN.out.on z.b).tab⟩)))
        have HC := Lib.hid (fun z : Ext wr.heap.size wr => (Clone_bare (w := z.w) (p := (some ⟨w.heap.size + 1 + 1, 0, none⟩)) (.inr ⟨_, rfl, (HN.out.on z.b).tab⟩)))
        go_wp2_with fail
        refine wp_region_bel wr.heap.size (by kernel_rfl) (by kernel_rfl) ?_
        repeat (go_big_quiet_step ((go_at_call 10; exact HQ.out _)))
        refine wpQuiet_nil ?_
        intro x1
        go_wp2_with (first
          | (go_at_call 12; refine (HU.out x1).mono ?_; rintro e w' ⟨rfl, rfl⟩)
          | (go_at_call 9; refine (HNo.out x1).mono ?_; rintro e w' ⟨rfl, rfl⟩)
          | (go_at_call 15; refine (HC.out x1).mono ?_; rintro e w' ⟨rfl, rfl⟩))
        go_roundw
        case rel => exact ⟨2, by omega, by go_num, Lib.hid (HN.out.on x1.b)⟩
        case measure => simp [intOf]
      · obtain rfl : k = 2 := by omega
        go_wp2_with (go_at_call 8; refine (law08_awake_any _).mono ?_; rintro e w3 ⟨rfl, hb⟩; have HB3 := Lib.hid hb; clear hb)
        go_ret
        exact ⟨rfl, HN.out.below.trans (HB3.out.mono HN.out.below.size)⟩
end Go.Proofs.YtfepbjlaffpojaaGreat
