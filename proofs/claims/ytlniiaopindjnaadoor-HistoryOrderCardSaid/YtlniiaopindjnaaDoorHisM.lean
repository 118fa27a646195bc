/-
  Layer 35: HistoryOrder at a report that may be, walked.
-/
import Derived.Test.YtlniiaopindjnaaDoorHisO
import Derived.Test.YtlniiaopindjnaaDoorLoadQ
namespace Go.Proofs.YtlniiaopindjnaaDoor
set_option linter.unusedVariables false
open Go.RowKit
open Go.Lib hiding intOf

/-- The three calls that HistoryOrder copied, in whatever world comes. -/
structure MidAt (w W : World) (cs : List Value) (g1 g2 g3 : Nat) (a b c : EventD) : Prop where
  box : BoxedAt w W cs
  c1 : CapAt W g1 a
  c2 : CapAt W g2 b
  c3 : CapAt W g3 c
theorem MidAt.on {w W W' : World} {cs : List Value} {g1 g2 g3 : Nat} {a b c : EventD} (h : MidAt w W cs g1 g2 g3 a b c) (hb : Below W.heap.size W W') : MidAt w W' cs g1 g2 g3 a b c := ⟨h.box.on hb, h.c1.on hb, h.c2.on hb, h.c3.on hb⟩
theorem wp_store_event {a : Act} {w : World} {K : Act → World → Prop} {Q : Exit → Act → World → Prop} {d : Option Nat} {ty : TypeId} {pos : String} {aft : Array _} {gd : Option (Nat × Bool)} {s t : Nat} (x : EventD) {g : Nat} (hr : RowAt w g)
    (hs : a.eval (.tmp s) = .pointer (some ⟨g, 0, none⟩)) (ht : a.eval (.tmp t) = x.agg) (hn : K (a.put d undef) (w.setCells g 0 x.cells)) :
    Oper.wp Tryd.prog { dst := d, op := .store 44 (.tmp s) (.tmp t), type := ty, pos := pos, after := aft, guard := gd } a w K Q := by
  unfold Oper.wp
  rw [store_event0 d s t ty pos aft gd a.eval g x w hs ht hr.cell hr.free, Oper.upon_skip]
  exact hn
/-- Three fresh rows, one behind the other. -/
theorem three_rows (w : World) (z : Array Value) (hz : z.size = 16) (t : TypeId) : RowAt (((w.alloc (.cells z t)).alloc (.cells z t)).alloc (.cells z t)) w.heap.size ∧ RowAt (((w.alloc (.cells z t)).alloc (.cells z t)).alloc (.cells z t)) (w.heap.size + 1) ∧
    RowAt (((w.alloc (.cells z t)).alloc (.cells z t)).alloc (.cells z t)) (w.heap.size + 1 + 1) := by
  have r1 := ((RowAt.new w z t hz).on (bel1 _ (.cells z t))).on (bel1 _ (.cells z t))
  have r2 := (RowAt.new (w.alloc (.cells z t)) z t hz).on (bel1 _ (.cells z t))
  have r3 := RowAt.new ((w.alloc (.cells z t)).alloc (.cells z t)) z t hz
  simp only [show (w.alloc (.cells z t)).heap.size = w.heap.size + 1 by simp] at r2
  simp only [show ((w.alloc (.cells z t)).alloc (.cells z t)).heap.size = w.heap.size + 1 + 1 by simp] at r3
  exact ⟨r1, r2, r3⟩
theorem three_rows_drew (w : World) (z : Array Value) (hz : z.size = 16) (t : TypeId) : RowAt (((w.alloc (.cells z t)).alloc (.cells z t)).alloc (.cells z t)).drew w.heap.size ∧ RowAt (((w.alloc (.cells z t)).alloc (.cells z t)).alloc (.cells z t)).drew (w.heap.size + 1) ∧
    RowAt (((w.alloc (.cells z t)).alloc (.cells z t)).alloc (.cells z t)).drew (w.heap.size + 1 + 1) :=
  ⟨(three_rows w z hz t).1.on (Below.refl _ _).drew, (three_rows w z hz t).2.1.on (Below.refl _ _).drew, (three_rows w z hz t).2.2.on (Below.refl _ _).drew⟩

set_option maxHeartbeats 4000000 in
set_option maxRecDepth 100000 in
theorem historyOrder_main (ea pa : Option Addr) (en ec pn pc : Nat) (r : ReportD) (p q s : Nat) (w : World) (h : REvents w w.heap.size [.slice ea en ec] r.events) (hp : RInts w w.heap.size [.slice pa pn pc] r.powers) (ht : Pow w)
    (hck : Hi.check r = true) (h0 : 0 < r.events.length) (hlp : p < 256) (hlq : q < 256) (hls : s < 256) :
    Calls Tryd.prog 7 #[.agg #[.slice ea en ec, .slice pa pn pc], .agg #[.int .u8 p, .int .u8 q, .int .u8 s]] w fun e w' => e = .returned (.bool true) ∧ Below w.heap.size w w' := by
  obtain ⟨hn, hm1, hm2, -, -⟩ := events_open h
  subst hn
  rw [maxLen_val] at hm2
  have H := Lib.hid h
  have HP := Lib.hid hp
  have HT := Lib.hid ht
  have HO := Lib.hid (OrdAt.of w [.slice ea r.events.length ec, .slice pa pn pc] 34 35 p q s)
  have HF := Lib.hid (fun (W : World) (hW : Below w.heap.size w W) => ref35_Few_any ea pa r.events.length ec pn pc r W (kept_events.on hW h) (kept_ints.on hW hp))
  have HC := Lib.hid (fun (W : World) (hW : Below w.heap.size w W) (hs : r.powers.length ≤ 1000000) => (by have h := history_Check_any ea pa r.events.length ec pn pc r W (kept_events.on hW h) (kept_ints.on hW hp) hs; rw [hck] at h; exact h : Calls Tryd.prog 17 #[.agg #[.slice ea r.events.length ec, .slice pa pn pc]] W fun e w' => e = .returned (.int .i64 0) ∧ Below W.heap.size W w'))
  have HAW := Lib.hid (fun (W : World) (hW : Below w.heap.size w W) => law35_awake_any W (ht.on hW))
  have HCK := Lib.hid hck
  have HL0 := Lib.hid h0
  have hl0 : ((r.events.length : Int) == 0) = false := by rw [beq_eq_false_iff_ne]; omega
  have HLT := Lib.hid (And.intro hlp (And.intro hlq hls))
  clear h hp ht hck h0 hlp hlq hls
  go_enter Tryd.func7, Tryd.ntmps7
  go_upto_region 1 with fail
  generalize World.alloc _ _ = w1 at HO ⊢
  have b0 := HO.out.box.cell 0 _ rfl
  have b1 := HO.out.box.cell 1 _ rfl
  go_upto_region 4 with (first
    | (go_at_call 16; refine (HF.out _ HO.out.box.below).mono ?_; rintro e w3 ⟨fb, rfl, hb3, hf⟩; replace HO := Lib.hid (HO.out.on hb3); have HFW := Lib.hid hf; clear hb3 hf b0 b1; have b0 := HO.out.box.cell 0 _ rfl; have b1 := HO.out.box.cell 1 _ rfl; cases fb)
    | (go_at_call 17; refine (HC.out _ HO.out.box.below (by have := (HFW.out rfl).2.1; omega)).mono ?_; rintro e w4 ⟨rfl, hb4⟩; replace HO := Lib.hid (HO.out.on hb4); clear hb4 b0 b1; have b0 := HO.out.box.cell 0 _ rfl; have b1 := HO.out.box.cell 1 _ rfl)
    | (go_at_call 18; refine (HAW.out _ HO.out.box.below).mono ?_; rintro e w5 ⟨rfl, hb5⟩; replace HO := Lib.hid (HO.out.on hb5); clear hb5))
  · go_ret
    exact ⟨rfl, HO.out.box.below⟩
  · clear HF HC HP hl0 b0 b1
    go_cut [6, 7, 8] (fun i j k W => (∃ x y z : Nat, i = .int .i64 x ∧ j = .int .i64 y ∧ k = .int .i64 z ∧ x < r.events.length ∧ y < r.events.length ∧ z < r.events.length) ∧ Hid (OrdAt w W [.slice ea r.events.length ec, .slice pa pn pc] p q s))
    case first =>
      have nz : 0 < (r.events.length : Int) := by have := HL0.out; omega
      have q1 : (p : Int) < 256 := by have := HLT.out.1; omega
      have q2 : (q : Int) < 256 := by have := HLT.out.2.1; omega
      have q3 : (s : Int) < 256 := by have := HLT.out.2.2; omega
      have f0 := fun x_ : Ext w4.heap.size w4 => (HO.out.on x_.b).c0
      have f1 := fun x_ : Ext w4.heap.size w4 => (HO.out.on x_.b).c1
      have f2 := fun x_ : Ext w4.heap.size w4 => (HO.out.on x_.b).c2
      refine wp_region_bel w4.heap.size (by kernel_rfl) (by kernel_rfl) ?_
      repeat (go_big_quiet_step (fail))
      refine wpQuiet_nil ?_
      intro x_
      have HB2 := Lib.hid x_.b
      generalize x_.w = wx at HB2 ⊢
      clear f0 f1 f2
      go_wp2_with fail
      go_meet
      exact ⟨⟨p % r.events.length, q % r.events.length, s % r.events.length, by rw [Int.natCast_emod], by rw [Int.natCast_emod], by rw [Int.natCast_emod], Nat.mod_lt _ HL0.out, Nat.mod_lt _ HL0.out, Nat.mod_lt _ HL0.out⟩, Lib.hid (HO.out.on HB2.out)⟩
    case rest =>
      obtain ⟨⟨x, y, z, rfl, rfl, rfl, hx, hy, hz⟩, HO2⟩ := hcut
      replace HO := HO2
      clear HO2
      obtain ⟨e1, h1⟩ := get_at hx
      obtain ⟨e2, h2⟩ := get_at hy
      obtain ⟨e3, h3⟩ := get_at hz
      obtain ⟨-, -, -, -, hev⟩ := events_open (kept_events.on HO.out.box.below H.out)
      obtain ⟨b, off, rfl, hb, hc⟩ := hev (by omega)
      have HX1 := Lib.hid h1
      have HX2 := Lib.hid h2
      have HX3 := Lib.hid h3
      have HE1 := Lib.hid (fun (W : World) (hW : Below wc.heap.size wc W) => fun (j : Nat) (hj : j < 16) => (hW.cell (p := ⟨b, off + x * 16 + j, none⟩) hb).trans ((hc x e1 h1).2 j hj))
      have HE2 := Lib.hid (fun (W : World) (hW : Below wc.heap.size wc W) => fun (j : Nat) (hj : j < 16) => (hW.cell (p := ⟨b, off + y * 16 + j, none⟩) hb).trans ((hc y e2 h2).2 j hj))
      have HE3 := Lib.hid (fun (W : World) (hW : Below wc.heap.size wc W) => fun (j : Nat) (hj : j < 16) => (hW.cell (p := ⟨b, off + z * 16 + j, none⟩) hb).trans ((hc z e3 h3).2 j hj))
      have HXYZ := Lib.hid (And.intro hx (And.intro hy hz))
      clear hc hev h1 h2 h3 hb
      go_upto_region 5 with fail
      go_cut [9, 10, 11] (fun i j k W => (∃ g1 g2 g3 : Nat, i = .pointer (some ⟨g1, 0, none⟩) ∧ j = .pointer (some ⟨g2, 0, none⟩) ∧ k = .pointer (some ⟨g3, 0, none⟩) ∧ Hid (MidAt w W [.slice (some ⟨b, off, none⟩) r.events.length ec, .slice pa pn pc] g1 g2 g3 e1 e2 e3)))
      case first =>
        have Q0 := Lib.hid (fun (W : World) (hW : Below wc.heap.size wc W) => (HO.out.box.on hW).cell 0 _ rfl)
        have n1 : (x : Int) < r.events.length := by omega
        have n2 : (y : Int) < r.events.length := by omega
        have n3 : (z : Int) < r.events.length := by omega
        have HR3 := Lib.hid (three_rows_drew wc #[.int .i64 0, .int .i64 0, .int .i64 0, .string ⟨#[]⟩, .string ⟨#[]⟩, .slice none 0 0, .string ⟨#[]⟩, .string ⟨#[]⟩, .int .i64 0, .int .i64 0, .int .i64 0, .int .i64 0, .int .i64 0, .string ⟨#[]⟩, .int .i64 0, .string ⟨#[]⟩] rfl 44)
        refine wp_region_noPanic ?_
        refine wp_region_held_drew (S := (fun w' => Below wc.heap.size wc w')) (by kernel_rfl) (Below.refl _ _).drew (fun hHeld => ?_)
        refine wpAnyH_take (i := 0) (v := ?_) (opAt0) (by kernel_rfl) (by kernel_rfl) (by kernel_rfl) (fun _ _ _ h => h) (Or.inl ⟨by rfl, ?_⟩) (by assumption) ?_
        rotate_left
        · intro w hSw
          (try dsimp only at hSw)
          go_simp
          try with_reducible rfl
        try simp only [Act.put, List.setIfInBounds_toArray, List.set_cons_zero, List.set_cons_succ]
        refine wpAnyH_take (i := 1) (v := ?_) ((opAtS opAt0)) (by kernel_rfl) (by kernel_rfl) (by kernel_rfl) (fun _ _ _ h => h) (Or.inl ⟨by rfl, ?_⟩) (by assumption) ?_
        rotate_left
        · intro w hSw
          have g0 := Q0.out w hSw
          (try dsimp only at hSw)
          go_simp
          try with_reducible rfl
        try simp only [Act.put, List.setIfInBounds_toArray, List.set_cons_zero, List.set_cons_succ]
        refine wpAnyH_take (i := 2) (v := ?_) ((opAtS (opAtS opAt0))) (by kernel_rfl) (by kernel_rfl) (by kernel_rfl) (fun _ _ _ h => h) (Or.inl ⟨by rfl, ?_⟩) (by assumption) ?_
        rotate_left
        · intro w hSw
          (try dsimp only at hSw)
          go_simp
          try with_reducible rfl
        try simp only [Act.put, List.setIfInBounds_toArray, List.set_cons_zero, List.set_cons_succ]
        refine wpAnyH_take (i := 3) (v := ?_) ((opAtS (opAtS (opAtS opAt0)))) (by kernel_rfl) (by kernel_rfl) (by kernel_rfl) (fun _ _ _ h => h) (Or.inl ⟨by rfl, ?_⟩) (by assumption) ?_
        rotate_left
        · intro w hSw
          (try dsimp only at hSw)
          go_simp
          try with_reducible rfl
        try simp only [Act.put, List.setIfInBounds_toArray, List.set_cons_zero, List.set_cons_succ]
        refine wpAnyH_take (i := 4) (v := ?_) ((opAtS (opAtS (opAtS (opAtS opAt0))))) (by kernel_rfl) (by kernel_rfl) (by kernel_rfl) (fun _ _ _ h => h) (Or.inl ⟨by rfl, ?_⟩) (by assumption) ?_
        rotate_left
        · intro w hSw
          refine load_event0 _ _ _ _ _ _ _ _ _ _ _ ?_ (HE1.out w hSw); rfl
        try simp only [Act.put, List.setIfInBounds_toArray, List.set_cons_zero, List.set_cons_succ]
        refine wpAnyH_take (i := 5) (v := ?_) ((opAtS (opAtS (opAtS (opAtS (opAtS opAt0)))))) (by kernel_rfl) (by kernel_rfl) (by kernel_rfl) (fun _ _ _ h => h) (Or.inl ⟨by rfl, ?_⟩) (by assumption) ?_
        rotate_left
        · intro w hSw
          (try dsimp only at hSw)
          go_simp
          try with_reducible rfl
        try simp only [Act.put, List.setIfInBounds_toArray, List.set_cons_zero, List.set_cons_succ]
        refine wpAnyH_take (i := 6) (v := ?_) ((opAtS (opAtS (opAtS (opAtS (opAtS (opAtS opAt0))))))) (by kernel_rfl) (by kernel_rfl) (by kernel_rfl) (fun _ _ _ h => h) (Or.inl ⟨by rfl, ?_⟩) (by assumption) ?_
        rotate_left
        · intro w hSw
          have g0 := Q0.out w hSw
          (try dsimp only at hSw)
          go_simp
          try with_reducible rfl
        try simp only [Act.put, List.setIfInBounds_toArray, List.set_cons_zero, List.set_cons_succ]
        refine wpAnyH_take (i := 7) (v := ?_) ((opAtS (opAtS (opAtS (opAtS (opAtS (opAtS (opAtS opAt0)))))))) (by kernel_rfl) (by kernel_rfl) (by kernel_rfl) (fun _ _ _ h => h) (Or.inl ⟨by rfl, ?_⟩) (by assumption) ?_
        rotate_left
        · intro w hSw
          (try dsimp only at hSw)
          go_simp
          try with_reducible rfl
        try simp only [Act.put, List.setIfInBounds_toArray, List.set_cons_zero, List.set_cons_succ]
        refine wpAnyH_take (i := 8) (v := ?_) ((opAtS (opAtS (opAtS (opAtS (opAtS (opAtS (opAtS (opAtS opAt0))))))))) (by kernel_rfl) (by kernel_rfl) (by kernel_rfl) (fun _ _ _ h => h) (Or.inl ⟨by rfl, ?_⟩) (by assumption) ?_
        rotate_left
        · intro w hSw
          (try dsimp only at hSw)
          go_simp
          try with_reducible rfl
        try simp only [Act.put, List.setIfInBounds_toArray, List.set_cons_zero, List.set_cons_succ]
        refine wpAnyH_take (i := 9) (v := ?_) ((opAtS (opAtS (opAtS (opAtS (opAtS (opAtS (opAtS (opAtS (opAtS opAt0)))))))))) (by kernel_rfl) (by kernel_rfl) (by kernel_rfl) (fun _ _ _ h => h) (Or.inl ⟨by rfl, ?_⟩) (by assumption) ?_
        rotate_left
        · intro w hSw
          refine load_event0 _ _ _ _ _ _ _ _ _ _ _ ?_ (HE2.out w hSw); rfl
        try simp only [Act.put, List.setIfInBounds_toArray, List.set_cons_zero, List.set_cons_succ]
        refine wpAnyH_take (i := 10) (v := ?_) ((opAtS (opAtS (opAtS (opAtS (opAtS (opAtS (opAtS (opAtS (opAtS (opAtS opAt0))))))))))) (by kernel_rfl) (by kernel_rfl) (by kernel_rfl) (fun _ _ _ h => h) (Or.inl ⟨by rfl, ?_⟩) (by assumption) ?_
        rotate_left
        · intro w hSw
          (try dsimp only at hSw)
          go_simp
          try with_reducible rfl
        try simp only [Act.put, List.setIfInBounds_toArray, List.set_cons_zero, List.set_cons_succ]
        refine wpAnyH_take (i := 11) (v := ?_) ((opAtS (opAtS (opAtS (opAtS (opAtS (opAtS (opAtS (opAtS (opAtS (opAtS (opAtS opAt0)))))))))))) (by kernel_rfl) (by kernel_rfl) (by kernel_rfl) (fun _ _ _ h => h) (Or.inl ⟨by rfl, ?_⟩) (by assumption) ?_
        rotate_left
        · intro w hSw
          have g0 := Q0.out w hSw
          (try dsimp only at hSw)
          go_simp
          try with_reducible rfl
        try simp only [Act.put, List.setIfInBounds_toArray, List.set_cons_zero, List.set_cons_succ]
        refine wpAnyH_take (i := 12) (v := ?_) ((opAtS (opAtS (opAtS (opAtS (opAtS (opAtS (opAtS (opAtS (opAtS (opAtS (opAtS (opAtS opAt0))))))))))))) (by kernel_rfl) (by kernel_rfl) (by kernel_rfl) (fun _ _ _ h => h) (Or.inl ⟨by rfl, ?_⟩) (by assumption) ?_
        rotate_left
        · intro w hSw
          (try dsimp only at hSw)
          go_simp
          try with_reducible rfl
        try simp only [Act.put, List.setIfInBounds_toArray, List.set_cons_zero, List.set_cons_succ]
        refine wpAnyH_take (i := 13) (v := ?_) ((opAtS (opAtS (opAtS (opAtS (opAtS (opAtS (opAtS (opAtS (opAtS (opAtS (opAtS (opAtS (opAtS opAt0)))))))))))))) (by kernel_rfl) (by kernel_rfl) (by kernel_rfl) (fun _ _ _ h => h) (Or.inl ⟨by rfl, ?_⟩) (by assumption) ?_
        rotate_left
        · intro w hSw
          (try dsimp only at hSw)
          go_simp
          try with_reducible rfl
        try simp only [Act.put, List.setIfInBounds_toArray, List.set_cons_zero, List.set_cons_succ]
        refine wpAnyH_take (i := 14) (v := ?_) ((opAtS (opAtS (opAtS (opAtS (opAtS (opAtS (opAtS (opAtS (opAtS (opAtS (opAtS (opAtS (opAtS (opAtS opAt0))))))))))))))) (by kernel_rfl) (by kernel_rfl) (by kernel_rfl) (fun _ _ _ h => h) (Or.inl ⟨by rfl, ?_⟩) (by assumption) ?_
        rotate_left
        · intro w hSw
          refine load_event0 _ _ _ _ _ _ _ _ _ _ _ ?_ (HE3.out w hSw); rfl
        try simp only [Act.put, List.setIfInBounds_toArray, List.set_cons_zero, List.set_cons_succ]
        refine wpAnyH_ready (rs := [15, 16, 17]) (by kernel_rfl) (by simp) ?_
        refine AllReadyH.cons ((opAtS (opAtS (opAtS (opAtS (opAtS (opAtS (opAtS (opAtS (opAtS (opAtS (opAtS (opAtS (opAtS (opAtS (opAtS opAt0)))))))))))))))) (fun K hK => ?_) ?_
        · go_simp
          refine hK.out _ _ (hHeld.alloc (Below.size hHeld) _) (fun hHeld => ?_)
          clear hK K
          try simp only [Act.put, List.setIfInBounds_toArray, List.set_cons_zero, List.set_cons_succ]
          refine wpAnyH_ready (rs := [16, 17]) (by kernel_rfl) (by simp) ?_
          refine AllReadyH.cons ((opAtS (opAtS (opAtS (opAtS (opAtS (opAtS (opAtS (opAtS (opAtS (opAtS (opAtS (opAtS (opAtS (opAtS (opAtS (opAtS opAt0))))))))))))))))) (fun K hK => ?_) ?_
          · go_simp
            refine hK.out _ _ (hHeld.alloc (Below.size hHeld) _) (fun hHeld => ?_)
            clear hK K
            try simp only [Act.put, List.setIfInBounds_toArray, List.set_cons_zero, List.set_cons_succ]
            refine wpAnyH_ready (rs := [17]) (by kernel_rfl) (by simp) ?_
            refine AllReadyH.cons ((opAtS (opAtS (opAtS (opAtS (opAtS (opAtS (opAtS (opAtS (opAtS (opAtS (opAtS (opAtS (opAtS (opAtS (opAtS (opAtS (opAtS opAt0)))))))))))))))))) (fun K hK => ?_) AllReadyH.nil
            go_simp
            refine hK.out _ _ (hHeld.alloc (Below.size hHeld) _) (fun hHeld => ?_)
            clear hK K
            try simp only [Act.put, List.setIfInBounds_toArray, List.set_cons_zero, List.set_cons_succ]
            obtain ⟨r15, r16, r17⟩ := HR3.out
            generalize World.drew (World.alloc (World.alloc (World.alloc wc _) _) _) = W3 at r15 r16 r17 hHeld ⊢
            refine wpAnyH_ready (rs := [18]) (by kernel_rfl) (by simp) ?_
            refine AllReadyH.cons ((opAtS (opAtS (opAtS (opAtS (opAtS (opAtS (opAtS (opAtS (opAtS (opAtS (opAtS (opAtS (opAtS (opAtS (opAtS (opAtS (opAtS (opAtS opAt0))))))))))))))))))) (fun K hK => ?_) AllReadyH.nil
            rw [if_pos (by rfl)]
            refine wp_store_event e1 r15 ?_ ?_ ?_
            · rfl
            · rfl
            refine hK.out _ _ (below_stored hHeld (by omega) _) (fun hHeld => ?_)
            clear hK K
            try simp only [Act.put]
            have k15 := CapAt.stored r15 e1
            replace r16 := r16.beside (b := wc.heap.size) (by omega) e1.cells
            replace r17 := r17.beside (b := wc.heap.size) (by omega) e1.cells
            generalize World.setCells W3 wc.heap.size 0 e1.cells = W4 at r16 r17 k15 hHeld ⊢
            refine wpAnyH_ready (rs := [19]) (by kernel_rfl) (by simp) ?_
            refine AllReadyH.cons ((opAtS (opAtS (opAtS (opAtS (opAtS (opAtS (opAtS (opAtS (opAtS (opAtS (opAtS (opAtS (opAtS (opAtS (opAtS (opAtS (opAtS (opAtS (opAtS opAt0)))))))))))))))))))) (fun K hK => ?_) AllReadyH.nil
            rw [if_pos (by rfl)]
            refine wp_store_event e2 r16 ?_ ?_ ?_
            · rfl
            · rfl
            refine hK.out _ _ (below_stored hHeld (by omega) _) (fun hHeld => ?_)
            clear hK K
            try simp only [Act.put]
            have k16 := CapAt.stored r16 e2
            replace r17 := r17.beside (b := (wc.heap.size + 1)) (by omega) e2.cells
            replace k15 := k15.beside (b := (wc.heap.size + 1)) (by omega) e2.cells
            generalize World.setCells W4 (wc.heap.size + 1) 0 e2.cells = W5 at r17 k15 k16 hHeld ⊢
            refine wpAnyH_ready (rs := [20]) (by kernel_rfl) (by simp) ?_
            refine AllReadyH.cons ((opAtS (opAtS (opAtS (opAtS (opAtS (opAtS (opAtS (opAtS (opAtS (opAtS (opAtS (opAtS (opAtS (opAtS (opAtS (opAtS (opAtS (opAtS (opAtS (opAtS opAt0))))))))))))))))))))) (fun K hK => ?_) AllReadyH.nil
            rw [if_pos (by rfl)]
            refine wp_store_event e3 r17 ?_ ?_ ?_
            · rfl
            · rfl
            refine hK.out _ _ (below_stored hHeld (by omega) _) (fun hHeld => ?_)
            clear hK K
            try simp only [Act.put]
            have k17 := CapAt.stored r17 e3
            replace k15 := k15.beside (b := (wc.heap.size + 1 + 1)) (by omega) e3.cells
            replace k16 := k16.beside (b := (wc.heap.size + 1 + 1)) (by omega) e3.cells
            generalize World.setCells W5 (wc.heap.size + 1 + 1) 0 e3.cells = W6 at k15 k16 k17 hHeld ⊢
            refine wpAnyH_done (by kernel_rfl) ?_ _
            refine NoPanic.normal ?_
            have hfin := Lib.hid (MidAt.mk (HO.out.box.on hHeld) k15 k16 k17)
            clear k15 k16 k17
            go_wp2_with fail
            go_meet
            exact ⟨_, _, _, rfl, rfl, rfl, hfin⟩
          refine AllReadyH.cons ((opAtS (opAtS (opAtS (opAtS (opAtS (opAtS (opAtS (opAtS (opAtS (opAtS (opAtS (opAtS (opAtS (opAtS (opAtS (opAtS (opAtS opAt0)))))))))))))))))) (fun K hK => ?_) AllReadyH.nil
          go_simp
          refine hK.out _ _ (hHeld.alloc (Below.size hHeld) _) (fun hHeld => ?_)
          clear hK K
          try simp only [Act.put, List.setIfInBounds_toArray, List.set_cons_zero, List.set_cons_succ]
          refine wpAnyH_ready (rs := [16]) (by kernel_rfl) (by simp) ?_
          refine AllReadyH.cons ((opAtS (opAtS (opAtS (opAtS (opAtS (opAtS (opAtS (opAtS (opAtS (opAtS (opAtS (opAtS (opAtS (opAtS (opAtS (opAtS opAt0))))))))))))))))) (fun K hK => ?_) AllReadyH.nil
          go_simp
          refine hK.out _ _ (hHeld.alloc (Below.size hHeld) _) (fun hHeld => ?_)
          clear hK K
          try simp only [Act.put, List.setIfInBounds_toArray, List.set_cons_zero, List.set_cons_succ]
          obtain ⟨r15, r17, r16⟩ := HR3.out
          generalize World.drew (World.alloc (World.alloc (World.alloc wc _) _) _) = W3 at r15 r17 r16 hHeld ⊢
          refine wpAnyH_ready (rs := [18]) (by kernel_rfl) (by simp) ?_
          refine AllReadyH.cons ((opAtS (opAtS (opAtS (opAtS (opAtS (opAtS (opAtS (opAtS (opAtS (opAtS (opAtS (opAtS (opAtS (opAtS (opAtS (opAtS (opAtS (opAtS opAt0))))))))))))))))))) (fun K hK => ?_) AllReadyH.nil
          rw [if_pos (by rfl)]
          refine wp_store_event e1 r15 ?_ ?_ ?_
          · rfl
          · rfl
          refine hK.out _ _ (below_stored hHeld (by omega) _) (fun hHeld => ?_)
          clear hK K
          try simp only [Act.put]
          have k15 := CapAt.stored r15 e1
          replace r16 := r16.beside (b := wc.heap.size) (by omega) e1.cells
          replace r17 := r17.beside (b := wc.heap.size) (by omega) e1.cells
          generalize World.setCells W3 wc.heap.size 0 e1.cells = W4 at r16 r17 k15 hHeld ⊢
          refine wpAnyH_ready (rs := [19]) (by kernel_rfl) (by simp) ?_
          refine AllReadyH.cons ((opAtS (opAtS (opAtS (opAtS (opAtS (opAtS (opAtS (opAtS (opAtS (opAtS (opAtS (opAtS (opAtS (opAtS (opAtS (opAtS (opAtS (opAtS (opAtS opAt0)))))))))))))))))))) (fun K hK => ?_) AllReadyH.nil
          rw [if_pos (by rfl)]
          refine wp_store_event e2 r16 ?_ ?_ ?_
          · rfl
          · rfl
          refine hK.out _ _ (below_stored hHeld (by omega) _) (fun hHeld => ?_)
          clear hK K
          try simp only [Act.put]
          have k16 := CapAt.stored r16 e2
          replace r17 := r17.beside (b := (wc.heap.size + 1 + 1)) (by omega) e2.cells
          replace k15 := k15.beside (b := (wc.heap.size + 1 + 1)) (by omega) e2.cells
          generalize World.setCells W4 (wc.heap.size + 1 + 1) 0 e2.cells = W5 at r17 k15 k16 hHeld ⊢
          refine wpAnyH_ready (rs := [20]) (by kernel_rfl) (by simp) ?_
          refine AllReadyH.cons ((opAtS (opAtS (opAtS (opAtS (opAtS (opAtS (opAtS (opAtS (opAtS (opAtS (opAtS (opAtS (opAtS (opAtS (opAtS (opAtS (opAtS (opAtS (opAtS (opAtS opAt0))))))))))))))))))))) (fun K hK => ?_) AllReadyH.nil
          rw [if_pos (by rfl)]
          refine wp_store_event e3 r17 ?_ ?_ ?_
          · rfl
          · rfl
          refine hK.out _ _ (below_stored hHeld (by omega) _) (fun hHeld => ?_)
          clear hK K
          try simp only [Act.put]
          have k17 := CapAt.stored r17 e3
          replace k15 := k15.beside (b := (wc.heap.size + 1)) (by omega) e3.cells
          replace k16 := k16.beside (b := (wc.heap.size + 1)) (by omega) e3.cells
          generalize World.setCells W5 (wc.heap.size + 1) 0 e3.cells = W6 at k15 k16 k17 hHeld ⊢
          refine wpAnyH_done (by kernel_rfl) ?_ _
          refine NoPanic.normal ?_
          have hfin := Lib.hid (MidAt.mk (HO.out.box.on hHeld) k15 k16 k17)
          clear k15 k16 k17
          go_wp2_with fail
          go_meet
          exact ⟨_, _, _, rfl, rfl, rfl, hfin⟩
        refine AllReadyH.cons ((opAtS (opAtS (opAtS (opAtS (opAtS (opAtS (opAtS (opAtS (opAtS (opAtS (opAtS (opAtS (opAtS (opAtS (opAtS (opAtS opAt0))))))))))))))))) (fun K hK => ?_) ?_
        · go_simp
          refine hK.out _ _ (hHeld.alloc (Below.size hHeld) _) (fun hHeld => ?_)
          clear hK K
          try simp only [Act.put, List.setIfInBounds_toArray, List.set_cons_zero, List.set_cons_succ]
          refine wpAnyH_ready (rs := [15, 17]) (by kernel_rfl) (by simp) ?_
          refine AllReadyH.cons ((opAtS (opAtS (opAtS (opAtS (opAtS (opAtS (opAtS (opAtS (opAtS (opAtS (opAtS (opAtS (opAtS (opAtS (opAtS opAt0)))))))))))))))) (fun K hK => ?_) ?_
          · go_simp
            refine hK.out _ _ (hHeld.alloc (Below.size hHeld) _) (fun hHeld => ?_)
            clear hK K
            try simp only [Act.put, List.setIfInBounds_toArray, List.set_cons_zero, List.set_cons_succ]
            refine wpAnyH_ready (rs := [17]) (by kernel_rfl) (by simp) ?_
            refine AllReadyH.cons ((opAtS (opAtS (opAtS (opAtS (opAtS (opAtS (opAtS (opAtS (opAtS (opAtS (opAtS (opAtS (opAtS (opAtS (opAtS (opAtS (opAtS opAt0)))))))))))))))))) (fun K hK => ?_) AllReadyH.nil
            go_simp
            refine hK.out _ _ (hHeld.alloc (Below.size hHeld) _) (fun hHeld => ?_)
            clear hK K
            try simp only [Act.put, List.setIfInBounds_toArray, List.set_cons_zero, List.set_cons_succ]
            obtain ⟨r16, r15, r17⟩ := HR3.out
            generalize World.drew (World.alloc (World.alloc (World.alloc wc _) _) _) = W3 at r16 r15 r17 hHeld ⊢
            refine wpAnyH_ready (rs := [18]) (by kernel_rfl) (by simp) ?_
            refine AllReadyH.cons ((opAtS (opAtS (opAtS (opAtS (opAtS (opAtS (opAtS (opAtS (opAtS (opAtS (opAtS (opAtS (opAtS (opAtS (opAtS (opAtS (opAtS (opAtS opAt0))))))))))))))))))) (fun K hK => ?_) AllReadyH.nil
            rw [if_pos (by rfl)]
            refine wp_store_event e1 r15 ?_ ?_ ?_
            · rfl
            · rfl
            refine hK.out _ _ (below_stored hHeld (by omega) _) (fun hHeld => ?_)
            clear hK K
            try simp only [Act.put]
            have k15 := CapAt.stored r15 e1
            replace r16 := r16.beside (b := (wc.heap.size + 1)) (by omega) e1.cells
            replace r17 := r17.beside (b := (wc.heap.size + 1)) (by omega) e1.cells
            generalize World.setCells W3 (wc.heap.size + 1) 0 e1.cells = W4 at r16 r17 k15 hHeld ⊢
            refine wpAnyH_ready (rs := [19]) (by kernel_rfl) (by simp) ?_
            refine AllReadyH.cons ((opAtS (opAtS (opAtS (opAtS (opAtS (opAtS (opAtS (opAtS (opAtS (opAtS (opAtS (opAtS (opAtS (opAtS (opAtS (opAtS (opAtS (opAtS (opAtS opAt0)))))))))))))))))))) (fun K hK => ?_) AllReadyH.nil
            rw [if_pos (by rfl)]
            refine wp_store_event e2 r16 ?_ ?_ ?_
            · rfl
            · rfl
            refine hK.out _ _ (below_stored hHeld (by omega) _) (fun hHeld => ?_)
            clear hK K
            try simp only [Act.put]
            have k16 := CapAt.stored r16 e2
            replace r17 := r17.beside (b := wc.heap.size) (by omega) e2.cells
            replace k15 := k15.beside (b := wc.heap.size) (by omega) e2.cells
            generalize World.setCells W4 wc.heap.size 0 e2.cells = W5 at r17 k15 k16 hHeld ⊢
            refine wpAnyH_ready (rs := [20]) (by kernel_rfl) (by simp) ?_
            refine AllReadyH.cons ((opAtS (opAtS (opAtS (opAtS (opAtS (opAtS (opAtS (opAtS (opAtS (opAtS (opAtS (opAtS (opAtS (opAtS (opAtS (opAtS (opAtS (opAtS (opAtS (opAtS opAt0))))))))))))))))))))) (fun K hK => ?_) AllReadyH.nil
            rw [if_pos (by rfl)]
            refine wp_store_event e3 r17 ?_ ?_ ?_
            · rfl
            · rfl
            refine hK.out _ _ (below_stored hHeld (by omega) _) (fun hHeld => ?_)
            clear hK K
            try simp only [Act.put]
            have k17 := CapAt.stored r17 e3
            replace k15 := k15.beside (b := (wc.heap.size + 1 + 1)) (by omega) e3.cells
            replace k16 := k16.beside (b := (wc.heap.size + 1 + 1)) (by omega) e3.cells
            generalize World.setCells W5 (wc.heap.size + 1 + 1) 0 e3.cells = W6 at k15 k16 k17 hHeld ⊢
            refine wpAnyH_done (by kernel_rfl) ?_ _
            refine NoPanic.normal ?_
            have hfin := Lib.hid (MidAt.mk (HO.out.box.on hHeld) k15 k16 k17)
            clear k15 k16 k17
            go_wp2_with fail
            go_meet
            exact ⟨_, _, _, rfl, rfl, rfl, hfin⟩
          refine AllReadyH.cons ((opAtS (opAtS (opAtS (opAtS (opAtS (opAtS (opAtS (opAtS (opAtS (opAtS (opAtS (opAtS (opAtS (opAtS (opAtS (opAtS (opAtS opAt0)))))))))))))))))) (fun K hK => ?_) AllReadyH.nil
          go_simp
          refine hK.out _ _ (hHeld.alloc (Below.size hHeld) _) (fun hHeld => ?_)
          clear hK K
          try simp only [Act.put, List.setIfInBounds_toArray, List.set_cons_zero, List.set_cons_succ]
          refine wpAnyH_ready (rs := [15]) (by kernel_rfl) (by simp) ?_
          refine AllReadyH.cons ((opAtS (opAtS (opAtS (opAtS (opAtS (opAtS (opAtS (opAtS (opAtS (opAtS (opAtS (opAtS (opAtS (opAtS (opAtS opAt0)))))))))))))))) (fun K hK => ?_) AllReadyH.nil
          go_simp
          refine hK.out _ _ (hHeld.alloc (Below.size hHeld) _) (fun hHeld => ?_)
          clear hK K
          try simp only [Act.put, List.setIfInBounds_toArray, List.set_cons_zero, List.set_cons_succ]
          obtain ⟨r16, r17, r15⟩ := HR3.out
          generalize World.drew (World.alloc (World.alloc (World.alloc wc _) _) _) = W3 at r16 r17 r15 hHeld ⊢
          refine wpAnyH_ready (rs := [18]) (by kernel_rfl) (by simp) ?_
          refine AllReadyH.cons ((opAtS (opAtS (opAtS (opAtS (opAtS (opAtS (opAtS (opAtS (opAtS (opAtS (opAtS (opAtS (opAtS (opAtS (opAtS (opAtS (opAtS (opAtS opAt0))))))))))))))))))) (fun K hK => ?_) AllReadyH.nil
          rw [if_pos (by rfl)]
          refine wp_store_event e1 r15 ?_ ?_ ?_
          · rfl
          · rfl
          refine hK.out _ _ (below_stored hHeld (by omega) _) (fun hHeld => ?_)
          clear hK K
          try simp only [Act.put]
          have k15 := CapAt.stored r15 e1
          replace r16 := r16.beside (b := (wc.heap.size + 1 + 1)) (by omega) e1.cells
          replace r17 := r17.beside (b := (wc.heap.size + 1 + 1)) (by omega) e1.cells
          generalize World.setCells W3 (wc.heap.size + 1 + 1) 0 e1.cells = W4 at r16 r17 k15 hHeld ⊢
          refine wpAnyH_ready (rs := [19]) (by kernel_rfl) (by simp) ?_
          refine AllReadyH.cons ((opAtS (opAtS (opAtS (opAtS (opAtS (opAtS (opAtS (opAtS (opAtS (opAtS (opAtS (opAtS (opAtS (opAtS (opAtS (opAtS (opAtS (opAtS (opAtS opAt0)))))))))))))))))))) (fun K hK => ?_) AllReadyH.nil
          rw [if_pos (by rfl)]
          refine wp_store_event e2 r16 ?_ ?_ ?_
          · rfl
          · rfl
          refine hK.out _ _ (below_stored hHeld (by omega) _) (fun hHeld => ?_)
          clear hK K
          try simp only [Act.put]
          have k16 := CapAt.stored r16 e2
          replace r17 := r17.beside (b := wc.heap.size) (by omega) e2.cells
          replace k15 := k15.beside (b := wc.heap.size) (by omega) e2.cells
          generalize World.setCells W4 wc.heap.size 0 e2.cells = W5 at r17 k15 k16 hHeld ⊢
          refine wpAnyH_ready (rs := [20]) (by kernel_rfl) (by simp) ?_
          refine AllReadyH.cons ((opAtS (opAtS (opAtS (opAtS (opAtS (opAtS (opAtS (opAtS (opAtS (opAtS (opAtS (opAtS (opAtS (opAtS (opAtS (opAtS (opAtS (opAtS (opAtS (opAtS opAt0))))))))))))))))))))) (fun K hK => ?_) AllReadyH.nil
          rw [if_pos (by rfl)]
          refine wp_store_event e3 r17 ?_ ?_ ?_
          · rfl
          · rfl
          refine hK.out _ _ (below_stored hHeld (by omega) _) (fun hHeld => ?_)
          clear hK K
          try simp only [Act.put]
          have k17 := CapAt.stored r17 e3
          replace k15 := k15.beside (b := (wc.heap.size + 1)) (by omega) e3.cells
          replace k16 := k16.beside (b := (wc.heap.size + 1)) (by omega) e3.cells
          generalize World.setCells W5 (wc.heap.size + 1) 0 e3.cells = W6 at k15 k16 k17 hHeld ⊢
          refine wpAnyH_done (by kernel_rfl) ?_ _
          refine NoPanic.normal ?_
          have hfin := Lib.hid (MidAt.mk (HO.out.box.on hHeld) k15 k16 k17)
          clear k15 k16 k17
          go_wp2_with fail
          go_meet
          exact ⟨_, _, _, rfl, rfl, rfl, hfin⟩
        refine AllReadyH.cons ((opAtS (opAtS (opAtS (opAtS (opAtS (opAtS (opAtS (opAtS (opAtS (opAtS (opAtS (opAtS (opAtS (opAtS (opAtS (opAtS (opAtS opAt0)))))))))))))))))) (fun K hK => ?_) AllReadyH.nil
        go_simp
        refine hK.out _ _ (hHeld.alloc (Below.size hHeld) _) (fun hHeld => ?_)
        clear hK K
        try simp only [Act.put, List.setIfInBounds_toArray, List.set_cons_zero, List.set_cons_succ]
        refine wpAnyH_ready (rs := [15, 16]) (by kernel_rfl) (by simp) ?_
        refine AllReadyH.cons ((opAtS (opAtS (opAtS (opAtS (opAtS (opAtS (opAtS (opAtS (opAtS (opAtS (opAtS (opAtS (opAtS (opAtS (opAtS opAt0)))))))))))))))) (fun K hK => ?_) ?_
        · go_simp
          refine hK.out _ _ (hHeld.alloc (Below.size hHeld) _) (fun hHeld => ?_)
          clear hK K
          try simp only [Act.put, List.setIfInBounds_toArray, List.set_cons_zero, List.set_cons_succ]
          refine wpAnyH_ready (rs := [16]) (by kernel_rfl) (by simp) ?_
          refine AllReadyH.cons ((opAtS (opAtS (opAtS (opAtS (opAtS (opAtS (opAtS (opAtS (opAtS (opAtS (opAtS (opAtS (opAtS (opAtS (opAtS (opAtS opAt0))))))))))))))))) (fun K hK => ?_) AllReadyH.nil
          go_simp
          refine hK.out _ _ (hHeld.alloc (Below.size hHeld) _) (fun hHeld => ?_)
          clear hK K
          try simp only [Act.put, List.setIfInBounds_toArray, List.set_cons_zero, List.set_cons_succ]
          obtain ⟨r17, r15, r16⟩ := HR3.out
          generalize World.drew (World.alloc (World.alloc (World.alloc wc _) _) _) = W3 at r17 r15 r16 hHeld ⊢
          refine wpAnyH_ready (rs := [18]) (by kernel_rfl) (by simp) ?_
          refine AllReadyH.cons ((opAtS (opAtS (opAtS (opAtS (opAtS (opAtS (opAtS (opAtS (opAtS (opAtS (opAtS (opAtS (opAtS (opAtS (opAtS (opAtS (opAtS (opAtS opAt0))))))))))))))))))) (fun K hK => ?_) AllReadyH.nil
          rw [if_pos (by rfl)]
          refine wp_store_event e1 r15 ?_ ?_ ?_
          · rfl
          · rfl
          refine hK.out _ _ (below_stored hHeld (by omega) _) (fun hHeld => ?_)
          clear hK K
          try simp only [Act.put]
          have k15 := CapAt.stored r15 e1
          replace r16 := r16.beside (b := (wc.heap.size + 1)) (by omega) e1.cells
          replace r17 := r17.beside (b := (wc.heap.size + 1)) (by omega) e1.cells
          generalize World.setCells W3 (wc.heap.size + 1) 0 e1.cells = W4 at r16 r17 k15 hHeld ⊢
          refine wpAnyH_ready (rs := [19]) (by kernel_rfl) (by simp) ?_
          refine AllReadyH.cons ((opAtS (opAtS (opAtS (opAtS (opAtS (opAtS (opAtS (opAtS (opAtS (opAtS (opAtS (opAtS (opAtS (opAtS (opAtS (opAtS (opAtS (opAtS (opAtS opAt0)))))))))))))))))))) (fun K hK => ?_) AllReadyH.nil
          rw [if_pos (by rfl)]
          refine wp_store_event e2 r16 ?_ ?_ ?_
          · rfl
          · rfl
          refine hK.out _ _ (below_stored hHeld (by omega) _) (fun hHeld => ?_)
          clear hK K
          try simp only [Act.put]
          have k16 := CapAt.stored r16 e2
          replace r17 := r17.beside (b := (wc.heap.size + 1 + 1)) (by omega) e2.cells
          replace k15 := k15.beside (b := (wc.heap.size + 1 + 1)) (by omega) e2.cells
          generalize World.setCells W4 (wc.heap.size + 1 + 1) 0 e2.cells = W5 at r17 k15 k16 hHeld ⊢
          refine wpAnyH_ready (rs := [20]) (by kernel_rfl) (by simp) ?_
          refine AllReadyH.cons ((opAtS (opAtS (opAtS (opAtS (opAtS (opAtS (opAtS (opAtS (opAtS (opAtS (opAtS (opAtS (opAtS (opAtS (opAtS (opAtS (opAtS (opAtS (opAtS (opAtS opAt0))))))))))))))))))))) (fun K hK => ?_) AllReadyH.nil
          rw [if_pos (by rfl)]
          refine wp_store_event e3 r17 ?_ ?_ ?_
          · rfl
          · rfl
          refine hK.out _ _ (below_stored hHeld (by omega) _) (fun hHeld => ?_)
          clear hK K
          try simp only [Act.put]
          have k17 := CapAt.stored r17 e3
          replace k15 := k15.beside (b := wc.heap.size) (by omega) e3.cells
          replace k16 := k16.beside (b := wc.heap.size) (by omega) e3.cells
          generalize World.setCells W5 wc.heap.size 0 e3.cells = W6 at k15 k16 k17 hHeld ⊢
          refine wpAnyH_done (by kernel_rfl) ?_ _
          refine NoPanic.normal ?_
          have hfin := Lib.hid (MidAt.mk (HO.out.box.on hHeld) k15 k16 k17)
          clear k15 k16 k17
          go_wp2_with fail
          go_meet
          exact ⟨_, _, _, rfl, rfl, rfl, hfin⟩
        refine AllReadyH.cons ((opAtS (opAtS (opAtS (opAtS (opAtS (opAtS (opAtS (opAtS (opAtS (opAtS (opAtS (opAtS (opAtS (opAtS (opAtS (opAtS opAt0))))))))))))))))) (fun K hK => ?_) AllReadyH.nil
        go_simp
        refine hK.out _ _ (hHeld.alloc (Below.size hHeld) _) (fun hHeld => ?_)
        clear hK K
        try simp only [Act.put, List.setIfInBounds_toArray, List.set_cons_zero, List.set_cons_succ]
        refine wpAnyH_ready (rs := [15]) (by kernel_rfl) (by simp) ?_
        refine AllReadyH.cons ((opAtS (opAtS (opAtS (opAtS (opAtS (opAtS (opAtS (opAtS (opAtS (opAtS (opAtS (opAtS (opAtS (opAtS (opAtS opAt0)))))))))))))))) (fun K hK => ?_) AllReadyH.nil
        go_simp
        refine hK.out _ _ (hHeld.alloc (Below.size hHeld) _) (fun hHeld => ?_)
        clear hK K
        try simp only [Act.put, List.setIfInBounds_toArray, List.set_cons_zero, List.set_cons_succ]
        obtain ⟨r17, r16, r15⟩ := HR3.out
        generalize World.drew (World.alloc (World.alloc (World.alloc wc _) _) _) = W3 at r17 r16 r15 hHeld ⊢
        refine wpAnyH_ready (rs := [18]) (by kernel_rfl) (by simp) ?_
        refine AllReadyH.cons ((opAtS (opAtS (opAtS (opAtS (opAtS (opAtS (opAtS (opAtS (opAtS (opAtS (opAtS (opAtS (opAtS (opAtS (opAtS (opAtS (opAtS (opAtS opAt0))))))))))))))))))) (fun K hK => ?_) AllReadyH.nil
        rw [if_pos (by rfl)]
        refine wp_store_event e1 r15 ?_ ?_ ?_
        · rfl
        · rfl
        refine hK.out _ _ (below_stored hHeld (by omega) _) (fun hHeld => ?_)
        clear hK K
        try simp only [Act.put]
        have k15 := CapAt.stored r15 e1
        replace r16 := r16.beside (b := (wc.heap.size + 1 + 1)) (by omega) e1.cells
        replace r17 := r17.beside (b := (wc.heap.size + 1 + 1)) (by omega) e1.cells
        generalize World.setCells W3 (wc.heap.size + 1 + 1) 0 e1.cells = W4 at r16 r17 k15 hHeld ⊢
        refine wpAnyH_ready (rs := [19]) (by kernel_rfl) (by simp) ?_
        refine AllReadyH.cons ((opAtS (opAtS (opAtS (opAtS (opAtS (opAtS (opAtS (opAtS (opAtS (opAtS (opAtS (opAtS (opAtS (opAtS (opAtS (opAtS (opAtS (opAtS (opAtS opAt0)))))))))))))))))))) (fun K hK => ?_) AllReadyH.nil
        rw [if_pos (by rfl)]
        refine wp_store_event e2 r16 ?_ ?_ ?_
        · rfl
        · rfl
        refine hK.out _ _ (below_stored hHeld (by omega) _) (fun hHeld => ?_)
        clear hK K
        try simp only [Act.put]
        have k16 := CapAt.stored r16 e2
        replace r17 := r17.beside (b := (wc.heap.size + 1)) (by omega) e2.cells
        replace k15 := k15.beside (b := (wc.heap.size + 1)) (by omega) e2.cells
        generalize World.setCells W4 (wc.heap.size + 1) 0 e2.cells = W5 at r17 k15 k16 hHeld ⊢
        refine wpAnyH_ready (rs := [20]) (by kernel_rfl) (by simp) ?_
        refine AllReadyH.cons ((opAtS (opAtS (opAtS (opAtS (opAtS (opAtS (opAtS (opAtS (opAtS (opAtS (opAtS (opAtS (opAtS (opAtS (opAtS (opAtS (opAtS (opAtS (opAtS (opAtS opAt0))))))))))))))))))))) (fun K hK => ?_) AllReadyH.nil
        rw [if_pos (by rfl)]
        refine wp_store_event e3 r17 ?_ ?_ ?_
        · rfl
        · rfl
        refine hK.out _ _ (below_stored hHeld (by omega) _) (fun hHeld => ?_)
        clear hK K
        try simp only [Act.put]
        have k17 := CapAt.stored r17 e3
        replace k15 := k15.beside (b := wc.heap.size) (by omega) e3.cells
        replace k16 := k16.beside (b := wc.heap.size) (by omega) e3.cells
        generalize World.setCells W5 wc.heap.size 0 e3.cells = W6 at k15 k16 k17 hHeld ⊢
        refine wpAnyH_done (by kernel_rfl) ?_ _
        refine NoPanic.normal ?_
        have hfin := Lib.hid (MidAt.mk (HO.out.box.on hHeld) k15 k16 k17)
        clear k15 k16 k17
        go_wp2_with fail
        go_meet
        exact ⟨_, _, _, rfl, rfl, rfl, hfin⟩
      case rest =>
        obtain ⟨g1, g2, g3, rfl, rfl, rfl, HM⟩ := hcut
        obtain ⟨oaa, hord⟩ := Hi.order HCK.out HX1.out
        obtain ⟨o1, o2, o3, -⟩ := hord HX2.out
        replace o2 := @o2 e3
        have K11 := fun (W : World) => history_Before_any e1 e1 W
        rw [oaa] at K11
        have K12 := fun (W : World) => history_Before_any e1 e2 W
        have K21 := fun (W : World) => history_Before_any e2 e1 W
        have K23 := fun (W : World) => history_Before_any e2 e3 W
        have K13 := fun (W : World) => history_Before_any e1 e3 W
        replace K11 := Lib.hid K11
        replace K12 := Lib.hid K12
        replace K21 := Lib.hid K21
        replace K23 := Lib.hid K23
        replace K13 := Lib.hid K13
        have O3 := Lib.hid o3
        clear oaa hord o3
        go_upto_region 6 with fail
        go_cut [90] (fun v W => v = .bool false ∧ Hid (MidAt w W [.slice (some ⟨b, off, none⟩) r.events.length ec, .slice pa pn pc] g1 g2 g3 e1 e2 e3))
        case first =>
          clear O3
          cases h12 : Hi.before e1 e2 with
          | false =>
            simp only [h12] at K12
            clear h12 o1 o2
            go_wp2_with (first
              | (refine wpList_load_event e1 HM.out.c1.sixteen ?_ ?_ ?_; (next => rfl); (next => rfl))
              | (refine wpList_load_event e2 HM.out.c2.sixteen ?_ ?_ ?_; (next => rfl); (next => rfl))
              | (refine wpList_load_event e3 HM.out.c3.sixteen ?_ ?_ ?_; (next => rfl); (next => rfl))
              | (go_at_call 19; (with_reducible refine (K11.out _).mono ?_); rintro e w' ⟨rfl, hb⟩; replace HM := Lib.hid (HM.out.on hb); clear hb)
              | (go_at_call 19; (with_reducible refine (K12.out _).mono ?_); rintro e w' ⟨rfl, hb⟩; replace HM := Lib.hid (HM.out.on hb); clear hb))
            go_meet
            exact ⟨rfl, HM⟩
          | true =>
            have h21 : Hi.before e2 e1 = false := by simpa [h12] using o1
            cases h23 : Hi.before e2 e3 with
            | false =>
              simp only [h12] at K12
              simp only [h21] at K21
              simp only [h23] at K23
              clear h12 h21 h23 o1 o2
              go_wp2_with (first
              | (refine wpList_load_event e1 HM.out.c1.sixteen ?_ ?_ ?_; (next => rfl); (next => rfl))
              | (refine wpList_load_event e2 HM.out.c2.sixteen ?_ ?_ ?_; (next => rfl); (next => rfl))
              | (refine wpList_load_event e3 HM.out.c3.sixteen ?_ ?_ ?_; (next => rfl); (next => rfl))
              | (go_at_call 19; (with_reducible refine (K11.out _).mono ?_); rintro e w' ⟨rfl, hb⟩; replace HM := Lib.hid (HM.out.on hb); clear hb)
              | (go_at_call 19; (with_reducible refine (K12.out _).mono ?_); rintro e w' ⟨rfl, hb⟩; replace HM := Lib.hid (HM.out.on hb); clear hb)
              | (go_at_call 19; (with_reducible refine (K21.out _).mono ?_); rintro e w' ⟨rfl, hb⟩; replace HM := Lib.hid (HM.out.on hb); clear hb)
              | (go_at_call 19; (with_reducible refine (K23.out _).mono ?_); rintro e w' ⟨rfl, hb⟩; replace HM := Lib.hid (HM.out.on hb); clear hb))
              go_meet
              exact ⟨rfl, HM⟩
            | true =>
              have h13 : Hi.before e1 e3 = true := by simpa [h12, h23] using o2
              simp only [h12] at K12
              simp only [h21] at K21
              simp only [h23] at K23
              simp only [h13] at K13
              clear h12 h21 h23 h13 o1 o2
              go_wp2_with (first
              | (refine wpList_load_event e1 HM.out.c1.sixteen ?_ ?_ ?_; (next => rfl); (next => rfl))
              | (refine wpList_load_event e2 HM.out.c2.sixteen ?_ ?_ ?_; (next => rfl); (next => rfl))
              | (refine wpList_load_event e3 HM.out.c3.sixteen ?_ ?_ ?_; (next => rfl); (next => rfl))
              | (go_at_call 19; (with_reducible refine (K11.out _).mono ?_); rintro e w' ⟨rfl, hb⟩; replace HM := Lib.hid (HM.out.on hb); clear hb)
              | (go_at_call 19; (with_reducible refine (K12.out _).mono ?_); rintro e w' ⟨rfl, hb⟩; replace HM := Lib.hid (HM.out.on hb); clear hb)
              | (go_at_call 19; (with_reducible refine (K21.out _).mono ?_); rintro e w' ⟨rfl, hb⟩; replace HM := Lib.hid (HM.out.on hb); clear hb)
              | (go_at_call 19; (with_reducible refine (K23.out _).mono ?_); rintro e w' ⟨rfl, hb⟩; replace HM := Lib.hid (HM.out.on hb); clear hb)
              | (go_at_call 19; (with_reducible refine (K13.out _).mono ?_); rintro e w' ⟨rfl, hb⟩; replace HM := Lib.hid (HM.out.on hb); clear hb))
              go_meet
              exact ⟨rfl, HM⟩
        case rest =>
        obtain ⟨rfl, HM2⟩ := hcut
        replace HM := HM2
        clear HM2 o1 o2
        go_upto_region 8 with fail
        go_cut [106] (fun v W => v = .bool false ∧ Hid (MidAt w W [.slice (some ⟨b, off, none⟩) r.events.length ec, .slice pa pn pc] g1 g2 g3 e1 e2 e3))
        case first =>
          have m1 := HM.out.c1.cell 0 _ rfl
          have m2 := HM.out.c2.cell 0 _ rfl
          by_cases hpid : e1.pid = e2.pid
          · have hpb : (e1.pid == e2.pid) = true := by simp [hpid]
            by_cases hxy : x < y
            · have h12 := O3.out hpid hxy
              simp only [h12] at K12
              have hxz : (x : Int) < (y : Int) := by omega
              clear h12 hpid hxy
              go_wp2_with (first
              | (refine wpList_load_event e1 HM.out.c1.sixteen ?_ ?_ ?_; (next => rfl); (next => rfl))
              | (refine wpList_load_event e2 HM.out.c2.sixteen ?_ ?_ ?_; (next => rfl); (next => rfl))
              | (refine wpList_load_event e3 HM.out.c3.sixteen ?_ ?_ ?_; (next => rfl); (next => rfl))
              | (go_at_call 19; (with_reducible refine (K12.out _).mono ?_); rintro e w' ⟨rfl, hb⟩; replace HM := Lib.hid (HM.out.on hb); clear hb))
              go_meet
              exact ⟨rfl, HM⟩
            · have hxz : ¬ (x : Int) < (y : Int) := by omega
              clear hpid hxy
              go_wp2_with (first
              | (refine wpList_load_event e1 HM.out.c1.sixteen ?_ ?_ ?_; (next => rfl); (next => rfl))
              | (refine wpList_load_event e2 HM.out.c2.sixteen ?_ ?_ ?_; (next => rfl); (next => rfl))
              | (refine wpList_load_event e3 HM.out.c3.sixteen ?_ ?_ ?_; (next => rfl); (next => rfl))
              | (go_at_call 19; (with_reducible refine (K12.out _).mono ?_); rintro e w' ⟨rfl, hb⟩; replace HM := Lib.hid (HM.out.on hb); clear hb))
              go_meet
              exact ⟨rfl, HM⟩
          · have hpb : (e1.pid == e2.pid) = false := by simp [hpid]
            clear hpid
            go_wp2_with (first
              | (refine wpList_load_event e1 HM.out.c1.sixteen ?_ ?_ ?_; (next => rfl); (next => rfl))
              | (refine wpList_load_event e2 HM.out.c2.sixteen ?_ ?_ ?_; (next => rfl); (next => rfl))
              | (refine wpList_load_event e3 HM.out.c3.sixteen ?_ ?_ ?_; (next => rfl); (next => rfl))
              | (go_at_call 19; (with_reducible refine (K12.out _).mono ?_); rintro e w' ⟨rfl, hb⟩; replace HM := Lib.hid (HM.out.on hb); clear hb))
            go_meet
            exact ⟨rfl, HM⟩
        case rest =>
        obtain ⟨rfl, HM2⟩ := hcut
        replace HM := HM2
        clear HM2 O3 K11 K12 K21 K23 K13
        have HLEN := Lib.hid ((HFW.out rfl).1)
        have hzl := HXYZ.out.2.2
        have HAH := Lib.hid (fun (W : World) (hW : Below w.heap.size w W) => ((history_Ahead_any (some ⟨b, off, none⟩) pa r.events.length ec pn pc (z : Int) r W (kept_events.on hW H.out) (by have := HLEN.out; omega)).mono (fun e w' ⟨v, q1, q2, q3⟩ => by
          obtain ⟨a, c, rfl⟩ := own_form q2
          exact ⟨a, c, q1, nums_of_own q2, q3⟩) : Calls Tryd.prog 20 #[.agg #[.slice (some ⟨b, off, none⟩) r.events.length ec, .slice pa pn pc], .int .i64 (z : Int)] W fun e w' => ∃ a c, e = .returned (.slice a (Hi.aheadD r (z : Int)).length c) ∧ RNums w' w'.heap.size [.slice a (Hi.aheadD r (z : Int)).length c] (Hi.aheadD r (z : Int)) ∧ Below W.heap.size W w'))
        have HMEM := Lib.hid (show ∀ v ∈ Hi.aheadD r (z : Int), ∃ m e, v = ((m : Nat) : Int) ∧ r.events[m]? = some e ∧ Hi.before e e3 = true ∧ m < z by
          intro v hv
          rw [aheadD_at HX3.out] at hv
          obtain ⟨m, e, h1, h2, h3⟩ := Hi.ahead_mem e3 r.events 0 v hv
          exact ⟨m, e, by rw [h1]; simp, h2, h3, ((Hi.order HCK.out h2).2 HX3.out).2.2.2 h3⟩)
        obtain ⟨l, hl⟩ : ∃ l, Hi.aheadD r (z : Int) = l := ⟨_, rfl⟩
        rw [hl] at HAH HMEM
        clear hl
        have b0 := HM.out.box.cell 0 _ rfl
        have b1 := HM.out.box.cell 1 _ rfl
        go_upto_region 12 with (go_at_call 20; (refine (HAH.out _ HM.out.box.below).mono ?_); rintro e w' ⟨la, lc, rfl, hnum, hb⟩; replace HM := Lib.hid (HM.out.on hb); have HNUM := Lib.hid hnum; clear hb hnum b0 b1)
        go_loopw [13] (fun i wr => ∃ k : Nat, k ≤ l.length ∧ i = .int .i64 k ∧ Hid (MidAt w wr [.slice (some ⟨b, off, none⟩) r.events.length ec, .slice pa pn pc] g1 g2 g3 e1 e2 e3) ∧ RNums wr wr.heap.size [.slice la l.length lc] l) (fun i _ => l.length - (intOf i).toNat)
        case atStart => exact ⟨0, by omega, rfl, HM, HNUM.out⟩
        case round =>
          obtain ⟨k, hk, rfl, HM3, hnum⟩ := hrel
          replace HM := HM3
          clear HM3
          obtain ⟨-, n1, n2, -, hnv⟩ := nums_open hnum
          rw [maxLen_val] at n2
          have HNM := Lib.hid hnum
          clear hnum
          by_cases hlt : k < l.length
          · obtain ⟨v, hv⟩ := get_at hlt
            obtain ⟨lb, lo, rfl, hlb, hlc⟩ := hnv (by omega)
            have C0 := Lib.hid (hlc k v hv)
            obtain ⟨m, e, rfl, hm, hbf, hmz⟩ := HMEM.out v (List.mem_of_getElem? hv)
            have hml : m < r.events.length := by omega
            obtain ⟨-, -, -, -, hev⟩ := events_open (kept_events.on HM.out.box.below H.out)
            obtain ⟨b', off', he, hb, hc⟩ := hev (by omega)
            injection he with he
            injection he with q1 q2 q3
            subst q1 q2
            have HE := Lib.hid (hc m e hm).2
            have HBE := Lib.hid (fun (W : World) => (by have h := history_Before_any e e3 W; rw [hbf] at h; exact h : Calls Tryd.prog 19 #[e.agg, e3.agg] W fun e w' => e = .returned (.bool true) ∧ Below W.heap.size W w'))
            have kz : (k : Int) < l.length := by omega
            have mz : (m : Int) < r.events.length := by omega
            have mz0 : ¬ (m : Int) < 0 := by omega
            have mzz : ¬ (z : Int) ≤ (m : Int) := by omega
            clear hlt hnv hlc hv hev hc hm hbf hmz hml
            go_upto_region 14 with fail
            have f0 := fun x_ : Ext wr.heap.size wr => (HM.out.box.on x_.b).cell 0 _ rfl
            have f1 := fun x_ : Ext wr.heap.size wr => (x_.b.cell (p := ⟨lb, lo + k, none⟩) hlb).trans C0.out
            have F2 := Lib.hid (fun (x_ : Ext wr.heap.size wr) (j : Nat) (hj : j < 16) => (x_.b.cell (p := ⟨b, off + m * 16 + j, none⟩) hb).trans (HE.out j hj))
            have F3 := Lib.hid (fun x_ : Ext wr.heap.size wr => (HM.out.c3.on x_.b).sixteen)
            refine wp_region_bel wr.heap.size (by kernel_rfl) (by kernel_rfl) ?_
            repeat (first
              | (refine wpQuiet_load_event e F2.out ?_ ?_ ?_; (next => rfl); (next => rfl); simp only [Act.put, List.setIfInBounds_toArray, List.set_cons_zero, List.set_cons_succ])
              | (refine wpQuiet_load_event e3 F3.out ?_ ?_ ?_; (next => rfl); (next => rfl); simp only [Act.put, List.setIfInBounds_toArray, List.set_cons_zero, List.set_cons_succ])
              | (go_big_quiet_step ((go_at_call 19; exact Calls.bel_of (Nat.le_refl _) (HBE.out _)))))
            refine wpQuiet_nil ?_
            intro x_
            have HB2 := Lib.hid x_.b
            generalize x_.w = wx at HB2 ⊢
            clear f0 f1
            replace HM := Lib.hid (HM.out.on HB2.out)
            replace HNM := Lib.hid (kept_nums.on HB2.out HNM.out)
            go_wp2_with fail
            go_roundw
            case rel => exact ⟨k + 1, by omega, by go_num, HM, HNM.out⟩
            case measure => simp [intOf]; omega
          · obtain rfl : k = l.length := by omega
            clear hnv
            go_wp2_with (go_at_call 18; refine (HAW.out _ HM.out.box.below).mono ?_; rintro e w5 ⟨rfl, hb5⟩; replace HM := Lib.hid (HM.out.on hb5); clear hb5)
            go_ret
            exact ⟨rfl, HM.out.box.below⟩
end Go.Proofs.YtlniiaopindjnaaDoor
