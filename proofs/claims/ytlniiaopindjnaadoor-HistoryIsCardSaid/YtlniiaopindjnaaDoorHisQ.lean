/-
  Layer 35: how often the power failed: the program's Powers and the document's, walked.
-/
import Derived.Test.YtlniiaopindjnaaDoorHisI
namespace Go.Proofs.YtlniiaopindjnaaDoor
set_option linter.unusedVariables false
open Go.RowKit

theorem count_at {p : Int → Bool} {xs : List Int} {i : Nat} {x : Int} (h : xs[i]? = some x) : (xs.take (i + 1)).countP p = (xs.take i).countP p + (if p x then 1 else 0) := by
  rw [take_at h, List.countP_append]
  simp [List.countP_cons]
theorem count_le {p : Int → Bool} (xs : List Int) (i : Nat) : (xs.take i).countP p ≤ i := by
  refine Nat.le_trans (List.countP_le_length) ?_
  rw [List.length_take]
  omega
theorem powersD_at {r : ReportD} {m : Nat} {c : EventD} (h : r.events[m]? = some c) : Hi.powersD r (m : Int) = r.powers.countP (fun p => decide (p < c.begin_)) := by
  unfold Hi.powersD
  rw [if_neg (by omega), Int.toNat_natCast, h]
theorem powersD_out {r : ReportD} {k : Int} (h : k < 0 ∨ (r.events.length : Int) ≤ k) : Hi.powersD r k = 0 := by
  unfold Hi.powersD
  by_cases h0 : k < 0
  · rw [if_pos h0]
  · rw [if_neg h0, List.getElem?_eq_none (by omega)]
theorem ret_int {k : IntKind} {a b : Int} (h : a = b) : Ending.returned (.int k a) = .returned (.int k b) := by rw [h]
set_option maxHeartbeats 4000000 in
set_option maxRecDepth 100000 in
theorem history_Powers_any (ea pa : Option Addr) (en ec pn pc : Nat) (k : Int) (r : ReportD) (w : World) (h : REvents w w.heap.size [.slice ea en ec] r.events) (hp : RInts w w.heap.size [.slice pa pn pc] r.powers) :
    Calls Tryd.prog 25 #[.agg #[.slice ea en ec, .slice pa pn pc], .int .i64 k] w fun e w' => e = .returned (.int .i64 (Hi.powersD r k)) ∧ Below w.heap.size w w' := by
  obtain ⟨hn, hm1, hm2, _, _⟩ := events_open h
  obtain ⟨hn2, p1, p2, _, _⟩ := ints_open hp
  subst hn hn2
  rw [maxLen_val] at hm2 p2
  have H := Lib.hid h
  have HP := Lib.hid hp
  have BX := Lib.hid (BoxedAt.alloc w [.slice ea r.events.length ec, .slice pa r.powers.length pc] 34)
  clear h hp
  by_cases h0 : k < 0
  · have HN := Lib.hid (powersD_out (r := r) (.inl h0))
    go_enter Tryd.func25, Tryd.ntmps25
    go_wp2_with fail
    go_ret
    exact ⟨ret_int (by rw [HN.out]; rfl), BX.out.below⟩
  by_cases h1 : (r.events.length : Int) ≤ k
  · have HN := Lib.hid (powersD_out (r := r) (.inr h1))
    go_enter Tryd.func25, Tryd.ntmps25
    go_wp2_with fail
    go_ret
    exact ⟨ret_int (by rw [HN.out]; rfl), BX.out.below⟩
  · skip
    obtain ⟨m, rfl⟩ := Int.eq_ofNat_of_zero_le (show 0 ≤ k by omega)
    have hml : m < r.events.length := by omega
    obtain ⟨c, hc0⟩ := get_at hml
    have HD := Lib.hid (powersD_at hc0)
    have HC := Lib.hid hc0
    have mz : (m : Int) < r.events.length := by omega
    clear h0 h1 hc0
    go_enter Tryd.func25, Tryd.ntmps25
    go_wp2_with fail
    go_loopw [5, 20] (fun v i wr => ∃ (j : Nat), j ≤ r.powers.length ∧ i = .int .i64 j ∧ v = .int .i64 ((r.powers.take j).countP (fun p => decide (p < c.begin_)) : Nat) ∧ BoxedAt w wr [.slice ea r.events.length ec, .slice pa r.powers.length pc]) (fun _ i _ => r.powers.length - (intOf i).toNat)
    case atStart => exact ⟨0, by omega, rfl, by simp, BX.out⟩
    case round =>
      obtain ⟨j, hj, rfl, rfl, hbox⟩ := hrel
      have HBX := Lib.hid hbox
      have b0 := hbox.cell 0 _ rfl
      have b1 := hbox.cell 1 _ rfl
      have bs := hbox.size
      have hcl := count_le (p := fun p => decide (p < c.begin_)) r.powers j
      by_cases hlt : j < r.powers.length
      · obtain ⟨x, hx⟩ := get_at hlt
        obtain ⟨_, _, _, _, hev⟩ := events_open (kept_events.on hbox.below H.out)
        obtain ⟨b, off, rfl, hb, hc⟩ := hev (by omega)
        obtain ⟨_, hcell2⟩ := hc m c HC.out
        have c9 : wr.cell? ⟨b, off + m * 16 + 9, none⟩ = some (.int .i64 c.begin_) := hcell2 9 (by omega)
        obtain ⟨_, _, _, _, hpv⟩ := ints_open (kept_ints.on hbox.below HP.out)
        obtain ⟨b2, off2, rfl, hb2, hc2⟩ := hpv (by omega)
        obtain ⟨_, d0⟩ := hc2 j x hx
        have HS := Lib.hid (count_at (p := fun p => decide (p < c.begin_)) hx)
        have jz : (j : Int) < r.powers.length := by omega
        clear hx hbox hcell2 hc hev hc2 hpv
        generalize (r.powers.take j).countP (fun p => decide (p < c.begin_)) = q at hcl HS ⊢
    
        by_cases hbf : x < c.begin_
        · have HS2 := Lib.hid (HS.out.trans (by simp [hbf] : _ = q + 1))
          go_wp2_with fail
          go_roundw
          case rel => exact ⟨j + 1, by omega, by go_num, by rw [HS2.out]; go_num, HBX.out⟩
          case measure => simp [intOf]; omega
        · have HS2 := Lib.hid (HS.out.trans (by simp [hbf] : _ = q))
          go_wp2_with fail
          go_roundw
          case rel => exact ⟨j + 1, by omega, by go_num, by rw [HS2.out], HBX.out⟩
          case measure => simp [intOf]; omega
      · obtain rfl : j = r.powers.length := by omega
        have HN := Lib.hid (show ((r.powers.take r.powers.length).countP (fun p => decide (p < c.begin_)) : Nat) = Hi.powersD r (m : Int) by rw [HD.out, List.take_length])
        clear hbox hcl
        go_wp2_with fail
        go_ret
        exact ⟨ret_int (by rw [HN.out]), HBX.out.below⟩
    
set_option maxHeartbeats 4000000 in
set_option maxRecDepth 100000 in
theorem ref35_Powers_any (ea pa : Option Addr) (en ec pn pc : Nat) (k : Int) (r : ReportD) (w : World) (h : REvents w w.heap.size [.slice ea en ec] r.events) (hp : RInts w w.heap.size [.slice pa pn pc] r.powers) :
    Calls Tryd.prog 26 #[.agg #[.slice ea en ec, .slice pa pn pc], .int .i64 k] w fun e w' => e = .returned (.int .i64 (Hi.powersD r k)) ∧ Below w.heap.size w w' := by
  obtain ⟨hn, hm1, hm2, _, _⟩ := events_open h
  obtain ⟨hn2, p1, p2, _, _⟩ := ints_open hp
  subst hn hn2
  rw [maxLen_val] at hm2 p2
  have H := Lib.hid h
  have HP := Lib.hid hp
  have BX := Lib.hid (BoxedAt.alloc w [.slice ea r.events.length ec, .slice pa r.powers.length pc] 34)
  clear h hp
  by_cases h0 : k < 0
  · have HN := Lib.hid (powersD_out (r := r) (.inl h0))
    have kz : decide (0 ≤ k) = false := by simp; omega
    go_enter Tryd.func26, Tryd.ntmps26
    go_wp2_with fail
    go_loopw [5, 6] (fun v i wr => ∃ (j : Nat), j ≤ r.powers.length ∧ i = .int .i64 j ∧ v = .int .i64 0 ∧ BoxedAt w wr [.slice ea r.events.length ec, .slice pa r.powers.length pc]) (fun _ i _ => r.powers.length - (intOf i).toNat)
    case atStart => exact ⟨0, by omega, rfl, rfl, BX.out⟩
    case round =>
      obtain ⟨j, hj, rfl, rfl, hbox⟩ := hrel
      have HBX := Lib.hid hbox
      have b0 := hbox.cell 0 _ rfl
      have b1 := hbox.cell 1 _ rfl
      have bs := hbox.size
      clear hbox
      by_cases hlt : j < r.powers.length
      · go_upto_region 5 with fail
        have f0 := fun x_ : Ext wr.heap.size wr => (HBX.out.on x_.b).cell 0 _ rfl
        have f1 := fun x_ : Ext wr.heap.size wr => (HBX.out.on x_.b).cell 1 _ rfl
        refine wp_region_bel wr.heap.size (by kernel_rfl) (by kernel_rfl) ?_
        repeat (go_big_quiet_step (fail))
        refine wpQuiet_nil ?_
        intro x_
        have HB2 := Lib.hid x_.b
        generalize x_.w = wx at HB2 ⊢
        clear f0 f1 b0 b1
        replace HBX := Lib.hid (HBX.out.on HB2.out)
        go_wp2_with fail
        go_roundw
        case rel => exact ⟨j + 1, by omega, by go_num, rfl, HBX.out⟩
        case measure => simp [intOf]; omega
      · go_wp2_with fail
        go_ret
        exact ⟨ret_int (by rw [HN.out]; rfl), HBX.out.below⟩
  by_cases h1 : (r.events.length : Int) ≤ k
  · have HN := Lib.hid (powersD_out (r := r) (.inr h1))
    have kz : decide (0 ≤ k) = true := by simp; omega
    have kz0 : 0 ≤ k := by omega
    have kz2 : decide (k < (r.events.length : Int)) = false := by simp; omega
    go_enter Tryd.func26, Tryd.ntmps26
    go_wp2_with fail
    go_loopw [5, 6] (fun v i wr => ∃ (j : Nat), j ≤ r.powers.length ∧ i = .int .i64 j ∧ v = .int .i64 0 ∧ BoxedAt w wr [.slice ea r.events.length ec, .slice pa r.powers.length pc]) (fun _ i _ => r.powers.length - (intOf i).toNat)
    case atStart => exact ⟨0, by omega, rfl, rfl, BX.out⟩
    case round =>
      obtain ⟨j, hj, rfl, rfl, hbox⟩ := hrel
      have HBX := Lib.hid hbox
      have b0 := hbox.cell 0 _ rfl
      have b1 := hbox.cell 1 _ rfl
      have bs := hbox.size
      clear hbox
      by_cases hlt : j < r.powers.length
      · go_upto_region 5 with fail
        have f0 := fun x_ : Ext wr.heap.size wr => (HBX.out.on x_.b).cell 0 _ rfl
        have f1 := fun x_ : Ext wr.heap.size wr => (HBX.out.on x_.b).cell 1 _ rfl
        refine wp_region_bel wr.heap.size (by kernel_rfl) (by kernel_rfl) ?_
        repeat (go_big_quiet_step (fail))
        refine wpQuiet_nil ?_
        intro x_
        have HB2 := Lib.hid x_.b
        generalize x_.w = wx at HB2 ⊢
        clear f0 f1 b0 b1
        replace HBX := Lib.hid (HBX.out.on HB2.out)
        go_wp2_with fail
        go_roundw
        case rel => exact ⟨j + 1, by omega, by go_num, rfl, HBX.out⟩
        case measure => simp [intOf]; omega
      · go_wp2_with fail
        go_ret
        exact ⟨ret_int (by rw [HN.out]; rfl), HBX.out.below⟩
  · skip
    obtain ⟨m, rfl⟩ := Int.eq_ofNat_of_zero_le (show 0 ≤ k by omega)
    have hml : m < r.events.length := by omega
    obtain ⟨c, hc0⟩ := get_at hml
    have HD := Lib.hid (powersD_at hc0)
    have HC := Lib.hid hc0
    have mz : (m : Int) < r.events.length := by omega
    clear h0 h1 hc0
    go_enter Tryd.func26, Tryd.ntmps26
    go_wp2_with fail
    go_loopw [5, 6] (fun v i wr => ∃ (j : Nat), j ≤ r.powers.length ∧ i = .int .i64 j ∧ v = .int .i64 ((r.powers.take j).countP (fun p => decide (p < c.begin_)) : Nat) ∧ BoxedAt w wr [.slice ea r.events.length ec, .slice pa r.powers.length pc]) (fun _ i _ => r.powers.length - (intOf i).toNat)
    case atStart => exact ⟨0, by omega, rfl, by simp, BX.out⟩
    case round =>
      obtain ⟨j, hj, rfl, rfl, hbox⟩ := hrel
      have HBX := Lib.hid hbox
      have b0 := hbox.cell 0 _ rfl
      have b1 := hbox.cell 1 _ rfl
      have bs := hbox.size
      have hcl := count_le (p := fun p => decide (p < c.begin_)) r.powers j
      by_cases hlt : j < r.powers.length
      · obtain ⟨x, hx⟩ := get_at hlt
        obtain ⟨_, _, _, _, hev⟩ := events_open (kept_events.on hbox.below H.out)
        obtain ⟨b, off, rfl, hb, hc⟩ := hev (by omega)
        obtain ⟨_, hcell2⟩ := hc m c HC.out
        have c9 : wr.cell? ⟨b, off + m * 16 + 9, none⟩ = some (.int .i64 c.begin_) := hcell2 9 (by omega)
        obtain ⟨_, _, _, _, hpv⟩ := ints_open (kept_ints.on hbox.below HP.out)
        obtain ⟨b2, off2, rfl, hb2, hc2⟩ := hpv (by omega)
        obtain ⟨_, d0⟩ := hc2 j x hx
        have HS := Lib.hid (count_at (p := fun p => decide (p < c.begin_)) hx)
        have jz : (j : Int) < r.powers.length := by omega
        clear hx hbox hcell2 hc hev hc2 hpv
        generalize (r.powers.take j).countP (fun p => decide (p < c.begin_)) = q at hcl HS ⊢
        go_upto_region 5 with fail
        have C9 := Lib.hid c9
        have D0 := Lib.hid d0
        have f0 := fun x_ : Ext wr.heap.size wr => (HBX.out.on x_.b).cell 0 _ rfl
        have f1 := fun x_ : Ext wr.heap.size wr => (HBX.out.on x_.b).cell 1 _ rfl
        have f2 : ∀ x_ : Ext wr.heap.size wr, x_.w.cell? ⟨b, off + m * 16 + 9, none⟩ = some (.int .i64 c.begin_) := fun x_ => (x_.b.cell (p := ⟨b, off + m * 16 + 9, none⟩) hb).trans C9.out
        have f3 : ∀ x_ : Ext wr.heap.size wr, x_.w.cell? ⟨b2, off2 + j, none⟩ = some (.int .i64 x) := fun x_ => (x_.b.cell (p := ⟨b2, off2 + j, none⟩) hb2).trans D0.out
        clear c9 d0 b0 b1
        refine wp_region_bel wr.heap.size (by kernel_rfl) (by kernel_rfl) ?_
        repeat (go_big_quiet_step (fail))
        refine wpQuiet_nil ?_
        intro x_
        have HB2 := Lib.hid x_.b
        generalize x_.w = wx at HB2 ⊢
        clear f0 f1 f2 f3
        replace HBX := Lib.hid (HBX.out.on HB2.out)
        by_cases hbf : x < c.begin_
        · have HS2 := Lib.hid (HS.out.trans (by simp [hbf] : _ = q + 1))
          go_wp2_with fail
          go_roundw
          case rel => exact ⟨j + 1, by omega, by go_num, by rw [HS2.out]; go_num, HBX.out⟩
          case measure => simp [intOf]; omega
        · have HS2 := Lib.hid (HS.out.trans (by simp [hbf] : _ = q))
          go_wp2_with fail
          go_roundw
          case rel => exact ⟨j + 1, by omega, by go_num, by rw [HS2.out], HBX.out⟩
          case measure => simp [intOf]; omega
      · obtain rfl : j = r.powers.length := by omega
        have HN := Lib.hid (show ((r.powers.take r.powers.length).countP (fun p => decide (p < c.begin_)) : Nat) = Hi.powersD r (m : Int) by rw [HD.out, List.take_length])
        clear hbox hcl
        go_wp2_with fail
        go_ret
        exact ⟨ret_int (by rw [HN.out]), HBX.out.below⟩
    
end Go.Proofs.YtlniiaopindjnaaDoor
