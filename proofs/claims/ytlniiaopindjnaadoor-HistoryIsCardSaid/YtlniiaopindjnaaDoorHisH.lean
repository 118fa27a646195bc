/-
  Layer 35: the document's Ahead, walked.
-/
import Derived.Test.YtlniiaopindjnaaDoorHisG
namespace Go.Proofs.YtlniiaopindjnaaDoor
set_option linter.unusedVariables false
open Go.RowKit

set_option maxHeartbeats 4000000 in
set_option maxRecDepth 100000 in
theorem ref35_Ahead_any (ea pa : Option Addr) (en ec pn pc : Nat) (k : Int) (r : ReportD) (w : World) (h : REvents w w.heap.size [.slice ea en ec] r.events) (hl : r.events.length ≤ 1000000) :
    Calls Tryd.prog 24 #[.agg #[.slice ea en ec, .slice pa pn pc], .int .i64 k] w fun e w' => ∃ v, e = .returned v ∧ OwnInts w' w.heap.size v (Hi.aheadD r k) ∧ Below w.heap.size w w' := by
  obtain ⟨hn, hm1, hm2, _, _⟩ := events_open h
  subst hn
  rw [maxLen_val] at hm2
  have H := Lib.hid h
  have BX := Lib.hid (BoxedAt.alloc w [.slice ea r.events.length ec, .slice pa pn pc] 34)
  clear h
  by_cases h0 : k < 0
  · have HN := Lib.hid (aheadD_out (r := r) (.inl h0))
    go_enter Tryd.func24, Tryd.ntmps24
    go_wp2_with fail
    go_ret
    exact ⟨_, rfl, by rw [HN.out]; exact OwnInts.nil _ _ (by simp), BX.out.below⟩
  · by_cases h1 : (r.events.length : Int) ≤ k
    · have HN := Lib.hid (aheadD_out (r := r) (.inr h1))
      go_enter Tryd.func24, Tryd.ntmps24
      go_wp2_with fail
      go_ret
      exact ⟨_, rfl, by rw [HN.out]; exact OwnInts.nil _ _ (by simp), BX.out.below⟩
    · obtain ⟨m, rfl⟩ := Int.eq_ofNat_of_zero_le (show 0 ≤ k by omega)
      have hml : m < r.events.length := by omega
      obtain ⟨c, hc0⟩ := get_at hml
      have HD := Lib.hid (aheadD_at hc0)
      have HC := Lib.hid hc0
      clear h0 h1 hc0
      go_enter Tryd.func24, Tryd.ntmps24
      go_wp2_with fail
      go_loopw [5, 6] (fun v i wr => ∃ (j : Nat), j ≤ r.events.length ∧ i = .int .i64 j ∧ BoxedAt w wr [.slice ea r.events.length ec, .slice pa pn pc] ∧ OwnInts wr (w.heap.size + 1) v (Hi.ahead c 0 (r.events.take j))) (fun _ i _ => r.events.length - (intOf i).toNat)
      case atStart => exact ⟨0, by omega, rfl, BX.out, OwnInts.nil _ _ (by simp)⟩
      case round =>
        obtain ⟨j, hj, rfl, hbox, hown⟩ := hrel
        have HBX := Lib.hid hbox
        have HO := Lib.hid hown
        have b0 := hbox.cell 0 _ rfl
        have bs := hbox.size
        by_cases hlt : j < r.events.length
        · obtain ⟨x, hx⟩ := get_at hlt
          obtain ⟨_, _, _, _, hev⟩ := events_open (kept_events.on hbox.below H.out)
          obtain ⟨b, off, rfl, hb, hc⟩ := hev (by omega)
          obtain ⟨_, hcell⟩ := hc j x hx
          obtain ⟨_, hcell2⟩ := hc m c HC.out
          have CE := Lib.hid hcell
          have CC := Lib.hid hcell2
          have HX := Lib.hid hx
          have HS := Lib.hid (ahead_at (c := c) hx)
          have HLE := Lib.hid (takeAhead_le c r.events j)
          have jz : (j : Int) < r.events.length := by omega
          have mz : (m : Int) < r.events.length := by omega
          clear hx hbox hcell hcell2 hc hev hown
          go_upto_region 7 with fail
          have f0 := fun x_ : Ext wr.heap.size wr => (HBX.out.on x_.b).cell 0 _ rfl
          have ce := fun x_ : Ext wr.heap.size wr => event_cells (fun j' hj => (x_.b.cell (p := ⟨b, off + j * 16 + j', none⟩) hb).trans (CE.out j' hj))
          have g0 := fun x_ : Ext wr.heap.size wr => (ce x_).1
          have g1 := fun x_ : Ext wr.heap.size wr => (ce x_).2.1
          have g2 := fun x_ : Ext wr.heap.size wr => (ce x_).2.2.1
          have g3 := fun x_ : Ext wr.heap.size wr => (ce x_).2.2.2.1
          have g4 := fun x_ : Ext wr.heap.size wr => (ce x_).2.2.2.2.1
          have g5 := fun x_ : Ext wr.heap.size wr => (ce x_).2.2.2.2.2.1
          have g6 := fun x_ : Ext wr.heap.size wr => (ce x_).2.2.2.2.2.2.1
          have g7 := fun x_ : Ext wr.heap.size wr => (ce x_).2.2.2.2.2.2.2.1
          have g8 := fun x_ : Ext wr.heap.size wr => (ce x_).2.2.2.2.2.2.2.2.1
          have g9 := fun x_ : Ext wr.heap.size wr => (ce x_).2.2.2.2.2.2.2.2.2.1
          have g10 := fun x_ : Ext wr.heap.size wr => (ce x_).2.2.2.2.2.2.2.2.2.2.1
          have g11 := fun x_ : Ext wr.heap.size wr => (ce x_).2.2.2.2.2.2.2.2.2.2.2.1
          have g12 := fun x_ : Ext wr.heap.size wr => (ce x_).2.2.2.2.2.2.2.2.2.2.2.2.1
          have g13 := fun x_ : Ext wr.heap.size wr => (ce x_).2.2.2.2.2.2.2.2.2.2.2.2.2.1
          have g14 := fun x_ : Ext wr.heap.size wr => (ce x_).2.2.2.2.2.2.2.2.2.2.2.2.2.2.1
          have g15 := fun x_ : Ext wr.heap.size wr => (ce x_).2.2.2.2.2.2.2.2.2.2.2.2.2.2.2
          clear ce
          have ce := fun x_ : Ext wr.heap.size wr => event_cells (fun j' hj => (x_.b.cell (p := ⟨b, off + m * 16 + j', none⟩) hb).trans (CC.out j' hj))
          have d0 := fun x_ : Ext wr.heap.size wr => (ce x_).1
          have d1 := fun x_ : Ext wr.heap.size wr => (ce x_).2.1
          have d2 := fun x_ : Ext wr.heap.size wr => (ce x_).2.2.1
          have d3 := fun x_ : Ext wr.heap.size wr => (ce x_).2.2.2.1
          have d4 := fun x_ : Ext wr.heap.size wr => (ce x_).2.2.2.2.1
          have d5 := fun x_ : Ext wr.heap.size wr => (ce x_).2.2.2.2.2.1
          have d6 := fun x_ : Ext wr.heap.size wr => (ce x_).2.2.2.2.2.2.1
          have d7 := fun x_ : Ext wr.heap.size wr => (ce x_).2.2.2.2.2.2.2.1
          have d8 := fun x_ : Ext wr.heap.size wr => (ce x_).2.2.2.2.2.2.2.2.1
          have d9 := fun x_ : Ext wr.heap.size wr => (ce x_).2.2.2.2.2.2.2.2.2.1
          have d10 := fun x_ : Ext wr.heap.size wr => (ce x_).2.2.2.2.2.2.2.2.2.2.1
          have d11 := fun x_ : Ext wr.heap.size wr => (ce x_).2.2.2.2.2.2.2.2.2.2.2.1
          have d12 := fun x_ : Ext wr.heap.size wr => (ce x_).2.2.2.2.2.2.2.2.2.2.2.2.1
          have d13 := fun x_ : Ext wr.heap.size wr => (ce x_).2.2.2.2.2.2.2.2.2.2.2.2.2.1
          have d14 := fun x_ : Ext wr.heap.size wr => (ce x_).2.2.2.2.2.2.2.2.2.2.2.2.2.2.1
          have d15 := fun x_ : Ext wr.heap.size wr => (ce x_).2.2.2.2.2.2.2.2.2.2.2.2.2.2.2
          clear ce b0
          refine wp_region_bel wr.heap.size (by kernel_rfl) (by kernel_rfl) ?_
          repeat (go_big_quiet_step (first | (go_at_call 21; exact Calls.bel_of (Nat.le_refl _) (ref35_Before_any x c _))))
          refine wpQuiet_nil ?_
          intro x_
          have HB2 := Lib.hid x_.b
          generalize x_.w = wx at HB2 ⊢
          clear g0 g1 g2 g3 g4 g5 g6 g7 g8 g9 g10 g11 g12 g13 g14 g15 d0 d1 d2 d3 d4 d5 d6 d7 d8 d9 d10 d11 d12 d13 d14 d15 f0
          replace HO := Lib.hid (HO.out.on HB2.out)
          replace HBX := Lib.hid (HBX.out.on HB2.out)
          cases hbf : Hi.before x c with
          | true =>
            have HS2 := Lib.hid (HS.out.trans (by rw [hbf]; rfl : _ = Hi.ahead c 0 (r.events.take j) ++ [(j : Int)]))
            go_wp2_with (at_builtin; (refine wpList_append_int rfl _ _ rfl (w.heap.size + 1) _ _ rfl HO.out (j : Int) rfl (by have := HLE.out; omega) ?_; intro v3 w3 ho3 hb3; have HO3 := Lib.hid ho3; have HBX3 := Lib.hid (HBX.out.on' hb3); clear ho3 hb3))
            go_roundw
            case rel => first | exact ⟨j + 1, by omega, by go_num, HBX3.out, by rw [HS2.out]; exact HO3.out⟩ | exact ⟨_, _, _, _, ⟨j + 1, by omega, rfl, HBX3.out, by rw [HS2.out]; exact HO3.out⟩, rfl, rfl, rfl, by go_num⟩ | exact ⟨_, _, ⟨j + 1, by omega, rfl, HBX3.out, by rw [HS2.out]; exact HO3.out⟩, rfl, by go_num⟩ | exact ⟨_, _, _, ⟨j + 1, by omega, rfl, HBX3.out, by rw [HS2.out]; exact HO3.out⟩, rfl, rfl, by go_num⟩
            case measure => simp [intOf]; omega
          | false =>
            have HS2 := Lib.hid (HS.out.trans (by rw [hbf]; simp : _ = Hi.ahead c 0 (r.events.take j)))
            go_wp2_with fail
            go_roundw
            case rel => exact ⟨j + 1, by omega, by go_num, HBX.out, by rw [HS2.out]; exact HO.out⟩
            case measure => simp [intOf]; omega
        · obtain rfl : j = r.events.length := by omega
          have HN := Lib.hid (show Hi.ahead c 0 (r.events.take r.events.length) = Hi.aheadD r (m : Int) by rw [HD.out, List.take_length])
          clear hbox hown
          go_wp2_with fail
          go_ret
          exact ⟨_, rfl, by rw [← HN.out]; exact HO.out.less (by omega), HBX.out.below⟩
end Go.Proofs.YtlniiaopindjnaaDoor
