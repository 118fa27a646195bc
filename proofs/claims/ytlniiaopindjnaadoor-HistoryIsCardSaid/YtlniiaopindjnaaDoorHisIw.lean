/-
  Layer 35: HistoryIs, walked.
-/
import Derived.Test.YtlniiaopindjnaaDoorHisV
import Derived.Test.YtlniiaopindjnaaDoorHisF
import Derived.Test.YtlniiaopindjnaaDoorHisG
import Derived.Test.YtlniiaopindjnaaDoorHisH
import Derived.Test.YtlniiaopindjnaaDoorHisQ
import Derived.Test.YtlniiaopindjnaaDoorHisY
import Derived.Test.YtlniiaopindjnaaDoorLoadQ
import Derived.Deep.RegionHeld3
import Derived.Test.YtlniiaopindjnaaDoorHisN
namespace Go.Proofs.YtlniiaopindjnaaDoor
set_option linter.unusedVariables false
open Go.RowKit
open Go.Lib hiding intOf

theorem lined_of {w : World} {B : Nat} {r : ReportD} {ea pa : Option Addr} {en ec pn pc : Nat} (h : REvents w B [.slice ea en ec] r.events) (hp : RInts w B [.slice pa pn pc] r.powers) (hf : FewR r true) : r.Lined := by
  obtain ⟨h1, h2, h3⟩ := hf rfl
  obtain ⟨-, -, -, -, hev⟩ := events_open h
  obtain ⟨hn1, -, -, -, -⟩ := events_open h
  obtain ⟨hn2, -, -, -, hpv⟩ := ints_open hp
  refine ⟨h1, h2, fun e he => ⟨?_, h3 e he⟩, fun v hv => ?_⟩
  · obtain ⟨k, hk⟩ := List.mem_iff_getElem?.1 he
    have hkl : k < r.events.length := (List.getElem?_eq_some_iff.1 hk).1
    obtain ⟨b, off, -, -, hc⟩ := hev (by omega)
    exact (hc k e hk).1
  · obtain ⟨k, hk⟩ := List.mem_iff_getElem?.1 hv
    have hkl : k < r.powers.length := (List.getElem?_eq_some_iff.1 hk).1
    obtain ⟨b, off, -, -, hc⟩ := hpv (by omega)
    exact (hc k v hk).1
set_option maxHeartbeats 8000000 in
set_option maxRecDepth 100000 in
theorem historyIs_walk (ea pa : Option Addr) (en ec pn pc : Nat) (k : Int) (r : ReportD) (w : World) (h : REvents w w.heap.size [.slice ea en ec] r.events) (hp : RInts w w.heap.size [.slice pa pn pc] r.powers) (ht : Pow w) :
    Calls Tryd.prog 8 #[.agg #[.slice ea en ec, .slice pa pn pc], .int .i64 k] w fun e w' => e = .returned (.bool true) ∧ Below w.heap.size w w' := by
  obtain ⟨hn, hm1, hm2, -, -⟩ := events_open h
  subst hn
  rw [maxLen_val] at hm2
  have H := Lib.hid h
  have HP := Lib.hid hp
  have HT := Lib.hid ht
  have BX := Lib.hid (BoxedAt.alloc w [.slice ea r.events.length ec, .slice pa pn pc] 34)
  have HF := Lib.hid (fun (W : World) (hW : Below w.heap.size w W) => ref35_Few_any ea pa r.events.length ec pn pc r W (kept_events.on hW h) (kept_ints.on hW hp))
  have HAW := Lib.hid (fun (W : World) (hW : Below w.heap.size w W) => law35_awake_any W (ht.on hW))
  clear h hp ht
  go_enter Tryd.func8, Tryd.ntmps8
  go_upto_region 1 with fail
  generalize World.alloc _ _ = w1 at BX ⊢
  have b0 := BX.out.cell 0 _ rfl
  have b1 := BX.out.cell 1 _ rfl
  go_upto_region 4 with (first
    | (go_at_call 16; refine (HF.out _ BX.out.below).mono ?_; rintro e w3 ⟨fb, rfl, hb3, hf⟩; replace BX := Lib.hid (BX.out.on hb3); have HFW := Lib.hid hf; clear hb3 hf b0 b1; cases fb)
    | (go_at_call 18; refine (HAW.out _ BX.out.below).mono ?_; rintro e w5 ⟨rfl, hb5⟩; replace BX := Lib.hid (BX.out.on hb5); clear hb5))
  · go_ret
    exact ⟨rfl, BX.out.below⟩
  · have HLI := Lib.hid (lined_of H.out HP.out HFW.out)
    go_loopw [5] (fun i wr => ∃ j : Nat, j ≤ r.events.length ∧ i = .int .i64 j ∧ BoxedAt w wr [.slice ea r.events.length ec, .slice pa pn pc]) (fun i _ => r.events.length - (intOf i).toNat)
    case atStart => exact ⟨0, by omega, rfl, BX.out⟩
    case round =>
      obtain ⟨j, hj, rfl, hbox⟩ := hrel
      clear BX
      have BX := Lib.hid hbox
      clear hbox
      have b0 := BX.out.cell 0 _ rfl
      by_cases hlt : j < r.events.length
      · obtain ⟨x, hx⟩ := get_at hlt
        obtain ⟨c, hc0⟩ := get_at (show 0 < r.events.length by omega)
        obtain ⟨-, -, -, -, hev⟩ := events_open (kept_events.on BX.out.below H.out)
        obtain ⟨b, off, rfl, hb, hc⟩ := hev (by omega)
        have HX := Lib.hid (hc j x hx).2
        have hcc := (hc 0 c hc0).2
        rw [Nat.zero_mul, Nat.add_zero] at hcc
        have HC := Lib.hid hcc
        have jz : (j : Int) < r.events.length := by omega
        have jp : (0 : Int) < r.events.length := by omega
        clear hx hc0 hev hc hcc
        go_upto_region 6 with fail
        clear b0
        have f0 := fun x_ : Ext wr.heap.size wr => (BX.out.on x_.b).cell 0 _ rfl
        have F2 := Lib.hid (fun (x_ : Ext wr.heap.size wr) (i : Nat) (hi : i < 16) => (x_.b.cell (p := ⟨b, off + j * 16 + i, none⟩) hb).trans (HX.out i hi))
        have F3 := Lib.hid (fun (x_ : Ext wr.heap.size wr) (i : Nat) (hi : i < 16) => (x_.b.cell (p := ⟨b, off + i, none⟩) hb).trans (HC.out i hi))
        refine wp_region_bel wr.heap.size (by kernel_rfl) (by kernel_rfl) ?_
        repeat (first
          | (refine wpQuiet_load_event x F2.out ?_ ?_ ?_; (next => rfl); (next => rfl); simp only [Act.put, List.setIfInBounds_toArray, List.set_cons_zero, List.set_cons_succ])
          | (refine wpQuiet_load_event c F3.out ?_ ?_ ?_; (next => rfl); (next => rfl); simp only [Act.put, List.setIfInBounds_toArray, List.set_cons_zero, List.set_cons_succ])
          | (go_big_quiet_step (first | (go_at_call 19; exact Calls.bel_of (Nat.le_refl _) (history_Before_any x c _)) | (go_at_call 21; exact Calls.bel_of (Nat.le_refl _) (ref35_Before_any x c _)))))
        refine wpQuiet_nil ?_
        intro x_
        have HB2 := Lib.hid x_.b
        generalize x_.w = wx at HB2 ⊢
        clear f0
        replace BX := Lib.hid (BX.out.on HB2.out)
        generalize Hi.before x c = bb
        have hbb : (bb != bb) = false := by simp
        go_wp2_with fail
        go_roundw
        case rel => exact ⟨j + 1, by omega, by go_num, BX.out⟩
        case measure => simp [intOf]; omega
      · obtain rfl : j = r.events.length := by omega
        have b1 := BX.out.cell 1 _ rfl
        have Q0 := Lib.hid (fun (W : World) (hW : Below wr.heap.size wr W) => (BX.out.on hW).cell 0 _ rfl)
        have Q1 := Lib.hid (fun (W : World) (hW : Below wr.heap.size wr W) => (BX.out.on hW).cell 1 _ rfl)
        have HEV := Lib.hid (fun (W : World) (hW : Below wr.heap.size wr W) => kept_events.on (BX.out.on hW).below H.out)
        have HPW := Lib.hid (fun (W : World) (hW : Below wr.heap.size wr W) => kept_ints.on (BX.out.on hW).below HP.out)
        have hlp : r.powers.length ≤ 1000000 := by have := HLI.out.powers; omega
        have hle : r.events.length ≤ 1000000 := by have := HLI.out.events; omega
        have KC := fun (W : World) (hW : Below wr.heap.size wr W) => history_Check_any ea pa r.events.length ec pn pc r W (HEV.out W hW) (HPW.out W hW) hlp
        have KR := fun (W : World) (hW : Below wr.heap.size wr W) => ref35_Check_any ea pa r.events.length ec pn pc r W (HEV.out W hW) (HPW.out W hW)
        have KA := fun (W : World) (hW : Below wr.heap.size wr W) => ((history_Ahead_any ea pa r.events.length ec pn pc k r W (HEV.out W hW) hle).mono (fun e w' ⟨v, q1, q2, q3⟩ => by
          obtain ⟨a, c, rfl⟩ := own_form q2
          exact ⟨a, c, q1, nums_of_own q2, q3⟩) : Calls Tryd.prog 20 #[.agg #[.slice ea r.events.length ec, .slice pa pn pc], .int .i64 k] W fun e w' => ∃ a c, e = .returned (.slice a (Hi.aheadD r k).length c) ∧ RNums w' w'.heap.size [.slice a (Hi.aheadD r k).length c] (Hi.aheadD r k) ∧ Below W.heap.size W w')
        have KB := fun (W : World) (hW : Below wr.heap.size wr W) => ((ref35_Ahead_any ea pa r.events.length ec pn pc k r W (HEV.out W hW) hle).mono (fun e w' ⟨v, q1, q2, q3⟩ => by
          obtain ⟨a, c, rfl⟩ := own_form q2
          exact ⟨a, c, q1, nums_of_own q2, q3⟩) : Calls Tryd.prog 24 #[.agg #[.slice ea r.events.length ec, .slice pa pn pc], .int .i64 k] W fun e w' => ∃ a c, e = .returned (.slice a (Hi.aheadD r k).length c) ∧ RNums w' w'.heap.size [.slice a (Hi.aheadD r k).length c] (Hi.aheadD r k) ∧ Below W.heap.size W w')
        have KP := fun (W : World) (hW : Below wr.heap.size wr W) => history_Powers_any ea pa r.events.length ec pn pc k r W (HEV.out W hW) (HPW.out W hW)
        have KQ := fun (W : World) (hW : Below wr.heap.size wr W) => ref35_Powers_any ea pa r.events.length ec pn pc k r W (HEV.out W hW) (HPW.out W hW)
        have KT := fun (W : World) (hW : Below wr.heap.size wr W) => history_Text_any ea pa r.events.length ec pn pc r W (HEV.out W hW) (HPW.out W hW) HLI.out (HT.out.on (BX.out.on hW).below)
        have KU := fun (W : World) (hW : Below wr.heap.size wr W) => ref35_Text_any ea pa r.events.length ec pn pc r W (HEV.out W hW) (HPW.out W hW) HLI.out
        have KW := Lib.hid (fun (W : World) (hW : Below wr.heap.size wr W) => HAW.out W (BX.out.on hW).below)
        obtain ⟨z, hz⟩ : ∃ z, Hi.errno (Hi.check r) = z := ⟨_, rfl⟩
        obtain ⟨l, hl⟩ : ∃ l, Hi.aheadD r k = l := ⟨_, rfl⟩
        obtain ⟨pz, hpz⟩ : ∃ z : Int, (Hi.powersD r k : Int) = z := ⟨_, rfl⟩
        obtain ⟨tz, htz⟩ : ∃ z : ByteArray, (⟨(Hi.textL r).toArray⟩ : ByteArray) = z := ⟨_, rfl⟩
        simp only [hz] at KC KR
        simp only [hl] at KA KB
        simp only [hpz] at KP KQ
        simp only [htz] at KT KU
        have KS := Lib.hid (fun (W : World) (a b : Option Addr) (c d : Nat) (h1 : RNums W W.heap.size [.slice a l.length c] l) (h2 : RNums W W.heap.size [.slice b l.length d] l) => (by have h := sameInts_any a b l.length l.length c d l l W h1 h2; rw [decide_eq_true (rfl : l = l)] at h; exact h : Calls Tryd.prog 23 #[.slice a l.length c, .slice b l.length d] W fun e w' => e = .returned (.bool true) ∧ Below W.heap.size W w'))
        replace KC := Lib.hid KC
        replace KR := Lib.hid KR
        replace KA := Lib.hid KA
        replace KB := Lib.hid KB
        replace KP := Lib.hid KP
        replace KQ := Lib.hid KQ
        replace KT := Lib.hid KT
        replace KU := Lib.hid KU
        have hzz : (z == z) = true := by simp
        have hpp : (pz == pz) = true := by simp
        have htt : (tz.toList == tz.toList) = true := by simp
        clear hz hl hpz htz hlp hle
        go_upto_region 8 with fail
        clear b0 b1
        refine wp_region_noPanic ?_
        refine wp_region_held_drew (S := (fun w' => Below wr.heap.size wr w')) (by kernel_rfl) (Below.refl _ _).drew (fun hHeld => ?_)
        refine wpAnyH_take (i := 0) (v := ?_) (opAt0) (by kernel_rfl) (by kernel_rfl) (by kernel_rfl) (fun _ _ _ h => h) (Or.inl ⟨by rfl, ?_⟩) (by assumption) ?_
        rotate_left
        · intro w hSw
          have g0 := Q0.out w hSw
          have g1 := Q1.out w hSw
          (try dsimp only at hSw)
          go_simp
          try with_reducible rfl
        try simp only [Act.put, List.setIfInBounds_toArray, List.set_cons_zero, List.set_cons_succ]
        refine wpAnyH_take (i := 2) (v := ?_) ((opAtS (opAtS opAt0))) (by kernel_rfl) (by kernel_rfl) (by kernel_rfl) (fun _ _ _ h => h) (Or.inl ⟨by rfl, ?_⟩) (by assumption) ?_
        rotate_left
        · intro w hSw
          have g0 := Q0.out w hSw
          have g1 := Q1.out w hSw
          (try dsimp only at hSw)
          go_simp
          try with_reducible rfl
        try simp only [Act.put, List.setIfInBounds_toArray, List.set_cons_zero, List.set_cons_succ]
        refine wpAnyH_ready (rs := [1]) (by kernel_rfl) (by simp) ?_
        refine AllReadyH.cons ((opAtS opAt0)) (fun K hK => ?_) AllReadyH.nil
        go_simp
        with_reducible refine (KC.out _ hHeld).mono ?_
        rintro e w' ⟨rfl, hb⟩
        have hb' := Below.trans hHeld (hb.mono (Below.size hHeld)); clear hHeld
        go_wp2_with fail
        refine hK.out _ _ ?_ (fun hHeld => ?_)
        · exact hb'
        clear hK K
        try simp only [Act.put, List.setIfInBounds_toArray, List.set_cons_zero, List.set_cons_succ]
        refine wpAnyH_ready (rs := [3]) (by kernel_rfl) (by simp) ?_
        refine AllReadyH.cons ((opAtS (opAtS (opAtS opAt0)))) (fun K hK => ?_) AllReadyH.nil
        go_simp
        with_reducible refine (KR.out _ hHeld).mono ?_
        rintro e w' ⟨rfl, hb⟩
        have hb' := Below.trans hHeld (hb.mono (Below.size hHeld)); clear hHeld
        go_wp2_with fail
        refine hK.out _ _ ?_ (fun hHeld => ?_)
        · exact hb'
        clear hK K
        try simp only [Act.put, List.setIfInBounds_toArray, List.set_cons_zero, List.set_cons_succ]
        refine wpAnyH_take (i := 4) (v := ?_) ((opAtS (opAtS (opAtS (opAtS opAt0))))) (by kernel_rfl) (by kernel_rfl) (by kernel_rfl) (fun _ _ _ h => h) (Or.inl ⟨by rfl, ?_⟩) (by assumption) ?_
        rotate_left
        · intro w hSw
          (try dsimp only at hSw)
          go_simp
          try with_reducible rfl
        try simp only [Act.put, List.setIfInBounds_toArray, List.set_cons_zero, List.set_cons_succ]
        refine wpAnyH_take (i := 5) (v := ?_) ((opAtS (opAtS (opAtS (opAtS (opAtS opAt0)))))) (by kernel_rfl) (by kernel_rfl) (by kernel_rfl) (fun _ _ _ h => h) (Or.inl ⟨by rfl, ?_⟩) (by assumption) ?_
        rotate_left
        · intro w hSw
          (try dsimp only at hSw)
          go_simp
          try with_reducible rfl
        try simp only [Act.put, List.setIfInBounds_toArray, List.set_cons_zero, List.set_cons_succ]
        refine wpAnyH_take (i := 6) (v := ?_) ((opAtS (opAtS (opAtS (opAtS (opAtS (opAtS opAt0))))))) (by kernel_rfl) (by kernel_rfl) (by kernel_rfl) (fun _ _ _ h => h) (Or.inl ⟨by rfl, ?_⟩) (by assumption) ?_
        rotate_left
        · intro w hSw
          have g0 := Q0.out w hSw
          have g1 := Q1.out w hSw
          (try dsimp only at hSw)
          go_simp
          try with_reducible rfl
        try simp only [Act.put, List.setIfInBounds_toArray, List.set_cons_zero, List.set_cons_succ]
        refine wpAnyH_take (i := 7) (v := ?_) ((opAtS (opAtS (opAtS (opAtS (opAtS (opAtS (opAtS opAt0)))))))) (by kernel_rfl) (by kernel_rfl) (by kernel_rfl) (fun _ _ _ h => h) (Or.inl ⟨by rfl, ?_⟩) (by assumption) ?_
        rotate_left
        · intro w hSw
          (try dsimp only at hSw)
          go_simp
          try with_reducible rfl
        try simp only [Act.put, List.setIfInBounds_toArray, List.set_cons_zero, List.set_cons_succ]
        refine wpAnyH_take (i := 9) (v := ?_) ((opAtS (opAtS (opAtS (opAtS (opAtS (opAtS (opAtS (opAtS (opAtS opAt0)))))))))) (by kernel_rfl) (by kernel_rfl) (by kernel_rfl) (fun _ _ _ h => h) (Or.inl ⟨by rfl, ?_⟩) (by assumption) ?_
        rotate_left
        · intro w hSw
          have g0 := Q0.out w hSw
          have g1 := Q1.out w hSw
          (try dsimp only at hSw)
          go_simp
          try with_reducible rfl
        try simp only [Act.put, List.setIfInBounds_toArray, List.set_cons_zero, List.set_cons_succ]
        refine wpAnyH_take (i := 10) (v := ?_) ((opAtS (opAtS (opAtS (opAtS (opAtS (opAtS (opAtS (opAtS (opAtS (opAtS opAt0))))))))))) (by kernel_rfl) (by kernel_rfl) (by kernel_rfl) (fun _ _ _ h => h) (Or.inl ⟨by rfl, ?_⟩) (by assumption) ?_
        rotate_left
        · intro w hSw
          (try dsimp only at hSw)
          go_simp
          try with_reducible rfl
        try simp only [Act.put, List.setIfInBounds_toArray, List.set_cons_zero, List.set_cons_succ]
        refine wpAnyH_ready (rs := [8]) (by kernel_rfl) (by simp) ?_
        refine AllReadyH.cons ((opAtS (opAtS (opAtS (opAtS (opAtS (opAtS (opAtS (opAtS opAt0))))))))) (fun K hK => ?_) AllReadyH.nil
        go_simp
        with_reducible refine (KA.out _ hHeld).mono ?_
        rintro e w' ⟨aa, ca, rfl, hna, hb⟩
        have hb' := Below.trans hHeld (hb.mono (Below.size hHeld)); clear hHeld
        go_wp2_with fail
        refine hK.out _ _ ?_ (fun hHeld => ?_)
        · exact hb'
        clear hK K
        try simp only [Act.put, List.setIfInBounds_toArray, List.set_cons_zero, List.set_cons_succ]
        refine wpAnyH_ready (rs := [11]) (by kernel_rfl) (by simp) ?_
        refine AllReadyH.cons ((opAtS (opAtS (opAtS (opAtS (opAtS (opAtS (opAtS (opAtS (opAtS (opAtS (opAtS opAt0)))))))))))) (fun K hK => ?_) AllReadyH.nil
        go_simp
        with_reducible refine (KB.out _ hHeld).mono ?_
        rintro e w' ⟨ab, cb, rfl, hnb, hb⟩
        replace hna := kept_nums.on hb hna
        have hb' := Below.trans hHeld (hb.mono (Below.size hHeld)); clear hHeld
        go_wp2_with fail
        refine hK.out _ _ ?_ (fun hHeld => ?_)
        · exact hb'
        clear hK K
        try simp only [Act.put, List.setIfInBounds_toArray, List.set_cons_zero, List.set_cons_succ]
        refine wpAnyH_ready (rs := [12]) (by kernel_rfl) (by simp) ?_
        refine AllReadyH.cons ((opAtS (opAtS (opAtS (opAtS (opAtS (opAtS (opAtS (opAtS (opAtS (opAtS (opAtS (opAtS opAt0))))))))))))) (fun K hK => ?_) AllReadyH.nil
        go_simp
        with_reducible refine (KS.out _ _ _ _ _ hna hnb).mono ?_
        rintro e w' ⟨rfl, hb⟩
        clear hna hnb
        have hb' := Below.trans hHeld (hb.mono (Below.size hHeld)); clear hHeld
        go_wp2_with fail
        refine hK.out _ _ ?_ (fun hHeld => ?_)
        · exact hb'
        clear hK K
        try simp only [Act.put, List.setIfInBounds_toArray, List.set_cons_zero, List.set_cons_succ]
        refine wpAnyH_take (i := 13) (v := ?_) ((opAtS (opAtS (opAtS (opAtS (opAtS (opAtS (opAtS (opAtS (opAtS (opAtS (opAtS (opAtS (opAtS opAt0)))))))))))))) (by kernel_rfl) (by kernel_rfl) (by kernel_rfl) (fun _ _ _ h => h) (Or.inl ⟨by rfl, ?_⟩) (by assumption) ?_
        rotate_left
        · intro w hSw
          (try dsimp only at hSw)
          go_simp
          try with_reducible rfl
        try simp only [Act.put, List.setIfInBounds_toArray, List.set_cons_zero, List.set_cons_succ]
        refine wpAnyH_take (i := 14) (v := ?_) ((opAtS (opAtS (opAtS (opAtS (opAtS (opAtS (opAtS (opAtS (opAtS (opAtS (opAtS (opAtS (opAtS (opAtS opAt0))))))))))))))) (by kernel_rfl) (by kernel_rfl) (by kernel_rfl) (fun _ _ _ h => h) (Or.inl ⟨by rfl, ?_⟩) (by assumption) ?_
        rotate_left
        · intro w hSw
          (try dsimp only at hSw)
          go_simp
          try with_reducible rfl
        try simp only [Act.put, List.setIfInBounds_toArray, List.set_cons_zero, List.set_cons_succ]
        refine wpAnyH_take (i := 15) (v := ?_) ((opAtS (opAtS (opAtS (opAtS (opAtS (opAtS (opAtS (opAtS (opAtS (opAtS (opAtS (opAtS (opAtS (opAtS (opAtS opAt0)))))))))))))))) (by kernel_rfl) (by kernel_rfl) (by kernel_rfl) (fun _ _ _ h => h) (Or.inl ⟨by rfl, ?_⟩) (by assumption) ?_
        rotate_left
        · intro w hSw
          have g0 := Q0.out w hSw
          have g1 := Q1.out w hSw
          (try dsimp only at hSw)
          go_simp
          try with_reducible rfl
        try simp only [Act.put, List.setIfInBounds_toArray, List.set_cons_zero, List.set_cons_succ]
        refine wpAnyH_take (i := 16) (v := ?_) ((opAtS (opAtS (opAtS (opAtS (opAtS (opAtS (opAtS (opAtS (opAtS (opAtS (opAtS (opAtS (opAtS (opAtS (opAtS (opAtS opAt0))))))))))))))))) (by kernel_rfl) (by kernel_rfl) (by kernel_rfl) (fun _ _ _ h => h) (Or.inl ⟨by rfl, ?_⟩) (by assumption) ?_
        rotate_left
        · intro w hSw
          (try dsimp only at hSw)
          go_simp
          try with_reducible rfl
        try simp only [Act.put, List.setIfInBounds_toArray, List.set_cons_zero, List.set_cons_succ]
        refine wpAnyH_take (i := 18) (v := ?_) ((opAtS (opAtS (opAtS (opAtS (opAtS (opAtS (opAtS (opAtS (opAtS (opAtS (opAtS (opAtS (opAtS (opAtS (opAtS (opAtS (opAtS (opAtS opAt0))))))))))))))))))) (by kernel_rfl) (by kernel_rfl) (by kernel_rfl) (fun _ _ _ h => h) (Or.inl ⟨by rfl, ?_⟩) (by assumption) ?_
        rotate_left
        · intro w hSw
          have g0 := Q0.out w hSw
          have g1 := Q1.out w hSw
          (try dsimp only at hSw)
          go_simp
          try with_reducible rfl
        try simp only [Act.put, List.setIfInBounds_toArray, List.set_cons_zero, List.set_cons_succ]
        refine wpAnyH_take (i := 19) (v := ?_) ((opAtS (opAtS (opAtS (opAtS (opAtS (opAtS (opAtS (opAtS (opAtS (opAtS (opAtS (opAtS (opAtS (opAtS (opAtS (opAtS (opAtS (opAtS (opAtS opAt0)))))))))))))))))))) (by kernel_rfl) (by kernel_rfl) (by kernel_rfl) (fun _ _ _ h => h) (Or.inl ⟨by rfl, ?_⟩) (by assumption) ?_
        rotate_left
        · intro w hSw
          (try dsimp only at hSw)
          go_simp
          try with_reducible rfl
        try simp only [Act.put, List.setIfInBounds_toArray, List.set_cons_zero, List.set_cons_succ]
        refine wpAnyH_ready (rs := [17]) (by kernel_rfl) (by simp) ?_
        refine AllReadyH.cons ((opAtS (opAtS (opAtS (opAtS (opAtS (opAtS (opAtS (opAtS (opAtS (opAtS (opAtS (opAtS (opAtS (opAtS (opAtS (opAtS (opAtS opAt0)))))))))))))))))) (fun K hK => ?_) AllReadyH.nil
        go_simp
        with_reducible refine (KP.out _ hHeld).mono ?_
        rintro e w' ⟨rfl, hb⟩
        have hb' := Below.trans hHeld (hb.mono (Below.size hHeld)); clear hHeld
        go_wp2_with fail
        refine hK.out _ _ ?_ (fun hHeld => ?_)
        · exact hb'
        clear hK K
        try simp only [Act.put, List.setIfInBounds_toArray, List.set_cons_zero, List.set_cons_succ]
        refine wpAnyH_ready (rs := [20]) (by kernel_rfl) (by simp) ?_
        refine AllReadyH.cons ((opAtS (opAtS (opAtS (opAtS (opAtS (opAtS (opAtS (opAtS (opAtS (opAtS (opAtS (opAtS (opAtS (opAtS (opAtS (opAtS (opAtS (opAtS (opAtS (opAtS opAt0))))))))))))))))))))) (fun K hK => ?_) AllReadyH.nil
        go_simp
        with_reducible refine (KQ.out _ hHeld).mono ?_
        rintro e w' ⟨rfl, hb⟩
        have hb' := Below.trans hHeld (hb.mono (Below.size hHeld)); clear hHeld
        go_wp2_with fail
        refine hK.out _ _ ?_ (fun hHeld => ?_)
        · exact hb'
        clear hK K
        try simp only [Act.put, List.setIfInBounds_toArray, List.set_cons_zero, List.set_cons_succ]
        refine wpAnyH_take (i := 21) (v := ?_) ((opAtS (opAtS (opAtS (opAtS (opAtS (opAtS (opAtS (opAtS (opAtS (opAtS (opAtS (opAtS (opAtS (opAtS (opAtS (opAtS (opAtS (opAtS (opAtS (opAtS (opAtS opAt0)))))))))))))))))))))) (by kernel_rfl) (by kernel_rfl) (by kernel_rfl) (fun _ _ _ h => h) (Or.inl ⟨by rfl, ?_⟩) (by assumption) ?_
        rotate_left
        · intro w hSw
          (try dsimp only at hSw)
          go_simp
          try with_reducible rfl
        try simp only [Act.put, List.setIfInBounds_toArray, List.set_cons_zero, List.set_cons_succ]
        refine wpAnyH_take (i := 22) (v := ?_) ((opAtS (opAtS (opAtS (opAtS (opAtS (opAtS (opAtS (opAtS (opAtS (opAtS (opAtS (opAtS (opAtS (opAtS (opAtS (opAtS (opAtS (opAtS (opAtS (opAtS (opAtS (opAtS opAt0))))))))))))))))))))))) (by kernel_rfl) (by kernel_rfl) (by kernel_rfl) (fun _ _ _ h => h) (Or.inl ⟨by rfl, ?_⟩) (by assumption) ?_
        rotate_left
        · intro w hSw
          (try dsimp only at hSw)
          go_simp
          try with_reducible rfl
        try simp only [Act.put, List.setIfInBounds_toArray, List.set_cons_zero, List.set_cons_succ]
        refine wpAnyH_take (i := 23) (v := ?_) ((opAtS (opAtS (opAtS (opAtS (opAtS (opAtS (opAtS (opAtS (opAtS (opAtS (opAtS (opAtS (opAtS (opAtS (opAtS (opAtS (opAtS (opAtS (opAtS (opAtS (opAtS (opAtS (opAtS opAt0)))))))))))))))))))))))) (by kernel_rfl) (by kernel_rfl) (by kernel_rfl) (fun _ _ _ h => h) (Or.inl ⟨by rfl, ?_⟩) (by assumption) ?_
        rotate_left
        · intro w hSw
          (try dsimp only at hSw)
          go_simp
          try with_reducible rfl
        try simp only [Act.put, List.setIfInBounds_toArray, List.set_cons_zero, List.set_cons_succ]
        refine wpAnyH_take (i := 24) (v := ?_) ((opAtS (opAtS (opAtS (opAtS (opAtS (opAtS (opAtS (opAtS (opAtS (opAtS (opAtS (opAtS (opAtS (opAtS (opAtS (opAtS (opAtS (opAtS (opAtS (opAtS (opAtS (opAtS (opAtS (opAtS opAt0))))))))))))))))))))))))) (by kernel_rfl) (by kernel_rfl) (by kernel_rfl) (fun _ _ _ h => h) (Or.inl ⟨by rfl, ?_⟩) (by assumption) ?_
        rotate_left
        · intro w hSw
          have g0 := Q0.out w hSw
          have g1 := Q1.out w hSw
          (try dsimp only at hSw)
          go_simp
          try with_reducible rfl
        try simp only [Act.put, List.setIfInBounds_toArray, List.set_cons_zero, List.set_cons_succ]
        refine wpAnyH_take (i := 26) (v := ?_) ((opAtS (opAtS (opAtS (opAtS (opAtS (opAtS (opAtS (opAtS (opAtS (opAtS (opAtS (opAtS (opAtS (opAtS (opAtS (opAtS (opAtS (opAtS (opAtS (opAtS (opAtS (opAtS (opAtS (opAtS (opAtS (opAtS opAt0))))))))))))))))))))))))))) (by kernel_rfl) (by kernel_rfl) (by kernel_rfl) (fun _ _ _ h => h) (Or.inl ⟨by rfl, ?_⟩) (by assumption) ?_
        rotate_left
        · intro w hSw
          have g0 := Q0.out w hSw
          have g1 := Q1.out w hSw
          (try dsimp only at hSw)
          go_simp
          try with_reducible rfl
        try simp only [Act.put, List.setIfInBounds_toArray, List.set_cons_zero, List.set_cons_succ]
        refine wpAnyH_ready (rs := [25]) (by kernel_rfl) (by simp) ?_
        refine AllReadyH.cons ((opAtS (opAtS (opAtS (opAtS (opAtS (opAtS (opAtS (opAtS (opAtS (opAtS (opAtS (opAtS (opAtS (opAtS (opAtS (opAtS (opAtS (opAtS (opAtS (opAtS (opAtS (opAtS (opAtS (opAtS (opAtS opAt0)))))))))))))))))))))))))) (fun K hK => ?_) AllReadyH.nil
        go_simp
        with_reducible refine (KT.out _ hHeld).mono ?_
        rintro e w' ⟨rfl, hb⟩
        have hb' := Below.trans hHeld (hb.mono (Below.size hHeld)); clear hHeld
        go_wp2_with fail
        refine hK.out _ _ ?_ (fun hHeld => ?_)
        · exact hb'
        clear hK K
        try simp only [Act.put, List.setIfInBounds_toArray, List.set_cons_zero, List.set_cons_succ]
        refine wpAnyH_ready (rs := [27]) (by kernel_rfl) (by simp) ?_
        refine AllReadyH.cons ((opAtS (opAtS (opAtS (opAtS (opAtS (opAtS (opAtS (opAtS (opAtS (opAtS (opAtS (opAtS (opAtS (opAtS (opAtS (opAtS (opAtS (opAtS (opAtS (opAtS (opAtS (opAtS (opAtS (opAtS (opAtS (opAtS (opAtS opAt0)))))))))))))))))))))))))))) (fun K hK => ?_) AllReadyH.nil
        go_simp
        with_reducible refine (KU.out _ hHeld).mono ?_
        rintro e w' ⟨rfl, hb⟩
        have hb' := Below.trans hHeld (hb.mono (Below.size hHeld)); clear hHeld
        go_wp2_with fail
        refine hK.out _ _ ?_ (fun hHeld => ?_)
        · exact hb'
        clear hK K
        try simp only [Act.put, List.setIfInBounds_toArray, List.set_cons_zero, List.set_cons_succ]
        refine wpAnyH_take (i := 28) (v := ?_) ((opAtS (opAtS (opAtS (opAtS (opAtS (opAtS (opAtS (opAtS (opAtS (opAtS (opAtS (opAtS (opAtS (opAtS (opAtS (opAtS (opAtS (opAtS (opAtS (opAtS (opAtS (opAtS (opAtS (opAtS (opAtS (opAtS (opAtS (opAtS opAt0))))))))))))))))))))))))))))) (by kernel_rfl) (by kernel_rfl) (by kernel_rfl) (fun _ _ _ h => h) (Or.inl ⟨by rfl, ?_⟩) (by assumption) ?_
        rotate_left
        · intro w hSw
          (try dsimp only at hSw)
          go_simp
          try with_reducible rfl
        try simp only [Act.put, List.setIfInBounds_toArray, List.set_cons_zero, List.set_cons_succ]
        refine wpAnyH_take (i := 29) (v := ?_) ((opAtS (opAtS (opAtS (opAtS (opAtS (opAtS (opAtS (opAtS (opAtS (opAtS (opAtS (opAtS (opAtS (opAtS (opAtS (opAtS (opAtS (opAtS (opAtS (opAtS (opAtS (opAtS (opAtS (opAtS (opAtS (opAtS (opAtS (opAtS (opAtS opAt0)))))))))))))))))))))))))))))) (by kernel_rfl) (by kernel_rfl) (by kernel_rfl) (fun _ _ _ h => h) (Or.inl ⟨by rfl, ?_⟩) (by assumption) ?_
        rotate_left
        · intro w hSw
          (try dsimp only at hSw)
          go_simp
          try with_reducible rfl
        try simp only [Act.put, List.setIfInBounds_toArray, List.set_cons_zero, List.set_cons_succ]
        refine wpAnyH_take (i := 30) (v := ?_) ((opAtS (opAtS (opAtS (opAtS (opAtS (opAtS (opAtS (opAtS (opAtS (opAtS (opAtS (opAtS (opAtS (opAtS (opAtS (opAtS (opAtS (opAtS (opAtS (opAtS (opAtS (opAtS (opAtS (opAtS (opAtS (opAtS (opAtS (opAtS (opAtS (opAtS opAt0))))))))))))))))))))))))))))))) (by kernel_rfl) (by kernel_rfl) (by kernel_rfl) (fun _ _ _ h => h) (Or.inl ⟨by rfl, ?_⟩) (by assumption) ?_
        rotate_left
        · intro w hSw
          (try dsimp only at hSw)
          go_simp
          try with_reducible rfl
        try simp only [Act.put, List.setIfInBounds_toArray, List.set_cons_zero, List.set_cons_succ]
        refine wpAnyH_ready (rs := [31]) (by kernel_rfl) (by simp) ?_
        refine AllReadyH.cons ((opAtS (opAtS (opAtS (opAtS (opAtS (opAtS (opAtS (opAtS (opAtS (opAtS (opAtS (opAtS (opAtS (opAtS (opAtS (opAtS (opAtS (opAtS (opAtS (opAtS (opAtS (opAtS (opAtS (opAtS (opAtS (opAtS (opAtS (opAtS (opAtS (opAtS (opAtS opAt0)))))))))))))))))))))))))))))))) (fun K hK => ?_) AllReadyH.nil
        go_simp
        with_reducible refine (KW.out _ hHeld).mono ?_
        rintro e w' ⟨rfl, hb⟩
        have hb' := Below.trans hHeld (hb.mono (Below.size hHeld)); clear hHeld
        go_wp2_with fail
        refine hK.out _ _ ?_ (fun hHeld => ?_)
        · exact hb'
        clear hK K
        try simp only [Act.put, List.setIfInBounds_toArray, List.set_cons_zero, List.set_cons_succ]
        refine wpAnyH_take (i := 32) (v := ?_) ((opAtS (opAtS (opAtS (opAtS (opAtS (opAtS (opAtS (opAtS (opAtS (opAtS (opAtS (opAtS (opAtS (opAtS (opAtS (opAtS (opAtS (opAtS (opAtS (opAtS (opAtS (opAtS (opAtS (opAtS (opAtS (opAtS (opAtS (opAtS (opAtS (opAtS (opAtS (opAtS opAt0))))))))))))))))))))))))))))))))) (by kernel_rfl) (by kernel_rfl) (by kernel_rfl) (fun _ _ _ h => h) (Or.inl ⟨by rfl, ?_⟩) (by assumption) ?_
        rotate_left
        · intro w hSw
          (try dsimp only at hSw)
          go_simp
          try with_reducible rfl
        try simp only [Act.put, List.setIfInBounds_toArray, List.set_cons_zero, List.set_cons_succ]
        refine wpAnyH_take (i := 33) (v := ?_) ((opAtS (opAtS (opAtS (opAtS (opAtS (opAtS (opAtS (opAtS (opAtS (opAtS (opAtS (opAtS (opAtS (opAtS (opAtS (opAtS (opAtS (opAtS (opAtS (opAtS (opAtS (opAtS (opAtS (opAtS (opAtS (opAtS (opAtS (opAtS (opAtS (opAtS (opAtS (opAtS (opAtS opAt0)))))))))))))))))))))))))))))))))) (by kernel_rfl) (by kernel_rfl) (by kernel_rfl) (fun _ _ _ h => h) (Or.inl ⟨by rfl, ?_⟩) (by assumption) ?_
        rotate_left
        · intro w hSw
          (try dsimp only at hSw)
          go_simp
          try with_reducible rfl
        try simp only [Act.put, List.setIfInBounds_toArray, List.set_cons_zero, List.set_cons_succ]
        refine wpAnyH_done (by kernel_rfl) ?_ _
        refine NoPanic.normal ?_
        have HBX := Lib.hid ((BX.out.on hHeld).below)
        go_wp2_with fail
        go_ret
        exact ⟨rfl, HBX.out⟩
end Go.Proofs.YtlniiaopindjnaaDoor
