/-
  Layer 1's document: numbers as decimal digits, walked.
-/
import Derived.Test.YtjldgieffkemlaaGreatDoorDecB
import Derived.Deep.RegionHeld3
import Derived.IntWalk
namespace Go.Proofs.YtjldgieffkemlaaGreatDoor
set_option linter.unusedVariables false
set_option linter.unusedSimpArgs false
open Go.RowKit
open Go.Lib hiding intOf

theorem conv_one {w : World} {g : Nat} {z : Int} {c : Nat} (hz : z = (c : Int)) (hc : c < 256) (h : w.cell? ⟨g, 0, none⟩ = some (.int .u8 z)) : (convert 117 9 (.slice (some ⟨g, 0, none⟩) 1 1)).run Tryz.prog w = .ok (.string ⟨#[UInt8.ofNat c]⟩) w := by
  subst hz
  refine run_convert_bytes_back w _ _ 5 ⟨g, 0, none⟩ 1 [UInt8.ofNat c] Tryz.underlying117 Tryz.underlying5 Tryz.underlying9 ?_
  intro j hj
  obtain rfl : j = 0 := by simpa using hj
  rw [Addr.add_lit, Nat.zero_add, h]
  simp [UInt8.toNat_ofNat', Nat.mod_eq_of_lt hc]
theorem one_cell (w : World) (v : Value) (t : TypeId) : (w.alloc (.cells #[v] t)).cell? ⟨w.heap.size, 0, none⟩ = some v := by
  rw [cell_of_row _ _ 0 _ _ _ (heap_alloc_new w _)]; rfl
set_option maxHeartbeats 1000000 in
set_option maxRecDepth 100000 in
theorem ref01_below_any (u : Nat) : u ≤ 9223372036854775808 → ∀ w : World, Calls Tryz.prog 52 #[.int .i64 (-(u : Int))] w fun e w' => e = .returned (.string ⟨(Lib.decDigits u).toArray⟩) ∧ Below w.heap.size w w' := by
  induction u using Nat.strongRecOn with
  | ind u ih =>
  intro hu w
  by_cases hs : u < 10
  · have HE := Lib.hid (Lib.decDigits_one hs)
    obtain ⟨n, hn⟩ : ∃ n : Int, -(u : Int) = n := ⟨_, rfl⟩
    have hcv := conv_one (z := 48 - n) (c := 48 + u) (by omega) (by omega) (one_cell w (.int .u8 (48 - n)) 5)
    obtain ⟨bt, hbt⟩ : ∃ bt, UInt8.ofNat (48 + u) = bt := ⟨_, rfl⟩
    rw [hbt] at hcv HE
    rw [hn]
    have hz : -10 < n := by omega
    have hz2 : n ≤ 0 := by omega
    clear ih hn hs hu hbt
    go_enter Tryz.func52, Tryz.ntmps52
    go_wp2_with fail
    go_ret
    exact ⟨ret_str (by rw [HE.out]), bel1 _ _⟩
  · have hdec : Lib.decDigits u = Lib.decDigits (u / 10) ++ [UInt8.ofNat (48 + u % 10)] := by rw [Lib.decDigits, dif_neg hs]
    have HE := Lib.hid hdec
    obtain ⟨n, hn⟩ : ∃ n : Int, -(u : Int) = n := ⟨_, rfl⟩
    have hq : n.tdiv 10 = -((u / 10 : Nat) : Int) := by rw [← hn, Int.neg_tdiv]; simp
    have hm : n.tmod 10 = -((u % 10 : Nat) : Int) := by rw [← hn, Int.neg_tmod, Int.tmod_eq_emod_of_nonneg (by omega)]; simp
    have HI := Lib.hid (ih (u / 10) (by omega) (by omega))
    obtain ⟨q, hqq⟩ : ∃ q : Int, -((u / 10 : Nat) : Int) = q := ⟨_, rfl⟩
    obtain ⟨m, hmm⟩ : ∃ m : Int, -((u % 10 : Nat) : Int) = m := ⟨_, rfl⟩
    rw [hqq] at hq HI
    rw [hmm] at hm
    have HM := Lib.hid (show 48 - m = ((48 + u % 10 : Nat) : Int) ∧ 48 + u % 10 < 256 by omega)
    have m1 : -10 < m := by omega
    have m2 : m ≤ 0 := by omega
    have hz : ¬ -10 < n := by omega
    have hz2 : -9223372036854775808 ≤ n := by omega
    have hz3 : n ≤ 0 := by omega
    have hz4 : -922337203685477580 ≤ q ∧ q ≤ 0 := by omega
    obtain ⟨bt, hbt⟩ : ∃ bt, UInt8.ofNat (48 + u % 10) = bt := ⟨_, rfl⟩
    rw [hbt] at hdec
    obtain ⟨D, hD⟩ : ∃ D : ByteArray, (⟨(Lib.decDigits (u / 10)).toArray⟩ : ByteArray) = D := ⟨_, rfl⟩
    have hfin : D ++ ⟨#[bt]⟩ = (⟨(Lib.decDigits u).toArray⟩ : ByteArray) := by rw [← hD, hdec]; exact ByteArray.ext (by simp)
    have hds : D.size ≤ 20 := by rw [← hD, str_size, Lib.decDigits_length]; exact Lib.nDigits_le20 _ (by omega)
    rw [hD] at HI
    have HCV := Lib.hid (fun (W : World) (g : Nat) (hc : W.cell? ⟨g, 0, none⟩ = some (.int .u8 (48 - m))) => (hbt ▸ conv_one HM.out.1 HM.out.2 hc : (convert 117 9 (.slice (some ⟨g, 0, none⟩) 1 1)).run Tryz.prog W = .ok (.string ⟨#[bt]⟩) W))
    have HFIN := Lib.hid hfin
    have hw1 : IntKind.i64.wrap q = q := IntWalk.i64_in _ (by omega)
    have hw2 : IntKind.i64.wrap (48 - m) = 48 - m := IntWalk.i64_in _ (by omega)
    have hw3 : IntKind.u8.wrap (48 - m) = 48 - m := IntWalk.u8_in _ (by omega)
    rw [hn]
    clear ih hn hs hu hqq hmm hdec hD hfin hbt HE HM
    go_enter Tryz.func52, Tryz.ntmps52
    go_upto_region 3 with fail
    refine wp_region_noPanic ?_
    refine wp_region_held_drew (S := (fun w' => Below w.heap.size w w')) (by kernel_rfl) (Below.refl _ _).drew (fun hHeld => ?_)
    refine wpAnyH_take (i := 0) (v := ?_) (opAt0) (by kernel_rfl) (by kernel_rfl) (by kernel_rfl) (fun _ _ _ h => h) (Or.inl ⟨by rfl, ?_⟩) (by assumption) ?_
    rotate_left
    · intro w hSw
      (try dsimp only at hSw)
      go_simp
      try with_reducible rfl
    try simp only [Act.put, List.setIfInBounds_toArray, List.set_cons_zero, List.set_cons_succ]
    refine wpAnyH_take (i := 1) (v := ?_) ((opAtS opAt0)) (by kernel_rfl) (by kernel_rfl) (by kernel_rfl) (fun _ _ _ h => h) (Or.inl ⟨by rfl, ?_⟩) (by assumption) ?_
    rotate_left
    · intro w hSw
      (try dsimp only at hSw)
      go_simp
      try with_reducible rfl
    try simp only [Act.put, List.setIfInBounds_toArray, List.set_cons_zero, List.set_cons_succ]
    refine wpAnyH_take (i := 3) (v := ?_) ((opAtS (opAtS (opAtS opAt0)))) (by kernel_rfl) (by kernel_rfl) (by kernel_rfl) (fun _ _ _ h => h) (Or.inl ⟨by rfl, ?_⟩) (by assumption) ?_
    rotate_left
    · intro w hSw
      (try dsimp only at hSw)
      go_simp
      try with_reducible rfl
    try simp only [Act.put, List.setIfInBounds_toArray, List.set_cons_zero, List.set_cons_succ]
    refine wpAnyH_take (i := 4) (v := ?_) ((opAtS (opAtS (opAtS (opAtS opAt0))))) (by kernel_rfl) (by kernel_rfl) (by kernel_rfl) (fun _ _ _ h => h) (Or.inl ⟨by rfl, ?_⟩) (by assumption) ?_
    rotate_left
    · intro w hSw
      (try dsimp only at hSw)
      go_simp
      try with_reducible rfl
    try simp only [Act.put, List.setIfInBounds_toArray, List.set_cons_zero, List.set_cons_succ]
    refine wpAnyH_take (i := 5) (v := ?_) ((opAtS (opAtS (opAtS (opAtS (opAtS opAt0)))))) (by kernel_rfl) (by kernel_rfl) (by kernel_rfl) (fun _ _ _ h => h) (Or.inl ⟨by rfl, ?_⟩) (by assumption) ?_
    rotate_left
    · intro w hSw
      (try dsimp only at hSw)
      go_simp
      try with_reducible rfl
    try simp only [Act.put, List.setIfInBounds_toArray, List.set_cons_zero, List.set_cons_succ]
    refine wpAnyH_take (i := 6) (v := ?_) ((opAtS (opAtS (opAtS (opAtS (opAtS (opAtS opAt0))))))) (by kernel_rfl) (by kernel_rfl) (by kernel_rfl) (fun _ _ _ h => h) (Or.inl ⟨by rfl, ?_⟩) (by assumption) ?_
    rotate_left
    · intro w hSw
      (try dsimp only at hSw)
      go_simp
      try with_reducible rfl
    try simp only [Act.put, List.setIfInBounds_toArray, List.set_cons_zero, List.set_cons_succ]
    refine wpAnyH_ready (rs := [2, 7]) (by kernel_rfl) (by simp) ?_
    refine AllReadyH.cons ((opAtS (opAtS opAt0))) (fun K hK => ?_) ?_
    · go_simp
      with_reducible refine (HI.out _).mono ?_
      rintro e w' ⟨rfl, hb⟩
      have hb' := Below.trans hHeld (hb.mono (Below.size hHeld)); clear hHeld
      go_wp2_with fail
      refine hK.out _ _ ?_ (fun hHeld => ?_)
      · exact hb'
      clear hK K
      try simp only [Act.put, List.setIfInBounds_toArray, List.set_cons_zero, List.set_cons_succ]
      refine wpAnyH_ready (rs := [7]) (by kernel_rfl) (by simp) ?_
      refine AllReadyH.cons ((opAtS (opAtS (opAtS (opAtS (opAtS (opAtS (opAtS opAt0)))))))) (fun K hK => ?_) AllReadyH.nil
      go_simp
      go_wp2_with fail
      refine hK.out _ _ ?_ (fun hHeld => ?_)
      · exact (hHeld.alloc (Below.size hHeld) _)
      clear hK K
      try simp only [Act.put, List.setIfInBounds_toArray, List.set_cons_zero, List.set_cons_succ]
      refine wpAnyH_ready (rs := [8]) (by kernel_rfl) (by simp) ?_
      refine AllReadyH.cons ((opAtS (opAtS (opAtS (opAtS (opAtS (opAtS (opAtS (opAtS opAt0))))))))) (fun K hK => ?_) AllReadyH.nil
      have hcv := HCV.out (w'.alloc (.cells #[.int .u8 (48 - m)] 5)) _ (one_cell w' _ _)
      go_simp
      go_wp2_with fail
      refine hK.out _ _ ?_ (fun hHeld => ?_)
      · exact hHeld
      clear hK K
      try simp only [Act.put, List.setIfInBounds_toArray, List.set_cons_zero, List.set_cons_succ]
      refine wpAnyH_take (i := 9) (v := ?_) ((opAtS (opAtS (opAtS (opAtS (opAtS (opAtS (opAtS (opAtS (opAtS opAt0)))))))))) (by kernel_rfl) (by kernel_rfl) (by kernel_rfl) (fun _ _ _ h => h) (Or.inl ⟨by rfl, ?_⟩) (by assumption) ?_
      rotate_left
      · intro w hSw
        go_simp; rw [if_neg (by omega)]
      try simp only [Act.put, List.setIfInBounds_toArray, List.set_cons_zero, List.set_cons_succ]
      refine wpAnyH_take (i := 10) (v := ?_) ((opAtS (opAtS (opAtS (opAtS (opAtS (opAtS (opAtS (opAtS (opAtS (opAtS opAt0))))))))))) (by kernel_rfl) (by kernel_rfl) (by kernel_rfl) (fun _ _ _ h => h) (Or.inl ⟨by rfl, ?_⟩) (by assumption) ?_
      rotate_left
      · intro w hSw
        (try dsimp only at hSw)
        go_simp
        try with_reducible rfl
      try simp only [Act.put, List.setIfInBounds_toArray, List.set_cons_zero, List.set_cons_succ]
      refine wpAnyH_done (by kernel_rfl) ?_ _
      refine NoPanic.normal ?_
      go_wp2_with fail
      go_ret
      exact ⟨ret_str HFIN.out, hHeld⟩
    refine AllReadyH.cons ((opAtS (opAtS (opAtS (opAtS (opAtS (opAtS (opAtS opAt0)))))))) (fun K hK => ?_) AllReadyH.nil
    go_simp
    go_wp2_with fail
    refine hK.out _ _ ?_ (fun hHeld => ?_)
    · exact (hHeld.alloc (Below.size hHeld) _)
    clear hK K
    try simp only [Act.put, List.setIfInBounds_toArray, List.set_cons_zero, List.set_cons_succ]
    refine wpAnyH_ready (rs := [2, 8]) (by kernel_rfl) (by simp) ?_
    refine AllReadyH.cons ((opAtS (opAtS opAt0))) (fun K hK => ?_) ?_
    · go_simp
      with_reducible refine (HI.out _).mono ?_
      rintro e w' ⟨rfl, hb⟩
      have hc1 : w'.cell? ⟨w.heap.size, 0, none⟩ = some (.int .u8 (48 - m)) := (hb.cell (p := ⟨w.heap.size, 0, none⟩) (by simp)).trans (one_cell w _ _)
      have hb' := Below.trans hHeld (hb.mono (Below.size hHeld)); clear hHeld
      go_wp2_with fail
      refine hK.out _ _ ?_ (fun hHeld => ?_)
      · exact hb'
      clear hK K
      try simp only [Act.put, List.setIfInBounds_toArray, List.set_cons_zero, List.set_cons_succ]
      refine wpAnyH_ready (rs := [8]) (by kernel_rfl) (by simp) ?_
      refine AllReadyH.cons ((opAtS (opAtS (opAtS (opAtS (opAtS (opAtS (opAtS (opAtS opAt0))))))))) (fun K hK => ?_) AllReadyH.nil
      have hcv := HCV.out _ _ hc1
      go_simp
      go_wp2_with fail
      refine hK.out _ _ ?_ (fun hHeld => ?_)
      · exact hHeld
      clear hK K
      try simp only [Act.put, List.setIfInBounds_toArray, List.set_cons_zero, List.set_cons_succ]
      refine wpAnyH_take (i := 9) (v := ?_) ((opAtS (opAtS (opAtS (opAtS (opAtS (opAtS (opAtS (opAtS (opAtS opAt0)))))))))) (by kernel_rfl) (by kernel_rfl) (by kernel_rfl) (fun _ _ _ h => h) (Or.inl ⟨by rfl, ?_⟩) (by assumption) ?_
      rotate_left
      · intro w hSw
        go_simp; rw [if_neg (by omega)]
      try simp only [Act.put, List.setIfInBounds_toArray, List.set_cons_zero, List.set_cons_succ]
      refine wpAnyH_take (i := 10) (v := ?_) ((opAtS (opAtS (opAtS (opAtS (opAtS (opAtS (opAtS (opAtS (opAtS (opAtS opAt0))))))))))) (by kernel_rfl) (by kernel_rfl) (by kernel_rfl) (fun _ _ _ h => h) (Or.inl ⟨by rfl, ?_⟩) (by assumption) ?_
      rotate_left
      · intro w hSw
        (try dsimp only at hSw)
        go_simp
        try with_reducible rfl
      try simp only [Act.put, List.setIfInBounds_toArray, List.set_cons_zero, List.set_cons_succ]
      refine wpAnyH_done (by kernel_rfl) ?_ _
      refine NoPanic.normal ?_
      go_wp2_with fail
      go_ret
      exact ⟨ret_str HFIN.out, hHeld⟩
    refine AllReadyH.cons ((opAtS (opAtS (opAtS (opAtS (opAtS (opAtS (opAtS (opAtS opAt0))))))))) (fun K hK => ?_) AllReadyH.nil
    have hcv := HCV.out (w.alloc (.cells #[.int .u8 (48 - m)] 5)).drew w.heap.size (one_cell w _ _)
    go_simp
    go_wp2_with fail
    refine hK.out _ _ ?_ (fun hHeld => ?_)
    · exact hHeld
    clear hK K
    try simp only [Act.put, List.setIfInBounds_toArray, List.set_cons_zero, List.set_cons_succ]
    refine wpAnyH_ready (rs := [2]) (by kernel_rfl) (by simp) ?_
    refine AllReadyH.cons ((opAtS (opAtS opAt0))) (fun K hK => ?_) AllReadyH.nil
    go_simp
    with_reducible refine (HI.out _).mono ?_
    rintro e w' ⟨rfl, hb⟩
    have hb' := Below.trans hHeld (hb.mono (Below.size hHeld)); clear hHeld
    go_wp2_with fail
    refine hK.out _ _ ?_ (fun hHeld => ?_)
    · exact hb'
    clear hK K
    try simp only [Act.put, List.setIfInBounds_toArray, List.set_cons_zero, List.set_cons_succ]
    refine wpAnyH_take (i := 9) (v := ?_) ((opAtS (opAtS (opAtS (opAtS (opAtS (opAtS (opAtS (opAtS (opAtS opAt0)))))))))) (by kernel_rfl) (by kernel_rfl) (by kernel_rfl) (fun _ _ _ h => h) (Or.inl ⟨by rfl, ?_⟩) (by assumption) ?_
    rotate_left
    · intro w hSw
      go_simp; rw [if_neg (by omega)]
    try simp only [Act.put, List.setIfInBounds_toArray, List.set_cons_zero, List.set_cons_succ]
    refine wpAnyH_take (i := 10) (v := ?_) ((opAtS (opAtS (opAtS (opAtS (opAtS (opAtS (opAtS (opAtS (opAtS (opAtS opAt0))))))))))) (by kernel_rfl) (by kernel_rfl) (by kernel_rfl) (fun _ _ _ h => h) (Or.inl ⟨by rfl, ?_⟩) (by assumption) ?_
    rotate_left
    · intro w hSw
      (try dsimp only at hSw)
      go_simp
      try with_reducible rfl
    try simp only [Act.put, List.setIfInBounds_toArray, List.set_cons_zero, List.set_cons_succ]
    refine wpAnyH_done (by kernel_rfl) ?_ _
    refine NoPanic.normal ?_
    go_wp2_with fail
    go_ret
    exact ⟨ret_str HFIN.out, hHeld⟩
set_option maxHeartbeats 400000 in
theorem ref01_Dec_any (n : Int) (w : World) (hn : Fits n) : Calls Tryz.prog 30 #[.int .i64 n] w fun e w' => e = .returned (.string ⟨(Lib.itoa n).toArray⟩) ∧ Below w.heap.size w w' := by
  have hb := fits_bounds hn
  by_cases h0 : n < 0
  · have HB := Lib.hid (ref01_below_any n.natAbs (by omega) w)
    rw [show -((n.natAbs : Nat) : Int) = n by omega] at HB
    obtain ⟨D, hD⟩ : ∃ D : ByteArray, (⟨(Lib.decDigits n.natAbs).toArray⟩ : ByteArray) = D := ⟨_, rfl⟩
    have HF := Lib.hid (show (⟨#[45]⟩ : ByteArray) ++ D = ⟨(Lib.itoa n).toArray⟩ by
      rw [← hD, Lib.itoa, if_pos h0]; exact ByteArray.ext (by simp))
    have hds : D.size ≤ 20 := by rw [← hD, str_size, Lib.decDigits_length]; exact Lib.nDigits_le20 _ (by omega)
    rw [hD] at HB
    clear hD hn hb
    go_enter Tryz.func30, Tryz.ntmps30
    go_wp2_with (go_at_call 52; refine HB.out.mono ?_; rintro e w2 ⟨rfl, hb2⟩; have HB2 := Lib.hid hb2; clear hb2)
    go_ret
    exact ⟨ret_str HF.out, HB2.out⟩
  · have HB := Lib.hid (ref01_below_any n.toNat (by omega) w)
    obtain ⟨m, hm⟩ : ∃ m : Int, -n = m := ⟨_, rfl⟩
    rw [show -((n.toNat : Nat) : Int) = -n by omega] at HB
    have HF := Lib.hid (show (⟨(Lib.decDigits n.toNat).toArray⟩ : ByteArray) = ⟨(Lib.itoa n).toArray⟩ by rw [Lib.itoa, if_neg h0])
    obtain ⟨h1, h2⟩ := hb
    clear hn hm
    go_enter Tryz.func30, Tryz.ntmps30
    go_wp2_with (go_at_call 52; refine HB.out.mono ?_; rintro e w2 ⟨rfl, hb2⟩; have HB2 := Lib.hid hb2; clear hb2)
    go_ret
    exact ⟨ret_str HF.out, HB2.out⟩
end Go.Proofs.YtjldgieffkemlaaGreatDoor
