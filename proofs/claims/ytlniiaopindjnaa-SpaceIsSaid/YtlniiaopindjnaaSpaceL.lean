/-
  Layer 39: SpaceIs: its walk.
-/
import Derived.Test.YtlniiaopindjnaaSpaceA
namespace Go.Proofs.Ytlniiaopindjnaa
set_option linter.unusedVariables false
open Go.RowKit

section
variable (ba ia la da ma : Option Addr) (bn bc im ic ln lc dn dc mn mc : Nat) (s : StoreD) (w : World)
set_option maxRecDepth 100000 in
set_option maxHeartbeats 4000000 in
theorem spaceIs_walk (p c : Int) (hp1 : -9223372036854775808 ≤ p) (hp : p ≤ 9223372036854775807) (hc1 : -9223372036854775808 ≤ c) (hc : c ≤ 9223372036854775807)
    (h : RStore w w.heap.size [.slice ba bn bc, .slice ia im ic, .slice la ln lc, .slice da dn dc, .slice ma mn mc] s) :
    Calls Try.prog 3 #[.int .i64 p, .int .i64 c, .agg #[.slice ba bn bc, .slice ia im ic, .slice la ln lc, .slice da dn dc, .slice ma mn mc]] w fun e w' => e = .returned (.bool true) ∧ Below w.heap.size w w' := by
  obtain ⟨w0, hw0⟩ : ∃ w0, w0 = w.alloc (.cells #[.slice ba bn bc, .slice ia im ic, .slice la ln lc, .slice da dn dc, .slice ma mn mc] 28) := ⟨_, rfl⟩
  have hbx : BoxedAt w w0 [.slice ba bn bc, .slice ia im ic, .slice la ln lc, .slice da dn dc, .slice ma mn mc] := by rw [hw0]; exact BoxedAt.alloc _ _ _
  have H0 := Lib.hid (kept_store.on hbx.below h)
  have BX := Lib.hid hbx
  have hm : mn = s.mounts.length := by
    obtain ⟨_, _, _, _, _, he, _, _, _, _, hm⟩ := h
    simp only [List.cons.injEq, and_true] at he
    obtain ⟨-, -, -, -, rfl⟩ := he
    exact (slice_open hm).1
  subst hm
  clear hbx h
  rw [hw0] at H0 BX
  clear hw0
  go_enter Try.func3, Try.ntmps3
  go_wp2_with (first | (go_at_call 7; refine (ref20_Few_any _ _ _ _ _ _ _ _ _ _ _ _ _ _ _ _ _ H0.out).mono ?_; rintro e w1 ⟨b, rfl, hb1, hq⟩; have HQ := Lib.hid hq; have BX1 := Lib.hid (BX.out.on hb1); have H1 := Lib.hid (kept_store.on hb1 H0.out); have c4 := BX1.out.cell 4 _ rfl; clear hb1 hq H0 BX; cases b))
  · go_wp2_with (first | (go_at_call 8; refine (law39_awake_any _).mono ?_; rintro e w2 ⟨rfl, hb2⟩; have HB2 := Lib.hid hb2; clear hb2))
    go_ret
    exact ⟨rfl, (BX1.out.on HB2.out).below⟩
  · have hf : FewS s := HQ.out rfl
    have hmm : (s.mounts.length : Int) ≤ 40 := by have := hf.2.2.2.2.1; omega
    have HF := Lib.hid hf
    clear hf HQ
    go_wp2
    have BXx : ∀ x : Ext w1.heap.size w1, BoxedAt w x.w [.slice ba bn bc, .slice ia im ic, .slice la ln lc, .slice da dn dc, .slice ma s.mounts.length mc] := fun x => BX1.out.on x.b
    have d0 : ∀ x : Ext w1.heap.size w1, x.w.cell? ⟨w.heap.size, 0, none⟩ = some (.slice ba bn bc) := fun x => (BXx x).cell 0 _ rfl
    have d1 : ∀ x : Ext w1.heap.size w1, x.w.cell? ⟨w.heap.size, 1, none⟩ = some (.slice ia im ic) := fun x => (BXx x).cell 1 _ rfl
    have d2 : ∀ x : Ext w1.heap.size w1, x.w.cell? ⟨w.heap.size, 2, none⟩ = some (.slice la ln lc) := fun x => (BXx x).cell 2 _ rfl
    have d3 : ∀ x : Ext w1.heap.size w1, x.w.cell? ⟨w.heap.size, 3, none⟩ = some (.slice da dn dc) := fun x => (BXx x).cell 3 _ rfl
    have d4 : ∀ x : Ext w1.heap.size w1, x.w.cell? ⟨w.heap.size, 4, none⟩ = some (.slice ma s.mounts.length mc) := fun x => (BXx x).cell 4 _ rfl
    have Hx := Lib.hid (show ∀ x : Ext w1.heap.size w1, RStore x.w x.w.heap.size [.slice ba bn bc, .slice ia im ic, .slice la ln lc, .slice da dn dc, .slice ma s.mounts.length mc] s from fun x => kept_store.on x.b H1.out)
    have BXx' := Lib.hid BXx
    clear BXx c4
    refine wp_region_bel w1.heap.size (by kernel_rfl) (by kernel_rfl) ?_
    repeat (go_big_quiet_step (first
      | (go_at_call 9; exact Calls.bel_same (need_any _ _ _ _ (by omega) (by omega) (by omega) (by omega) (by omega) (by omega)))
      | (go_at_call 10; exact Calls.bel_same (ref39_need_any _ _ _ _ (by omega) (by omega) (by omega) (by omega) (by omega) (by omega)))
      | (go_at_call 11; exact Calls.bel_of (Nat.le_refl _) (space_Most_any _ _ _ _ _ _ _ _ _ _ _ _ _ _ _ _ _ (Hx.out _) HF.out))
      | (go_at_call 12; exact Calls.bel_of (Nat.le_refl _) (ref39_Most_any _ _ _ _ _ _ _ _ _ _ _ _ _ _ _ _ _ (Hx.out _) HF.out))
      | (go_at_call 13; exact Calls.bel_of (Nat.le_refl _) (space_Blobs_any _ _ _ _ _ _ _ _ _ _ _ _ _ _ _ _ _ (Hx.out _) HF.out))
      | (go_at_call 14; exact Calls.bel_of (Nat.le_refl _) (ref39_Blobs_any _ _ _ _ _ _ _ _ _ _ _ _ _ _ _ _ _ (Hx.out _) HF.out))
      | (go_at_call 15; exact Calls.bel_of (Nat.le_refl _) (space_Records_any _ _ _ _ _ _ _ _ _ _ _ _ _ _ _ _ _ (Hx.out _) HF.out))
      | (go_at_call 16; exact Calls.bel_of (Nat.le_refl _) (ref39_Records_any _ _ _ _ _ _ _ _ _ _ _ _ _ _ _ _ _ (Hx.out _) HF.out))
      | (go_at_call 8; exact Calls.bel_of (Nat.le_refl _) (law39_awake_any _))))
    refine wpQuiet_nil ?_
    intro x
    go_wp2
    go_ret
    exact ⟨rfl, (BXx'.out x).below⟩
end
end Go.Proofs.Ytlniiaopindjnaa
