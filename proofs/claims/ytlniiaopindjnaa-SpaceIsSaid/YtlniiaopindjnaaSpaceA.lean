/-
  Layer 39: awake, walked.
-/
import Derived.Test.YtlniiaopindjnaaSpaceR
import Derived.Deep.DeepCutAuto
namespace Go.Proofs.Ytlniiaopindjnaa
set_option linter.unusedVariables false
open Go.RowKit

def bs1 (b : UInt8) : ByteArray := ⟨#[b]⟩
def layerA (b : UInt8) : LayerD := ⟨bs1 b, ⟨#[]⟩, [], ⟨#[]⟩, 0, 0, false⟩
def storeA : StoreD := ⟨[], [⟨⟨#[]⟩, [], ⟨#[]⟩, ⟨#[]⟩, []⟩], [layerA 97, layerA 98, layerA 99], [⟨#[120, 121]⟩, ⟨#[120, 121]⟩, ⟨#[122]⟩], []⟩
def AwakeW (w wx : World) (g : Nat) : Prop :=
  ∃ (ia la da : Option Addr), HoldsAt w wx g [.slice none 0 0, .slice ia 1 1, .slice la 3 3, .slice da 3 3, .slice none 0 0] ∧ RStore wx wx.heap.size [.slice none 0 0, .slice ia 1 1, .slice la 3 3, .slice da 3 3, .slice none 0 0] storeA
def lyC (b : UInt8) : List Value := [.string (bs1 b), .string ⟨#[]⟩, .slice none 0 0, .string ⟨#[]⟩, .int .i64 0, .int .i64 0, .bool false]

theorem awakeW_mk (w : World) (tl ts ti tt : TypeId) :
    AwakeW w ((((w.alloc (.cells #[.string ⟨#[97]⟩, .string ⟨#[]⟩, .slice none 0 0, .string ⟨#[]⟩, .int .i64 0, .int .i64 0, .bool false, .string ⟨#[98]⟩, .string ⟨#[]⟩, .slice none 0 0, .string ⟨#[]⟩, .int .i64 0, .int .i64 0, .bool false, .string ⟨#[99]⟩, .string ⟨#[]⟩, .slice none 0 0, .string ⟨#[]⟩, .int .i64 0, .int .i64 0, .bool false] tl)).alloc
      (.cells #[.string ⟨#[120, 121]⟩, .string ⟨#[120, 121]⟩, .string ⟨#[122]⟩] ts)).alloc
      (.cells #[.string ⟨#[]⟩, .slice none 0 0, .string ⟨#[]⟩, .string ⟨#[]⟩, .slice none 0 0] ti)).alloc
      (.cells #[.slice none 0 0, .slice (some ⟨w.heap.size + 1 + 1, 0, none⟩) 1 1, .slice (some ⟨w.heap.size, 0, none⟩) 3 3, .slice (some ⟨w.heap.size + 1, 0, none⟩) 3 3, .slice none 0 0] tt)) (w.heap.size + 1 + 1 + 1) := by
  generalize hL : (Obj.cells #[.string ⟨#[97]⟩, .string ⟨#[]⟩, .slice none 0 0, .string ⟨#[]⟩, .int .i64 0, .int .i64 0, .bool false, .string ⟨#[98]⟩, .string ⟨#[]⟩, .slice none 0 0, .string ⟨#[]⟩, .int .i64 0, .int .i64 0, .bool false, .string ⟨#[99]⟩, .string ⟨#[]⟩, .slice none 0 0, .string ⟨#[]⟩, .int .i64 0, .int .i64 0, .bool false] tl) = o0
  generalize hD : (Obj.cells #[.string ⟨#[120, 121]⟩, .string ⟨#[120, 121]⟩, .string ⟨#[122]⟩] ts) = o1
  generalize hI : (Obj.cells #[.string ⟨#[]⟩, .slice none 0 0, .string ⟨#[]⟩, .string ⟨#[]⟩, .slice none 0 0] ti) = o2
  generalize hS : (Obj.cells #[.slice none 0 0, .slice (some ⟨w.heap.size + 1 + 1, 0, none⟩) 1 1, .slice (some ⟨w.heap.size, 0, none⟩) 3 3, .slice (some ⟨w.heap.size + 1, 0, none⟩) 3 3, .slice none 0 0] tt) = o3
  have hsz : ((((w.alloc o0).alloc o1).alloc o2).alloc o3).heap.size = w.heap.size + 1 + 1 + 1 + 1 := by simp
  have b0 : ((((w.alloc o0).alloc o1).alloc o2).alloc o3).heap[w.heap.size]? = some o0 := by
    show ((((w.heap.push _).push _).push _).push _)[_]? = _
    simp only [Array.getElem?_push, Array.size_push]
    rw [if_neg (by omega), if_neg (by omega), if_neg (by omega), if_pos trivial]
  have b1 : ((((w.alloc o0).alloc o1).alloc o2).alloc o3).heap[w.heap.size + 1]? = some o1 := by
    show ((((w.heap.push _).push _).push _).push _)[_]? = _
    simp only [Array.getElem?_push, Array.size_push]
    rw [if_neg (by omega), if_neg (by omega), if_pos trivial]
  have b2 : ((((w.alloc o0).alloc o1).alloc o2).alloc o3).heap[w.heap.size + 1 + 1]? = some o2 := by
    show ((((w.heap.push _).push _).push _).push _)[_]? = _
    simp only [Array.getElem?_push, Array.size_push]
    rw [if_neg (by omega), if_pos trivial]
  have b3 : ((((w.alloc o0).alloc o1).alloc o2).alloc o3).heap[w.heap.size + 1 + 1 + 1]? = some o3 := by
    show ((((w.heap.push _).push _).push _).push _)[_]? = _
    simp only [Array.getElem?_push, Array.size_push]
    rw [if_pos trivial]
  have hbel : Below w.heap.size w ((((w.alloc o0).alloc o1).alloc o2).alloc o3) :=
    ((((Below.refl _ _).alloc (Nat.le_refl _) _).alloc (by simp) _).alloc (by simp; omega) _).alloc (by simp; omega) _
  generalize ((((w.alloc o0).alloc o1).alloc o2).alloc o3) = wx at *
  subst hL hD hI hS
  refine ⟨some ⟨w.heap.size + 1 + 1, 0, none⟩, some ⟨w.heap.size, 0, none⟩, some ⟨w.heap.size + 1, 0, none⟩, ⟨hbel, by omega, fun j v hj => ?_⟩, ?_⟩
  · rw [cell_of_row _ _ j _ _ _ b3]; simpa using hj
  · refine ⟨_, _, _, _, _, rfl, slice_nil, ?_, ?_, ?_, slice_nil⟩
    · refine slice_of_block (xs := storeA.images) (cap := 1) (B := wx.heap.size) b2 (by omega) (by decide) (by decide) fun i x hi => ?_
      match i, hi with
      | 0, hi =>
        simp [storeA] at hi; subst hi
        exact ⟨[.string ⟨#[]⟩, .slice none 0 0, .string ⟨#[]⟩, .string ⟨#[]⟩, .slice none 0 0], rfl, fun j hj => by simp, _, _, rfl, slice_nil, slice_nil, by decide, by decide, by decide⟩
    · refine slice_of_block (xs := storeA.layers) (cap := 3) (B := wx.heap.size) b0 (by omega) (by decide) (by decide) fun i x hi => ?_
      match i, hi with
      | 0, hi =>
        simp [storeA] at hi; subst hi
        exact ⟨lyC 97, rfl, fun j hj => by (match j, hj with | 0, _ => rfl | 1, _ => rfl | 2, _ => rfl | 3, _ => rfl | 4, _ => rfl | 5, _ => rfl | 6, _ => rfl), _, rfl, slice_nil, by decide, by decide, by decide, by decide, by decide⟩
      | 1, hi =>
        simp [storeA] at hi; subst hi
        exact ⟨lyC 98, rfl, fun j hj => by (match j, hj with | 0, _ => rfl | 1, _ => rfl | 2, _ => rfl | 3, _ => rfl | 4, _ => rfl | 5, _ => rfl | 6, _ => rfl), _, rfl, slice_nil, by decide, by decide, by decide, by decide, by decide⟩
      | 2, hi =>
        simp [storeA] at hi; subst hi
        exact ⟨lyC 99, rfl, fun j hj => by (match j, hj with | 0, _ => rfl | 1, _ => rfl | 2, _ => rfl | 3, _ => rfl | 4, _ => rfl | 5, _ => rfl | 6, _ => rfl), _, rfl, slice_nil, by decide, by decide, by decide, by decide, by decide⟩
    · refine slice_of_block (xs := storeA.diffs) (cap := 3) (B := wx.heap.size) b1 (by omega) (by decide) (by decide) fun i x hi => ?_
      match i, hi with
      | 0, hi => simp [storeA] at hi; subst hi; exact ⟨[.string ⟨#[120, 121]⟩], rfl, fun j hj => by (match j, hj with | 0, _ => rfl), rfl, by decide⟩
      | 1, hi => simp [storeA] at hi; subst hi; exact ⟨[.string ⟨#[120, 121]⟩], rfl, fun j hj => by (match j, hj with | 0, _ => rfl), rfl, by decide⟩
      | 2, hi => simp [storeA] at hi; subst hi; exact ⟨[.string ⟨#[122]⟩], rfl, fun j hj => by (match j, hj with | 0, _ => rfl), rfl, by decide⟩

theorem few_storeA : FewS storeA := by refine ⟨by decide, by decide, by decide, by decide, by decide, ?_⟩; decide
theorem recs_storeA : recs storeA = 4 := by decide
theorem sdd_storeA : sdd storeA = [[120, 121], [122]] := by decide
theorem blobs_storeA : blobsOf storeA = 2 := by unfold blobsOf; rw [sdd_storeA]; rfl
theorem most_storeA : mostOf storeA = 12419 := by unfold mostOf; rw [sdd_storeA, recs_storeA]; rfl
theorem need_110 : Sp.need 1 1 0 = 103168 := by decide
theorem need_neg : Sp.need (-1) 0 0 = 0 := by decide

theorem need_110_any (w : World) : Calls Try.prog 9 #[.int .i64 1, .int .i64 1, .int .i64 0] w fun e w' => e = .returned (.int .i64 103168) ∧ w = w' := by
  have h := need_any 1 1 0 w (by omega) (by omega) (by omega) (by omega) (by omega) (by omega)
  rwa [need_110] at h
theorem need_neg_any (w : World) : Calls Try.prog 9 #[.int .i64 (-1), .int .i64 0, .int .i64 0] w fun e w' => e = .returned (.int .i64 0) ∧ w = w' := by
  have h := need_any (-1) 0 0 w (by omega) (by omega) (by omega) (by omega) (by omega) (by omega)
  rwa [need_neg] at h
theorem recs_storeA_any {w : World} {P : Program} {f : FuncId} {args : Array Value} (h : Calls P f args w (RInt64 (recs storeA) w)) : Calls P f args w (RInt64 4 w) := by rwa [recs_storeA] at h
theorem blobs_storeA_any {w : World} {P : Program} {f : FuncId} {args : Array Value} (h : Calls P f args w (RInt64 (blobsOf storeA) w)) : Calls P f args w (RInt64 2 w) := by rwa [blobs_storeA] at h
theorem most_storeA_any {w : World} {P : Program} {f : FuncId} {args : Array Value} (h : Calls P f args w (RInt64 (mostOf storeA) w)) : Calls P f args w (RInt64 12419 w) := by rwa [most_storeA] at h
set_option maxRecDepth 100000 in
set_option maxHeartbeats 1000000 in
theorem law39_awake_any (w : World) : Calls Try.prog 8 #[] w fun e w' => e = .returned (.bool true) ∧ Below w.heap.size w w' := by
  go_enter Try.func8, Try.ntmps8
  go_upto_region 1 with fail
  go_cut [1] (fun s1 wx => ∃ g, s1 = .pointer (some ⟨g, 0, none⟩) ∧ AwakeW w wx g)
  case first =>
    go_wp2_with fail
    go_meet
    exact ⟨_, rfl, awakeW_mk w _ _ _ _⟩
  case rest =>
    obtain ⟨g, rfl, ia, la, da, hh, hst⟩ := hcut
    have HH := Lib.hid (show ∀ x : Ext wc.heap.size wc, HoldsAt w x.w g _ from fun x => hh.on hh.below.size x.b)
    have Hx := Lib.hid (show ∀ x : Ext wc.heap.size wc, RStore x.w x.w.heap.size _ storeA from fun x => kept_store.on x.b hst)
    have d0 : ∀ x : Ext wc.heap.size wc, x.w.cell? ⟨g, 0, none⟩ = some (.slice none 0 0) := fun x => (HH.out x).cell 0 _ rfl
    have d1 : ∀ x : Ext wc.heap.size wc, x.w.cell? ⟨g, 1, none⟩ = some (.slice ia 1 1) := fun x => (HH.out x).cell 1 _ rfl
    have d2 : ∀ x : Ext wc.heap.size wc, x.w.cell? ⟨g, 2, none⟩ = some (.slice la 3 3) := fun x => (HH.out x).cell 2 _ rfl
    have d3 : ∀ x : Ext wc.heap.size wc, x.w.cell? ⟨g, 3, none⟩ = some (.slice da 3 3) := fun x => (HH.out x).cell 3 _ rfl
    have d4 : ∀ x : Ext wc.heap.size wc, x.w.cell? ⟨g, 4, none⟩ = some (.slice none 0 0) := fun x => (HH.out x).cell 4 _ rfl
    clear hh hst
    go_upto_region 2 with fail
    refine wp_region_bel_plain wc.heap.size ?_
    repeat (go_big_quiet_step (first
      | (go_at_call 9; first | (with_reducible exact Calls.bel_same (need_110_any _)) | (with_reducible exact Calls.bel_same (need_neg_any _)))
      | (go_at_call 11; exact Calls.bel_of (Nat.le_refl _) (most_storeA_any (space_Most_any _ _ _ _ _ _ _ _ _ _ _ _ _ _ _ _ _ (Hx.out _) few_storeA)))
      | (go_at_call 13; exact Calls.bel_of (Nat.le_refl _) (blobs_storeA_any (space_Blobs_any _ _ _ _ _ _ _ _ _ _ _ _ _ _ _ _ _ (Hx.out _) few_storeA)))
      | (go_at_call 15; exact Calls.bel_of (Nat.le_refl _) (recs_storeA_any (space_Records_any _ _ _ _ _ _ _ _ _ _ _ _ _ _ _ _ _ (Hx.out _) few_storeA)))))
    refine wpQuiet_nil ?_
    intro x
    go_wp2
    go_ret
    exact ⟨rfl, (HH.out x).below⟩
end Go.Proofs.Ytlniiaopindjnaa
