/-
  Layer 18's awake, walked.
-/
import Derived.Test.YtlniiaopindjnaaLookK
import Derived.Test.YtlniiaopindjnaaFreeW
import Derived.Test.YtlniiaopindjnaaTextL
namespace Go.Proofs.Ytlniiaopindjnaa
set_option linter.unusedVariables false
open Go.RowKit

theorem two_reads (w : World) : RNameds ((w.alloc (.cells #[.string ⟨#[120]⟩] 9)).alloc (.cells #[.string ⟨#[48, 48, 48, 48, 48, 97]⟩, .slice (some ⟨w.heap.size, 0, none⟩) 1 1, .string ⟨#[48, 48, 48, 48, 98, 48]⟩, .slice none 0 0] 44))
    (w.heap.size + 2) [.slice (some ⟨w.heap.size + 1, 0, none⟩) 2 2] Lk.two := by
  have hs1 : (w.alloc (.cells #[.string ⟨#[120]⟩] 9)).heap.size = w.heap.size + 1 := by simp
  have hb1 := heap_alloc_new w (.cells #[.string ⟨#[120]⟩] 9 (0, 0))
  have hb2 := heap_alloc_new (w.alloc (.cells #[.string ⟨#[120]⟩] 9)) (.cells #[.string ⟨#[48, 48, 48, 48, 48, 97]⟩, .slice (some ⟨w.heap.size, 0, none⟩) 1 1, .string ⟨#[48, 48, 48, 48, 98, 48]⟩, .slice none 0 0] 44 (0, 0))
  rw [hs1] at hb2
  have hr := slice_of_block (size := 1) (R := RStr) (cap := 1) (B := w.heap.size + 1) (xs := [⟨#[120]⟩]) hb1 (by omega) (by decide) (by decide) (by
    intro i x hi
    match i, hi with
    | 0, hi => simp at hi; subst hi; exact ⟨[_], rfl, fun j hj => by match j, hj with | 0, _ => rfl, rfl, by decide⟩)
  have hr2 := kept_strs.go (B' := w.heap.size + 2) (Same.of_below ((Below.refl (w.heap.size + 1) (w.alloc (.cells #[.string ⟨#[120]⟩] 9))).alloc (by omega) (.cells #[.string ⟨#[48, 48, 48, 48, 48, 97]⟩, .slice (some ⟨w.heap.size, 0, none⟩) 1 1, .string ⟨#[48, 48, 48, 48, 98, 48]⟩, .slice none 0 0] 44)) (Nat.le_refl _)) (by omega) hr
  refine slice_of_block (size := 2) (R := RNamed) (cap := 2) (xs := Lk.two) hb2 (by omega) (by decide) (by decide) ?_
  intro i x hi
  match i, hi with
  | 0, hi =>
    simp [Lk.two] at hi; subst hi
    exact ⟨[_, _], rfl, fun j hj => by match j, hj with | 0, _ => rfl | 1, _ => rfl, _, rfl, hr2, by decide⟩
  | 1, hi =>
    simp [Lk.two] at hi; subst hi
    exact ⟨[_, _], rfl, fun j hj => by match j, hj with | 0, _ => rfl | 1, _ => rfl, _, rfl, slice_nil, by decide⟩

set_option maxHeartbeats 2000000 in
set_option maxRecDepth 100000 in
theorem law18_awake_any (w : World) : Calls Try.prog 18 #[] w fun e w' => e = .returned (.bool true) ∧ Below w.heap.size w w' := by
  have h := two_reads w
  obtain ⟨w2, hw2⟩ : ∃ w2, w2 = (w.alloc (.cells #[.string ⟨#[120]⟩] 9)).alloc (.cells #[.string ⟨#[48, 48, 48, 48, 48, 97]⟩, .slice (some ⟨w.heap.size, 0, none⟩) 1 1, .string ⟨#[48, 48, 48, 48, 98, 48]⟩, .slice none 0 0] 44) := ⟨_, rfl⟩
  have hs2 : w2.heap.size = w.heap.size + 2 := by rw [hw2]; simp
  have hb2 : Below w.heap.size w w2 := by rw [hw2]; exact ((Below.refl _ _).alloc (Nat.le_refl _) _).alloc (by simp) _
  rw [← hw2, ← hs2] at h
  have HR := Lib.hid h
  have BW := Lib.hid hb2
  have hx := fun (W : World) (hW : RNameds W W.heap.size [.slice (some ⟨w.heap.size + 1, 0, none⟩) 2 2] Lk.two) => lookup_Find_any _ _ _ Lk.two ⟨#[120]⟩ W hW (by decide) (by decide)
  have hb := fun (W : World) (hW : RNameds W W.heap.size [.slice (some ⟨w.heap.size + 1, 0, none⟩) 2 2] Lk.two) => lookup_Find_any _ _ _ Lk.two ⟨#[48, 48, 48, 48, 98]⟩ W hW (by decide) (by decide)
  have h0 := fun (W : World) (hW : RNameds W W.heap.size [.slice (some ⟨w.heap.size + 1, 0, none⟩) 2 2] Lk.two) => lookup_Find_any _ _ _ Lk.two ⟨#[48, 48, 48, 48]⟩ W hW (by decide) (by decide)
  have hy := fun (W : World) (hW : RNameds W W.heap.size [.slice (some ⟨w.heap.size + 1, 0, none⟩) 2 2] Lk.two) => lookup_Find_any _ _ _ Lk.two ⟨#[121]⟩ W hW (by decide) (by decide)
  have hf := fun (W : World) (hW : RNameds W W.heap.size [.slice (some ⟨w.heap.size + 1, 0, none⟩) 2 2] Lk.two) => lookup_Fresh_any _ _ _ Lk.two 10 W hW
  have ht := fun (W : World) (hW : RNameds W W.heap.size [.slice (some ⟨w.heap.size + 1, 0, none⟩) 2 2] Lk.two) => lookup_Text_any _ _ _ Lk.two W hW Lk.two_few
  rw [show Lk.start 10 = 10 from rfl] at hf
  simp only [Lk.two_x, Lk.two_b, Lk.two_0, Lk.two_y, Lk.two_10, Lk.two_lines] at hx hb h0 hy hf ht
  have HXX := Lib.hid hx
  have HBB := Lib.hid hb
  have H00 := Lib.hid h0
  have HYY := Lib.hid hy
  have HFF := Lib.hid hf
  have HTT := Lib.hid ht
  clear h hb2 hx hb h0 hy hf ht
  go_enter Try.func18, Try.ntmps18
  rw [hw2] at HR BW
  clear hw2 hs2
  go_wp2_with (first
    | (go_at_call 19; with_reducible refine (HXX.out _ HR.out).mono ?_; rintro e w3 ⟨rfl, hb3⟩; replace HR := Lib.hid (kept_nameds.on hb3 HR.out); replace BW := Lib.hid (BW.out.trans (hb3.mono BW.out.size)); clear hb3)
    | (go_at_call 19; with_reducible refine (HBB.out _ HR.out).mono ?_; rintro e w3 ⟨rfl, hb3⟩; replace HR := Lib.hid (kept_nameds.on hb3 HR.out); replace BW := Lib.hid (BW.out.trans (hb3.mono BW.out.size)); clear hb3)
    | (go_at_call 19; with_reducible refine (H00.out _ HR.out).mono ?_; rintro e w3 ⟨rfl, hb3⟩; replace HR := Lib.hid (kept_nameds.on hb3 HR.out); replace BW := Lib.hid (BW.out.trans (hb3.mono BW.out.size)); clear hb3)
    | (go_at_call 19; with_reducible refine (HYY.out _ HR.out).mono ?_; rintro e w3 ⟨rfl, hb3⟩; replace HR := Lib.hid (kept_nameds.on hb3 HR.out); replace BW := Lib.hid (BW.out.trans (hb3.mono BW.out.size)); clear hb3)
    | (go_at_call 21; with_reducible refine (HFF.out _ HR.out).mono ?_; rintro e w3 ⟨rfl, hb3⟩; replace HR := Lib.hid (kept_nameds.on hb3 HR.out); replace BW := Lib.hid (BW.out.trans (hb3.mono BW.out.size)); clear hb3)
    | (go_at_call 23; with_reducible refine (HTT.out _ HR.out).mono ?_; rintro e w3 ⟨rfl, hb3⟩; replace HR := Lib.hid (kept_nameds.on hb3 HR.out); replace BW := Lib.hid (BW.out.trans (hb3.mono BW.out.size)); clear hb3))
  go_ret
  exact ⟨rfl, BW.out⟩
end Go.Proofs.Ytlniiaopindjnaa
