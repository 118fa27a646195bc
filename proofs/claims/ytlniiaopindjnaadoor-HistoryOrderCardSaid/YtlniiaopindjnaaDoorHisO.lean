/-
  Layer 35: HistoryOrder, walked.
-/
import Derived.Test.YtlniiaopindjnaaDoorHisV
import Derived.Test.YtlniiaopindjnaaDoorHisF
import Derived.Test.YtlniiaopindjnaaDoorHisG
import Derived.Test.YtlniiaopindjnaaDoorLoadF
namespace Go.Proofs.YtlniiaopindjnaaDoor
set_option linter.unusedVariables false
open Go.RowKit
open Go.Lib hiding intOf

/-- The two parameters' boxes, in whatever world comes. -/
structure OrdAt (w W : World) (cs : List Value) (p q s : Int) : Prop where
  box : BoxedAt w W cs
  lt : w.heap.size + 1 < W.heap.size
  c0 : W.cell? ⟨w.heap.size + 1, 0, none⟩ = some (.int .u8 p)
  c1 : W.cell? ⟨w.heap.size + 1, 1, none⟩ = some (.int .u8 q)
  c2 : W.cell? ⟨w.heap.size + 1, 2, none⟩ = some (.int .u8 s)
theorem OrdAt.on {w W W' : World} {cs : List Value} {p q s : Int} (h : OrdAt w W cs p q s) (hb : Below W.heap.size W W') : OrdAt w W' cs p q s :=
  ⟨h.box.on hb, Nat.lt_of_lt_of_le h.lt hb.size, (hb.cell (p := ⟨w.heap.size + 1, 0, none⟩) h.lt).trans h.c0, (hb.cell (p := ⟨w.heap.size + 1, 1, none⟩) h.lt).trans h.c1, (hb.cell (p := ⟨w.heap.size + 1, 2, none⟩) h.lt).trans h.c2⟩
theorem OrdAt.of (w : World) (cs : List Value) (t u : TypeId) (p q s : Int) : OrdAt w ((w.alloc (.cells cs.toArray t)).alloc (.cells #[.int .u8 p, .int .u8 q, .int .u8 s] u)) cs p q s := by
  have h := (BoxedAt.alloc w cs t).on (bel1 _ (.cells #[.int .u8 p, .int .u8 q, .int .u8 s] u))
  have hn := heap_alloc_new (w.alloc (.cells cs.toArray t)) (.cells #[.int .u8 p, .int .u8 q, .int .u8 s] u)
  have hsz : (w.alloc (.cells cs.toArray t)).heap.size = w.heap.size + 1 := by simp
  rw [hsz] at hn
  refine ⟨h, by simp, ?_, ?_, ?_⟩
  · rw [cell_of_row _ _ 0 _ _ _ hn]; rfl
  · rw [cell_of_row _ _ 1 _ _ _ hn]; rfl
  · rw [cell_of_row _ _ 2 _ _ _ hn]; rfl

set_option maxHeartbeats 400000 in
set_option maxRecDepth 100000 in
/-- Where the report may not be, or has no call: what awake answers. -/
theorem historyOrder_early (ea pa : Option Addr) (en ec pn pc : Nat) (r : ReportD) (p q s : Int) (w : World) (h : REvents w w.heap.size [.slice ea en ec] r.events) (hp : RInts w w.heap.size [.slice pa pn pc] r.powers) (ht : Pow w)
    (z : Int) (hz : z = Hi.errno (Hi.check r)) (hz2 : z = 1 ∨ (z = 0 ∧ r.events.length = 0)) :
    Calls Tryd.prog 7 #[.agg #[.slice ea en ec, .slice pa pn pc], .agg #[.int .u8 p, .int .u8 q, .int .u8 s]] w fun e w' => e = .returned (.bool true) ∧ Below w.heap.size w w' := by
  obtain ⟨hn, hm1, hm2, -, -⟩ := events_open h
  subst hn
  rw [maxLen_val] at hm2
  have H := Lib.hid h
  have HP := Lib.hid hp
  have HT := Lib.hid ht
  have HO := Lib.hid (OrdAt.of w [.slice ea r.events.length ec, .slice pa pn pc] 34 35 p q s)
  have HF := Lib.hid (fun (W : World) (hW : Below w.heap.size w W) => ref35_Few_any ea pa r.events.length ec pn pc r W (kept_events.on hW h) (kept_ints.on hW hp))
  have HC := Lib.hid (fun (W : World) (hW : Below w.heap.size w W) (hs : r.powers.length ≤ 1000000) => (hz ▸ history_Check_any ea pa r.events.length ec pn pc r W (kept_events.on hW h) (kept_ints.on hW hp) hs : Calls Tryd.prog 17 #[.agg #[.slice ea r.events.length ec, .slice pa pn pc]] W fun e w' => e = .returned (.int .i64 z) ∧ Below W.heap.size W w'))
  have HAW := Lib.hid (fun (W : World) (hW : Below w.heap.size w W) => law35_awake_any W (ht.on hW))
  clear h hp ht hz
  rcases hz2 with rfl | ⟨rfl, h0⟩
  rotate_left
  · have hl0 : ((r.events.length : Int) == 0) = true := by rw [h0]; rfl
    clear h0
    go_enter Tryd.func7, Tryd.ntmps7
    go_upto_region 1 with fail
    generalize World.alloc _ _ = w1 at HO ⊢
    have b0 := HO.out.box.cell 0 _ rfl
    have b1 := HO.out.box.cell 1 _ rfl
    go_wp2_with (first
      | (go_at_call 16; refine (HF.out _ HO.out.box.below).mono ?_; rintro e w3 ⟨fb, rfl, hb3, hf⟩; replace HO := Lib.hid (HO.out.on hb3); have HFW := Lib.hid hf; clear hb3 hf b0 b1; have b0 := HO.out.box.cell 0 _ rfl; have b1 := HO.out.box.cell 1 _ rfl; cases fb)
      | (go_at_call 17; refine (HC.out _ HO.out.box.below (by have := (HFW.out rfl).2.1; omega)).mono ?_; rintro e w4 ⟨rfl, hb4⟩; replace HO := Lib.hid (HO.out.on hb4); clear hb4 b0 b1; have b0 := HO.out.box.cell 0 _ rfl; have b1 := HO.out.box.cell 1 _ rfl)
      | (go_at_call 18; refine (HAW.out _ HO.out.box.below).mono ?_; rintro e w5 ⟨rfl, hb5⟩; replace HO := Lib.hid (HO.out.on hb5); clear hb5))
    all_goals
      go_ret
      exact ⟨rfl, HO.out.box.below⟩
  · go_enter Tryd.func7, Tryd.ntmps7
    go_upto_region 1 with fail
    generalize World.alloc _ _ = w1 at HO ⊢
    have b0 := HO.out.box.cell 0 _ rfl
    have b1 := HO.out.box.cell 1 _ rfl
    go_wp2_with (first
      | (go_at_call 16; refine (HF.out _ HO.out.box.below).mono ?_; rintro e w3 ⟨fb, rfl, hb3, hf⟩; replace HO := Lib.hid (HO.out.on hb3); have HFW := Lib.hid hf; clear hb3 hf b0 b1; have b0 := HO.out.box.cell 0 _ rfl; have b1 := HO.out.box.cell 1 _ rfl; cases fb)
      | (go_at_call 17; refine (HC.out _ HO.out.box.below (by have := (HFW.out rfl).2.1; omega)).mono ?_; rintro e w4 ⟨rfl, hb4⟩; replace HO := Lib.hid (HO.out.on hb4); clear hb4 b0 b1; have b0 := HO.out.box.cell 0 _ rfl; have b1 := HO.out.box.cell 1 _ rfl)
      | (go_at_call 18; refine (HAW.out _ HO.out.box.below).mono ?_; rintro e w5 ⟨rfl, hb5⟩; replace HO := Lib.hid (HO.out.on hb5); clear hb5))
    all_goals
      go_ret
      exact ⟨rfl, HO.out.box.below⟩
end Go.Proofs.YtlniiaopindjnaaDoor
