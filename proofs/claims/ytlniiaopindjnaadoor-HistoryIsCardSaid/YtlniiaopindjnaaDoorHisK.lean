/-
  Layer 35: the program's Check, walked.
-/
import Derived.Test.YtlniiaopindjnaaDoorHisT
namespace Go.Proofs.YtlniiaopindjnaaDoor
set_option linter.unusedVariables false
open Go.RowKit

/-- A parameter's box, and a call that the walk laid down, in whatever world comes. -/
structure AllAt (w W : World) (cs : List Value) (g : Nat) (x : EventD) : Prop where
  box : BoxedAt w W cs
  cap : CapAt W g x
  new : w.heap.size < g
theorem AllAt.on {w W W' : World} {cs : List Value} {g : Nat} {x : EventD} (h : AllAt w W cs g x) (hb : Below W.heap.size W W') : AllAt w W' cs g x := ⟨h.box.on hb, h.cap.on hb, h.new⟩
theorem CapAt.alloc (w : World) (x : EventD) (t : TypeId) : CapAt (w.alloc (.cells x.cells.toArray t)) w.heap.size x where
  lt := by simp
  cell := fun j v h => by
    have : (w.alloc (.cells x.cells.toArray t)).heap[w.heap.size]? = some (.cells x.cells.toArray t (0, 0)) := heap_alloc_new w _
    rw [cell_of_row _ _ j _ _ _ this]
    simpa using h
theorem AllAt.of {w wr : World} {cs : List Value} (h : BoxedAt w wr cs) (x : EventD) (t : TypeId) : AllAt w (wr.alloc (.cells x.cells.toArray t)) cs wr.heap.size x :=
  ⟨h.on ((Below.refl _ _).alloc (Nat.le_refl _) _), CapAt.alloc wr x t, h.size⟩
theorem events_take {w : World} {B : Nat} {a : Option Addr} {n cap k : Nat} {xs : List EventD} (h : REvents w B [.slice a n cap] xs) (hk : k ≤ xs.length) : REvents w B [.slice a k cap] (xs.take k) := by
  obtain ⟨a', cap', h1, h2, h3, h5, h4⟩ := h
  simp only [List.cons.injEq, Value.slice.injEq, and_true] at h1
  obtain ⟨rfl, rfl, rfl⟩ := h1
  have hl : (xs.take k).length = k := by rw [List.length_take]; omega
  refine ⟨a, cap, by rw [hl], by omega, h3, h5, fun hp => ?_⟩
  obtain ⟨b, off, e, hb, hx⟩ := h4 (by omega)
  refine ⟨b, off, e, hb, fun i x hi => hx i x ?_⟩
  have hik : i < k := by
    rcases Nat.lt_or_ge i k with h | h
    · exact h
    · rw [List.getElem?_eq_none (by omega)] at hi; cases hi
  rw [List.getElem?_take_of_lt hik] at hi
  exact hi
theorem drop_at {α : Type} {xs : List α} {k : Nat} {x : α} (h : xs[k]? = some x) : xs.drop k = x :: xs.drop (k + 1) := by
  have hk : k < xs.length := by
    rcases Nat.lt_or_ge k xs.length with h' | h'
    · exact h'
    · rw [List.getElem?_eq_none h'] at h; cases h
  rw [List.drop_eq_getElem_cons hk]
  congr 1
  rw [List.getElem?_eq_getElem hk] at h
  injection h
theorem take_at {α : Type} {xs : List α} {k : Nat} {x : α} (h : xs[k]? = some x) : xs.take (k + 1) = xs.take k ++ [x] := by
  rw [List.take_add_one, h]; rfl
theorem all_not_any (pw : List Int) (x : EventD) : pw.all (Hi.cut x) = !(pw.any fun t => !Hi.cut x t) := by
  induction pw with
  | nil => rfl
  | cons a r ih => simp [ih]
theorem fine_eq {pw : List Int} {l : Int} {prev : List EventD} {x : EventD} {q1 q2 q3 : Bool} (h1 : prev.any (Hi.clash x) = q1) (h2 : (pw.any fun t => !Hi.cut x t) = q2) (h3 : Hi.isEvent x = q3) :
    Hi.fine pw l prev x = (decide (l < x.begin_) && q3 && !q1 && !q2) := by
  unfold Hi.fine
  rw [all_not_any, h1, h2, h3]
/-- ErrArg, if it may not be. -/
def Hi.errno : Bool → Int
  | true => 0
  | false => 1
theorem ret_errno {b : Bool} {z : Int} (h : z = Hi.errno b) : Ending.returned (.int .i64 z) = .returned (.int .i64 (Hi.errno b)) := by rw [h]

set_option maxHeartbeats 4000000 in
set_option maxRecDepth 100000 in
theorem history_Check_any (ea pa : Option Addr) (en ec pn pc : Nat) (r : ReportD) (w : World) (h : REvents w w.heap.size [.slice ea en ec] r.events) (hp : RInts w w.heap.size [.slice pa pn pc] r.powers) (hs : r.powers.length ≤ 1000000) :
    Calls Tryd.prog 17 #[.agg #[.slice ea en ec, .slice pa pn pc]] w fun e w' => e = .returned (.int .i64 (Hi.errno (Hi.check r))) ∧ Below w.heap.size w w' := by
  obtain ⟨R, hR⟩ : ∃ R, Hi.check r = R := ⟨_, rfl⟩
  obtain ⟨hn, hm1, hm2, _, _⟩ := events_open h
  subst hn
  rw [maxLen_val] at hm2
  have H := Lib.hid h
  have HP := Lib.hid hp
  have BX := Lib.hid (BoxedAt.alloc w [.slice ea r.events.length ec, .slice pa pn pc] 34)
  have hg : (Hi.go r.powers 0 [] r.events && Hi.rise r.powers) = R := hR
  have HG := Lib.hid hg
  rw [hR]
  clear h hp hR hg
  go_enter Tryd.func17, Tryd.ntmps17
  go_wp2_with fail
  go_loopw [3, 11] (fun last i wr => ∃ (k : Nat) (l : Int), k ≤ r.events.length ∧ i = .int .i64 k ∧ last = .int .i64 l ∧ BoxedAt w wr [.slice ea r.events.length ec, .slice pa pn pc] ∧ Hid ((Hi.go r.powers l (r.events.take k) (r.events.drop k) && Hi.rise r.powers) = R)) (fun _ i _ => r.events.length - (intOf i).toNat)
  case atStart => exact ⟨0, 0, by omega, rfl, rfl, BX.out, by simpa using HG⟩
  case round =>
    obtain ⟨k, l, hk, rfl, rfl, hbox, hinv⟩ := hrel
    by_cases hlt : k < r.events.length
    · obtain ⟨x, hx⟩ := get_at hlt
      obtain ⟨_, _, _, _, hev⟩ := events_open (kept_events.on hbox.below H.out)
      obtain ⟨b, off, rfl, hb, hc⟩ := hev (by omega)
      obtain ⟨hok, hcell⟩ := hc k x hx
      obtain ⟨c0, c1, c2, c3, c4, c5, c6, c7, c8, c9, c10, c11, c12, c13, c14, c15⟩ := event_cells hcell
      have b0 := hbox.cell 0 _ rfl
      have bs := hbox.size
      have HX := Lib.hid hx
      have HBX := Lib.hid hbox
      obtain ⟨q1, hq1⟩ : ∃ q, (r.events.take k).any (Hi.clash x) = q := ⟨_, rfl⟩
      obtain ⟨q2, hq2⟩ : ∃ q, (r.powers.any fun t => !Hi.cut x t) = q := ⟨_, rfl⟩
      obtain ⟨q3, hq3⟩ : ∃ q, Hi.isEvent x = q := ⟨_, rfl⟩
      have HF := Lib.hid (fine_eq (l := l) hq1 hq2 hq3)
      have hi := hinv.out
      rw [drop_at hx, Hi.go, ← take_at hx] at hi
      have HI := Lib.hid hi
      have C1 := Lib.hid (fun (W : World) (hW : AllAt w W [.slice (some ⟨b, off, none⟩) r.events.length ec, .slice pa pn pc] wr.heap.size x) => containsFunc_event (some ⟨b, off, none⟩) k ec (r.events.take k) x wr.heap.size W (events_take (kept_events.on hW.box.below H.out) hk) hW.cap)
      have C2 := Lib.hid (fun (W : World) (hW : AllAt w W [.slice (some ⟨b, off, none⟩) r.events.length ec, .slice pa pn pc] wr.heap.size x) => containsFunc_int pa pn pc r.powers x wr.heap.size W (kept_ints.on hW.box.below HP.out) hW.cap)
      have C3 := Lib.hid (fun (W : World) => history_isEvent_any x W)
      simp only [hq1] at C1
      simp only [hq2] at C2
      simp only [hq3] at C3
      clear hx hbox hcell hc hev hq1 hq2 hq3 hinv hi
      go_upto_region 5 with fail
      have HA := Lib.hid (AllAt.of HBX.out x 44)
      generalize hw1 : wr.alloc _ = w1
      replace HA : Hid (AllAt w w1 [.slice (some ⟨b, off, none⟩) r.events.length ec, .slice pa pn pc] wr.heap.size x) := by rw [← hw1]; exact HA
      clear hw1 c0 c1 c2 c3 c4 c5 c6 c7 c8 c9 c10 c11 c12 c13 c14 c15 b0
      have b0 := HA.out.box.cell 0 _ rfl
      have kz : (k : Int) ≤ ec := by omega
      go_upto_region 6 with (go_at_call 42; refine (C1.out _ HA.out).mono ?_; rintro e w2 ⟨rfl, hb2⟩; replace HA := Lib.hid (HA.out.on hb2); clear hb2 b0)
      have b1 := HA.out.box.cell 1 _ rfl
      go_upto_region 7 with (go_at_call 44; refine (C2.out _ HA.out).mono ?_; rintro e w3 ⟨rfl, hb3⟩; replace HA := Lib.hid (HA.out.on hb3); clear hb3 b1)
      have e0 := HA.out.cap.cell 0 _ rfl
      have e1 := HA.out.cap.cell 1 _ rfl
      have e2 := HA.out.cap.cell 2 _ rfl
      have e3 := HA.out.cap.cell 3 _ rfl
      have e4 := HA.out.cap.cell 4 _ rfl
      have e5 := HA.out.cap.cell 5 _ rfl
      have e6 := HA.out.cap.cell 6 _ rfl
      have e7 := HA.out.cap.cell 7 _ rfl
      have e8 := HA.out.cap.cell 8 _ rfl
      have e9 := HA.out.cap.cell 9 _ rfl
      have e10 := HA.out.cap.cell 10 _ rfl
      have e11 := HA.out.cap.cell 11 _ rfl
      have e12 := HA.out.cap.cell 12 _ rfl
      have e13 := HA.out.cap.cell 13 _ rfl
      have e14 := HA.out.cap.cell 14 _ rfl
      have e15 := HA.out.cap.cell 15 _ rfl
      by_cases hb9 : x.begin_ ≤ l
      · have HR := Lib.hid (show R = false by rw [← HI.out, HF.out]; simp [show ¬ l < x.begin_ by omega])
        clear HI
        go_wp2_with (go_at_call 47; refine (C3.out _).mono ?_; rintro e w4 ⟨rfl, hb4⟩; replace HA := Lib.hid (HA.out.on hb4); clear hb4 e0 e1 e2 e3 e4 e5 e6 e7 e8 e9 e10 e11 e12 e13 e14 e15; have e9 := HA.out.cap.cell 9 _ rfl)
        go_ret
        exact ⟨ret_errno (by rw [HR.out]; rfl), HA.out.box.below⟩
      · cases q3 with
        | false =>
          have HR := Lib.hid (show R = false by rw [← HI.out, HF.out]; simp)
          clear HI
          go_wp2_with (go_at_call 47; refine (C3.out _).mono ?_; rintro e w4 ⟨rfl, hb4⟩; replace HA := Lib.hid (HA.out.on hb4); clear hb4 e0 e1 e2 e3 e4 e5 e6 e7 e8 e9 e10 e11 e12 e13 e14 e15; have e9 := HA.out.cap.cell 9 _ rfl)
          go_ret
          exact ⟨ret_errno (by rw [HR.out]; rfl), HA.out.box.below⟩
        | true =>
          cases q1 with
          | true =>
            have HR := Lib.hid (show R = false by rw [← HI.out, HF.out]; simp)
            clear HI
            go_wp2_with (go_at_call 47; refine (C3.out _).mono ?_; rintro e w4 ⟨rfl, hb4⟩; replace HA := Lib.hid (HA.out.on hb4); clear hb4 e0 e1 e2 e3 e4 e5 e6 e7 e8 e9 e10 e11 e12 e13 e14 e15; have e9 := HA.out.cap.cell 9 _ rfl)
            go_ret
            exact ⟨ret_errno (by rw [HR.out]; rfl), HA.out.box.below⟩
          | false =>
            cases q2 with
            | true =>
              have HR := Lib.hid (show R = false by rw [← HI.out, HF.out]; simp)
              clear HI
              go_wp2_with (go_at_call 47; refine (C3.out _).mono ?_; rintro e w4 ⟨rfl, hb4⟩; replace HA := Lib.hid (HA.out.on hb4); clear hb4 e0 e1 e2 e3 e4 e5 e6 e7 e8 e9 e10 e11 e12 e13 e14 e15; have e9 := HA.out.cap.cell 9 _ rfl)
              go_ret
              exact ⟨ret_errno (by rw [HR.out]; rfl), HA.out.box.below⟩
            | false =>
              have HR := Lib.hid (show (Hi.go r.powers x.begin_ (r.events.take (k + 1)) (r.events.drop (k + 1)) && Hi.rise r.powers) = R by rw [← HI.out, HF.out]; simp [show l < x.begin_ by omega])
              clear HI
              go_wp2_with (go_at_call 47; refine (C3.out _).mono ?_; rintro e w4 ⟨rfl, hb4⟩; replace HA := Lib.hid (HA.out.on hb4); clear hb4 e0 e1 e2 e3 e4 e5 e6 e7 e8 e9 e10 e11 e12 e13 e14 e15; have e9 := HA.out.cap.cell 9 _ rfl)
              go_roundw
              case rel => exact ⟨k + 1, x.begin_, by omega, by go_num, rfl, HA.out.box, HR⟩
              case measure => simp [intOf]; omega
    · have he : k = r.events.length := by omega
      subst he
      have hi := hinv.out
      rw [List.drop_length, Hi.go, Bool.true_and] at hi
      have HC := Lib.hid (history_rise_any pa pn pc r.powers wr (kept_ints.on hbox.below HP.out) hs)
      simp only [hi] at HC
      have b1 := hbox.cell 1 _ rfl
      have bs := hbox.size
      have HBX := Lib.hid hbox
      clear hbox hinv hi
      cases R with
      | true =>
        go_wp2_with (go_at_call 48; refine HC.out.mono ?_; rintro e w2 ⟨rfl, hb2⟩; have HB2 := Lib.hid hb2; clear hb2)
        go_ret
        exact ⟨rfl, HBX.out.below.trans (HB2.out.mono HBX.out.below.size)⟩
      | false =>
        go_wp2_with (go_at_call 48; refine HC.out.mono ?_; rintro e w2 ⟨rfl, hb2⟩; have HB2 := Lib.hid hb2; clear hb2)
        go_ret
        exact ⟨rfl, HBX.out.below.trans (HB2.out.mono HBX.out.below.size)⟩
end Go.Proofs.YtlniiaopindjnaaDoor
