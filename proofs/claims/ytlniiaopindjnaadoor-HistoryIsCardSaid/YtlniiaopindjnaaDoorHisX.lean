/-
  Layer 35: a report as lines: plain; the program's Text, walked.
-/
import Derived.Test.YtlniiaopindjnaaDoorHisL
namespace Go.Proofs.YtlniiaopindjnaaDoor
set_option linter.unusedVariables false
open Go.RowKit
open Go.Lib hiding intOf

namespace Hi
def seven (e : EventD) : List Int := [e.begin_, e.end_, e.pid, e.state, e.call.kind, e.answer.err, e.answer.n]
def lineE (e : EventD) : List UInt8 := lineL e.answer.id.data.toList (seven e)
def lineP (p : Int) : List UInt8 := [112, 111, 119, 101, 114, 32] ++ lineL (Lib.itoa p) []
def linesE (l : List EventD) : List UInt8 := l.flatMap lineE
def linesP (l : List Int) : List UInt8 := l.flatMap lineP
def textL (r : ReportD) : List UInt8 := linesE r.events ++ linesP r.powers
theorem linesE_at {l : List EventD} {k : Nat} {x : EventD} (h : l[k]? = some x) : linesE (l.take (k + 1)) = linesE (l.take k) ++ lineE x := by
  unfold linesE
  rw [take_at h, List.flatMap_append, List.flatMap_singleton]
theorem linesP_at {l : List Int} {k : Nat} {x : Int} (h : l[k]? = some x) : linesP (l.take (k + 1)) = linesP (l.take k) ++ lineP x := by
  unfold linesP
  rw [take_at h, List.flatMap_append, List.flatMap_singleton]
theorem seven_fits {e : EventD} (h : e.Ok) : ∀ n ∈ seven e, Fits n := by
  intro n hn
  simp only [seven, List.mem_cons, List.mem_nil_iff, or_false] at hn
  rcases hn with rfl | rfl | rfl | rfl | rfl | rfl | rfl
  · exact h.begin_
  · exact h.end_
  · exact h.pid
  · exact h.state
  · exact h.kind
  · exact h.err
  · exact h.n
theorem lineE_len {e : EventD} (h : e.Ok) (hi : e.answer.id.size ≤ 100) : (lineE e).length ≤ 255 := by
  have := lineL_len e.answer.id.data.toList (seven e) (seven_fits h)
  unfold lineE
  simp [seven] at this ⊢
  omega
theorem lineP_len {p : Int} (h : Fits p) : (lineP p).length ≤ 255 := by
  have hb := fits_bounds h
  have h1 := Lib.itoa_length_le p hb.1 hb.2
  simp [lineP, lineL, nums]
  omega
theorem flat_len {α : Type} {f : α → List UInt8} : ∀ (l : List α), (∀ x ∈ l, (f x).length ≤ 255) → (l.flatMap f).length ≤ 255 * l.length
  | [], _ => by simp
  | a :: r, h => by
    have h1 := h a (List.mem_cons_self ..)
    have h2 := flat_len r (fun x hx => h x (List.mem_cons_of_mem _ hx))
    rw [List.flatMap_cons, List.length_append, List.length_cons]
    omega
end Hi
/-- What Text asks of a report. -/
structure ReportD.Lined (r : ReportD) : Prop where
  events : r.events.length ≤ 20
  powers : r.powers.length ≤ 10
  ok : ∀ e ∈ r.events, e.Ok ∧ e.answer.id.size ≤ 100
  fits : ∀ p ∈ r.powers, Fits p
theorem seven_read (x : EventD) (hx : x.Ok) (W : World) : RInts (W.alloc (.cells #[.int .i64 x.begin_, .int .i64 x.end_, .int .i64 x.pid, .int .i64 x.state, .int .i64 x.call.kind, .int .i64 x.answer.err, .int .i64 x.answer.n] 3)) (W.alloc (.cells #[.int .i64 x.begin_, .int .i64 x.end_, .int .i64 x.pid, .int .i64 x.state, .int .i64 x.call.kind, .int .i64 x.answer.err, .int .i64 x.answer.n] 3)).heap.size
    [.slice (some ⟨W.heap.size, 0, none⟩) 7 7] (Hi.seven x) := by
  refine slice_of_block (size := 1) (R := RInt .i64) (xs := Hi.seven x) (cap := 7) (heap_alloc_new W _) (by simp) (Nat.le_refl 7) (by decide) fun i y hi => ⟨[.int .i64 y], rfl, fun j hj => ?_, rfl, Hi.seven_fits hx y (List.mem_of_getElem? hi)⟩
  obtain rfl : j = 0 := by omega
  have hil : i < 7 := (List.getElem?_eq_some_iff.1 hi).1
  rcases (by omega : i = 0 ∨ i = 1 ∨ i = 2 ∨ i = 3 ∨ i = 4 ∨ i = 5 ∨ i = 6) with rfl | rfl | rfl | rfl | rfl | rfl | rfl <;> (simp [Hi.seven] at hi; subst hi; rfl)
theorem text_size {l : List UInt8} {n : Nat} (h : l.length ≤ n) : (⟨l.toArray⟩ : ByteArray).size ≤ n := h

set_option maxHeartbeats 4000000 in
set_option maxRecDepth 100000 in
theorem history_Text_any (ea pa : Option Addr) (en ec pn pc : Nat) (r : ReportD) (w : World) (h : REvents w w.heap.size [.slice ea en ec] r.events) (hp : RInts w w.heap.size [.slice pa pn pc] r.powers) (hr : r.Lined) (ht : Pow w) :
    Calls Tryd.prog 27 #[.agg #[.slice ea en ec, .slice pa pn pc]] w fun e w' => e = .returned (.string ⟨(Hi.textL r).toArray⟩) ∧ Below w.heap.size w w' := by
  obtain ⟨hn, hm1, hm2, _, _⟩ := events_open h
  obtain ⟨hn2, p1, p2, _, _⟩ := ints_open hp
  subst hn hn2
  rw [maxLen_val] at hm2 p2
  have H := Lib.hid h
  have HP := Lib.hid hp
  have HT := Lib.hid ht
  have HR := Lib.hid hr
  have hl20 := hr.events
  have hl10 := hr.powers
  have BX0 := BoxedAt.alloc w [.slice ea r.events.length ec, .slice pa r.powers.length pc] 34
  have HI0 := Lib.hid (IsB.fresh 55 5 (fun k => k < w.heap.size + 1) (w.alloc (.cells #[.slice ea r.events.length ec, .slice pa r.powers.length pc] 34)) (fun k hk => by simpa using hk))
  have BX := Lib.hid (BX0.on (bel1 _ (.cells #[.pointer none, .slice none 0 0] 55)))
  clear h hp ht hr BX0
  go_enter Tryd.func27, Tryd.ntmps27
  go_upto_region 3 with fail
  go_loopw [11] (fun i wr => ∃ k : Nat, k ≤ r.events.length ∧ i = .int .i64 k ∧ IsB 55 5 (fun k => k < w.heap.size + 1) (w.heap.size + 1) (Lib.byteCells (Hi.linesE (r.events.take k))) wr ∧ BoxedAt w wr [.slice ea r.events.length ec, .slice pa r.powers.length pc]) (fun i _ => r.events.length - (intOf i).toNat)
  case atStart => exact ⟨0, by omega, rfl, by simpa [Hi.linesE, Lib.byteCells] using HI0.out, BX.out⟩
  case round =>
    obtain ⟨k, hk, rfl, hisb, hbox⟩ := hrel
    have HI := Lib.hid hisb
    have HBX := Lib.hid hbox
    have hlen : (Hi.linesE (r.events.take k)).length ≤ 255 * (r.events.take k).length := Hi.flat_len _ fun e he => Hi.lineE_len (HR.out.ok e (List.mem_of_mem_take he)).1 (HR.out.ok e (List.mem_of_mem_take he)).2
    have hlt2 : (r.events.take k).length ≤ k := List.length_take_le _ _
    by_cases hlt : k < r.events.length
    · obtain ⟨x, hx⟩ := get_at hlt
      obtain ⟨_, _, _, _, hev⟩ := events_open (kept_events.on hbox.below H.out)
      obtain ⟨b, off, rfl, hb, hc⟩ := hev (by omega)
      obtain ⟨hok, hcell⟩ := hc k x hx
      obtain ⟨c0, c1, c2, c3, c4, c5, c6, c7, c8, c9, c10, c11, c12, c13, c14, c15⟩ := event_cells hcell
      have hxm := HR.out.ok x (List.mem_of_getElem? hx)
      have HS := Lib.hid (Hi.linesE_at hx)
      have hll := Hi.lineE_len hxm.1 hxm.2
      have HSV := Lib.hid (seven_read x hok)
      have HLN := Lib.hid (fun (W : World) (g : Nat) (hW : Pow W) (hr7 : RInts W W.heap.size [.slice (some ⟨g, 0, none⟩) 7 7] (Hi.seven x)) => history_line_any x.answer.id _ _ _ _ W (by omega) (by simp [Hi.seven]) hr7 (Hi.seven_fits hok) hW)
      obtain ⟨bs, hbs⟩ : ∃ bs, Hi.linesE (r.events.take k) = bs := ⟨_, rfl⟩
      rw [hbs] at HI HS hlen
      have HL := Lib.hid (show (Lib.byteCells bs).length + (⟨(Hi.lineE x).toArray⟩ : ByteArray).size ≤ 140737488355328 by rw [bytes_length, str_size]; omega)
      clear hx hisb hbox hcell hc hev hbs hlen hlt2 hll hxm
      go_upto_region 5 with fail
      have HA := Lib.hid (AllAt.of HBX.out x 44)
      have hw0 := bel1 wr (.cells x.cells.toArray 44)
      replace HI := Lib.hid (HI.out.on_below hw0)
      generalize hw1 : wr.alloc _ = w1
      replace HA : Hid (AllAt w w1 [.slice (some ⟨b, off, none⟩) r.events.length ec, .slice pa r.powers.length pc] wr.heap.size x) := by rw [← hw1]; exact HA
      replace HI : Hid (IsB 55 5 (fun k => k < w.heap.size + 1) (w.heap.size + 1) (Lib.byteCells bs) w1) := by rw [← hw1]; exact HI
      clear hw1 hw0 c0 c1 c2 c3 c4 c5 c6 c7 c8 c9 c10 c11 c12 c13 c14 c15
      have e0 := HA.out.cap.cell 0 _ rfl
      have e1 := HA.out.cap.cell 1 _ rfl
      have e9 := HA.out.cap.cell 9 _ rfl
      have e10 := HA.out.cap.cell 10 _ rfl
      have e11 := HA.out.cap.cell 11 _ rfl
      have e12 := HA.out.cap.cell 12 _ rfl
      have e13 := HA.out.cap.cell 13 _ rfl
      have e14 := HA.out.cap.cell 14 _ rfl
      have HTW := Lib.hid (HT.out.on (HA.out.box.below.trans ((bel1 w1 (.cells #[.int .i64 x.begin_, .int .i64 x.end_, .int .i64 x.pid, .int .i64 x.state, .int .i64 x.call.kind, .int .i64 x.answer.err, .int .i64 x.answer.n] 3)).mono HA.out.box.below.size)))
      have HAW := Lib.hid (HA.out.on (bel1 w1 (.cells #[.int .i64 x.begin_, .int .i64 x.end_, .int .i64 x.pid, .int .i64 x.state, .int .i64 x.call.kind, .int .i64 x.answer.err, .int .i64 x.answer.n] 3)))
      have HIW := Lib.hid (HI.out.on_below (bel1 w1 (.cells #[.int .i64 x.begin_, .int .i64 x.end_, .int .i64 x.pid, .int .i64 x.state, .int .i64 x.call.kind, .int .i64 x.answer.err, .int .i64 x.answer.n] 3)))
      have HLW := Lib.hid (HLN.out _ _ HTW.out (HSV.out w1))
      go_wp2_with (first
        | (go_at_call 50; refine HLW.out.mono ?_; rintro e w2 ⟨rfl, hb2⟩; replace HIW := Lib.hid (HIW.out.on_below hb2); replace HAW := Lib.hid (HAW.out.on hb2); clear hb2)
        | (go_at_call 31; refine (writeString_any _ _ _ _ _ HIW.out HL.out).mono ?_; rintro e w3 ⟨rfl, hi3, hu3⟩; have HI3 := Lib.hid hi3; have HB3 := Lib.hid (HAW.out.box.on' (hu3.below (fun k hk => hk))); clear hi3 hu3))
      go_roundw
      case rel => exact ⟨k + 1, by omega, by go_num, by rw [HS.out, bytes_add]; exact HI3.out, HB3.out⟩
      case measure => simp [intOf]; omega
    · obtain rfl : k = r.events.length := by omega
      have HN := Lib.hid (List.take_length (l := r.events))
      have b1 := hbox.cell 1 _ rfl
      have bs := hbox.size
      rw [List.take_length] at hlen HI
      obtain ⟨tx, htx⟩ : ∃ tx, Hi.linesE r.events = tx := ⟨_, rfl⟩
      have HTX := Lib.hid (show Hi.textL r = tx ++ Hi.linesP r.powers by rw [← htx]; rfl)
      rw [htx] at HI hlen
      clear hisb hbox htx hlt hlt2
      go_upto_region 8 with fail
      go_loopw [42] (fun i wz => ∃ k : Nat, k ≤ r.powers.length ∧ i = .int .i64 k ∧ IsB 55 5 (fun k => k < w.heap.size + 1) (w.heap.size + 1) (Lib.byteCells (tx ++ Hi.linesP (r.powers.take k))) wz ∧ BoxedAt w wz [.slice ea r.events.length ec, .slice pa r.powers.length pc]) (fun i _ => r.powers.length - (intOf i).toNat)
      case atStart => exact ⟨0, by omega, rfl, by simpa [Hi.linesP] using HI.out, HBX.out⟩
      case round =>
        obtain ⟨k, hk, rfl, hisb, hbox⟩ := hrel
        have HI := Lib.hid hisb
        have HBX := Lib.hid hbox
        have hlen2 : (Hi.linesP (r.powers.take k)).length ≤ 255 * (r.powers.take k).length := Hi.flat_len _ fun e he => Hi.lineP_len (HR.out.fits e (List.mem_of_mem_take he))
        have hlt2 : (r.powers.take k).length ≤ k := List.length_take_le _ _
        by_cases hlt : k < r.powers.length
        · obtain ⟨x, hx⟩ := get_at hlt
          obtain ⟨_, _, _, _, hev⟩ := ints_open (kept_ints.on hbox.below HP.out)
          obtain ⟨b, off, rfl, hb, hc⟩ := hev (by omega)
          obtain ⟨hok, c0⟩ := hc k x hx
          have HS := Lib.hid (Hi.linesP_at hx)
          have hll := Hi.lineP_len hok
          have hfb := fits_bounds hok
          have hil := Lib.itoa_length_le x hfb.1 hfb.2
          have HD := Lib.hid (digits_Dec_any x wr hok (HT.out.on hbox.below))
          have HLN := Lib.hid (fun (W : World) (hW : Pow W) => history_line_any ⟨(Lib.itoa x).toArray⟩ none 0 0 [] W (by rw [str_size]; omega) (by simp) slice_nil (fun n hn => by cases hn) hW)
          obtain ⟨bs, hbs⟩ : ∃ bs, tx ++ Hi.linesP (r.powers.take k) = bs := ⟨_, rfl⟩
          have hbl : bs.length ≤ 8000 := by rw [← hbs, List.length_append]; omega
          have HS2 := Lib.hid (show tx ++ Hi.linesP (r.powers.take (k + 1)) = bs ++ Hi.lineP x by rw [HS.out, ← hbs, List.append_assoc])
          rw [hbs] at HI
          obtain ⟨ln, hln⟩ : ∃ ln : ByteArray, (⟨(Hi.lineL (⟨(Lib.itoa x).toArray⟩ : ByteArray).data.toList []).toArray⟩ : ByteArray) = ln := ⟨_, rfl⟩
          have hlp : Hi.lineP x = [112, 111, 119, 101, 114, 32] ++ ln.data.toList := by rw [← hln]; rfl
          rw [hlp] at HS2 hll
          simp only [hln] at HLN
          have hlz : ln.size ≤ 300 := by rw [Lib.size_eq]; rw [List.length_append] at hll; omega
          have HL := Lib.hid (show (Lib.byteCells bs).length + ((⟨#[112, 111, 119, 101, 114, 32]⟩ : ByteArray) ++ ln).size ≤ 140737488355328 by rw [bytes_length, ByteArray.size_append]; show bs.length + (6 + ln.size) ≤ _; omega)
          clear hx hisb hbox hc hev hbs hlen2 hlt2 hll hlp hln hok hfb hil hbl
          go_wp2_with (first
            | (go_at_call 51; refine HD.out.mono ?_; rintro e w2 ⟨rfl, hb2⟩; replace HI := Lib.hid (HI.out.on_below hb2); replace HBX := Lib.hid (HBX.out.on hb2); clear hb2)
            | (go_at_call 50; refine (HLN.out _ (HT.out.on HBX.out.below)).mono ?_; rintro e w3 ⟨rfl, hb3⟩; replace HI := Lib.hid (HI.out.on_below hb3); replace HBX := Lib.hid (HBX.out.on hb3); clear hb3)
            | (go_at_call 31; refine (writeString_any _ _ _ _ _ HI.out HL.out).mono ?_; rintro e w4 ⟨rfl, hi3, hu3⟩; replace HI := Lib.hid hi3; replace HBX := Lib.hid (HBX.out.on' (hu3.below (fun k hk => hk))); clear hi3 hu3))
          go_roundw
          case rel => exact ⟨k + 1, by omega, by go_num, by rw [HS2.out, bytes_add, bytes_add]; have := HI.out; simpa [Lib.strCells, Lib.byteCells] using this, HBX.out⟩
          case measure => simp [intOf]; omega
        · obtain rfl : k = r.powers.length := by omega
          rw [List.take_length, ← HTX.out] at HI
          have hbs := hbox.size
          have HST := Lib.hid (Tryd.Builder_String_any (w.heap.size + 1) (w.heap.size + 1) _ _ (HI.out.lib (fun k hk => hk)) hbs)
          clear hisb hbox hlen2
          go_wp2_with (go_at_call 34; refine HST.out.mono ?_; rintro e w7 ⟨rfl, b7⟩; replace HBX := Lib.hid (HBX.out.on' b7); clear b7)
          go_ret
          exact ⟨rfl, HBX.out.below⟩
end Go.Proofs.YtlniiaopindjnaaDoor
