/-
  Layer 35's document: a report as lines, walked.
-/
import Derived.Test.YtlniiaopindjnaaDoorHisD
namespace Go.Proofs.YtlniiaopindjnaaDoor
set_option linter.unusedVariables false
open Go.RowKit
open Go.Lib hiding intOf

/-- A string that reads as these bytes. -/
def IsText (v : Value) (l : List UInt8) : Prop := ∃ s : ByteArray, v = .string s ∧ s.data.toList = l
theorem nums_at {l : List Int} {k : Nat} {x : Int} (h : l[k]? = some x) : Hi.nums (l.take (k + 1)) = Hi.nums (l.take k) ++ (Lib.itoa x ++ [32]) := by rw [take_at h, Hi.nums_snoc]
theorem seven_len (x : EventD) : (Hi.seven x).length = 7 := rfl

set_option maxHeartbeats 4000000 in
set_option maxRecDepth 100000 in
theorem ref35_Text_any (ea pa : Option Addr) (en ec pn pc : Nat) (r : ReportD) (w : World) (h : REvents w w.heap.size [.slice ea en ec] r.events) (hp : RInts w w.heap.size [.slice pa pn pc] r.powers) (hr : r.Lined) :
    Calls Tryd.prog 28 #[.agg #[.slice ea en ec, .slice pa pn pc]] w fun e w' => e = .returned (.string ⟨(Hi.textL r).toArray⟩) ∧ Below w.heap.size w w' := by
  obtain ⟨hn, hm1, hm2, -, -⟩ := events_open h
  obtain ⟨hn2, p1, p2, -, -⟩ := ints_open hp
  subst hn hn2
  rw [maxLen_val] at hm2 p2
  have H := Lib.hid h
  have HP := Lib.hid hp
  have HR := Lib.hid hr
  have hl20 := hr.events
  have hl10 := hr.powers
  have BX := Lib.hid (BoxedAt.alloc w [.slice ea r.events.length ec, .slice pa r.powers.length pc] 34)
  clear h hp hr
  go_enter Tryd.func28, Tryd.ntmps28
  go_upto_region 3 with fail
  go_loopw [3, 4] (fun s i wr => ∃ k : Nat, k ≤ r.events.length ∧ i = .int .i64 k ∧ IsText s (Hi.linesE (r.events.take k)) ∧ BoxedAt w wr [.slice ea r.events.length ec, .slice pa r.powers.length pc]) (fun _ i _ => r.events.length - (intOf i).toNat)
  case atStart => exact ⟨0, by omega, rfl, ⟨_, rfl, rfl⟩, BX.out⟩
  case round =>
    obtain ⟨k, hk, rfl, ⟨S, rfl, hS⟩, hbox⟩ := hrel
    have HBX := Lib.hid hbox
    have b0 := hbox.cell 0 _ rfl
    have b1 := hbox.cell 1 _ rfl
    have bs := hbox.size
    have hlen : (Hi.linesE (r.events.take k)).length ≤ 255 * (r.events.take k).length := Hi.flat_len _ fun e he => Hi.lineE_len (HR.out.ok e (List.mem_of_mem_take he)).1 (HR.out.ok e (List.mem_of_mem_take he)).2
    have hlt2 : (r.events.take k).length ≤ k := List.length_take_le _ _
    have hsz : S.size ≤ 5100 := by rw [Lib.size_eq, hS]; omega
    by_cases hlt : k < r.events.length
    · obtain ⟨x, hx⟩ := get_at hlt
      obtain ⟨-, -, -, -, hev⟩ := events_open (kept_events.on hbox.below H.out)
      obtain ⟨b, off, rfl, hb, hc⟩ := hev (by omega)
      obtain ⟨hok, hcell⟩ := hc k x hx
      obtain ⟨c0, c1, c2, c3, c4, c5, c6, c7, c8, c9, c10, c11, c12, c13, c14, c15⟩ := event_cells hcell
      have hxm := (HR.out.ok x (List.mem_of_getElem? hx)).2
      have HS := Lib.hid (Hi.linesE_at hx)
      have HSV := Lib.hid (seven_read x hok)
      have HSF := Lib.hid (Hi.seven_fits hok)
      obtain ⟨P, hP⟩ : ∃ P, Hi.linesE (r.events.take k) = P := ⟨_, rfl⟩
      rw [hP] at hS HS hlen
      have HSS := Lib.hid hS
      have hpl : P.length ≤ 5100 := by omega
      clear hx hbox hcell hc hev hP hlen hlt2 hok hS
      go_upto_region 6 with fail
      have HA := Lib.hid (AllAt.of HBX.out x 44)
      generalize hw1 : wr.alloc _ = w1
      replace HA : Hid (AllAt w w1 [.slice (some ⟨b, off, none⟩) r.events.length ec, .slice pa r.powers.length pc] wr.heap.size x) := by rw [← hw1]; exact HA
      generalize wr.heap.size = g5 at HA ⊢
      clear hw1 b0 b1 bs c0 c1 c2 c3 c4 c5 c6 c7 c8 c9 c10 c11 c12 c13 c14 c15
      have e0 := HA.out.cap.cell 0 _ rfl
      have e1 := HA.out.cap.cell 1 _ rfl
      have e9 := HA.out.cap.cell 9 _ rfl
      have e10 := HA.out.cap.cell 10 _ rfl
      have e11 := HA.out.cap.cell 11 _ rfl
      have e12 := HA.out.cap.cell 12 _ rfl
      have e14 := HA.out.cap.cell 14 _ rfl
      have HAW := Lib.hid (HA.out.on (bel1 w1 (.cells #[.int .i64 x.begin_, .int .i64 x.end_, .int .i64 x.pid, .int .i64 x.state, .int .i64 x.call.kind, .int .i64 x.answer.err, .int .i64 x.answer.n] 3)))
      replace HSV := Lib.hid (HSV.out w1)
      go_upto_region 8 with fail
      go_loopw [3, 7] (fun s i wr => ∃ j : Nat, j ≤ 7 ∧ i = .int .i64 j ∧ IsText s (P ++ Hi.nums ((Hi.seven x).take j)) ∧ Hid (AllAt w wr [.slice (some ⟨b, off, none⟩) r.events.length ec, .slice pa r.powers.length pc] g5 x) ∧ RInts wr wr.heap.size [.slice (some ⟨w1.heap.size, 0, none⟩) 7 7] (Hi.seven x)) (fun _ i _ => 7 - (intOf i).toNat)
      case atStart => exact ⟨0, by omega, rfl, ⟨_, rfl, by rw [HSS.out]; simp [Hi.nums]⟩, HAW, HSV.out⟩
      case round =>
        obtain ⟨j, hj, rfl, ⟨T, rfl, hT⟩, HA2, hnum⟩ := hrel
        replace HA := HA2
        clear HA2 HAW HSV
        obtain ⟨-, -, -, -, hnv⟩ := ints_open hnum
        obtain ⟨bb, oo, he, hbb, hcc⟩ := hnv (by omega)
        injection he with he
        injection he with q1 q2 q3
        subst q1 q2
        have HNM := Lib.hid hnum
        have hnl := Hi.nums_len ((Hi.seven x).take j) (fun n hn => HSF.out n (List.mem_of_mem_take hn))
        have hnl2 : ((Hi.seven x).take j).length ≤ 7 := by rw [List.length_take, seven_len]; omega
        have htz : T.size ≤ 5300 := by rw [Lib.size_eq, hT, List.length_append]; omega
        have HTT := Lib.hid hT
        clear hnum hnl hnl2 hT
        by_cases hlj : j < 7
        · obtain ⟨v, hv⟩ := get_at (show j < (Hi.seven x).length from hlj)
          obtain ⟨hfv, c0⟩ := hcc j v hv
          rw [Nat.zero_add] at c0
          have hfb := fits_bounds hfv
          have hil := Lib.itoa_length_le v hfb.1 hfb.2
          have HD := Lib.hid (ref01_Dec_any v wr hfv)
          have HNS := Lib.hid (nums_at hv)
          obtain ⟨D, hD⟩ : ∃ D : ByteArray, (⟨(Lib.itoa v).toArray⟩ : ByteArray) = D := ⟨_, rfl⟩
          have HDL := Lib.hid (show D.data.toList = Lib.itoa v by rw [← hD])
          have hdz : D.size ≤ 21 := by rw [← hD]; exact hil
          rw [hD] at HD
          have jz : (j : Int) < 7 := by omega
          clear hnv hcc hv hfv hfb hil hD
          go_wp2_with (go_at_call 52; refine HD.out.mono ?_; rintro e w2 ⟨rfl, hb2⟩; replace HA := Lib.hid (HA.out.on hb2); replace HNM := Lib.hid (kept_ints.on hb2 HNM.out); clear hb2)
          go_roundw
          case rel => exact ⟨j + 1, by omega, by go_num, ⟨_, rfl, by rw [HNS.out, ← List.append_assoc, ← HTT.out, ← HDL.out]; simp [ByteArray.data_append]⟩, HA, HNM.out⟩
          case measure => simp [intOf]; omega
        · obtain rfl : j = 7 := by omega
          have HLN := Lib.hid (show Hi.lineE x = Hi.nums ((Hi.seven x).take 7) ++ x.answer.id.data.toList ++ [10] by rw [List.take_of_length_le (by rw [seven_len]; omega)]; rfl)
          have m13 := HA.out.cap.cell 13 _ rfl
          clear hnv hcc
          go_wp2_with fail
          go_roundw
          case rel => exact ⟨k + 1, by omega, by go_num, ⟨_, rfl, by rw [HS.out, HLN.out, ← List.append_assoc, ← List.append_assoc, ← HTT.out]; simp [ByteArray.data_append]⟩, HA.out.box⟩
          case measure => simp [intOf]; omega
    · obtain rfl : k = r.events.length := by omega
      rw [List.take_length] at hS hlen
      obtain ⟨tx, htx⟩ : ∃ tx, Hi.linesE r.events = tx := ⟨_, rfl⟩
      have HTX := Lib.hid (show Hi.textL r = tx ++ Hi.linesP r.powers by rw [← htx]; rfl)
      rw [htx] at hS hlen
      have HSS := Lib.hid hS
      clear hbox htx hlt hlt2 hS
      go_upto_region 13 with fail
      go_loopw [3, 8] (fun s i wr => ∃ j : Nat, j ≤ r.powers.length ∧ i = .int .i64 j ∧ IsText s (tx ++ Hi.linesP (r.powers.take j)) ∧ BoxedAt w wr [.slice ea r.events.length ec, .slice pa r.powers.length pc]) (fun _ i _ => r.powers.length - (intOf i).toNat)
      case atStart => exact ⟨0, by omega, rfl, ⟨_, rfl, by rw [HSS.out]; simp [Hi.linesP]⟩, HBX.out⟩
      case round =>
        obtain ⟨j, hj, rfl, ⟨T, rfl, hT⟩, hbox⟩ := hrel
        have HBX := Lib.hid hbox
        have m0 := hbox.cell 0 _ rfl
        have m1 := hbox.cell 1 _ rfl
        have ms := hbox.size
        have hlen2 : (Hi.linesP (r.powers.take j)).length ≤ 255 * (r.powers.take j).length := Hi.flat_len _ fun e he => Hi.lineP_len (HR.out.fits e (List.mem_of_mem_take he))
        have hlt2 : (r.powers.take j).length ≤ j := List.length_take_le _ _
        have htz : T.size ≤ 8000 := by rw [Lib.size_eq, hT, List.length_append]; omega
        have HTT := Lib.hid hT
        by_cases hlj : j < r.powers.length
        · obtain ⟨v, hv⟩ := get_at hlj
          obtain ⟨-, -, -, -, hev⟩ := ints_open (kept_ints.on hbox.below HP.out)
          obtain ⟨b, off, rfl, hb, hc⟩ := hev (by omega)
          obtain ⟨hfv, c0⟩ := hc j v hv
          have hfb := fits_bounds hfv
          have hil := Lib.itoa_length_le v hfb.1 hfb.2
          have HD := Lib.hid (ref01_Dec_any v wr hfv)
          have HNS := Lib.hid (Hi.linesP_at hv)
          obtain ⟨D, hD⟩ : ∃ D : ByteArray, (⟨(Lib.itoa v).toArray⟩ : ByteArray) = D := ⟨_, rfl⟩
          have HDL := Lib.hid (show Hi.lineP v = [112, 111, 119, 101, 114, 32] ++ (D.data.toList ++ [10]) by rw [← hD]; rfl)
          have hdz : D.size ≤ 21 := by rw [← hD]; exact hil
          rw [hD] at HD
          have jz : (j : Int) < r.powers.length := by omega
          clear hbox hev hc hv hfv hfb hil hD hT hlen2 hlt2
          go_wp2_with (go_at_call 52; refine HD.out.mono ?_; rintro e w2 ⟨rfl, hb2⟩; replace HBX := Lib.hid (HBX.out.on hb2); clear hb2)
          go_roundw
          case rel => exact ⟨j + 1, by omega, by go_num, ⟨_, rfl, by rw [HNS.out, HDL.out, ← List.append_assoc, ← HTT.out]; simp [ByteArray.data_append]⟩, HBX.out⟩
          case measure => simp [intOf]; omega
        · obtain rfl : j = r.powers.length := by omega
          rw [List.take_length, ← HTX.out] at hT
          have HF := Lib.hid (show T = (⟨(Hi.textL r).toArray⟩ : ByteArray) from ByteArray.ext (by rw [← hT]))
          clear hbox hT hlen2 hlt2
          go_wp2_with fail
          go_ret
          exact ⟨ret_str HF.out, HBX.out.below⟩
end Go.Proofs.YtlniiaopindjnaaDoor
