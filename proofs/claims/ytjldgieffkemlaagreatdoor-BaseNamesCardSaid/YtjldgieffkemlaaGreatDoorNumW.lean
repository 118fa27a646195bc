/-
  Layer 1: Num, walked: the program's, and the document's.
-/
import Derived.Test.YtjldgieffkemlaaGreatDoorNumP
import Derived.Shelf.Strconv.ErrVarParseInt
import Derived.Test.YtjldgieffkemlaaGreatDoorDecD
namespace Go.Proofs.YtjldgieffkemlaaGreatDoor
set_option linter.unusedVariables false
set_option linter.unusedSimpArgs false
open Go.RowKit
open Go.Lib hiding intOf

/-- What the package-level variables hold that are read: the table that digits are counted by; two errors; a length. -/
structure Tabs (w : World) : Prop where
  pow : Pow w
  syn : ∃ tp p, w.var? Tryz.prog "strconv.ErrSyntax" = some #[.iface tp p]
  rng : ∃ tp p, w.var? Tryz.prog "strconv.ErrRange" = some #[.iface tp p]
  most : ∃ m, w.cell? ⟨0, 0, none⟩ = some (.int .i64 m)
theorem Tabs.on {w w' : World} (h : Tabs w) (hb : Below w.heap.size w w') : Tabs w' where
  pow := h.pow.on hb
  syn := by obtain ⟨tp, p, h⟩ := h.syn; exact ⟨tp, p, var_below h hb⟩
  rng := by obtain ⟨tp, p, h⟩ := h.rng; exact ⟨tp, p, var_below h hb⟩
  most := by obtain ⟨m, h⟩ := h.most; exact ⟨m, (hb.cell (p := ⟨0, 0, none⟩) (Lib.lt_of_cell h)).trans h⟩
/-- What ParseInt answers: a number, or an error. -/
def Parsed (s : ByteArray) (w : World) (e : Ending) (w' : World) : Prop :=
  ∃ v er, e = .returned (.tuple #[.int .i64 v, er]) ∧ Below w.heap.size w w' ∧ ((er = .nilIface ∧ Lib.parseIntB 64 s.data.toList = .ok v) ∨ ((∃ tp p, er = .iface tp p) ∧ Nu.numD s.data.toList = (0, false)))
theorem parse_any (s : ByteArray) (w : World) (hs : s.size ≤ 1000000) (ht : Tabs w) : Calls Tryz.prog 77 #[.string s, .int .i64 10, .int .i64 64] w (Parsed s w) := by
  rcases hp : Lib.parseIntB 64 s.data.toList with v | _ | _
  · refine (Tryz.strconv_ParseInt_10_at64_ok s (by omega) v hp w).mono ?_
    rintro e w' ⟨rfl, h⟩
    refine ⟨_, _, rfl, ?_, .inl ⟨rfl, hp⟩⟩
    rcases h with rfl | ⟨t, rfl⟩
    · exact Below.refl _ _
    · exact Lib.bytesWorld_below _ _ _
  · obtain ⟨tp, p, hv⟩ := ht.syn
    refine (Any.strconv_ParseInt_10_at64_syntax_var Tryz.laysC174 s (by omega) hp tp p w hv).mono ?_
    rintro e w' ⟨N, rfl, _, _, h⟩
    exact ⟨_, _, rfl, h, .inr ⟨⟨_, _, rfl⟩, by unfold Nu.numD; rw [hp]⟩⟩
  · obtain ⟨tp, p, hv⟩ := ht.rng
    refine (Tryz.strconv_ParseInt_10_at64_range_var s (by omega) hp tp p w hv).mono ?_
    rintro e w' ⟨N, rfl, _, _, h⟩
    exact ⟨_, _, rfl, h, .inr ⟨⟨_, _, rfl⟩, by unfold Nu.numD; rw [hp]⟩⟩
theorem wf_of {n : Int} (h0 : -9223372036854775808 ≤ n) (h1 : n ≤ 9223372036854775807) : Fits n := WalkArith.wf_i64 ⟨h0, h1⟩
theorem ret_nb {a b : Int × Bool} (h : a = b) : Ending.returned (.tuple #[.int .i64 a.1, .bool a.2]) = .returned (.tuple #[.int .i64 b.1, .bool b.2]) := by rw [h]
theorem str_eq (a : ByteArray) (l : List UInt8) : (⟨l.toArray⟩ : ByteArray) = a ↔ l = a.data.toList :=
  ⟨fun h => by rw [← h], fun h => by rw [h]⟩
set_option maxHeartbeats 1000000 in
theorem digits_Num_any (s : ByteArray) (w : World) (hs : s.size ≤ 1000000) (ht : Tabs w) :
    Calls Tryz.prog 49 #[.string s] w fun e w' => e = .returned (.tuple #[.int .i64 (Nu.numD s.data.toList).1, .bool (Nu.numD s.data.toList).2]) ∧ Below w.heap.size w w' := by
  have H := Lib.hid (parse_any s w hs ht)
  have HT := Lib.hid ht
  clear ht
  obtain ⟨R, hR⟩ : ∃ R, Nu.numD s.data.toList = R := ⟨_, rfl⟩
  rw [hR]
  have HR := Lib.hid hR
  clear hR
  go_enter Tryz.func49, Tryz.ntmps49
  go_upto_region 2 with (go_at_call 77; refine H.out.mono ?_; rintro e w2 ⟨v, er, rfl, hb, h⟩; have HB := Lib.hid hb; have HC := Lib.hid h; clear hb h)
  rcases HC.out with ⟨rfl, hp⟩ | ⟨⟨tp, p, rfl⟩, hn⟩
  · have hf := Nu.parse_fits hp
    have HD := Lib.hid (digits_Dec_any v w2 (wf_of hf.1 hf.2) (HT.out.pow.on HB.out))
    have hN : R = if Lib.itoa v = s.data.toList then (v, true) else (0, false) := by rw [← HR.out]; unfold Nu.numD; rw [hp]
    obtain ⟨D, hD⟩ : ∃ D : ByteArray, (⟨(Lib.itoa v).toArray⟩ : ByteArray) = D := ⟨_, rfl⟩
    rw [hD] at HD
    obtain ⟨h1, h2⟩ := hf
    by_cases he : Lib.itoa v = s.data.toList
    · rw [if_pos he] at hN
      obtain rfl : D = s := by rw [← hD]; exact (str_eq s _).2 he
      have HN := Lib.hid hN
      clear hN he hD hp HC HR
      go_wp2_with (go_at_call 29; refine HD.out.mono ?_; rintro e w3 ⟨rfl, hb3⟩; have HB3 := Lib.hid hb3; clear hb3)
      go_ret2
      rw [HN.out]
      exact ⟨rfl, HB.out.trans (HB3.out.mono HB.out.size)⟩
    · rw [if_neg he] at hN
      have hne : (D.toList == s.toList) = false := by
        rw [← hD, ByteArray.toList_eq, ByteArray.toList_eq]
        exact beq_eq_false_iff_ne.2 he
      have HN := Lib.hid hN
      clear hN he hD hp HC HR
      go_wp2_with (go_at_call 29; refine HD.out.mono ?_; rintro e w3 ⟨rfl, hb3⟩; have HB3 := Lib.hid hb3; clear hb3)
      go_ret2
      rw [HN.out]
      exact ⟨rfl, HB.out.trans (HB3.out.mono HB.out.size)⟩
  · rw [HR.out] at hn
    have HN := Lib.hid hn
    clear hn HC HR
    go_wp2_with fail
    go_ret2
    rw [HN.out]
    exact ⟨rfl, HB.out⟩
/-- A process's number, or a birth. -/
def Nu.count (l : List UInt8) : Int × Bool := ((Nu.numD l).1, (Nu.numD l).2 && decide (1 ≤ (Nu.numD l).1) && decide ((Nu.numD l).1 ≤ 9007199254740992))
set_option maxHeartbeats 1000000 in
theorem intent_number_any (s : ByteArray) (w : World) (hs : s.size ≤ 1000000) (ht : Tabs w) :
    Calls Tryz.prog 27 #[.string s] w fun e w' => e = .returned (.tuple #[.int .i64 (Nu.count s.data.toList).1, .bool (Nu.count s.data.toList).2]) ∧ Below w.heap.size w w' := by
  have H := Lib.hid (digits_Num_any s w hs ht)
  unfold Nu.count
  obtain ⟨⟨n, ok⟩, hR⟩ : ∃ R, Nu.numD s.data.toList = R := ⟨_, rfl⟩
  rw [hR] at H ⊢
  clear hR ht
  cases ok
  · go_enter Tryz.func27, Tryz.ntmps27
    go_wp2_with (go_at_call 49; refine H.out.mono ?_; rintro e w2 ⟨rfl, hb⟩; have HB := Lib.hid hb; clear hb)
    go_ret2
    exact ⟨rfl, HB.out⟩
  · go_enter Tryz.func27, Tryz.ntmps27
    go_wp2_with (go_at_call 49; refine H.out.mono ?_; rintro e w2 ⟨rfl, hb⟩; have HB := Lib.hid hb; clear hb)
    all_goals go_ret2
    all_goals exact ⟨by first | (simp [*]; done) | (simp [*]; omega), HB.out⟩
set_option maxHeartbeats 4000000 in
set_option maxRecDepth 100000 in
theorem ref01_Num_any (s : ByteArray) (w : World) (hs : s.size ≤ 1000000) :
    Calls Tryz.prog 50 #[.string s] w fun e w' => e = .returned (.tuple #[.int .i64 (Nu.numD s.data.toList).1, .bool (Nu.numD s.data.toList).2]) ∧ Below w.heap.size w w' := by
  rw [← Nu.refNum_eq]
  obtain ⟨R, hR⟩ : ∃ R, Nu.refNum s.data.toList = R := ⟨_, rfl⟩
  rw [hR]
  have HR := Lib.hid hR
  clear hR
  by_cases h1 : s.size < 1
  · have HN := Lib.hid (show R = (0, false) by rw [← HR.out]; unfold Nu.refNum; rw [if_pos (.inl h1)])
    have f1 : decide ((s.size : Int) < 1) = true := decide_eq_true (by omega)
    clear HR h1
    go_enter Tryz.func50, Tryz.ntmps50
    go_wp2_with fail
    go_ret2
    rw [HN.out]
    exact ⟨rfl, Below.refl _ _⟩
  by_cases h2 : 20 < s.size
  · have HN := Lib.hid (show R = (0, false) by rw [← HR.out]; unfold Nu.refNum; rw [if_pos (.inr h2)])
    have f1 : decide ((s.size : Int) < 1) = false := decide_eq_false (by omega)
    have f2 : decide ((20 : Int) < s.size) = true := decide_eq_true (by omega)
    clear HR h1 h2
    go_enter Tryz.func50, Tryz.ntmps50
    go_wp2_with fail
    go_ret2
    rw [HN.out]
    exact ⟨rfl, Below.refl _ _⟩
  have HN := Lib.hid (show R = Nu.fin s.data.toList (Nu.dig 0 (Nu.body s.data.toList)) by
    rw [← HR.out]; unfold Nu.refNum; rw [if_neg (fun h => by rcases h with h | h; exact h1 h; exact h2 h)])
  obtain ⟨c0, hc0⟩ : ∃ c0, s.data.toList[0]? = some c0 := ⟨s[0]'(by omega), Lib.data_getElem? s 0 (by omega)⟩
  have hz : ∀ h, s[0]'h = c0 := fun h => by
    have h2 := Lib.data_getElem? s 0 h
    rw [hc0] at h2
    injection h2 with h2
    exact h2.symm
  have hhead : s.data.toList.head? = some c0 := by rw [List.head?_eq_getElem?]; exact hc0
  have HH := Lib.hid hhead
  have f1 : decide ((s.size : Int) < 1) = false := decide_eq_false (by omega)
  have f2 : decide ((20 : Int) < s.size) = false := decide_eq_false (by omega)
  have HZ := Lib.hid hz
  clear HR hc0 hhead hz
  go_enter Tryz.func50, Tryz.ntmps50
  go_wp2_with fail
  clear f1 f2
  go_loop [4, 5] (fun sn si => ∃ (i : Nat) (n : Int), i ≤ s.size ∧ si = .int .i64 (i : Nat) ∧ sn = .int .i64 n ∧ -9223372036854775808 ≤ n ∧ n ≤ 0 ∧ (i = 0 → n = 0) ∧ Hid (0 < i → Nu.dig 0 (Nu.body s.data.toList) = Nu.dig n (s.data.toList.drop i))) (fun _ si => s.size - (intOf si).toNat)
  case atStart => exact ⟨0, 0, by omega, rfl, rfl, by omega, by omega, fun _ => rfl, Lib.hid fun h => by omega⟩
  case round =>
    obtain ⟨i, n, hi, rfl, rfl, hn0, hn1, hni, HI⟩ := hrel
    by_cases hlt : i < s.size
    · obtain ⟨c, hc⟩ : ∃ c, s.data.toList[i]? = some c := ⟨s[i]'hlt, Lib.data_getElem? s i hlt⟩
      have hak : ∀ h, s[i]'h = c := fun h => by
        have h2 := Lib.data_getElem? s i h
        rw [hc] at h2
        injection h2 with h2
        exact h2.symm
      have hdrop : s.data.toList.drop i = c :: s.data.toList.drop (i + 1) := by
        obtain ⟨hlt', e⟩ := List.getElem?_eq_some_iff.1 hc
        rw [List.drop_eq_getElem_cons hlt', e]
      have hcl := c.toNat_lt
      by_cases h0 : i = 0
      · subst h0
        obtain rfl := hni rfl
        have hcc : c = c0 := (hak hlt).symm.trans (HZ.out hlt)
        by_cases hm : c.toNat = 45
        · have HD := Lib.hid (show Nu.dig 0 (Nu.body s.data.toList) = Nu.dig 0 (s.data.toList.drop 1) by
            unfold Nu.body
            have e45 : c0 = 45 := by rw [← hcc]; exact UInt8.toNat_inj.1 hm
            rw [HH.out, e45, if_pos rfl, List.drop_one])
          have fc : ((c.toNat : Int) == 45) = true := beq_iff_eq.2 (by omega)
          clear hdrop hcc hm hc hni hcl
          go_wp2_with fail
          go_round
          case rel => exact ⟨1, 0, by omega, by go_num, rfl, by omega, by omega, by omega, Lib.hid fun _ => HD.out⟩
          case measure => simp [intOf]; omega
        · have HD := Lib.hid (show Nu.dig 0 (Nu.body s.data.toList) = Nu.dig 0 (c :: s.data.toList.drop (0 + 1)) by
            unfold Nu.body
            rw [HH.out, if_neg (fun e => hm (by rw [hcc]; injection e with e; rw [e]; rfl)), ← hdrop, List.drop_zero])
          have fc : ((c.toNat : Int) == 45) = false := beq_eq_false_iff_ne.2 (by omega)
          clear hdrop hcc hm hc hni
          by_cases b1 : (c.toNat : Int) - 48 < 0
          · have f1 : decide ((c.toNat : Int) - 48 < 0) = true := decide_eq_true b1
            have HN2 := Lib.hid (show R = (0, false) by rw [HN.out, HD.out, Nu.dig_stop (.inl b1)]; rfl)
            clear HD
            go_wp2_with fail
            go_ret2
            rw [HN2.out]
            exact ⟨rfl, Below.refl _ _⟩
          by_cases b2 : 9 < (c.toNat : Int) - 48
          · have f1 : decide ((c.toNat : Int) - 48 < 0) = false := decide_eq_false b1
            have f2 : decide (9 < (c.toNat : Int) - 48) = true := decide_eq_true b2
            have HN2 := Lib.hid (show R = (0, false) by rw [HN.out, HD.out, Nu.dig_stop (.inr (.inl b2))]; rfl)
            clear HD
            go_wp2_with fail
            go_ret2
            rw [HN2.out]
            exact ⟨rfl, Below.refl _ _⟩
          have f1 : decide ((c.toNat : Int) - 48 < 0) = false := decide_eq_false b1
          have f2 : decide (9 < (c.toNat : Int) - 48) = false := decide_eq_false b2
          have HS := Lib.hid (Nu.dig_step (c := c) (r := s.data.toList.drop (0 + 1)) (acc := 0) (by omega))
          go_wp2_with fail
          go_round
          case rel => exact ⟨0 + 1, _, by omega, by go_num, rfl, by omega, by omega, by omega, Lib.hid fun _ => by rw [HD.out, HS.out] <;> (first | rfl | (congr 1; omega))⟩
          case measure => simp [intOf]; omega
      · have HD := Lib.hid ((HI.out (by omega)).trans (by rw [hdrop]))
        have f0 : ((i : Int) == 0) = false := beq_eq_false_iff_ne.2 (by omega)
        clear hdrop hc hni h0
        by_cases b1 : (c.toNat : Int) - 48 < 0
        · have f1 : decide ((c.toNat : Int) - 48 < 0) = true := decide_eq_true b1
          have HN2 := Lib.hid (show R = (0, false) by rw [HN.out, HD.out, Nu.dig_stop (.inl b1)]; rfl)
          clear HD
          go_wp2_with fail
          go_ret2
          rw [HN2.out]
          exact ⟨rfl, Below.refl _ _⟩
        by_cases b2 : 9 < (c.toNat : Int) - 48
        · have f1 : decide ((c.toNat : Int) - 48 < 0) = false := decide_eq_false b1
          have f2 : decide (9 < (c.toNat : Int) - 48) = true := decide_eq_true b2
          have HN2 := Lib.hid (show R = (0, false) by rw [HN.out, HD.out, Nu.dig_stop (.inr (.inl b2))]; rfl)
          clear HD
          go_wp2_with fail
          go_ret2
          rw [HN2.out]
          exact ⟨rfl, Below.refl _ _⟩
        by_cases b3 : n < -922337203685477580
        · have f1 : decide ((c.toNat : Int) - 48 < 0) = false := decide_eq_false b1
          have f2 : decide (9 < (c.toNat : Int) - 48) = false := decide_eq_false b2
          have f3 : decide (n < -922337203685477580) = true := decide_eq_true b3
          have HN2 := Lib.hid (show R = (0, false) by rw [HN.out, HD.out, Nu.dig_stop (.inr (.inr (.inl b3)))]; rfl)
          clear HD
          go_wp2_with fail
          go_ret2
          rw [HN2.out]
          exact ⟨rfl, Below.refl _ _⟩
        by_cases b4 : n = -922337203685477580
        · subst b4
          by_cases b5 : 8 < (c.toNat : Int) - 48
          · have f1 : decide ((c.toNat : Int) - 48 < 0) = false := decide_eq_false b1
            have f2 : decide (9 < (c.toNat : Int) - 48) = false := decide_eq_false b2
            have f5 : decide (8 < (c.toNat : Int) - 48) = true := decide_eq_true b5
            have HN2 := Lib.hid (show R = (0, false) by rw [HN.out, HD.out, Nu.dig_stop (.inr (.inr (.inr ⟨rfl, b5⟩)))]; rfl)
            clear HD
            go_wp2_with fail
            go_ret2
            rw [HN2.out]
            exact ⟨rfl, Below.refl _ _⟩
          · have f1 : decide ((c.toNat : Int) - 48 < 0) = false := decide_eq_false b1
            have f2 : decide (9 < (c.toNat : Int) - 48) = false := decide_eq_false b2
            have f5 : decide (8 < (c.toNat : Int) - 48) = false := decide_eq_false b5
            have HS := Lib.hid (Nu.dig_step (c := c) (r := s.data.toList.drop (i + 1)) (acc := -922337203685477580) (by omega))
            go_wp2_with fail
            go_round
            case rel => exact ⟨i + 1, _, by omega, by go_num, rfl, by omega, by omega, by omega, Lib.hid fun _ => by rw [HD.out, HS.out] <;> (first | rfl | (congr 1; omega))⟩
            case measure => simp [intOf]; omega
        · have f1 : decide ((c.toNat : Int) - 48 < 0) = false := decide_eq_false b1
          have f2 : decide (9 < (c.toNat : Int) - 48) = false := decide_eq_false b2
          have f3 : decide (n < -922337203685477580) = false := decide_eq_false b3
          have f4 : (n == -922337203685477580) = false := beq_eq_false_iff_ne.2 b4
          have HS := Lib.hid (Nu.dig_step (c := c) (r := s.data.toList.drop (i + 1)) (acc := n) (by omega))
          go_wp2_with fail
          go_round
          case rel => exact ⟨i + 1, _, by omega, by go_num, rfl, by omega, by omega, by omega, Lib.hid fun _ => by rw [HD.out, HS.out] <;> (first | rfl | (congr 1; omega))⟩
          case measure => simp [intOf]; omega
    · obtain rfl : i = s.size := by omega
      have hfin : R = Nu.fin s.data.toList (some n) := by
        rw [HN.out, HI.out (by omega), List.drop_of_length_le (by exact Nat.le_refl _)]; rfl
      have hpos : 0 < s.size := by omega
      have hz := HZ.out
      by_cases hm : c0.toNat = 45
      · have fz : ((c0.toNat : Int) != 45) = false := by
          rw [bne_eq_false_iff_eq]; omega
        have hfin : R = Nu.chk s.data.toList n := by
          rw [hfin]
          unfold Nu.fin
          simp only
          rw [HH.out, if_pos (by congr 1; exact UInt8.toNat_inj.1 hm)]
        have HF := Lib.hid hfin
        have HDc := Lib.hid (ref01_Dec_any n w (wf_of hn0 (by omega)))
        obtain ⟨D, hD⟩ : ∃ D : ByteArray, (⟨(Lib.itoa n).toArray⟩ : ByteArray) = D := ⟨_, rfl⟩
        rw [hD] at HDc
        have HDD := Lib.hid hD
        clear hfin hm hD hni HN HI HH
        by_cases he : Lib.itoa n = s.data.toList
        · have HR := Lib.hid (show R = (n, true) by rw [HF.out]; unfold Nu.chk; rw [if_pos he])
          obtain rfl : D = s := by rw [← HDD.out]; exact (str_eq s _).2 he
          clear he HF HDD
          go_wp2_with (go_at_call 30; refine HDc.out.mono ?_; rintro e w3 ⟨rfl, hb3⟩; have HB3 := Lib.hid hb3; clear hb3)
          go_ret2
          rw [HR.out]
          exact ⟨rfl, HB3.out⟩
        · have HR := Lib.hid (show R = (0, false) by rw [HF.out]; unfold Nu.chk; rw [if_neg he])
          have hne : (D.toList == s.toList) = false := by
            rw [← HDD.out, ByteArray.toList_eq, ByteArray.toList_eq]
            exact beq_eq_false_iff_ne.2 he
          clear he HF HDD
          go_wp2_with (go_at_call 30; refine HDc.out.mono ?_; rintro e w3 ⟨rfl, hb3⟩; have HB3 := Lib.hid hb3; clear hb3)
          go_ret2
          rw [HR.out]
          exact ⟨rfl, HB3.out⟩
      · have fz : ((c0.toNat : Int) != 45) = true := by
          rw [bne_iff_ne]; omega
        have hh : ¬ s.data.toList.head? = some 45 := fun e => hm (by rw [HH.out] at e; injection e with e; rw [e]; rfl)
        by_cases hm2 : n = -9223372036854775808
        · have HR := Lib.hid (show R = (0, false) by rw [hfin]; unfold Nu.fin; simp only; rw [if_neg hh, if_pos hm2])
          subst hm2
          clear hfin hm hni HN HI HH hh
          go_wp2_with fail
          go_ret2
          rw [HR.out]
          exact ⟨rfl, Below.refl _ _⟩
        · have hfin : R = Nu.chk s.data.toList (-n) := by rw [hfin]; unfold Nu.fin; simp only; rw [if_neg hh, if_neg hm2]
          have f5 : (n == -9223372036854775808) = false := beq_eq_false_iff_ne.2 hm2
          have HF := Lib.hid hfin
          have HDc := Lib.hid (ref01_Dec_any (-n) w (wf_of (by omega) (by omega)))
          obtain ⟨D, hD⟩ : ∃ D : ByteArray, (⟨(Lib.itoa (-n)).toArray⟩ : ByteArray) = D := ⟨_, rfl⟩
          rw [hD] at HDc
          have HDD := Lib.hid hD
          have hn2 : -9223372036854775808 < n := by omega
          clear hfin hm hD hni HN HI HH hh hm2
          by_cases he : Lib.itoa (-n) = s.data.toList
          · have HR := Lib.hid (show R = (-n, true) by rw [HF.out]; unfold Nu.chk; rw [if_pos he])
            obtain rfl : D = s := by rw [← HDD.out]; exact (str_eq s _).2 he
            clear he HF HDD
            go_wp2_with (go_at_call 30; refine HDc.out.mono ?_; rintro e w3 ⟨rfl, hb3⟩; have HB3 := Lib.hid hb3; clear hb3)
            go_ret2
            rw [HR.out]
            exact ⟨rfl, HB3.out⟩
          · have HR := Lib.hid (show R = (0, false) by rw [HF.out]; unfold Nu.chk; rw [if_neg he])
            have hne : (D.toList == s.toList) = false := by
              rw [← HDD.out, ByteArray.toList_eq, ByteArray.toList_eq]
              exact beq_eq_false_iff_ne.2 he
            clear he HF HDD
            go_wp2_with (go_at_call 30; refine HDc.out.mono ?_; rintro e w3 ⟨rfl, hb3⟩; have HB3 := Lib.hid hb3; clear hb3)
            go_ret2
            rw [HR.out]
            exact ⟨rfl, HB3.out⟩
set_option maxHeartbeats 1000000 in
theorem ref29_count_any (s : ByteArray) (w : World) (hs : s.size ≤ 1000000) :
    Calls Tryz.prog 28 #[.string s] w fun e w' => e = .returned (.tuple #[.int .i64 (Nu.count s.data.toList).1, .bool (Nu.count s.data.toList).2]) ∧ Below w.heap.size w w' := by
  have H := Lib.hid (ref01_Num_any s w hs)
  unfold Nu.count
  obtain ⟨⟨n, ok⟩, hR⟩ : ∃ R, Nu.numD s.data.toList = R := ⟨_, rfl⟩
  rw [hR] at H ⊢
  clear hR
  cases ok
  · go_enter Tryz.func28, Tryz.ntmps28
    go_wp2_with (go_at_call 50; refine H.out.mono ?_; rintro e w2 ⟨rfl, hb⟩; have HB := Lib.hid hb; clear hb)
    go_ret2
    exact ⟨rfl, HB.out⟩
  · go_enter Tryz.func28, Tryz.ntmps28
    go_wp2_with (go_at_call 50; refine H.out.mono ?_; rintro e w2 ⟨rfl, hb⟩; have HB := Lib.hid hb; clear hb)
    all_goals go_ret2
    all_goals exact ⟨by first | (simp [*]; done) | (simp [*]; omega), HB.out⟩
end Go.Proofs.YtjldgieffkemlaaGreatDoor
