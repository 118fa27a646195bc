/-
  Layer 34's document: may a report be: Sound, walked; layer 35's Check.
-/
import Derived.Test.YtlniiaopindjnaaDoorHisK
import Derived.Test.YtlniiaopindjnaaDoorHisQ
import Derived.Test.YtlniiaopindjnaaDoorBel
import Derived.Test.YtlniiaopindjnaaDoorLoadG
namespace Go.Proofs.YtlniiaopindjnaaDoor
set_option linter.unusedVariables false
open Go.RowKit
open Go.Lib hiding intOf

theorem val_bool {a b : Bool} (h : a = b) : Value.bool a = Value.bool b := by rw [h]
/-- Numbers rise, as far as place k. -/
def RiseTo (l : List Int) (k : Nat) : Prop := ∀ j x y, j + 1 < k → l[j]? = some x → l[j + 1]? = some y → x < y
set_option maxHeartbeats 8000000 in
set_option maxRecDepth 100000 in
theorem ref34_Sound_any (ea pa : Option Addr) (en ec pn pc : Nat) (r : ReportD) (w : World) (h : REvents w w.heap.size [.slice ea en ec] r.events) (hp : RInts w w.heap.size [.slice pa pn pc] r.powers) :
    Calls Tryd.prog 49 #[.agg #[.slice ea en ec, .slice pa pn pc]] w fun e w' => e = .returned (.bool (Hi.check r)) ∧ Below w.heap.size w w' := by
  obtain ⟨R, hR⟩ : ∃ R, Hi.check r = R := ⟨_, rfl⟩
  obtain ⟨hn, hm1, hm2, -, -⟩ := events_open h
  obtain ⟨hn2, p1, p2, -, -⟩ := ints_open hp
  subst hn hn2
  rw [maxLen_val] at hm2 p2
  have H := Lib.hid h
  have HP := Lib.hid hp
  have BX := Lib.hid (BoxedAt.alloc w [.slice ea r.events.length ec, .slice pa r.powers.length pc] 34)
  have hg : (Hi.go r.powers 0 [] r.events && Hi.rise r.powers) = R := hR
  have HG := Lib.hid hg
  rw [hR]
  clear h hp hR hg
  go_enter Tryd.func49, Tryd.ntmps49
  go_upto_region 3 with fail
  go_loopw [3, 4] (fun last i wr => ∃ (k : Nat) (l : Int), k ≤ r.events.length ∧ i = .int .i64 k ∧ last = .int .i64 l ∧ BoxedAt w wr [.slice ea r.events.length ec, .slice pa r.powers.length pc] ∧ Hid ((Hi.go r.powers l (r.events.take k) (r.events.drop k) && Hi.rise r.powers) = R)) (fun _ i _ => r.events.length - (intOf i).toNat)
  case atStart => exact ⟨0, 0, by omega, rfl, rfl, BX.out, by simpa using HG⟩
  case round =>
    obtain ⟨k, l, hk, rfl, rfl, hbox, hinv⟩ := hrel
    by_cases hlt : k < r.events.length
    · obtain ⟨x, hx⟩ := get_at hlt
      obtain ⟨-, -, -, -, hev⟩ := events_open (kept_events.on hbox.below H.out)
      obtain ⟨b, off, rfl, hb, hc⟩ := hev (by omega)
      obtain ⟨-, hcell⟩ := hc k x hx
      have HCE := Lib.hid hcell
      have b0 := hbox.cell 0 _ rfl
      have bs := hbox.size
      have HX := Lib.hid hx
      have HBX := Lib.hid hbox
      have hi := hinv.out
      rw [drop_at hx, Hi.go, ← take_at hx] at hi
      have HI := Lib.hid hi
      clear hx hbox hcell hc hev hinv hi
      go_upto_region 6 with (first
              | (refine wpList_load_event x HCE.out ?_ ?_ ?_; (next => rfl); (next => rfl); (try simp only [Act.put, List.setIfInBounds_toArray, List.set_cons_zero, List.set_cons_succ]))
              | (refine wpList_store_event x (RowAt.new wr _ _ rfl) ?_ ?_ ?_ ?_; (next => rfl); (next => rfl); (next => rfl); (try simp only [Act.put])))
      have HA := Lib.hid (AllAt.copied HBX.out x #[.int .i64 0, .int .i64 0, .int .i64 0, .string ⟨#[]⟩, .string ⟨#[]⟩, .slice none 0 0, .string ⟨#[]⟩, .string ⟨#[]⟩, .int .i64 0, .int .i64 0, .int .i64 0, .int .i64 0, .int .i64 0, .string ⟨#[]⟩, .int .i64 0, .string ⟨#[]⟩] rfl 44)
      generalize hw1 : World.setCells _ _ _ _ = w1
      replace HA : Hid (AllAt w w1 [.slice (some ⟨b, off, none⟩) r.events.length ec, .slice pa r.powers.length pc] wr.heap.size x) := by rw [← hw1]; exact HA
      generalize wr.heap.size = g5 at HA ⊢
      clear hw1 b0 bs HBX
      go_cut [68] (fun v W => v = .bool (!(decide (l < x.begin_) && Hi.isEvent x)) ∧ Hid (AllAt w W [.slice (some ⟨b, off, none⟩) r.events.length ec, .slice pa r.powers.length pc] g5 x))
      case first =>
        as_aux_lemma =>
          have e9 := HA.out.cap.cell 9 _ rfl
          have e10 := HA.out.cap.cell 10 _ rfl
          have e11 := HA.out.cap.cell 11 _ rfl
          have e12 := HA.out.cap.cell 12 _ rfl
          have e13 := HA.out.cap.cell 13 _ rfl
          have e14 := HA.out.cap.cell 14 _ rfl
          have e15 := HA.out.cap.cell 15 _ rfl
          rcases (show x.state = 1 ∨ x.state = 2 ∨ x.state = 3 ∨ x.state < 1 ∨ 3 < x.state by omega) with hs | hs | hs | hs | hs
          · have HSV := Lib.hid (show Hi.isEvent x = (decide (x.begin_ < x.end_)) by unfold Hi.isEvent; (repeat' split) <;> first | rfl | (exfalso; omega))
            go_wp2_with fail
            all_goals go_meet
            all_goals exact ⟨val_bool (by rw [HSV.out]; first | (simp [*]; done) | (simp [*]; omega) | (rw [Bool.eq_iff_iff]; simp [*]; omega)), HA⟩
          · have HSV := Lib.hid (show Hi.isEvent x = (decide (x.begin_ < x.end_) && Hi.ans0 x.answer) by unfold Hi.isEvent; (repeat' split) <;> first | rfl | (exfalso; omega))
            go_wp2_with fail
            all_goals go_meet
            all_goals exact ⟨val_bool (by rw [HSV.out]; first | (simp [Hi.ans0, *]; done) | (simp [Hi.ans0, *]; omega) | (rw [Bool.eq_iff_iff]; simp [Hi.ans0, *]; omega)), HA⟩
          · have HSV := Lib.hid (show Hi.isEvent x = (decide (x.end_ = 0) && Hi.ans0 x.answer) by unfold Hi.isEvent; (repeat' split) <;> first | rfl | (exfalso; omega))
            go_wp2_with fail
            all_goals go_meet
            all_goals exact ⟨val_bool (by rw [HSV.out]; first | (simp [Hi.ans0, *]; done) | (simp [Hi.ans0, *]; omega) | (rw [Bool.eq_iff_iff]; simp [Hi.ans0, *]; omega)), HA⟩
          · have HSV := Lib.hid (show Hi.isEvent x = (false) by unfold Hi.isEvent; (repeat' split) <;> first | rfl | (exfalso; omega))
            go_wp2_with fail
            all_goals go_meet
            all_goals exact ⟨val_bool (by rw [HSV.out]; first | (simp [*]; done) | (simp [*]; omega) | (rw [Bool.eq_iff_iff]; simp [*]; omega)), HA⟩
          · have HSV := Lib.hid (show Hi.isEvent x = (false) by unfold Hi.isEvent; (repeat' split) <;> first | rfl | (exfalso; omega))
            go_wp2_with fail
            all_goals go_meet
            all_goals exact ⟨val_bool (by rw [HSV.out]; first | (simp [*]; done) | (simp [*]; omega) | (rw [Bool.eq_iff_iff]; simp [*]; omega)), HA⟩
      case rest =>
      obtain ⟨rfl, HA2⟩ := hcut
      replace HA := HA2
      clear HA2
      obtain ⟨q6, hq6⟩ : ∃ q, (decide (l < x.begin_) && Hi.isEvent x) = q := ⟨_, rfl⟩
      rw [hq6]
      have HQ6 := Lib.hid hq6
      clear hq6
      cases q6 with
      | false =>
        have HRF := Lib.hid (show false = R by rw [← HI.out]; unfold Hi.fine; rw [HQ6.out]; simp)
        clear HI
        go_wp2_with fail
        go_ret
        exact ⟨ret_bool HRF.out, HA.out.box.below⟩
      | true =>
        have m9 := HA.out.cap.cell 9 _ rfl
        go_upto_region 10 with fail
        go_loopw [6] (fun i wr => ∃ j : Nat, j ≤ k ∧ i = .int .i64 j ∧ Hid (AllAt w wr [.slice (some ⟨b, off, none⟩) r.events.length ec, .slice pa r.powers.length pc] g5 x) ∧ Hid ((r.events.take j).any (Hi.clash x) = false)) (fun i _ => k - (intOf i).toNat)
        case atStart => exact ⟨0, by omega, rfl, HA, Lib.hid (by simp)⟩
        case round =>
          obtain ⟨j, hj, rfl, HA2, HN⟩ := hrel
          replace HA := HA2
          clear HA2 m9
          by_cases hlj : j < k
          · obtain ⟨y, hy⟩ := get_at (show j < r.events.length by omega)
            obtain ⟨-, -, -, -, hev⟩ := events_open (kept_events.on HA.out.box.below H.out)
            obtain ⟨b', off', he, hb', hc⟩ := hev (by omega)
            injection he with he
            injection he with z1 z2 z3
            subst z1 z2
            obtain ⟨-, hcell⟩ := hc j y hy
            have HCE := Lib.hid hcell
            have b0 := HA.out.box.cell 0 _ rfl
            have HY := Lib.hid hy
            have jz : (j : Int) < r.events.length := by omega
            clear hc hcell hev hy
            go_upto_region 13 with (first
              | (refine wpList_load_event y HCE.out ?_ ?_ ?_; (next => rfl); (next => rfl); (try simp only [Act.put, List.setIfInBounds_toArray, List.set_cons_zero, List.set_cons_succ]))
              | (refine wpList_store_event y (RowAt.new wr _ _ rfl) ?_ ?_ ?_ ?_; (next => rfl); (next => rfl); (next => rfl); (try simp only [Act.put])))
            have HC7 := Lib.hid (CapAt.stored (RowAt.new wr #[.int .i64 0, .int .i64 0, .int .i64 0, .string ⟨#[]⟩, .string ⟨#[]⟩, .slice none 0 0, .string ⟨#[]⟩, .string ⟨#[]⟩, .int .i64 0, .int .i64 0, .int .i64 0, .int .i64 0, .int .i64 0, .string ⟨#[]⟩, .int .i64 0, .string ⟨#[]⟩] 44 rfl) y)
            have HA3 := Lib.hid (HA.out.on (below_stored (bel1 wr (.cells #[.int .i64 0, .int .i64 0, .int .i64 0, .string ⟨#[]⟩, .string ⟨#[]⟩, .slice none 0 0, .string ⟨#[]⟩, .string ⟨#[]⟩, .int .i64 0, .int .i64 0, .int .i64 0, .int .i64 0, .int .i64 0, .string ⟨#[]⟩, .int .i64 0, .string ⟨#[]⟩] 44)) (Nat.le_refl _) y.cells))
            generalize hw7 : World.setCells _ _ _ _ = w7
            replace HC7 : Hid (CapAt w7 wr.heap.size y) := by rw [← hw7]; exact HC7
            replace HA : Hid (AllAt w w7 [.slice (some ⟨b, off, none⟩) r.events.length ec, .slice pa r.powers.length pc] g5 x) := by rw [← hw7]; exact HA3
            clear hw7 HA3 b0
            go_cut [97] (fun v W => v = .bool (Hi.clash x y) ∧ Hid (AllAt w W [.slice (some ⟨b, off, none⟩) r.events.length ec, .slice pa r.powers.length pc] g5 x))
            case first =>
              as_aux_lemma =>
                have e0 := HA.out.cap.cell 0 _ rfl
                have e9 := HA.out.cap.cell 9 _ rfl
                have d0 := HC7.out.cell 0 _ rfl
                have d10 := HC7.out.cell 10 _ rfl
                have d11 := HC7.out.cell 11 _ rfl
                go_wp2_with fail
                all_goals go_meet
                all_goals exact ⟨val_bool (by first | (simp [Hi.clash, *]; done) | (rw [Bool.eq_iff_iff]; simp [Hi.clash, *]; omega)), HA⟩
            case rest =>
            obtain ⟨rfl, HA2⟩ := hcut
            replace HA := HA2
            clear HA2 HC7
            cases hcl : Hi.clash x y with
            | true =>
              have HRF := Lib.hid (show false = R by
                have h1 : (r.events.take k).any (Hi.clash x) = true := by
                  rw [List.any_eq_true]
                  exact ⟨y, List.mem_iff_getElem?.2 ⟨j, by rw [List.getElem?_take_of_lt hlj]; exact HY.out⟩, hcl⟩
                rw [← HI.out]; unfold Hi.fine; rw [h1]; simp)
              clear HI hcl
              go_wp2_with fail
              go_ret
              exact ⟨ret_bool HRF.out, HA.out.box.below⟩
            | false =>
              have HN2 := Lib.hid (any_grow HN.out HY.out hcl)
              clear hcl
              go_wp2_with fail
              go_roundw
              case rel => exact ⟨j + 1, by omega, by go_num, HA, HN2⟩
              case measure => simp [intOf]; omega
          · obtain rfl : j = k := by omega
            go_upto_region 16 with fail
            go_loopw [8] (fun i wr => ∃ m : Nat, m ≤ r.powers.length ∧ i = .int .i64 m ∧ Hid (AllAt w wr [.slice (some ⟨b, off, none⟩) r.events.length ec, .slice pa r.powers.length pc] g5 x) ∧ Hid ((r.powers.take m).any (fun t => !Hi.cut x t) = false)) (fun i _ => r.powers.length - (intOf i).toNat)
            case atStart => exact ⟨0, by omega, rfl, HA, Lib.hid (by simp)⟩
            case round =>
              obtain ⟨m, hm, rfl, HA2, HM⟩ := hrel
              replace HA := HA2
              clear HA2
              have b1 := HA.out.box.cell 1 _ rfl
              by_cases hlm : m < r.powers.length
              · obtain ⟨v, hv⟩ := get_at hlm
                obtain ⟨-, -, -, -, hpv⟩ := ints_open (kept_ints.on HA.out.box.below HP.out)
                obtain ⟨pb, po, rfl, hpb, hpc⟩ := hpv (by omega)
                have C0 := Lib.hid (hpc m v hv).2
                have HV := Lib.hid hv
                have mz : (m : Int) < r.powers.length := by omega
                clear hv hpv hpc
                go_upto_region 18 with fail
                go_cut [147] (fun u W => u = .bool (!Hi.cut x v) ∧ Hid (AllAt w W [.slice (some ⟨b, off, none⟩) r.events.length ec, .slice (some ⟨pb, po, none⟩) r.powers.length pc] g5 x))
                case first =>
                  as_aux_lemma =>
                    have f0 := fun x_ : Ext wr.heap.size wr => (HA.out.on x_.b).box.cell 1 _ rfl
                    have f1 := fun x_ : Ext wr.heap.size wr => (HA.out.on x_.b).cap.cell 9 _ rfl
                    have f2 := fun x_ : Ext wr.heap.size wr => (HA.out.on x_.b).cap.cell 10 _ rfl
                    have f3 := fun x_ : Ext wr.heap.size wr => (HA.out.on x_.b).cap.cell 11 _ rfl
                    have f4 : ∀ x_ : Ext wr.heap.size wr, x_.w.cell? ⟨pb, po + m, none⟩ = some (.int .i64 v) := fun x_ => (x_.b.cell (p := ⟨pb, po + m, none⟩) hpb).trans C0.out
                    clear b1
                    by_cases t1 : v = x.begin_
                    · have HV1 := Lib.hid (show true = !Hi.cut x v by simp [Hi.cut, t1])
                      have s1 : (v == x.begin_) = true := by simp [t1]
                      clear t1
                      refine wp_region_bel wr.heap.size (by kernel_rfl) (by kernel_rfl) ?_
                      repeat (go_big_quiet_step (fail))
                      refine wpQuiet_nil ?_
                      intro x_
                      have HB2 := Lib.hid x_.b
                      generalize x_.w = wx at HB2 ⊢
                      clear f0 f1 f2 f3 f4
                      go_wp2_with fail
                      go_meet
                      exact ⟨val_bool (by exact HV1.out), Lib.hid (HA.out.on HB2.out)⟩
                    · have s1 : (v == x.begin_) = false := by simp [t1]
                      by_cases t2 : v = x.end_
                      · have HV1 := Lib.hid (show true = !Hi.cut x v by simp [Hi.cut, t2])
                        have s2 : (v == x.end_) = true := by simp [t2]
                        clear t1 t2
                        refine wp_region_bel wr.heap.size (by kernel_rfl) (by kernel_rfl) ?_
                        repeat (go_big_quiet_step (fail))
                        refine wpQuiet_nil ?_
                        intro x_
                        have HB2 := Lib.hid x_.b
                        generalize x_.w = wx at HB2 ⊢
                        clear f0 f1 f2 f3 f4
                        go_wp2_with fail
                        go_meet
                        exact ⟨val_bool (by exact HV1.out), Lib.hid (HA.out.on HB2.out)⟩
                      · have s2 : (v == x.end_) = false := by simp [t2]
                        by_cases t3 : x.begin_ < v
                        · have s3 : decide (x.begin_ < v) = true := by simp [t3]
                          by_cases t4 : x.state = 3
                          · have HV1 := Lib.hid (show true = !Hi.cut x v by simp [Hi.cut, t4]; omega)
                            have s4 : (x.state == 3) = true := by simp [t4]
                            clear t1 t2 t3 t4
                            refine wp_region_bel wr.heap.size (by kernel_rfl) (by kernel_rfl) ?_
                            repeat (go_big_quiet_step (fail))
                            refine wpQuiet_nil ?_
                            intro x_
                            have HB2 := Lib.hid x_.b
                            generalize x_.w = wx at HB2 ⊢
                            clear f0 f1 f2 f3 f4
                            go_wp2_with fail
                            go_meet
                            exact ⟨val_bool (by exact HV1.out), Lib.hid (HA.out.on HB2.out)⟩
                          · have s4 : (x.state == 3) = false := by simp [t4]
                            by_cases t5 : v < x.end_
                            · have HV1 := Lib.hid (show true = !Hi.cut x v by simp [Hi.cut]; omega)
                              have s5 : decide (v < x.end_) = true := by simp [t5]
                              clear t1 t2 t3 t4 t5
                              refine wp_region_bel wr.heap.size (by kernel_rfl) (by kernel_rfl) ?_
                              repeat (go_big_quiet_step (fail))
                              refine wpQuiet_nil ?_
                              intro x_
                              have HB2 := Lib.hid x_.b
                              generalize x_.w = wx at HB2 ⊢
                              clear f0 f1 f2 f3 f4
                              go_wp2_with fail
                              go_meet
                              exact ⟨val_bool (by exact HV1.out), Lib.hid (HA.out.on HB2.out)⟩
                            · have HV1 := Lib.hid (show false = !Hi.cut x v by simp [Hi.cut]; omega)
                              have s5 : decide (v < x.end_) = false := by simp; omega
                              clear t1 t2 t3 t4 t5
                              refine wp_region_bel wr.heap.size (by kernel_rfl) (by kernel_rfl) ?_
                              repeat (go_big_quiet_step (fail))
                              refine wpQuiet_nil ?_
                              intro x_
                              have HB2 := Lib.hid x_.b
                              generalize x_.w = wx at HB2 ⊢
                              clear f0 f1 f2 f3 f4
                              go_wp2_with fail
                              go_meet
                              exact ⟨val_bool (by exact HV1.out), Lib.hid (HA.out.on HB2.out)⟩
                        · have s3 : decide (x.begin_ < v) = false := by simp; omega
                          have HV1 := Lib.hid (show false = !Hi.cut x v by simp [Hi.cut]; omega)
                          clear t1 t2 t3
                          refine wp_region_bel wr.heap.size (by kernel_rfl) (by kernel_rfl) ?_
                          repeat (go_big_quiet_step (fail))
                          refine wpQuiet_nil ?_
                          intro x_
                          have HB2 := Lib.hid x_.b
                          generalize x_.w = wx at HB2 ⊢
                          clear f0 f1 f2 f3 f4
                          go_wp2_with fail
                          go_meet
                          exact ⟨val_bool (by exact HV1.out), Lib.hid (HA.out.on HB2.out)⟩
                case rest =>
                obtain ⟨rfl, HA2⟩ := hcut
                replace HA := HA2
                clear HA2 b1
                cases hcl : (!Hi.cut x v) with
                | true =>
                  have HRF := Lib.hid (show false = R by
                    have h1 : (r.powers.any fun t => !Hi.cut x t) = true := any_found (p := fun t => !Hi.cut x t) HV.out hcl
                    rw [← HI.out]; unfold Hi.fine; rw [all_not_any, h1]; simp)
                  clear HI hcl
                  go_wp2_with fail
                  go_ret
                  exact ⟨ret_bool HRF.out, HA.out.box.below⟩
                | false =>
                  have HM2 := Lib.hid (any_grow (p := fun t => !Hi.cut x t) HM.out HV.out hcl)
                  clear hcl
                  go_wp2_with fail
                  go_roundw
                  case rel => exact ⟨m + 1, by omega, by go_num, HA, HM2⟩
                  case measure => simp [intOf]; omega
              · obtain rfl : m = r.powers.length := by omega
                have HNX := Lib.hid (show (Hi.go r.powers x.begin_ (r.events.take (j + 1)) (r.events.drop (j + 1)) && Hi.rise r.powers) = R by
                  have h1 := HM.out
                  rw [List.take_length] at h1
                  rw [← HI.out]
                  unfold Hi.fine
                  rw [HQ6.out, HN.out, all_not_any, h1]
                  simp)
                go_wp2_with fail
                go_roundw
                case rel => exact ⟨j + 1, x.begin_, by omega, by go_num, rfl, HA.out.box, HNX⟩
                case measure => simp [intOf]; omega
    · obtain rfl : k = r.events.length := by omega
      have hi := hinv.out
      rw [List.drop_length, Hi.go, Bool.true_and] at hi
      have HRI := Lib.hid hi
      have HBX := Lib.hid hbox
      have b0 := hbox.cell 0 _ rfl
      have bs := hbox.size
      clear hbox hinv hi
      go_upto_region 21 with fail
      go_loopw [9] (fun i wr => ∃ m : Nat, (m ≤ r.powers.length ∨ m = 1) ∧ 1 ≤ m ∧ i = .int .i64 m ∧ BoxedAt w wr [.slice ea r.events.length ec, .slice pa r.powers.length pc] ∧ Hid (RiseTo r.powers m)) (fun i _ => r.powers.length - (intOf i).toNat)
      case atStart => exact ⟨1, .inr rfl, by omega, rfl, HBX.out, Lib.hid (fun j x y hj => absurd hj (by omega))⟩
      case round =>
        obtain ⟨m, hm, hm1, rfl, hbox, HRT⟩ := hrel
        have HBX := Lib.hid hbox
        have b1 := hbox.cell 1 _ rfl
        by_cases hlm : m < r.powers.length
        · obtain ⟨n, rfl⟩ : ∃ n, m = n + 1 := ⟨m - 1, by omega⟩
          obtain ⟨u, hu⟩ := get_at (show n < r.powers.length by omega)
          obtain ⟨v, hv⟩ := get_at hlm
          obtain ⟨-, -, -, -, hpv⟩ := ints_open (kept_ints.on hbox.below HP.out)
          obtain ⟨pb, po, rfl, hpb, hpc⟩ := hpv (by omega)
          have CU := Lib.hid (hpc n u hu).2
          have CV := Lib.hid (hpc (n + 1) v hv).2
          have HU := Lib.hid hu
          have HV := Lib.hid hv
          clear hu hv hpv hpc hbox
          go_upto_region 23 with fail
          have f0 := fun x_ : Ext wr.heap.size wr => (HBX.out.on x_.b).cell 1 _ rfl
          have f1 : ∀ x_ : Ext wr.heap.size wr, x_.w.cell? ⟨pb, po + n, none⟩ = some (.int .i64 u) := fun x_ => (x_.b.cell (p := ⟨pb, po + n, none⟩) hpb).trans CU.out
          have f2 : ∀ x_ : Ext wr.heap.size wr, x_.w.cell? ⟨pb, po + (n + 1), none⟩ = some (.int .i64 v) := fun x_ => (x_.b.cell (p := ⟨pb, po + (n + 1), none⟩) hpb).trans CV.out
          refine wp_region_bel wr.heap.size (by kernel_rfl) (by kernel_rfl) ?_
          repeat (go_big_quiet_step (fail))
          refine wpQuiet_nil ?_
          intro x_
          have HB2 := Lib.hid x_.b
          generalize x_.w = wx at HB2 ⊢
          clear f0 f1 f2 b1
          replace HBX := Lib.hid (HBX.out.on HB2.out)
          by_cases huv : v ≤ u
          · have HRF := Lib.hid (show false = R by
              rw [← HRI.out]
              cases hri : Hi.rise r.powers with
              | false => rfl
              | true => exact absurd ((rise_iff _).1 hri n u v HU.out HV.out) (by omega))
            go_wp2_with fail
            go_ret
            exact ⟨ret_bool HRF.out, HBX.out.below⟩
          · have HRT2 := Lib.hid (show RiseTo r.powers (n + 1 + 1) from fun j a c hj ha hc => by
              rcases Nat.lt_or_ge (j + 1) (n + 1) with h | h
              · exact HRT.out j a c h ha hc
              · obtain rfl : j = n := by omega
                rw [HU.out] at ha
                rw [HV.out] at hc
                injection ha with ha
                injection hc with hc
                omega)
            go_wp2_with fail
            go_roundw
            case rel => exact ⟨n + 1 + 1, by omega, by omega, by go_num, HBX.out, HRT2⟩
            case measure => simp [intOf]; omega
        · have HRF := Lib.hid (show true = R by
            rw [← HRI.out]
            exact ((rise_iff _).2 fun j a c ha hc => HRT.out j a c (by
              have := (List.getElem?_eq_some_iff.1 hc).1
              omega) ha hc).symm)
          clear hbox
          go_wp2_with fail
          go_ret
          exact ⟨ret_bool HRF.out, HBX.out.below⟩

set_option maxHeartbeats 1000000 in
theorem ref35_Check_any (ea pa : Option Addr) (en ec pn pc : Nat) (r : ReportD) (w : World) (h : REvents w w.heap.size [.slice ea en ec] r.events) (hp : RInts w w.heap.size [.slice pa pn pc] r.powers) :
    Calls Tryd.prog 22 #[.agg #[.slice ea en ec, .slice pa pn pc]] w fun e w' => e = .returned (.int .i64 (Hi.errno (Hi.check r))) ∧ Below w.heap.size w w' := by
  have BX := Lib.hid (BoxedAt.alloc w [.slice ea en ec, .slice pa pn pc] 34)
  have HS := Lib.hid (fun (W : World) (hW : Below w.heap.size w W) => ref34_Sound_any ea pa en ec pn pc r W (kept_events.on hW h) (kept_ints.on hW hp))
  obtain ⟨R, hR⟩ : ∃ R, Hi.check r = R := ⟨_, rfl⟩
  rw [hR] at HS ⊢
  clear h hp hR
  cases R
  all_goals
    go_enter Tryd.func22, Tryd.ntmps22
    go_wp2_with (go_at_call 49; refine (HS.out _ BX.out.below).mono ?_; rintro e w2 ⟨rfl, hb2⟩; have HB2 := Lib.hid hb2; clear hb2)
    go_ret
    exact ⟨rfl, BX.out.below.trans (HB2.out.mono BX.out.below.size)⟩
end Go.Proofs.YtlniiaopindjnaaDoor
