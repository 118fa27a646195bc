/-
  Layer 8: InodeStays, walked.
-/
import Derived.Test.YtfepbjlaffpojaaInoZ
import Derived.Test.YtfepbjlaffpojaaActR
import Derived.Test.YtfepbjlaffpojaaStayP
namespace Go.Proofs.Ytfepbjlaffpojaa
set_option linter.unusedVariables false
open Go.RowKit Go.Maps

section
variable {w w1 : World} {g mb : Nat} {β : Int → Nat × Nat} {s : ByteArray}
theorem st0 : Calls Try.prog 4 #[.int .i64 1048576] w fun e w' => ∃ g mb β, e = .returned (.tuple #[.pointer (some ⟨g, 0, none⟩), .int .i64 0]) ∧ OwnT w w' g mb β In.b0 := new_own (by decide)
theorem st1 (h : OwnT w w1 g mb β In.b0) : Calls Try.prog 7 #[.pointer (some ⟨g, 0, none⟩), .int .i64 1, .string ⟨#[110]⟩, .bool false] w1 fun e w' => e = .returned (.tuple #[.int .i64 2, .int .i64 0]) ∧ ∃ β', OwnT w w' g mb β' In.b1 := by
  have C := Make_any h.tbl In.bi0 (by omega) (dir := 1) (by decide) (s := In.nn) (by decide) false
  rw [In.b1_eq] at C
  exact C.mono fun e w' ⟨h1, h2⟩ => ⟨h1, h.goes h2⟩
theorem st2 (h : OwnT w w1 g mb β In.b1) (hs : s.size ≤ 256) : Calls Try.prog 8 #[.pointer (some ⟨g, 0, none⟩), .int .i64 2, .int .i64 0, .string s] w1 fun e w' => e = .returned (.int .i64 0) ∧ ∃ β', OwnT w w' g mb β' (In.b2 s) := by
  refine (Write_any h.tbl (fit_inv In.bi1 (by omega)) (id := 2) (by decide) (a := 0) (by decide) (s := s) (by rw [maxLen_val]; omega)).mono fun e w' ⟨h1, h2⟩ => ⟨?_, h.goes h2.goes⟩
  have e1 : (In.write In.b1 2 0 s).1 = 0 := by unfold In.write; rw [(In.b2_eq hs).1]; rfl
  rw [e1] at h1
  exact h1
theorem st3 (h : OwnT w w1 g mb β (In.b2 s)) (hs : s.size ≤ 256) : Calls Try.prog 9 #[.pointer (some ⟨g, 0, none⟩), .int .i64 2] w1 fun e w' => e = .returned (.int .i64 0) ∧ ∃ β', OwnT w w' g mb β' (In.b3 s) := by
  refine (Hold_any h.tbl (fit_inv (In.bi2 s) (by omega)) (id := 2) (by decide)).mono fun e w' ⟨h1, h2⟩ => ⟨?_, h.goes h2.goes⟩
  have e1 : (In.hold (In.b2 s) 2).1 = 0 := by unfold In.hold; rw [(In.b3_eq hs).1]; rfl
  rw [e1] at h1
  exact h1
theorem st4 (h : OwnT w w1 g mb β (In.b3 s)) (hs : s.size ≤ 256) : Calls Try.prog 10 #[.pointer (some ⟨g, 0, none⟩), .int .i64 1, .string ⟨#[110]⟩] w1 fun e w' => e = .returned (.int .i64 0) ∧ ∃ β', OwnT w w' g mb β' (In.b4 s) := by
  refine (Unlink_any h.tbl (fit_inv (In.bi3 s) (by omega)) (dir := 1) (by decide) (s := In.nn) (by decide)).mono fun e w' ⟨h1, h2⟩ => ⟨?_, h.goes h2.goes⟩
  have e1 : (In.unlink (In.b3 s) 1 In.nn).1 = 0 := by unfold In.unlink; rw [(In.b4_eq hs).1]; rfl
  rw [e1] at h1
  exact h1
theorem st5 {t : TabD} {N : Nat} (h : OwnT w w1 g mb β t) (I : In.Inv N t) (hN : N ≤ 1000000000) (hk : In.Keep s t) (hs : s.size ≤ 256) : Calls Try.prog 12 #[.pointer (some ⟨g, 0, none⟩), .int .i64 2, .int .i64 0, .int .i64 1024] w1 fun e w' => e = .returned (.tuple #[.string s, .int .i64 0]) ∧ OwnT w w' g mb β t := by
  have C := Read_any h.tbl (fit_inv I hN) (id := 2) (by decide) 0 1024
  rw [(In.keep_read hk hs).1, (In.keep_read hk hs).2] at C
  exact C.mono fun e w' ⟨h1, h2⟩ => ⟨h1, h.on h2⟩
theorem st6 {t : TabD} {N : Nat} (h : OwnT w w1 g mb β t) (I : In.Inv N t) (hN : N ≤ 1000000000) (a : ActD) (ha : a.Ok) : Calls Try.prog 11 #[.pointer (some ⟨g, 0, none⟩), .agg a.cells.toArray] w1 fun e w' => ∃ x s e', e = .returned (.tuple #[.int .i64 x, .string s, .int .i64 e']) ∧ ∃ β', OwnT w w' g mb β' (In.do_ t a).2.2.2 :=
  (do_any h.tbl I hN a ha).mono fun e w' ⟨h1, h2⟩ => ⟨_, _, _, h1, h.goes h2⟩
end
set_option maxHeartbeats 8000000 in
set_option maxRecDepth 100000 in
theorem inodeStays_walk (s : ByteArray) (a : Option Addr) (n c : Nat) (xs : List ActD) (w : World) (hsm : s.size ≤ maxLen) (h : RActs w w.heap.size [.slice a n c] xs) :
    Calls Try.prog 3 #[.string s, .slice a n c] w fun e w' => e = .returned (.bool true) ∧ Below w.heap.size w w' := by
  have C0 := st0 (w := w)
  have hop := acts_open h
  obtain ⟨hn, h1, h2, -⟩ := hop
  rw [maxLen_val] at h2 hsm
  subst hn
  have HX := Lib.hid h
  clear h
  by_cases hs : s.size ≤ 256
  · have e256 : decide ((256 : Int) < (s.size : Int)) = false := decide_eq_false (by omega)
    go_enter Try.func3, Try.ntmps3
    go_upto_block 0 with (first
      | (go_at_call 4; refine C0.mono ?_; rintro e w1 ⟨g, mb, β, rfl, hO⟩; have H0 := Lib.hid hO; clear hO)
      | (go_at_call 5; refine (small_any a _ c xs w1 30 (by omega) (by omega) (kept_acts.on H0.out.below HX.out)).mono ?_; rintro e w2 ⟨b, rfl, hb, rfl⟩; have HBB := Lib.hid hb; clear hb; cases b)
      | (go_at_call 6; refine (law08_awake_any w1).mono ?_; rintro e w3 ⟨rfl, hb⟩; have HB3 := Lib.hid hb; clear hb)
      | (go_at_call 7; refine (st1 H0.out).mono ?_; rintro e w3 ⟨rfl, β1, hO⟩; have H1 := Lib.hid hO; clear hO)
      | (go_at_call 8; refine (st2 H1.out hs).mono ?_; rintro e w4 ⟨rfl, β2, hO⟩; have H2 := Lib.hid hO; clear hO)
      | (go_at_call 9; refine (st3 H2.out hs).mono ?_; rintro e w5 ⟨rfl, β3, hO⟩; have H3 := Lib.hid hO; clear hO)
      | (go_at_call 10; refine (st4 H3.out hs).mono ?_; rintro e w6 ⟨rfl, β4, hO⟩; have H4 := Lib.hid hO; clear hO))
    · go_ret
      exact ⟨rfl, H0.out.below.trans (HB3.out.mono H0.out.below.size)⟩
    have hlen := HBB.out trivial
    go_wp2_with fail
    go_loopw [9] (fun i wr => ∃ (k : Nat) (t : TabD) (β : Int → Nat × Nat), k ≤ xs.length ∧ i = .int .i64 k ∧ Hid (OwnT w wr g mb β t) ∧ Hid (In.Inv (3 + 2 * k) t ∧ In.Keep s t)) (fun i _ => xs.length - (intOf i).toNat)
    case atStart => exact ⟨0, _, _, by omega, rfl, H4, Lib.hid ⟨In.bi4 s, (In.b4_eq hs).2⟩⟩
    case round =>
      obtain ⟨k, t, β', hk, rfl, HO, HI⟩ := hrel
      clear C0 H0 H1 H2 H3 H4 HBB
      generalize β' = β at *
      by_cases hlt : k < xs.length
      · obtain ⟨x, hxk⟩ := get_at hlt
        obtain ⟨-, -, -, hx⟩ := acts_open (kept_acts.on HO.out.below HX.out)
        obtain ⟨b, off, rfl, hb, hc⟩ := hx (by omega)
        obtain ⟨hok, hcell⟩ := hc k x hxk
        obtain ⟨c0, c1, c2, c3, c4, c5, c6, c7⟩ := act_cells hcell
        clear hc hx hxk
        by_cases hid : x.id = 2
        · by_cases k8 : x.kind = 8
          · have f0 : (x.id == 2) = true := by simpa using hid
            have f8 : (x.kind == 8) = true := by simpa using k8
            clear hid k8
            have I2 := Lib.hid (HI.out.1.more (show 3 + 2 * k ≤ 3 + 2 * (k + 1) by omega))
            have K2 := Lib.hid HI.out.2
            obtain ⟨kind, id, dir, at_, n, name, as_, flag⟩ := x
            simp only at c0 c1 c2 c3 c4 c5 c6 c7 f0 f8 hok
            have HW := Lib.hid (HO.out.on ((Below.refl _ wr).alloc (Nat.le_refl _) (.cells #[.int .i64 kind, .int .i64 id, .int .i64 dir, .int .i64 at_, .int .i64 n, .string name, .string as_, .bool flag] 35)))
            clear hcell hok
            go_wp2_with fail
            go_roundw
            case rel => exact ⟨k + 1, t, β, by omega, by go_num, HW, Lib.hid ⟨I2.out, K2.out⟩⟩
            case measure => simp [intOf]; omega
          by_cases k9 : x.kind = 9
          · have f0 : (x.id == 2) = true := by simpa using hid
            have f8 : (x.kind == 8) = false := by simpa using k8
            have f9 : (x.kind == 9) = true := by simpa using k9
            clear hid k8 k9
            have I2 := Lib.hid (HI.out.1.more (show 3 + 2 * k ≤ 3 + 2 * (k + 1) by omega))
            have K2 := Lib.hid HI.out.2
            obtain ⟨kind, id, dir, at_, n, name, as_, flag⟩ := x
            simp only at c0 c1 c2 c3 c4 c5 c6 c7 f0 f8 f9 hok
            have HW := Lib.hid (HO.out.on ((Below.refl _ wr).alloc (Nat.le_refl _) (.cells #[.int .i64 kind, .int .i64 id, .int .i64 dir, .int .i64 at_, .int .i64 n, .string name, .string as_, .bool flag] 35)))
            clear hcell hok
            go_wp2_with fail
            go_roundw
            case rel => exact ⟨k + 1, t, β, by omega, by go_num, HW, Lib.hid ⟨I2.out, K2.out⟩⟩
            case measure => simp [intOf]; omega
          by_cases k11 : x.kind = 11
          · have f0 : (x.id == 2) = true := by simpa using hid
            have f8 : (x.kind == 8) = false := by simpa using k8
            have f9 : (x.kind == 9) = false := by simpa using k9
            have f11 : (x.kind == 11) = true := by simpa using k11
            clear hid k8 k9 k11
            have I2 := Lib.hid (HI.out.1.more (show 3 + 2 * k ≤ 3 + 2 * (k + 1) by omega))
            have K2 := Lib.hid HI.out.2
            obtain ⟨kind, id, dir, at_, n, name, as_, flag⟩ := x
            simp only at c0 c1 c2 c3 c4 c5 c6 c7 f0 f8 f9 f11 hok
            have HW := Lib.hid (HO.out.on ((Below.refl _ wr).alloc (Nat.le_refl _) (.cells #[.int .i64 kind, .int .i64 id, .int .i64 dir, .int .i64 at_, .int .i64 n, .string name, .string as_, .bool flag] 35)))
            clear hcell hok
            go_wp2_with fail
            go_roundw
            case rel => exact ⟨k + 1, t, β, by omega, by go_num, HW, Lib.hid ⟨I2.out, K2.out⟩⟩
            case measure => simp [intOf]; omega
          have hskip : ¬ (x.id = 2 ∧ (x.kind = 8 ∨ x.kind = 9 ∨ x.kind = 11)) := fun ⟨_, hh⟩ => by rcases hh with h | h | h; exact k8 h; exact k9 h; exact k11 h
          have f0 : (x.id == 2) = true := by simpa using hid
          have f8 : (x.kind == 8) = false := by simpa using k8
          have f9 : (x.kind == 9) = false := by simpa using k9
          have f11 : (x.kind == 11) = false := by simpa using k11
          clear hid k8 k9 k11
          have I2 := Lib.hid (In.inv_do HI.out.1 x)
          have K2 := Lib.hid (In.keep_do HI.out.2 x hskip)
          obtain ⟨kind, id, dir, at_, n, name, as_, flag⟩ := x
          simp only at c0 c1 c2 c3 c4 c5 c6 c7 f0 f8 f9 f11 hok I2 K2
          have HC := Lib.hid (fun (W : World) (hW : OwnT w W g mb β t) => st6 hW HI.out.1 (by omega) ⟨kind, id, dir, at_, n, name, as_, flag⟩ hok)
          have HW := Lib.hid (HO.out.on ((Below.refl _ wr).alloc (Nat.le_refl _) (.cells #[.int .i64 kind, .int .i64 id, .int .i64 dir, .int .i64 at_, .int .i64 n, .string name, .string as_, .bool flag] 35)))
          have HR := Lib.hid (fun (W : World) (β' : Int → Nat × Nat) (hW : OwnT w W g mb β' (In.do_ t ⟨kind, id, dir, at_, n, name, as_, flag⟩).2.2.2) => st5 (s := s) hW I2.out (by omega) K2.out hs)
          clear hcell hskip hok
          go_wp2_with (first
            | (go_at_call 11; refine (HC.out _ HW.out).mono ?_; rintro e w4 ⟨q1, q2, q3, rfl, β', hO⟩; have HO2 := Lib.hid hO; clear hO)
            | (go_at_call 12; refine (HR.out _ _ HO2.out).mono ?_; rintro e w5 ⟨rfl, hO⟩; have HO3 := Lib.hid hO; clear hO))
          go_roundw
          case rel => exact ⟨k + 1, _, β', by omega, by go_num, HO3, Lib.hid ⟨I2.out, K2.out⟩⟩
          case measure => simp [intOf]; omega
        · have hskip : ¬ (x.id = 2 ∧ (x.kind = 8 ∨ x.kind = 9 ∨ x.kind = 11)) := fun hh => hid hh.1
          have f0 : (x.id == 2) = false := by simpa using hid
          clear hid
          have I2 := Lib.hid (In.inv_do HI.out.1 x)
          have K2 := Lib.hid (In.keep_do HI.out.2 x hskip)
          obtain ⟨kind, id, dir, at_, n, name, as_, flag⟩ := x
          simp only at c0 c1 c2 c3 c4 c5 c6 c7 f0 hok I2 K2
          have HC := Lib.hid (fun (W : World) (hW : OwnT w W g mb β t) => st6 hW HI.out.1 (by omega) ⟨kind, id, dir, at_, n, name, as_, flag⟩ hok)
          have HW := Lib.hid (HO.out.on ((Below.refl _ wr).alloc (Nat.le_refl _) (.cells #[.int .i64 kind, .int .i64 id, .int .i64 dir, .int .i64 at_, .int .i64 n, .string name, .string as_, .bool flag] 35)))
          have HR := Lib.hid (fun (W : World) (β' : Int → Nat × Nat) (hW : OwnT w W g mb β' (In.do_ t ⟨kind, id, dir, at_, n, name, as_, flag⟩).2.2.2) => st5 (s := s) hW I2.out (by omega) K2.out hs)
          clear hcell hskip hok
          go_wp2_with (first
            | (go_at_call 11; refine (HC.out _ HW.out).mono ?_; rintro e w4 ⟨q1, q2, q3, rfl, β', hO⟩; have HO2 := Lib.hid hO; clear hO)
            | (go_at_call 12; refine (HR.out _ _ HO2.out).mono ?_; rintro e w5 ⟨rfl, hO⟩; have HO3 := Lib.hid hO; clear hO))
          go_roundw
          case rel => exact ⟨k + 1, _, β', by omega, by go_num, HO3, Lib.hid ⟨I2.out, K2.out⟩⟩
          case measure => simp [intOf]; omega
      · obtain rfl : k = xs.length := by omega
        go_wp2_with (go_at_call 6; refine (law08_awake_any wr).mono ?_; rintro e w3 ⟨rfl, hb⟩; have HB3 := Lib.hid hb; clear hb)
        go_ret
        exact ⟨rfl, HO.out.below.trans (HB3.out.mono HO.out.below.size)⟩
  · have e256 : decide ((256 : Int) < (s.size : Int)) = true := decide_eq_true (by omega)
    go_enter Try.func3, Try.ntmps3
    go_wp2_with (first
      | (go_at_call 4; refine C0.mono ?_; rintro e w1 ⟨g, mb, β, rfl, hO⟩; have H0 := Lib.hid hO; clear hO)
      | (go_at_call 6; refine (law08_awake_any w1).mono ?_; rintro e w3 ⟨rfl, hb⟩; have HB3 := Lib.hid hb; clear hb))
    go_ret
    exact ⟨rfl, H0.out.below.trans (HB3.out.mono H0.out.below.size)⟩
end Go.Proofs.Ytfepbjlaffpojaa
