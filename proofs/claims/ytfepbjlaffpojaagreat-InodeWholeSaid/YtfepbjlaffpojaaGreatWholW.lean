/-
  Layer 8: InodeWhole, walked.
-/
import Derived.Test.YtfepbjlaffpojaaGreatWholP
import Derived.Test.YtfepbjlaffpojaaGreatNodB
import Derived.Laws.BitsAllLaws
import Derived.Test.YtfepbjlaffpojaaGreatInoZ
import Derived.Test.YtfepbjlaffpojaaGreatActR
namespace Go.Proofs.YtfepbjlaffpojaaGreat
set_option linter.unusedVariables false
open Go.RowKit Go.Maps

section
variable {w w1 : World} {g mb : Nat} {β : Int → Nat × Nat} {t : TabD} {N : Nat}
theorem nodes_own (h : OwnT w w1 g mb β t) (I : In.Inv N t) (hN : N ≤ 1000000) : Calls Tryz.prog 9 #[.pointer (some ⟨g, 0, none⟩)] w1 fun e w' => ∃ a c base, e = .returned (.slice a t.nodes.length c) ∧ OutAt w' base (.slice a t.nodes.length c) t.nodes ∧ w1.heap.size ≤ base ∧ OwnT w w' g mb β t ∧ Below w1.heap.size w1 w' :=
  (Nodes_any h.tbl (by have := I.q0; omega) (fun n hn => by have h1 := I.pos n hn; have h2 := I.last; exact fits_of (by omega) (by omega)) (by have := In.inv_len I; omega)
    (fun n hn => by have h3 := I.tot; have h4 : n.names.length ≤ In.tot t.nodes := In.le_sum (f := fun n => n.names.length) hn; omega) I.sorted).mono
    fun e w' ⟨a, c, base, h1, h2, h3, h4⟩ => ⟨a, c, base, h1, h2, h3, h.on h4, h4⟩
theorem do_own (h : OwnT w w1 g mb β t) (I : In.Inv N t) (hN : N ≤ 1000000) (a : ActD) (ha : a.Ok) {v : Value} {l : List NodeD} {base : Nat} (ho : OutAt w1 base v l) (hF : ∀ k ∈ foot g mb β t.nodes, k < base)
    {r1 E : Int} {r2 : ByteArray} {t2 : TabD} (hr : In.do_ t a = (r1, r2, E, t2)) :
    Calls Tryz.prog 10 #[.pointer (some ⟨g, 0, none⟩), .agg a.cells.toArray] w1 fun e w' => e = .returned (.tuple #[.int .i64 r1, .string r2, .int .i64 E]) ∧ ∃ β', OwnT w w' g mb β' t2 ∧ OutAt w' base v l := by
  have C := do_any h.tbl I (by omega) a ha
  rw [hr] at C
  exact C.mono fun e w' ⟨h1, h2⟩ => by
    obtain ⟨β', q⟩ := h.goes h2
    obtain ⟨_, _, h3, _⟩ := h2
    exact ⟨h1, β', q, ho.only h3 hF⟩
theorem foot_lt (h : OwnT w w1 g mb β t) {base : Nat} (hb : w1.heap.size ≤ base) : ∀ k ∈ foot g mb β t.nodes, k < base := fun k hk => by have := h.tbl.lt k hk; omega
end
theorem mask13 {x : Int} (h : (Lit.int .u16 x).wf = true) : bits .and .u16 x 8191 = x % 8192 := by
  have h : IntKind.u16.min ≤ x ∧ x ≤ IntKind.u16.max := by simpa [Lit.wf] using h
  have h0 : IntKind.u16.min = 0 := rfl
  have h1 : IntKind.u16.max = 65535 := rfl
  rw [h0, h1] at h
  rw [u16_and x 8191 h.1 (by omega) (by omega) (by omega)]
  show ((x.toNat &&& (2 ^ 13 - 1) : Nat) : Int) = x % 8192
  rw [Nat.and_two_pow_sub_one_eq_mod]
  omega
set_option maxHeartbeats 8000000 in
set_option maxRecDepth 100000 in
theorem inodeWhole_walk (x0 : Int) (a : Option Addr) (n c : Nat) (xs : List ActD) (w : World) (hx0 : (Lit.int .u16 x0).wf = true) (h : RActs w w.heap.size [.slice a n c] xs) :
    Calls Tryz.prog 3 #[.int .u16 x0, .slice a n c] w fun e w' => e = .returned (.bool true) ∧ Below w.heap.size w w' := by
  have hb13 := mask13 hx0
  have m0 : 0 ≤ x0 % 8192 := by omega
  have m1 : x0 % 8192 ≤ 8191 := by omega
  generalize x0 % 8192 = m at hb13 m0 m1
  have hq0 : In.newE (64 + m) = 0 := by unfold In.newE; rw [decide_eq_false (by omega), decide_eq_false (by omega)]; rfl
  have C0 := Lib.hid (new_own (w := w) hq0)
  have I0 := Lib.hid (In.inv_new (q := 64 + m) (by omega) (by omega))
  clear hq0
  have hop := acts_open h
  obtain ⟨hn, h1, h2, -⟩ := hop
  rw [maxLen_val] at h2
  subst hn
  have HX := Lib.hid h
  clear h
  go_enter Tryz.func3, Tryz.ntmps3
  go_upto_block 0 with (first
    | (go_at_call 6; refine C0.out.mono ?_; rintro e w1 ⟨g, mb, β, rfl, hO⟩; have H0 := Lib.hid hO; clear hO)
    | (go_at_call 7; refine (small_any a _ c xs w1 40 (by omega) (by omega) (kept_acts.on H0.out.below HX.out)).mono ?_; rintro e w2 ⟨b, rfl, hb, rfl⟩; have HBB := Lib.hid hb; clear hb; cases b)
    | (go_at_call 8; refine (law08_awake_any w1).mono ?_; rintro e w3 ⟨rfl, hb⟩; have HB3 := Lib.hid hb; clear hb))
  · go_ret
    exact ⟨rfl, H0.out.below.trans (HB3.out.mono H0.out.below.size)⟩
  have hlen := HBB.out trivial
  clear hb13
  go_wp2_with fail
  go_loopw [8] (fun i wr => ∃ (k : Nat) (t : TabD) (β : Int → Nat × Nat), k ≤ xs.length ∧ i = .int .i64 k ∧ Hid (OwnT w wr g mb β t) ∧ Hid (In.Inv (1 + 2 * k) t ∧ t.quota = 64 + m)) (fun i _ => xs.length - (intOf i).toNat)
  case atStart => exact ⟨0, _, _, by omega, rfl, H0, Lib.hid ⟨I0.out, rfl⟩⟩
  case round =>
    obtain ⟨k, t, β', hk, rfl, HO, HI⟩ := hrel
    clear C0 H0 I0 HBB
    generalize β' = β at *
    by_cases hlt : k < xs.length
    · obtain ⟨x, hxk⟩ := get_at hlt
      have HN1 := Lib.hid (nodes_own HO.out HI.out.1 (by omega))
      obtain ⟨r1, r2, E, t2, hr⟩ : ∃ r1 r2 E t2, In.do_ t x = (r1, r2, E, t2) := ⟨_, _, _, _, rfl⟩
      have I2 : In.Inv (1 + 2 * (k + 1)) t2 := by have := In.inv_do HI.out.1 x; rw [hr] at this; exact this
      have q2 : t2.quota = 64 + m := by have := In.do_quota (t := t) x; rw [hr] at this; exact this.trans HI.out.2
      have hno : E ≠ 0 → t2 = t := by have := In.refused (t := t) x; rw [hr] at this; exact this
      have HR := Lib.hid hr
      have H2 := Lib.hid (And.intro I2 q2)
      obtain ⟨b, off, rfl, hb, hc⟩ := (acts_open HX.out).2.2.2 (by omega)
      obtain ⟨hok, hcell⟩ := hc k x hxk
      obtain ⟨c0, c1, c2, c3, c4, c5, c6, c7⟩ := act_cells hcell
      have H8 := Lib.hid (fun (W : World) (hw : Below w.heap.size w W) => And.intro ((hw.cell (p := ⟨b, off + k * 8, none⟩) hb).trans c0) (And.intro ((hw.cell (p := ⟨b, off + k * 8 + 1, none⟩) hb).trans c1) (And.intro ((hw.cell (p := ⟨b, off + k * 8 + 2, none⟩) hb).trans c2) (And.intro ((hw.cell (p := ⟨b, off + k * 8 + 3, none⟩) hb).trans c3) (And.intro ((hw.cell (p := ⟨b, off + k * 8 + 4, none⟩) hb).trans c4) (And.intro ((hw.cell (p := ⟨b, off + k * 8 + 5, none⟩) hb).trans c5) (And.intro ((hw.cell (p := ⟨b, off + k * 8 + 6, none⟩) hb).trans c6) ((hw.cell (p := ⟨b, off + k * 8 + 7, none⟩) hb).trans c7))))))))
      have HD := Lib.hid (fun (W : World) (hW : OwnT w W g mb β t) (v : Value) (l : List NodeD) (base : Nat) (ho : OutAt W base v l) (hF : ∀ k ∈ foot g mb β t.nodes, k < base) => do_own hW HI.out.1 (by omega) x hok ho hF HR.out)
      have HN2 := Lib.hid (fun (W : World) (β' : Int → Nat × Nat) (hW : OwnT w W g mb β' t2) => nodes_own hW I2 (by omega))
      clear hc hxk hcell c0 c1 c2 c3 c4 c5 c6 c7 hr
      obtain ⟨kind, id, dir, at_, nn, name, as_, flag⟩ := x
      simp only at H8 HD
      unfold ActD.cells at HD
      simp only at HD
      have HQ := Lib.hid (show 0 < t2.quota by omega)
      have hcap := I2.cap
      have husd := I2.used
      have fU : decide (64 + m < t2.used) = false := decide_eq_false (by omega)
      have HS := Lib.hid (sound_inv I2 (by omega) (by have := In.inv_len I2; omega))
      have HU := Lib.hid husd
      clear hcap husd
      by_cases hE : E = 0
      · subst hE
        clear hno I2 q2
        go_upto_region 9 with (go_at_call 9; refine HN1.out.mono ?_; rintro e w4 ⟨la, lc, base, rfl, ho, hbase, hO, hb4⟩; obtain ⟨c0, c1, c2, c3, c4, c5, c6, c7⟩ := H8.out w4 hO.below; have HO4 := Lib.hid hO; have HOut1 := Lib.hid ho; have HF1 := Lib.hid (foot_lt HO.out hbase); clear ho hO hb4 hbase)
        go_upto_region 11 with (first
          | (go_at_call 10; refine (HD.out _ HO4.out _ _ _ HOut1.out HF1.out).mono ?_; rintro e w5 ⟨rfl, β2, hO, ho⟩; have HO5 := Lib.hid hO; have HOut2 := Lib.hid ho; clear hO ho)
          | (go_at_call 9; refine (HN2.out _ _ HO5.out).mono ?_; rintro e w6 ⟨la2, lc2, base2, rfl, ho, hbase, hO, hb4⟩; have HO6 := Lib.hid hO; have HOut3 := Lib.hid ho; have HOut4 := Lib.hid (HOut2.out.on hb4); clear ho hO hb4 hbase))
        obtain ⟨_, _, q1, R3⟩ := HOut3.out.reads
        injection q1 with q2 q3 q4
        subst q2 q4
        obtain ⟨_, _, q1, R4⟩ := HOut4.out.reads
        injection q1 with q2 q3 q4
        subst q2 q4
        have HR3 := Lib.hid R3
        have HR4 := Lib.hid R4
        clear q3 R3 R4 c0 c1 c2 c3 c4 c5 c6 c7
        go_wp2_with (first
          | (go_at_call 12; refine (Used_any HO6.out.tbl HQ.out).mono ?_; rintro e w' ⟨rfl, rfl⟩)
          | (go_at_call 13; refine (sound_yes HR3.out HS.out HU.out).mono ?_; rintro e w8 ⟨rfl, hb⟩; have HO8 := Lib.hid (HO6.out.on hb); clear hb))
        go_roundw
        case rel => exact ⟨k + 1, t2, β2, by omega, by go_num, HO8, H2⟩
        case measure => simp [intOf]; omega
      · have ht : t2 = t := hno hE
        have fE : (E != 0) = true := bne_iff_ne.2 hE
        clear hno hE I2 q2
        subst ht
        go_upto_region 9 with (go_at_call 9; refine HN1.out.mono ?_; rintro e w4 ⟨la, lc, base, rfl, ho, hbase, hO, hb4⟩; obtain ⟨c0, c1, c2, c3, c4, c5, c6, c7⟩ := H8.out w4 hO.below; have HO4 := Lib.hid hO; have HOut1 := Lib.hid ho; have HF1 := Lib.hid (foot_lt HO.out hbase); clear ho hO hb4 hbase)
        go_upto_region 11 with (first
          | (go_at_call 10; refine (HD.out _ HO4.out _ _ _ HOut1.out HF1.out).mono ?_; rintro e w5 ⟨rfl, β2, hO, ho⟩; have HO5 := Lib.hid hO; have HOut2 := Lib.hid ho; clear hO ho)
          | (go_at_call 9; refine (HN2.out _ _ HO5.out).mono ?_; rintro e w6 ⟨la2, lc2, base2, rfl, ho, hbase, hO, hb4⟩; have HO6 := Lib.hid hO; have HOut3 := Lib.hid ho; have HOut4 := Lib.hid (HOut2.out.on hb4); clear ho hO hb4 hbase))
        obtain ⟨_, _, q1, R3⟩ := HOut3.out.reads
        injection q1 with q2 q3 q4
        subst q2 q4
        obtain ⟨_, _, q1, R4⟩ := HOut4.out.reads
        injection q1 with q2 q3 q4
        subst q2 q4
        have HR3 := Lib.hid R3
        have HR4 := Lib.hid R4
        clear q3 R3 R4 c0 c1 c2 c3 c4 c5 c6 c7
        go_wp2_with (first
          | (go_at_call 11; refine (Same_yes HR4.out HR3.out).mono ?_; rintro e w7 ⟨rfl, hb⟩; have HO7 := Lib.hid (HO6.out.on hb); have HR5 := Lib.hid (kept_nodes.go (Same.of_below hb (Nat.le_refl _)) hb.size HR3.out); clear hb)
          | (go_at_call 12; refine (Used_any HO7.out.tbl HQ.out).mono ?_; rintro e w' ⟨rfl, rfl⟩)
          | (go_at_call 13; refine (sound_yes HR5.out HS.out HU.out).mono ?_; rintro e w8 ⟨rfl, hb⟩; have HO8 := Lib.hid (HO7.out.on hb); clear hb))
        go_roundw
        case rel => exact ⟨k + 1, t2, β2, by omega, by go_num, HO8, H2⟩
        case measure => simp [intOf]; omega
    · obtain rfl : k = xs.length := by omega
      go_wp2_with (go_at_call 8; refine (law08_awake_any wr).mono ?_; rintro e w3 ⟨rfl, hb⟩; have HB3 := Lib.hid hb; clear hb)
      go_ret
      exact ⟨rfl, HO.out.below.trans (HB3.out.mono HO.out.below.size)⟩
end Go.Proofs.YtfepbjlaffpojaaGreat
