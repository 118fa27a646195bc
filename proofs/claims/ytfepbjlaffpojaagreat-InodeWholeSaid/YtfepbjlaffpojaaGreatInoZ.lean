/-
  Layer 8: awake, walked.
-/
import Derived.Test.YtfepbjlaffpojaaGreatInoY
namespace Go.Proofs.YtfepbjlaffpojaaGreat
set_option linter.unusedVariables false
open Go.RowKit Go.Maps

/-- A table that the call itself made. -/
structure OwnT (w w' : World) (g mb : Nat) (β : Int → Nat × Nat) (t : TabD) : Prop where
  tbl : TblAt w' g mb β t
  below : Below w.heap.size w w'
  new : ∀ k ∈ foot g mb β t.nodes, w.heap.size ≤ k
theorem OwnT.goes {w w1 w2 : World} {g mb : Nat} {β : Int → Nat × Nat} {t t2 : TabD} (h : OwnT w w1 g mb β t) (G : Goes w1 g mb β t w2 t2) : ∃ β2, OwnT w w2 g mb β2 t2 := by
  obtain ⟨β2, h1, h2, h3⟩ := G
  exact ⟨β2, h1, h.below.trans (h2.to_below h.below.size h.new), fun k hk => by rcases h3 k hk with h4 | h4; exact h.new k h4; exact Nat.le_trans h.below.size h4⟩
theorem OwnT.on {w w1 w2 : World} {g mb : Nat} {β : Int → Nat × Nat} {t : TabD} (h : OwnT w w1 g mb β t) (hb : Below w1.heap.size w1 w2) : OwnT w w2 g mb β t :=
  ⟨h.tbl.below hb, h.below.trans (hb.mono h.below.size), h.new⟩
theorem new_own {q : Int} {w : World} (hq : In.newE q = 0) : Calls Tryz.prog 6 #[.int .i64 q] w fun e w' => ∃ g mb β, e = .returned (.tuple #[.pointer (some ⟨g, 0, none⟩), .int .i64 0]) ∧ OwnT w w' g mb β (In.new q) :=
  (New_yes q w hq).mono fun e w' ⟨h1, h2, h3⟩ => ⟨_, _, _, h1, h2, h3, fun k hk => by
    rcases mem_foot.1 hk with rfl | rfl | ⟨n, _, rfl | rfl⟩
    · omega
    · omega
    · show _ ≤ w.heap.size + 3; omega
    · show _ ≤ w.heap.size + 2; omega⟩
namespace In
abbrev na : ByteArray := ⟨#[97]⟩
abbrev nb : ByteArray := ⟨#[98]⟩
def a0 : TabD := new 1000
def a1 : TabD := (make a0 1 na false).2.2
def a2 : TabD := (write a1 2 2 ⟨#[120, 121]⟩).2
def a3 : TabD := (link a2 2 1 nb).2
def a4 : TabD := (unlink a3 1 na).2
def a5 : TabD := (unlink a4 1 nb).2
theorem a1_eq : make a0 1 na false = (2, 0, a1) := by kernel_rfl
theorem a2_eq : write a1 2 2 ⟨#[120, 121]⟩ = (0, a2) := by kernel_rfl
theorem a3_eq : link a2 2 1 nb = (0, a3) := by kernel_rfl
theorem a4_eq : unlink a3 1 na = (0, a4) := by kernel_rfl
theorem a4_read : read a4 2 1 9 = ⟨#[0, 120, 121]⟩ ∧ readE a4 2 1 9 = 0 := ⟨by kernel_rfl, by kernel_rfl⟩
theorem a4_list : list a4 1 = [nb] ∧ listE a4 1 = 0 := ⟨by kernel_rfl, by kernel_rfl⟩
theorem a4_used : a4.used = 132 := by kernel_rfl
theorem a5_eq : unlink a4 1 nb = (0, a5) := by kernel_rfl
theorem a5_used : a5.used = 64 := by kernel_rfl
theorem i0 : Inv 1 a0 := inv_new (by decide) (by decide)
theorem i1 : Inv 3 a1 := inv_make i0 _ _ _
theorem i2 : Inv 3 a2 := inv_write i1 _ _ _
theorem i3 : Inv 4 a3 := inv_link i2 _ _ _
theorem i4 : Inv 4 a4 := inv_unlink i3 _ _
theorem i5 : Inv 4 a5 := inv_unlink i4 _ _
end In
section
variable {w w1 : World} {g mb : Nat} {β : Int → Nat × Nat}
theorem aw0 : Calls Tryz.prog 6 #[.int .i64 1000] w fun e w' => ∃ g mb β, e = .returned (.tuple #[.pointer (some ⟨g, 0, none⟩), .int .i64 0]) ∧ OwnT w w' g mb β In.a0 := new_own (by decide)
theorem aw1 (h : OwnT w w1 g mb β In.a0) : Calls Tryz.prog 18 #[.pointer (some ⟨g, 0, none⟩), .int .i64 1, .string ⟨#[97]⟩, .bool false] w1 fun e w' => e = .returned (.tuple #[.int .i64 2, .int .i64 0]) ∧ ∃ β', OwnT w w' g mb β' In.a1 := by
  have C := Make_any h.tbl In.i0 (by omega) (dir := 1) (by decide) (s := In.na) (by decide) false
  rw [In.a1_eq] at C
  exact C.mono fun e w' ⟨h1, h2⟩ => ⟨h1, h.goes h2⟩
theorem aw2 (h : OwnT w w1 g mb β In.a1) : Calls Tryz.prog 19 #[.pointer (some ⟨g, 0, none⟩), .int .i64 2, .int .i64 2, .string ⟨#[120, 121]⟩] w1 fun e w' => e = .returned (.int .i64 0) ∧ ∃ β', OwnT w w' g mb β' In.a2 := by
  have C := Write_any h.tbl (fit_inv In.i1 (by omega)) (id := 2) (by decide) (a := 2) (by decide) (s := ⟨#[120, 121]⟩) (by decide)
  rw [In.a2_eq] at C
  exact C.mono fun e w' ⟨h1, h2⟩ => ⟨h1, h.goes h2.goes⟩
theorem aw3 (h : OwnT w w1 g mb β In.a2) : Calls Tryz.prog 20 #[.pointer (some ⟨g, 0, none⟩), .int .i64 2, .int .i64 1, .string ⟨#[98]⟩] w1 fun e w' => e = .returned (.int .i64 0) ∧ ∃ β', OwnT w w' g mb β' In.a3 := by
  have C := Link_any h.tbl (fit_inv In.i2 (by omega)).q0 (id := 2) (dir := 1) (by decide) (by decide) (s := In.nb) (by decide) (fit_inv In.i2 (by omega)).node
  rw [In.a3_eq] at C
  exact C.mono fun e w' ⟨h1, h2⟩ => ⟨h1, h.goes h2.goes⟩
theorem aw4 (h : OwnT w w1 g mb β In.a3) : Calls Tryz.prog 21 #[.pointer (some ⟨g, 0, none⟩), .int .i64 1, .string ⟨#[97]⟩] w1 fun e w' => e = .returned (.int .i64 0) ∧ ∃ β', OwnT w w' g mb β' In.a4 := by
  have C := Unlink_any h.tbl (fit_inv In.i3 (by omega)) (dir := 1) (by decide) (s := In.na) (by decide)
  rw [In.a4_eq] at C
  exact C.mono fun e w' ⟨h1, h2⟩ => ⟨h1, h.goes h2.goes⟩
theorem aw4r (h : OwnT w w1 g mb β In.a4) : Calls Tryz.prog 22 #[.pointer (some ⟨g, 0, none⟩), .int .i64 2, .int .i64 1, .int .i64 9] w1 fun e w' => e = .returned (.tuple #[.string ⟨#[0, 120, 121]⟩, .int .i64 0]) ∧ OwnT w w' g mb β In.a4 := by
  have C := Read_any h.tbl (fit_inv In.i4 (by omega)) (id := 2) (by decide) 1 9
  rw [In.a4_read.1, In.a4_read.2] at C
  exact C.mono fun e w' ⟨h1, h2⟩ => ⟨h1, h.on h2⟩
theorem aw4l (h : OwnT w w1 g mb β In.a4) : Calls Tryz.prog 23 #[.pointer (some ⟨g, 0, none⟩), .int .i64 1] w1 fun e w' => ∃ b off c, e = .returned (.tuple #[.slice (some ⟨b, off, none⟩) 1 c, .int .i64 0]) ∧ 1 ≤ c ∧ c ≤ 9223372036854775807 ∧ b < w'.heap.size ∧ w'.cell? ⟨b, off, none⟩ = some (.string ⟨#[98]⟩) ∧ OwnT w w' g mb β In.a4 := by
  refine (List_any h.tbl (fit_inv In.i4 (by omega)).q0 (dir := 1) (by decide) (names_inv In.i4 (by omega))).mono fun e w' hR => ?_
  obtain ⟨a, c, he, hr, hb⟩ := hR
  rw [In.a4_list.1, In.a4_list.2] at he
  rw [In.a4_list.1] at hr
  obtain ⟨h1, h2, h3, h4⟩ := strs_at hr
  obtain ⟨b, off, rfl, hbb, hc⟩ := h4 (by decide)
  exact ⟨b, off, c, he, h2, by rw [maxLen_val] at h3; exact h3, hbb, (hc 0 _ rfl).2, h.on hb⟩
theorem aw4u (h : OwnT w w1 g mb β In.a4) : Calls Tryz.prog 12 #[.pointer (some ⟨g, 0, none⟩)] w1 fun e w' => e = .returned (.int .i64 132) ∧ w1 = w' := by
  have C := Used_any h.tbl (fit_inv In.i4 (by omega)).q0
  rw [In.a4_used] at C
  exact C
theorem aw5 (h : OwnT w w1 g mb β In.a4) : Calls Tryz.prog 21 #[.pointer (some ⟨g, 0, none⟩), .int .i64 1, .string ⟨#[98]⟩] w1 fun e w' => e = .returned (.int .i64 0) ∧ ∃ β', OwnT w w' g mb β' In.a5 := by
  have C := Unlink_any h.tbl (fit_inv In.i4 (by omega)) (dir := 1) (by decide) (s := In.nb) (by decide)
  rw [In.a5_eq] at C
  exact C.mono fun e w' ⟨h1, h2⟩ => ⟨h1, h.goes h2.goes⟩
theorem aw5u (h : OwnT w w1 g mb β In.a5) : Calls Tryz.prog 12 #[.pointer (some ⟨g, 0, none⟩)] w1 fun e w' => e = .returned (.int .i64 64) ∧ w1 = w' := by
  have C := Used_any h.tbl (fit_inv In.i5 (by omega)).q0
  rw [In.a5_used] at C
  exact C
end
set_option maxHeartbeats 4000000 in
set_option maxRecDepth 100000 in
theorem law08_awake_any (w : World) : Calls Tryz.prog 8 #[] w fun e w' => e = .returned (.bool true) ∧ Below w.heap.size w w' := by
  have C0 := aw0 (w := w)
  go_enter Tryz.func8, Tryz.ntmps8
  go_wp2_with (first
    | (go_at_call 6; refine C0.mono ?_; rintro e w1 ⟨g, mb, β, rfl, hO⟩; have H0 := Lib.hid hO; clear hO)
    | (go_at_call 18; refine (aw1 H0.out).mono ?_; rintro e w2 ⟨rfl, β1, hO⟩; have H1 := Lib.hid hO; clear hO)
    | (go_at_call 19; refine (aw2 H1.out).mono ?_; rintro e w3 ⟨rfl, β2, hO⟩; have H2 := Lib.hid hO; clear hO)
    | (go_at_call 20; refine (aw3 H2.out).mono ?_; rintro e w4 ⟨rfl, β3, hO⟩; have H3 := Lib.hid hO; clear hO)
    | (go_at_call 22; refine (aw4r H4.out).mono ?_; rintro e w6 ⟨rfl, hO⟩; have H6 := Lib.hid hO; clear hO)
    | (go_at_call 23; refine (aw4l H6.out).mono ?_; rintro e w7 ⟨b, off, c, rfl, hc1, hc2, hbl, hcell, hO⟩; have H7 := Lib.hid hO; clear hO)
    | (go_at_call 12; (first | (with_reducible refine (aw4u H7.out).mono ?_) | (with_reducible refine (aw5u H8.out).mono ?_)); rintro e w8 ⟨rfl, rfl⟩)
    | (go_at_call 21; (first | (with_reducible refine (aw5 H7.out).mono ?_; rintro e w9 ⟨rfl, β5, hO⟩; have H8 := Lib.hid hO; clear hO hcell) | (with_reducible refine (aw4 H3.out).mono ?_; rintro e w5 ⟨rfl, β4, hO⟩; have H4 := Lib.hid hO; clear hO))))
  go_ret
  exact ⟨rfl, H8.out.below⟩
end Go.Proofs.YtfepbjlaffpojaaGreat
