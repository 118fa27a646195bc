/-
  Layer 8: the calls at what is no table.
-/
import Derived.Test.YtfepbjlaffpojaaGreatActR
import Derived.Test.YtfepbjlaffpojaaGreatInoZ
namespace Go.Proofs.YtfepbjlaffpojaaGreat
set_option linter.unusedVariables false
open Go.RowKit Go.Maps

theorem Bare.on {w w' : World} {p : Option Addr} (h : Bare w p) (hb : Below w.heap.size w w') : Bare w' p := by
  rcases h with rfl | ⟨g, rfl, hc⟩
  · exact .inl rfl
  · refine .inr ⟨g, rfl, (hb.cell (p := ⟨g, 0, none⟩) ?_).trans hc⟩
    show g < w.heap.size
    unfold World.cell? at hc
    cases hg : w.heap[g]? with
    | none => rw [hg] at hc; cases hc
    | some o => exact lt_of_get hg
section
variable {w : World} {p : Option Addr}
theorem place_bare (h : Bare w p) (a : Int) (b : ByteArray) : Calls Tryz.prog 59 #[.pointer p, .int .i64 a, .string b] w fun e w' => e = .returned (.tuple #[.pointer none, .int .i64 1]) ∧ w = w' := by
  have HB := Lib.hid h
  clear h
  go_enter Tryz.func59, Tryz.ntmps59
  go_wp2_with (go_at_call 51; refine (get_bare HB.out _ _).mono ?_; rintro e w' ⟨rfl, rfl⟩)
  go_ret2
  exact ⟨rfl, rfl⟩
theorem empty_bare (h : Bare w p) (a : Int) (b : ByteArray) : Calls Tryz.prog 48 #[.pointer p, .int .i64 a, .string b] w fun e w' => e = .returned (.tuple #[.pointer none, .int .i64 1]) ∧ w = w' := by
  have HB := Lib.hid h
  clear h
  go_enter Tryz.func48, Tryz.ntmps48
  go_wp2_with (go_at_call 59; refine (place_bare HB.out _ _).mono ?_; rintro e w' ⟨rfl, rfl⟩)
  go_ret2
  exact ⟨rfl, rfl⟩
theorem file_bare (h : Bare w p) (a : Int) (b : Int) : Calls Tryz.prog 49 #[.pointer p, .int .i64 a, .int .i64 b] w fun e w' => e = .returned (.tuple #[.pointer none, .int .i64 1]) ∧ w = w' := by
  have HB := Lib.hid h
  clear h
  go_enter Tryz.func49, Tryz.ntmps49
  go_wp2_with (go_at_call 51; refine (get_bare HB.out _ _).mono ?_; rintro e w' ⟨rfl, rfl⟩)
  go_ret2
  exact ⟨rfl, rfl⟩
theorem Make_bare (h : Bare w p) (a : Int) (b : ByteArray) (c : Bool) : Calls Tryz.prog 18 #[.pointer p, .int .i64 a, .string b, .bool c] w fun e w' => e = .returned (.tuple #[.int .i64 0, .int .i64 1]) ∧ w = w' := by
  have HB := Lib.hid h
  clear h
  go_enter Tryz.func18, Tryz.ntmps18
  go_wp2_with (go_at_call 48; refine (empty_bare HB.out _ _).mono ?_; rintro e w' ⟨rfl, rfl⟩)
  go_ret2
  exact ⟨rfl, rfl⟩
theorem Find_bare (h : Bare w p) (a : Int) (b : ByteArray) : Calls Tryz.prog 29 #[.pointer p, .int .i64 a, .string b] w fun e w' => e = .returned (.tuple #[.int .i64 0, .int .i64 1]) ∧ w = w' := by
  have HB := Lib.hid h
  clear h
  go_enter Tryz.func29, Tryz.ntmps29
  go_wp2_with (go_at_call 59; refine (place_bare HB.out _ _).mono ?_; rintro e w' ⟨rfl, rfl⟩)
  go_ret2
  exact ⟨rfl, rfl⟩
theorem Link_bare (h : Bare w p) (a : Int) (b : Int) (c : ByteArray) : Calls Tryz.prog 20 #[.pointer p, .int .i64 a, .int .i64 b, .string c] w fun e w' => e = .returned (.int .i64 1) ∧ w = w' := by
  have HB := Lib.hid h
  clear h
  go_enter Tryz.func20, Tryz.ntmps20
  go_wp2_with (go_at_call 51; refine (get_bare HB.out _ _).mono ?_; rintro e w' ⟨rfl, rfl⟩)
  go_ret
  exact ⟨rfl, rfl⟩
theorem Unlink_bare (h : Bare w p) (a : Int) (b : ByteArray) : Calls Tryz.prog 21 #[.pointer p, .int .i64 a, .string b] w fun e w' => e = .returned (.int .i64 1) ∧ w = w' := by
  have HB := Lib.hid h
  clear h
  go_enter Tryz.func21, Tryz.ntmps21
  go_wp2_with (go_at_call 29; refine (Find_bare HB.out _ _).mono ?_; rintro e w' ⟨rfl, rfl⟩)
  go_ret
  exact ⟨rfl, rfl⟩
theorem Remove_bare (h : Bare w p) (a : Int) (b : ByteArray) : Calls Tryz.prog 30 #[.pointer p, .int .i64 a, .string b] w fun e w' => e = .returned (.int .i64 1) ∧ w = w' := by
  have HB := Lib.hid h
  clear h
  go_enter Tryz.func30, Tryz.ntmps30
  go_wp2_with (go_at_call 29; refine (Find_bare HB.out _ _).mono ?_; rintro e w' ⟨rfl, rfl⟩)
  go_ret
  exact ⟨rfl, rfl⟩
theorem Rename_bare (h : Bare w p) (a : Int) (b : ByteArray) (c : Int) (d : ByteArray) : Calls Tryz.prog 31 #[.pointer p, .int .i64 a, .string b, .int .i64 c, .string d] w fun e w' => e = .returned (.int .i64 1) ∧ w = w' := by
  have HB := Lib.hid h
  clear h
  go_enter Tryz.func31, Tryz.ntmps31
  go_wp2_with (go_at_call 29; refine (Find_bare HB.out _ _).mono ?_; rintro e w' ⟨rfl, rfl⟩)
  go_ret
  exact ⟨rfl, rfl⟩
theorem List_bare (h : Bare w p) (a : Int) : Calls Tryz.prog 23 #[.pointer p, .int .i64 a] w fun e w' => e = .returned (.tuple #[.slice none 0 0, .int .i64 1]) ∧ w = w' := by
  have HB := Lib.hid h
  clear h
  go_enter Tryz.func23, Tryz.ntmps23
  go_wp2_with (go_at_call 51; refine (get_bare HB.out _ _).mono ?_; rintro e w' ⟨rfl, rfl⟩)
  go_ret2
  exact ⟨rfl, rfl⟩
theorem Read_bare (h : Bare w p) (a : Int) (b : Int) (c : Int) : Calls Tryz.prog 22 #[.pointer p, .int .i64 a, .int .i64 b, .int .i64 c] w fun e w' => e = .returned (.tuple #[.string ⟨#[]⟩, .int .i64 1]) ∧ w = w' := by
  have HB := Lib.hid h
  clear h
  go_enter Tryz.func22, Tryz.ntmps22
  go_wp2_with (go_at_call 49; refine (file_bare HB.out _ _).mono ?_; rintro e w' ⟨rfl, rfl⟩)
  go_ret2
  exact ⟨rfl, rfl⟩
theorem Write_bare (h : Bare w p) (a : Int) (b : Int) (c : ByteArray) : Calls Tryz.prog 19 #[.pointer p, .int .i64 a, .int .i64 b, .string c] w fun e w' => e = .returned (.int .i64 1) ∧ w = w' := by
  have HB := Lib.hid h
  clear h
  go_enter Tryz.func19, Tryz.ntmps19
  go_wp2_with (go_at_call 49; refine (file_bare HB.out _ _).mono ?_; rintro e w' ⟨rfl, rfl⟩)
  go_ret
  exact ⟨rfl, rfl⟩
theorem Truncate_bare (h : Bare w p) (a : Int) (b : Int) : Calls Tryz.prog 32 #[.pointer p, .int .i64 a, .int .i64 b] w fun e w' => e = .returned (.int .i64 1) ∧ w = w' := by
  have HB := Lib.hid h
  clear h
  go_enter Tryz.func32, Tryz.ntmps32
  go_wp2_with (go_at_call 49; refine (file_bare HB.out _ _).mono ?_; rintro e w' ⟨rfl, rfl⟩)
  go_ret
  exact ⟨rfl, rfl⟩
theorem Hold_bare (h : Bare w p) (a : Int) : Calls Tryz.prog 33 #[.pointer p, .int .i64 a] w fun e w' => e = .returned (.int .i64 1) ∧ w = w' := by
  have HB := Lib.hid h
  clear h
  go_enter Tryz.func33, Tryz.ntmps33
  go_wp2_with (go_at_call 51; refine (get_bare HB.out _ _).mono ?_; rintro e w' ⟨rfl, rfl⟩)
  go_ret
  exact ⟨rfl, rfl⟩
theorem Drop_bare (h : Bare w p) (a : Int) : Calls Tryz.prog 34 #[.pointer p, .int .i64 a] w fun e w' => e = .returned (.int .i64 1) ∧ w = w' := by
  have HB := Lib.hid h
  clear h
  go_enter Tryz.func34, Tryz.ntmps34
  go_wp2_with (go_at_call 24; refine (given_no HB.out).mono ?_; rintro e w' ⟨rfl, rfl⟩)
  go_ret
  exact ⟨rfl, rfl⟩
theorem Used_bare (h : Bare w p)  : Calls Tryz.prog 12 #[.pointer p] w fun e w' => e = .returned (.int .i64 0) ∧ w = w' := by
  have HB := Lib.hid h
  clear h
  go_enter Tryz.func12, Tryz.ntmps12
  go_wp2_with (go_at_call 24; refine (given_no HB.out).mono ?_; rintro e w' ⟨rfl, rfl⟩)
  go_ret
  exact ⟨rfl, rfl⟩
theorem Nodes_bare (h : Bare w p)  : Calls Tryz.prog 9 #[.pointer p] w fun e w' => e = .returned (.slice none 0 0) ∧ w = w' := by
  have HB := Lib.hid h
  clear h
  go_enter Tryz.func9, Tryz.ntmps9
  go_wp2_with (go_at_call 24; refine (given_no HB.out).mono ?_; rintro e w' ⟨rfl, rfl⟩)
  go_ret
  exact ⟨rfl, rfl⟩
theorem Clone_bare (h : Bare w p)  : Calls Tryz.prog 15 #[.pointer p] w fun e w' => e = .returned (.pointer none) ∧ w = w' := by
  have HB := Lib.hid h
  clear h
  go_enter Tryz.func15, Tryz.ntmps15
  go_wp2_with (go_at_call 24; refine (given_no HB.out).mono ?_; rintro e w' ⟨rfl, rfl⟩)
  go_ret
  exact ⟨rfl, rfl⟩
set_option maxRecDepth 100000 in
theorem do_bare_1 (h : Bare w p) (a : ActD) (hk : a.kind = 1) : Calls Tryz.prog 10 #[.pointer p, .agg a.cells.toArray] w fun e w' => e = .returned (.tuple #[.int .i64 0, .string ⟨#[]⟩, .int .i64 1]) ∧ Below w.heap.size w w' := by
  have hb := (Below.refl w.heap.size w).alloc (Nat.le_refl _) (.cells a.cells.toArray 35)
  have HT := Lib.hid (h.on hb)
  have HB := Lib.hid hb
  unfold ActD.cells at HT HB ⊢
  obtain ⟨kind, id, dir, at_, n, name, as_, flag⟩ := a
  simp only at HT HB ⊢
  simp only at hk
  subst hk
  clear h hb
  go_enter Tryz.func10, Tryz.ntmps10
  go_wp2_with (go_at_call 18; refine (Make_bare HT.out _ _ _).mono ?_; rintro e w2 ⟨rfl, rfl⟩)
  go_ret3
  exact ⟨rfl, HB.out⟩
set_option maxRecDepth 100000 in
theorem do_bare_2 (h : Bare w p) (a : ActD) (hk : a.kind = 2) : Calls Tryz.prog 10 #[.pointer p, .agg a.cells.toArray] w fun e w' => e = .returned (.tuple #[.int .i64 0, .string ⟨#[]⟩, .int .i64 1]) ∧ Below w.heap.size w w' := by
  have hb := (Below.refl w.heap.size w).alloc (Nat.le_refl _) (.cells a.cells.toArray 35)
  have HT := Lib.hid (h.on hb)
  have HB := Lib.hid hb
  unfold ActD.cells at HT HB ⊢
  obtain ⟨kind, id, dir, at_, n, name, as_, flag⟩ := a
  simp only at HT HB ⊢
  simp only at hk
  subst hk
  clear h hb
  go_enter Tryz.func10, Tryz.ntmps10
  go_wp2_with (go_at_call 29; refine (Find_bare HT.out _ _).mono ?_; rintro e w2 ⟨rfl, rfl⟩)
  go_ret3
  exact ⟨rfl, HB.out⟩
set_option maxRecDepth 100000 in
theorem do_bare_3 (h : Bare w p) (a : ActD) (hk : a.kind = 3) : Calls Tryz.prog 10 #[.pointer p, .agg a.cells.toArray] w fun e w' => e = .returned (.tuple #[.int .i64 0, .string ⟨#[]⟩, .int .i64 1]) ∧ Below w.heap.size w w' := by
  have hb := (Below.refl w.heap.size w).alloc (Nat.le_refl _) (.cells a.cells.toArray 35)
  have HT := Lib.hid (h.on hb)
  have HB := Lib.hid hb
  unfold ActD.cells at HT HB ⊢
  obtain ⟨kind, id, dir, at_, n, name, as_, flag⟩ := a
  simp only at HT HB ⊢
  simp only at hk
  subst hk
  clear h hb
  go_enter Tryz.func10, Tryz.ntmps10
  go_wp2_with (go_at_call 20; refine (Link_bare HT.out _ _ _).mono ?_; rintro e w2 ⟨rfl, rfl⟩)
  go_ret3
  exact ⟨rfl, HB.out⟩
set_option maxRecDepth 100000 in
theorem do_bare_4 (h : Bare w p) (a : ActD) (hk : a.kind = 4) : Calls Tryz.prog 10 #[.pointer p, .agg a.cells.toArray] w fun e w' => e = .returned (.tuple #[.int .i64 0, .string ⟨#[]⟩, .int .i64 1]) ∧ Below w.heap.size w w' := by
  have hb := (Below.refl w.heap.size w).alloc (Nat.le_refl _) (.cells a.cells.toArray 35)
  have HT := Lib.hid (h.on hb)
  have HB := Lib.hid hb
  unfold ActD.cells at HT HB ⊢
  obtain ⟨kind, id, dir, at_, n, name, as_, flag⟩ := a
  simp only at HT HB ⊢
  simp only at hk
  subst hk
  clear h hb
  go_enter Tryz.func10, Tryz.ntmps10
  go_wp2_with (go_at_call 21; refine (Unlink_bare HT.out _ _).mono ?_; rintro e w2 ⟨rfl, rfl⟩)
  go_ret3
  exact ⟨rfl, HB.out⟩
set_option maxRecDepth 100000 in
theorem do_bare_5 (h : Bare w p) (a : ActD) (hk : a.kind = 5) : Calls Tryz.prog 10 #[.pointer p, .agg a.cells.toArray] w fun e w' => e = .returned (.tuple #[.int .i64 0, .string ⟨#[]⟩, .int .i64 1]) ∧ Below w.heap.size w w' := by
  have hb := (Below.refl w.heap.size w).alloc (Nat.le_refl _) (.cells a.cells.toArray 35)
  have HT := Lib.hid (h.on hb)
  have HB := Lib.hid hb
  unfold ActD.cells at HT HB ⊢
  obtain ⟨kind, id, dir, at_, n, name, as_, flag⟩ := a
  simp only at HT HB ⊢
  simp only at hk
  subst hk
  clear h hb
  go_enter Tryz.func10, Tryz.ntmps10
  go_wp2_with (go_at_call 30; refine (Remove_bare HT.out _ _).mono ?_; rintro e w2 ⟨rfl, rfl⟩)
  go_ret3
  exact ⟨rfl, HB.out⟩
set_option maxRecDepth 100000 in
theorem do_bare_6 (h : Bare w p) (a : ActD) (hk : a.kind = 6) : Calls Tryz.prog 10 #[.pointer p, .agg a.cells.toArray] w fun e w' => e = .returned (.tuple #[.int .i64 0, .string ⟨#[]⟩, .int .i64 1]) ∧ Below w.heap.size w w' := by
  have hb := (Below.refl w.heap.size w).alloc (Nat.le_refl _) (.cells a.cells.toArray 35)
  have HT := Lib.hid (h.on hb)
  have HB := Lib.hid hb
  unfold ActD.cells at HT HB ⊢
  obtain ⟨kind, id, dir, at_, n, name, as_, flag⟩ := a
  simp only at HT HB ⊢
  simp only at hk
  subst hk
  clear h hb
  go_enter Tryz.func10, Tryz.ntmps10
  go_wp2_with (go_at_call 31; refine (Rename_bare HT.out _ _ _ _).mono ?_; rintro e w2 ⟨rfl, rfl⟩)
  go_ret3
  exact ⟨rfl, HB.out⟩
set_option maxRecDepth 100000 in
theorem do_bare_7 (h : Bare w p) (a : ActD) (hk : a.kind = 7) : Calls Tryz.prog 10 #[.pointer p, .agg a.cells.toArray] w fun e w' => e = .returned (.tuple #[.int .i64 0, .string ⟨#[]⟩, .int .i64 1]) ∧ Below w.heap.size w w' := by
  have hb := (Below.refl w.heap.size w).alloc (Nat.le_refl _) (.cells a.cells.toArray 35)
  have HT := Lib.hid (h.on hb)
  have HB := Lib.hid hb
  unfold ActD.cells at HT HB ⊢
  obtain ⟨kind, id, dir, at_, n, name, as_, flag⟩ := a
  simp only at HT HB ⊢
  simp only at hk
  subst hk
  clear h hb
  go_enter Tryz.func10, Tryz.ntmps10
  go_wp2_with (go_at_call 22; refine (Read_bare HT.out _ _ _).mono ?_; rintro e w2 ⟨rfl, rfl⟩)
  go_ret3
  exact ⟨rfl, HB.out⟩
set_option maxRecDepth 100000 in
theorem do_bare_8 (h : Bare w p) (a : ActD) (hk : a.kind = 8) : Calls Tryz.prog 10 #[.pointer p, .agg a.cells.toArray] w fun e w' => e = .returned (.tuple #[.int .i64 0, .string ⟨#[]⟩, .int .i64 1]) ∧ Below w.heap.size w w' := by
  have hb := (Below.refl w.heap.size w).alloc (Nat.le_refl _) (.cells a.cells.toArray 35)
  have HT := Lib.hid (h.on hb)
  have HB := Lib.hid hb
  unfold ActD.cells at HT HB ⊢
  obtain ⟨kind, id, dir, at_, n, name, as_, flag⟩ := a
  simp only at HT HB ⊢
  simp only at hk
  subst hk
  clear h hb
  go_enter Tryz.func10, Tryz.ntmps10
  go_wp2_with (go_at_call 19; refine (Write_bare HT.out _ _ _).mono ?_; rintro e w2 ⟨rfl, rfl⟩)
  go_ret3
  exact ⟨rfl, HB.out⟩
set_option maxRecDepth 100000 in
theorem do_bare_9 (h : Bare w p) (a : ActD) (hk : a.kind = 9) : Calls Tryz.prog 10 #[.pointer p, .agg a.cells.toArray] w fun e w' => e = .returned (.tuple #[.int .i64 0, .string ⟨#[]⟩, .int .i64 1]) ∧ Below w.heap.size w w' := by
  have hb := (Below.refl w.heap.size w).alloc (Nat.le_refl _) (.cells a.cells.toArray 35)
  have HT := Lib.hid (h.on hb)
  have HB := Lib.hid hb
  unfold ActD.cells at HT HB ⊢
  obtain ⟨kind, id, dir, at_, n, name, as_, flag⟩ := a
  simp only at HT HB ⊢
  simp only at hk
  subst hk
  clear h hb
  go_enter Tryz.func10, Tryz.ntmps10
  go_wp2_with (go_at_call 32; refine (Truncate_bare HT.out _ _).mono ?_; rintro e w2 ⟨rfl, rfl⟩)
  go_ret3
  exact ⟨rfl, HB.out⟩
set_option maxRecDepth 100000 in
theorem do_bare_10 (h : Bare w p) (a : ActD) (hk : a.kind = 10) : Calls Tryz.prog 10 #[.pointer p, .agg a.cells.toArray] w fun e w' => e = .returned (.tuple #[.int .i64 0, .string ⟨#[]⟩, .int .i64 1]) ∧ Below w.heap.size w w' := by
  have hb := (Below.refl w.heap.size w).alloc (Nat.le_refl _) (.cells a.cells.toArray 35)
  have HT := Lib.hid (h.on hb)
  have HB := Lib.hid hb
  unfold ActD.cells at HT HB ⊢
  obtain ⟨kind, id, dir, at_, n, name, as_, flag⟩ := a
  simp only at HT HB ⊢
  simp only at hk
  subst hk
  clear h hb
  go_enter Tryz.func10, Tryz.ntmps10
  go_wp2_with (go_at_call 33; refine (Hold_bare HT.out _).mono ?_; rintro e w2 ⟨rfl, rfl⟩)
  go_ret3
  exact ⟨rfl, HB.out⟩
set_option maxRecDepth 100000 in
theorem do_bare_11 (h : Bare w p) (a : ActD) (hk : a.kind = 11) : Calls Tryz.prog 10 #[.pointer p, .agg a.cells.toArray] w fun e w' => e = .returned (.tuple #[.int .i64 0, .string ⟨#[]⟩, .int .i64 1]) ∧ Below w.heap.size w w' := by
  have hb := (Below.refl w.heap.size w).alloc (Nat.le_refl _) (.cells a.cells.toArray 35)
  have HT := Lib.hid (h.on hb)
  have HB := Lib.hid hb
  unfold ActD.cells at HT HB ⊢
  obtain ⟨kind, id, dir, at_, n, name, as_, flag⟩ := a
  simp only at HT HB ⊢
  simp only at hk
  subst hk
  clear h hb
  go_enter Tryz.func10, Tryz.ntmps10
  go_wp2_with (go_at_call 34; refine (Drop_bare HT.out _).mono ?_; rintro e w2 ⟨rfl, rfl⟩)
  go_ret3
  exact ⟨rfl, HB.out⟩
set_option maxRecDepth 100000 in
theorem do_bare_l (h : Bare w p) (a : ActD) (h1 : a.kind ≠ 1) (h2 : a.kind ≠ 2) (h3 : a.kind ≠ 3) (h4 : a.kind ≠ 4) (h5 : a.kind ≠ 5) (h6 : a.kind ≠ 6) (h7 : a.kind ≠ 7) (h8 : a.kind ≠ 8) (h9 : a.kind ≠ 9) (h10 : a.kind ≠ 10) (h11 : a.kind ≠ 11) : Calls Tryz.prog 10 #[.pointer p, .agg a.cells.toArray] w fun e w' => e = .returned (.tuple #[.int .i64 0, .string ⟨#[]⟩, .int .i64 1]) ∧ Below w.heap.size w w' := by
  have hb := (Below.refl w.heap.size w).alloc (Nat.le_refl _) (.cells a.cells.toArray 35)
  have HT := Lib.hid (h.on hb)
  have HB := Lib.hid hb
  unfold ActD.cells at HT HB ⊢
  obtain ⟨kind, id, dir, at_, n, name, as_, flag⟩ := a
  simp only at HT HB ⊢
  simp only at h1 h2 h3 h4 h5 h6 h7 h8 h9 h10 h11
  have b1 := beq_eq_false_iff_ne.2 h1
  have b2 := beq_eq_false_iff_ne.2 h2
  have b3 := beq_eq_false_iff_ne.2 h3
  have b4 := beq_eq_false_iff_ne.2 h4
  have b5 := beq_eq_false_iff_ne.2 h5
  have b6 := beq_eq_false_iff_ne.2 h6
  have b7 := beq_eq_false_iff_ne.2 h7
  have b8 := beq_eq_false_iff_ne.2 h8
  have b9 := beq_eq_false_iff_ne.2 h9
  have b10 := beq_eq_false_iff_ne.2 h10
  have b11 := beq_eq_false_iff_ne.2 h11
  clear h1 h2 h3 h4 h5 h6 h7 h8 h9 h10 h11
  clear h hb
  go_enter Tryz.func10, Tryz.ntmps10
  go_wp2_with (go_at_call 23; refine (List_bare HT.out _).mono ?_; rintro e w2 ⟨rfl, rfl⟩)
  go_loopg [15, 16] 0 (fun g x y wx => g = 0 ∧ x = .string ⟨#[]⟩ ∧ y = .int .i64 0 ∧ Hid (Below w.heap.size w wx))
  case atStart => exact ⟨rfl, rfl, rfl, HB⟩
  case round =>
    obtain ⟨rfl, rfl, rfl, HB2⟩ := hrel
    go_wp2_with fail
    go_ret3
    exact ⟨rfl, HB2.out⟩
theorem do_bare (h : Bare w p) (a : ActD) : Calls Tryz.prog 10 #[.pointer p, .agg a.cells.toArray] w fun e w' => e = .returned (.tuple #[.int .i64 0, .string ⟨#[]⟩, .int .i64 1]) ∧ Below w.heap.size w w' := by
  by_cases h1 : a.kind = 1
  · exact do_bare_1 h a h1
  by_cases h2 : a.kind = 2
  · exact do_bare_2 h a h2
  by_cases h3 : a.kind = 3
  · exact do_bare_3 h a h3
  by_cases h4 : a.kind = 4
  · exact do_bare_4 h a h4
  by_cases h5 : a.kind = 5
  · exact do_bare_5 h a h5
  by_cases h6 : a.kind = 6
  · exact do_bare_6 h a h6
  by_cases h7 : a.kind = 7
  · exact do_bare_7 h a h7
  by_cases h8 : a.kind = 8
  · exact do_bare_8 h a h8
  by_cases h9 : a.kind = 9
  · exact do_bare_9 h a h9
  by_cases h10 : a.kind = 10
  · exact do_bare_10 h a h10
  by_cases h11 : a.kind = 11
  · exact do_bare_11 h a h11
  exact do_bare_l h a h1 h2 h3 h4 h5 h6 h7 h8 h9 h10 h11
end
end Go.Proofs.YtfepbjlaffpojaaGreat
