/-
  Layer 8: an act done on a table, as the statements do it.
-/
import Derived.Test.YtfepbjlaffpojaaGreatInoL
import Derived.Test.YtfepbjlaffpojaaGreatInoW
namespace Go.Proofs.YtfepbjlaffpojaaGreat
set_option linter.unusedVariables false
open Go.RowKit Go.Maps

structure ActD where
  kind : Int
  id : Int
  dir : Int
  at_ : Int
  n : Int
  name : ByteArray
  as_ : ByteArray
  flag : Bool
def ActD.cells (a : ActD) : List Value := [.int .i64 a.kind, .int .i64 a.id, .int .i64 a.dir, .int .i64 a.at_, .int .i64 a.n, .string a.name, .string a.as_, .bool a.flag]
structure ActD.Ok (a : ActD) : Prop where
  kind : Fits a.kind
  id : Fits a.id
  dir : Fits a.dir
  at_ : Fits a.at_
  n : Fits a.n
  name : a.name.size ≤ maxLen
  as_ : a.as_.size ≤ maxLen
namespace In
def textL (l : List ByteArray) : ByteArray := l.foldl (fun s x => s ++ x ++ ⟨#[47]⟩) ByteArray.empty
def do_ (t : TabD) (a : ActD) : Int × ByteArray × Int × TabD :=
  if a.kind = 1 then ((make t a.dir a.name a.flag).1, ByteArray.empty, (make t a.dir a.name a.flag).2.1, (make t a.dir a.name a.flag).2.2)
  else if a.kind = 2 then (findN t a.dir a.name, ByteArray.empty, findE t a.dir a.name, t)
  else if a.kind = 3 then (0, ByteArray.empty, link t a.id a.dir a.name)
  else if a.kind = 4 then (0, ByteArray.empty, unlink t a.dir a.name)
  else if a.kind = 5 then (0, ByteArray.empty, remove t a.dir a.name)
  else if a.kind = 6 then (0, ByteArray.empty, rename t a.dir a.name a.n a.as_)
  else if a.kind = 7 then (0, read t a.id a.at_ a.n, readE t a.id a.at_ a.n, t)
  else if a.kind = 8 then (0, ByteArray.empty, write t a.id a.at_ a.as_)
  else if a.kind = 9 then (0, ByteArray.empty, trunc t a.id a.n)
  else if a.kind = 10 then (0, ByteArray.empty, hold t a.id)
  else if a.kind = 11 then (0, ByteArray.empty, drop t a.id)
  else ((list t a.dir).length, textL (list t a.dir), listE t a.dir, t)
theorem inv_do {N : Nat} {t : TabD} (h : Inv N t) (a : ActD) : Inv (N + 2) (do_ t a).2.2.2 := by
  unfold do_
  repeat' split
  · exact inv_make h _ _ _
  · exact h.more (by omega)
  · exact (inv_link h _ _ _).more (by omega)
  · exact (inv_unlink h _ _).more (by omega)
  · exact (inv_remove h _ _).more (by omega)
  · exact (inv_rename h _ _ _ _).more (by omega)
  · exact h.more (by omega)
  · exact (inv_write h _ _ _).more (by omega)
  · exact (inv_trunc h _ _).more (by omega)
  · exact (inv_hold h _).more (by omega)
  · exact (inv_drop h _).more (by omega)
  · exact h.more (by omega)
end In

theorem fit_inv {N : Nat} {t : TabD} (h : In.Inv N t) (hN : N ≤ 1000000000) : Fit t where
  q0 := by have := h.q0; omega
  q1 := h.q1
  u0 := by rw [h.used]; omega
  u1 := by have := h.cap; have := h.q1; omega
  node := fun n hn => by
    have h1 := h.links n hn
    have h2 := In.cnt_le t.nodes n.id
    have h3 := h.tot
    have h4 : n.names.length ≤ In.tot t.nodes := In.le_sum (f := fun n => n.names.length) hn
    have h5 : In.rootI n.id = 0 ∨ In.rootI n.id = 1 := by unfold In.rootI; split <;> simp
    omega
  holds := fun n hn => by have := h.holds n hn; omega
  data := h.data
  ids := fun n hn => by have h1 := h.pos n hn; have h2 := h.last; exact fits_of (by omega) (by omega)
  leads := h.leads
theorem names_inv {N : Nat} {t : TabD} (h : In.Inv N t) (hN : N ≤ 1000000000) : ∀ n ∈ t.nodes, n.names.length ≤ 4611686018427 := fun n hn => by
  have h3 := h.tot
  have h4 : n.names.length ≤ In.tot t.nodes := In.le_sum (f := fun n => n.names.length) hn
  omega
section
variable {w : World} {g mb : Nat} {β : Int → Nat × Nat} {t : TabD} {N : Nat}
def RDo (w : World) (g mb : Nat) (β : Int → Nat × Nat) (t : TabD) (r : Int × ByteArray × Int × TabD) (e : Ending) (w' : World) : Prop := e = .returned (.tuple #[.int .i64 r.1, .string r.2.1, .int .i64 r.2.2.1]) ∧ Goes w g mb β t w' r.2.2.2
theorem Goes.pre {w1 w' : World} {t' : TabD} (hb : Below w.heap.size w w1) (h : Goes w1 g mb β t w' t') : Goes w g mb β t w' t' := by
  obtain ⟨β', h1, h2, h3⟩ := h
  exact ⟨β', h1, (Only.of_below hb).trans h2, fun k hk => by rcases h3 k hk with h | h; exact .inl h; exact .inr (Nat.le_trans hb.size h)⟩
theorem Make_any (h : TblAt w g mb β t) (I : In.Inv N t) (hN : N ≤ 1000000000) {dir : Int} (hdir : Fits dir) {s : ByteArray} (hs : s.size ≤ maxLen) (isDir : Bool) :
    Calls Tryz.prog 18 #[.pointer (some ⟨g, 0, none⟩), .int .i64 dir, .string s, .bool isDir] w fun e w' => e = .returned (.tuple #[.int .i64 (In.make t dir s isDir).1, .int .i64 (In.make t dir s isDir).2.1]) ∧ Goes w g mb β t w' (In.make t dir s isDir).2.2 := by
  have F := fit_inv I hN
  have hl := I.last
  by_cases h0 : In.makeE t dir s = 0
  · have e : In.make t dir s isDir = (t.last + 1, 0, In.makeT t dir s isDir) := by unfold In.make; rw [h0]; rfl
    rw [e]
    exact Make_yes h F hdir hs isDir h0 (fun n hn => (I.pos n hn).2) (by omega) (by omega)
  · have e : In.make t dir s isDir = (0, In.makeE t dir s, t) := by unfold In.make; rw [beq0_false h0]; rfl
    rw [e]
    have hsum : t.nodes.length ≤ In.sum t.nodes := by
      unfold In.sum
      generalize t.nodes = l
      induction l with
      | nil => simp
      | cons y r ih => rw [List.map_cons, List.sum_cons, List.length_cons]; unfold In.cost; unfold In.cost at ih; omega
    have hu := I.used
    have hu1 := F.u1
    exact (Make_no h F hdir hs isDir rfl h0 (by omega)).mono fun e w' ⟨h1, h2⟩ => ⟨h1, (Step.below h h2).goes⟩
set_option maxRecDepth 100000 in
theorem do_1 (h : TblAt w g mb β t) (I : In.Inv N t) (hN : N ≤ 1000000000) (a : ActD) (ha : a.Ok) (hk : a.kind = 1) : Calls Tryz.prog 10 #[.pointer (some ⟨g, 0, none⟩), .agg a.cells.toArray] w (RDo w g mb β t (In.do_ t a)) := by
  have F := fit_inv I hN
  have hb := (Below.refl w.heap.size w).alloc (Nat.le_refl _) (.cells a.cells.toArray 35)
  have HT := Lib.hid (h.below hb)
  have HB := Lib.hid hb
  have C := Make_any (HT.out) I hN ha.dir ha.name a.flag
  obtain ⟨R, hR⟩ : ∃ R, In.do_ t a = R := ⟨_, rfl⟩
  rw [hR]
  have HR := Lib.hid hR
  unfold ActD.cells at C hb HT HB ⊢
  obtain ⟨kind, id, dir, at_, n, name, as_, flag⟩ := a
  simp only at hk C HT HB ⊢
  subst hk
  clear h hb hR I ha F
  go_enter Tryz.func10, Tryz.ntmps10
  go_wp2_with (go_at_call 18; refine C.mono ?_; rintro e w2 ⟨rfl, hgo⟩; have HG := Lib.hid hgo; clear hgo)
  go_ret3
  rw [← HR.out]
  exact ⟨rfl, Goes.pre HB.out HG.out⟩
set_option maxRecDepth 100000 in
theorem do_2 (h : TblAt w g mb β t) (I : In.Inv N t) (hN : N ≤ 1000000000) (a : ActD) (ha : a.Ok) (hk : a.kind = 2) : Calls Tryz.prog 10 #[.pointer (some ⟨g, 0, none⟩), .agg a.cells.toArray] w (RDo w g mb β t (In.do_ t a)) := by
  have F := fit_inv I hN
  have hb := (Below.refl w.heap.size w).alloc (Nat.le_refl _) (.cells a.cells.toArray 35)
  have HT := Lib.hid (h.below hb)
  have HB := Lib.hid hb
  have C := Find_any (HT.out) F.q0 ha.dir ha.name
  obtain ⟨R, hR⟩ : ∃ R, In.do_ t a = R := ⟨_, rfl⟩
  rw [hR]
  have HR := Lib.hid hR
  unfold ActD.cells at C hb HT HB ⊢
  obtain ⟨kind, id, dir, at_, n, name, as_, flag⟩ := a
  simp only at hk C HT HB ⊢
  subst hk
  clear h hb hR I ha F
  go_enter Tryz.func10, Tryz.ntmps10
  go_wp2_with (go_at_call 29; refine C.mono ?_; rintro e w2 ⟨rfl, hb2⟩; have hgo := (Step.below HT.out hb2).goes; clear hb2; have HG := Lib.hid hgo; clear hgo)
  go_ret3
  rw [← HR.out]
  exact ⟨rfl, Goes.pre HB.out HG.out⟩
set_option maxRecDepth 100000 in
theorem do_3 (h : TblAt w g mb β t) (I : In.Inv N t) (hN : N ≤ 1000000000) (a : ActD) (ha : a.Ok) (hk : a.kind = 3) : Calls Tryz.prog 10 #[.pointer (some ⟨g, 0, none⟩), .agg a.cells.toArray] w (RDo w g mb β t (In.do_ t a)) := by
  have F := fit_inv I hN
  have hb := (Below.refl w.heap.size w).alloc (Nat.le_refl _) (.cells a.cells.toArray 35)
  have HT := Lib.hid (h.below hb)
  have HB := Lib.hid hb
  have C := Link_any (HT.out) F.q0 ha.id ha.dir ha.name F.node
  obtain ⟨R, hR⟩ : ∃ R, In.do_ t a = R := ⟨_, rfl⟩
  rw [hR]
  have HR := Lib.hid hR
  unfold ActD.cells at C hb HT HB ⊢
  obtain ⟨kind, id, dir, at_, n, name, as_, flag⟩ := a
  simp only at hk C HT HB ⊢
  subst hk
  clear h hb hR I ha F
  go_enter Tryz.func10, Tryz.ntmps10
  go_wp2_with (go_at_call 20; refine C.mono ?_; rintro e w2 ⟨rfl, hs2⟩; have hgo := hs2.goes; clear hs2; have HG := Lib.hid hgo; clear hgo)
  go_ret3
  rw [← HR.out]
  exact ⟨rfl, Goes.pre HB.out HG.out⟩
set_option maxRecDepth 100000 in
theorem do_4 (h : TblAt w g mb β t) (I : In.Inv N t) (hN : N ≤ 1000000000) (a : ActD) (ha : a.Ok) (hk : a.kind = 4) : Calls Tryz.prog 10 #[.pointer (some ⟨g, 0, none⟩), .agg a.cells.toArray] w (RDo w g mb β t (In.do_ t a)) := by
  have F := fit_inv I hN
  have hb := (Below.refl w.heap.size w).alloc (Nat.le_refl _) (.cells a.cells.toArray 35)
  have HT := Lib.hid (h.below hb)
  have HB := Lib.hid hb
  have C := Unlink_any (HT.out) F ha.dir ha.name
  obtain ⟨R, hR⟩ : ∃ R, In.do_ t a = R := ⟨_, rfl⟩
  rw [hR]
  have HR := Lib.hid hR
  unfold ActD.cells at C hb HT HB ⊢
  obtain ⟨kind, id, dir, at_, n, name, as_, flag⟩ := a
  simp only at hk C HT HB ⊢
  subst hk
  clear h hb hR I ha F
  go_enter Tryz.func10, Tryz.ntmps10
  go_wp2_with (go_at_call 21; refine C.mono ?_; rintro e w2 ⟨rfl, hs2⟩; have hgo := hs2.goes; clear hs2; have HG := Lib.hid hgo; clear hgo)
  go_ret3
  rw [← HR.out]
  exact ⟨rfl, Goes.pre HB.out HG.out⟩
set_option maxRecDepth 100000 in
theorem do_5 (h : TblAt w g mb β t) (I : In.Inv N t) (hN : N ≤ 1000000000) (a : ActD) (ha : a.Ok) (hk : a.kind = 5) : Calls Tryz.prog 10 #[.pointer (some ⟨g, 0, none⟩), .agg a.cells.toArray] w (RDo w g mb β t (In.do_ t a)) := by
  have F := fit_inv I hN
  have hb := (Below.refl w.heap.size w).alloc (Nat.le_refl _) (.cells a.cells.toArray 35)
  have HT := Lib.hid (h.below hb)
  have HB := Lib.hid hb
  have C := Remove_any (HT.out) F ha.dir ha.name
  obtain ⟨R, hR⟩ : ∃ R, In.do_ t a = R := ⟨_, rfl⟩
  rw [hR]
  have HR := Lib.hid hR
  unfold ActD.cells at C hb HT HB ⊢
  obtain ⟨kind, id, dir, at_, n, name, as_, flag⟩ := a
  simp only at hk C HT HB ⊢
  subst hk
  clear h hb hR I ha F
  go_enter Tryz.func10, Tryz.ntmps10
  go_wp2_with (go_at_call 30; refine C.mono ?_; rintro e w2 ⟨rfl, hs2⟩; have hgo := hs2.goes; clear hs2; have HG := Lib.hid hgo; clear hgo)
  go_ret3
  rw [← HR.out]
  exact ⟨rfl, Goes.pre HB.out HG.out⟩
set_option maxRecDepth 100000 in
theorem do_6 (h : TblAt w g mb β t) (I : In.Inv N t) (hN : N ≤ 1000000000) (a : ActD) (ha : a.Ok) (hk : a.kind = 6) : Calls Tryz.prog 10 #[.pointer (some ⟨g, 0, none⟩), .agg a.cells.toArray] w (RDo w g mb β t (In.do_ t a)) := by
  have F := fit_inv I hN
  have hb := (Below.refl w.heap.size w).alloc (Nat.le_refl _) (.cells a.cells.toArray 35)
  have HT := Lib.hid (h.below hb)
  have HB := Lib.hid hb
  have C := Rename_any (HT.out) F ha.dir ha.n ha.name ha.as_
  obtain ⟨R, hR⟩ : ∃ R, In.do_ t a = R := ⟨_, rfl⟩
  rw [hR]
  have HR := Lib.hid hR
  unfold ActD.cells at C hb HT HB ⊢
  obtain ⟨kind, id, dir, at_, n, name, as_, flag⟩ := a
  simp only at hk C HT HB ⊢
  subst hk
  clear h hb hR I ha F
  go_enter Tryz.func10, Tryz.ntmps10
  go_wp2_with (go_at_call 31; refine C.mono ?_; rintro e w2 ⟨rfl, hs2⟩; have hgo := hs2.goes; clear hs2; have HG := Lib.hid hgo; clear hgo)
  go_ret3
  rw [← HR.out]
  exact ⟨rfl, Goes.pre HB.out HG.out⟩
set_option maxRecDepth 100000 in
theorem do_7 (h : TblAt w g mb β t) (I : In.Inv N t) (hN : N ≤ 1000000000) (a : ActD) (ha : a.Ok) (hk : a.kind = 7) : Calls Tryz.prog 10 #[.pointer (some ⟨g, 0, none⟩), .agg a.cells.toArray] w (RDo w g mb β t (In.do_ t a)) := by
  have F := fit_inv I hN
  have hb := (Below.refl w.heap.size w).alloc (Nat.le_refl _) (.cells a.cells.toArray 35)
  have HT := Lib.hid (h.below hb)
  have HB := Lib.hid hb
  have C := Read_any (HT.out) F ha.id a.at_ a.n
  obtain ⟨R, hR⟩ : ∃ R, In.do_ t a = R := ⟨_, rfl⟩
  rw [hR]
  have HR := Lib.hid hR
  unfold ActD.cells at C hb HT HB ⊢
  obtain ⟨kind, id, dir, at_, n, name, as_, flag⟩ := a
  simp only at hk C HT HB ⊢
  subst hk
  clear h hb hR I ha F
  go_enter Tryz.func10, Tryz.ntmps10
  go_wp2_with (go_at_call 22; refine C.mono ?_; rintro e w2 ⟨rfl, hb2⟩; have hgo := (Step.below HT.out hb2).goes; clear hb2; have HG := Lib.hid hgo; clear hgo)
  go_ret3
  rw [← HR.out]
  exact ⟨rfl, Goes.pre HB.out HG.out⟩
set_option maxRecDepth 100000 in
theorem do_8 (h : TblAt w g mb β t) (I : In.Inv N t) (hN : N ≤ 1000000000) (a : ActD) (ha : a.Ok) (hk : a.kind = 8) : Calls Tryz.prog 10 #[.pointer (some ⟨g, 0, none⟩), .agg a.cells.toArray] w (RDo w g mb β t (In.do_ t a)) := by
  have F := fit_inv I hN
  have hb := (Below.refl w.heap.size w).alloc (Nat.le_refl _) (.cells a.cells.toArray 35)
  have HT := Lib.hid (h.below hb)
  have HB := Lib.hid hb
  have C := Write_any (HT.out) F ha.id (fits_to ha.at_).2 ha.as_
  obtain ⟨R, hR⟩ : ∃ R, In.do_ t a = R := ⟨_, rfl⟩
  rw [hR]
  have HR := Lib.hid hR
  unfold ActD.cells at C hb HT HB ⊢
  obtain ⟨kind, id, dir, at_, n, name, as_, flag⟩ := a
  simp only at hk C HT HB ⊢
  subst hk
  clear h hb hR I ha F
  go_enter Tryz.func10, Tryz.ntmps10
  go_wp2_with (go_at_call 19; refine C.mono ?_; rintro e w2 ⟨rfl, hs2⟩; have hgo := hs2.goes; clear hs2; have HG := Lib.hid hgo; clear hgo)
  go_ret3
  rw [← HR.out]
  exact ⟨rfl, Goes.pre HB.out HG.out⟩
set_option maxRecDepth 100000 in
theorem do_9 (h : TblAt w g mb β t) (I : In.Inv N t) (hN : N ≤ 1000000000) (a : ActD) (ha : a.Ok) (hk : a.kind = 9) : Calls Tryz.prog 10 #[.pointer (some ⟨g, 0, none⟩), .agg a.cells.toArray] w (RDo w g mb β t (In.do_ t a)) := by
  have F := fit_inv I hN
  have hb := (Below.refl w.heap.size w).alloc (Nat.le_refl _) (.cells a.cells.toArray 35)
  have HT := Lib.hid (h.below hb)
  have HB := Lib.hid hb
  have C := Truncate_any (HT.out) F ha.id (fits_to ha.n).2
  obtain ⟨R, hR⟩ : ∃ R, In.do_ t a = R := ⟨_, rfl⟩
  rw [hR]
  have HR := Lib.hid hR
  unfold ActD.cells at C hb HT HB ⊢
  obtain ⟨kind, id, dir, at_, n, name, as_, flag⟩ := a
  simp only at hk C HT HB ⊢
  subst hk
  clear h hb hR I ha F
  go_enter Tryz.func10, Tryz.ntmps10
  go_wp2_with (go_at_call 32; refine C.mono ?_; rintro e w2 ⟨rfl, hs2⟩; have hgo := hs2.goes; clear hs2; have HG := Lib.hid hgo; clear hgo)
  go_ret3
  rw [← HR.out]
  exact ⟨rfl, Goes.pre HB.out HG.out⟩
set_option maxRecDepth 100000 in
theorem do_10 (h : TblAt w g mb β t) (I : In.Inv N t) (hN : N ≤ 1000000000) (a : ActD) (ha : a.Ok) (hk : a.kind = 10) : Calls Tryz.prog 10 #[.pointer (some ⟨g, 0, none⟩), .agg a.cells.toArray] w (RDo w g mb β t (In.do_ t a)) := by
  have F := fit_inv I hN
  have hb := (Below.refl w.heap.size w).alloc (Nat.le_refl _) (.cells a.cells.toArray 35)
  have HT := Lib.hid (h.below hb)
  have HB := Lib.hid hb
  have C := Hold_any (HT.out) F ha.id
  obtain ⟨R, hR⟩ : ∃ R, In.do_ t a = R := ⟨_, rfl⟩
  rw [hR]
  have HR := Lib.hid hR
  unfold ActD.cells at C hb HT HB ⊢
  obtain ⟨kind, id, dir, at_, n, name, as_, flag⟩ := a
  simp only at hk C HT HB ⊢
  subst hk
  clear h hb hR I ha F
  go_enter Tryz.func10, Tryz.ntmps10
  go_wp2_with (go_at_call 33; refine C.mono ?_; rintro e w2 ⟨rfl, hs2⟩; have hgo := hs2.goes; clear hs2; have HG := Lib.hid hgo; clear hgo)
  go_ret3
  rw [← HR.out]
  exact ⟨rfl, Goes.pre HB.out HG.out⟩
set_option maxRecDepth 100000 in
theorem do_11 (h : TblAt w g mb β t) (I : In.Inv N t) (hN : N ≤ 1000000000) (a : ActD) (ha : a.Ok) (hk : a.kind = 11) : Calls Tryz.prog 10 #[.pointer (some ⟨g, 0, none⟩), .agg a.cells.toArray] w (RDo w g mb β t (In.do_ t a)) := by
  have F := fit_inv I hN
  have hb := (Below.refl w.heap.size w).alloc (Nat.le_refl _) (.cells a.cells.toArray 35)
  have HT := Lib.hid (h.below hb)
  have HB := Lib.hid hb
  have C := Drop_any (HT.out) F ha.id
  obtain ⟨R, hR⟩ : ∃ R, In.do_ t a = R := ⟨_, rfl⟩
  rw [hR]
  have HR := Lib.hid hR
  unfold ActD.cells at C hb HT HB ⊢
  obtain ⟨kind, id, dir, at_, n, name, as_, flag⟩ := a
  simp only at hk C HT HB ⊢
  subst hk
  clear h hb hR I ha F
  go_enter Tryz.func10, Tryz.ntmps10
  go_wp2_with (go_at_call 34; refine C.mono ?_; rintro e w2 ⟨rfl, hs2⟩; have hgo := hs2.goes; clear hs2; have HG := Lib.hid hgo; clear hgo)
  go_ret3
  rw [← HR.out]
  exact ⟨rfl, Goes.pre HB.out HG.out⟩
end
end Go.Proofs.YtfepbjlaffpojaaGreat
