/-
  Layer 9: what was opened stays, whatever other owners do who write and cut nothing, in plain Lean.
-/
import Derived.Test.YtcicjklhbnipcaaGreatDoorSwpP
namespace Go.Proofs.YtcicjklhbnipcaaGreatDoor
set_option linter.unusedVariables false
set_option linter.unusedSimpArgs false
namespace In
/-- Inode 2 is a file of just these bytes, and at least so many handles hold it. -/
def Kp (s : ByteArray) (c : Nat) (t : TabD) : Prop := ∃ x, find t.nodes 2 = some x ∧ x.dir = false ∧ x.data = s ∧ (c : Int) ≤ x.holds
section
variable {s : ByteArray} {c c' : Nat} {t : TabD}
theorem set_none {l : List NodeD} {n : NodeD} (h : find l n.id = none) : set l n = l := by
  unfold set
  have : ∀ m ∈ l, (m.id == n.id) = false := fun m hm => by
    have := List.find?_eq_none.1 h m hm
    simpa using this
  rw [List.map_congr_left (g := id) fun m hm => by rw [this m hm]; rfl]
  simp
theorem kp_upd (h : Kp s c t) (k : Int) (f : NodeD → NodeD) (hi : ∀ o, (f o).id = o.id) (hc : c' ≤ c ∨ k = 2) (hf : k = 2 → ∀ o, (f o).dir = o.dir ∧ (f o).data = o.data ∧ (c' : Int) - c ≤ (f o).holds - o.holds) : Kp s c' (setN t (f (at_ t k))) := by
  obtain ⟨x, hx, hd, hs, hh⟩ := h
  cases ho : find t.nodes k with
  | none =>
    have hk : (at_ t k).id = k := by unfold at_; rw [ho]
    refine ⟨x, ?_, hd, hs, ?_⟩
    · show find (set t.nodes _) 2 = _
      rw [set_none (by rw [hi, hk]; exact ho)]
      exact hx
    · rcases hc with hc | rfl
      · omega
      · rw [ho] at hx; cases hx
  | some o =>
    have hk : (at_ t k).id = k := by rw [at_some ho]; exact (find_some ho).2
    rw [at_some ho] at hk ⊢
    by_cases h2 : k = 2
    · subst h2
      rw [ho] at hx
      cases hx
      obtain ⟨a, b, c⟩ := hf rfl x
      exact ⟨f x, by rw [find_turn ho ((hi x).trans hk), if_pos rfl], a.trans hd, b.trans hs, by omega⟩
    · refine ⟨x, by rw [find_turn ho ((hi o).trans hk), if_neg (fun e => h2 e.symm)]; exact hx, hd, hs, ?_⟩
      rcases hc with hc | hc
      · omega
      · exact absurd hc h2
theorem kp_less (h : Kp s c t) (hc : c' ≤ c) : Kp s c' t := by
  obtain ⟨x, hx, hd, hs, hh⟩ := h
  exact ⟨x, hx, hd, hs, by omega⟩
theorem kp_nameIn (h : Kp s c t) (k : Int) (n : ByteArray) (i : Int) : Kp s c (nameIn t k n i) := kp_upd h k (fun o => o.setNames (with_ o.names n i)) (fun _ => rfl) (.inl (Nat.le_refl _)) fun _ o => ⟨rfl, rfl, by show (c : Int) - c ≤ o.holds - o.holds; omega⟩
theorem kp_nameOut (h : Kp s c t) (k : Int) (n : ByteArray) : Kp s c (nameOut t k n) := kp_upd h k (fun o => o.setNames (without o.names n)) (fun _ => rfl) (.inl (Nat.le_refl _)) fun _ o => ⟨rfl, rfl, by show (c : Int) - c ≤ o.holds - o.holds; omega⟩
theorem kp_linksUp (h : Kp s c t) (k : Int) : Kp s c (linksUp t k) := kp_upd h k (fun o => o.setLinks (o.links + 1)) (fun _ => rfl) (.inl (Nat.le_refl _)) fun _ o => ⟨rfl, rfl, by show (c : Int) - c ≤ o.holds - o.holds; omega⟩
theorem kp_linksDown (h : Kp s c t) (k : Int) : Kp s c (linksDown t k) := kp_upd h k (fun o => o.setLinks (o.links - 1)) (fun _ => rfl) (.inl (Nat.le_refl _)) fun _ o => ⟨rfl, rfl, by show (c : Int) - c ≤ o.holds - o.holds; omega⟩
theorem kp_holdsUp (h : Kp s c t) (k : Int) : Kp s (c + if k = 2 then 1 else 0) (holdsUp t k) := kp_upd h k (fun o => o.setHolds (o.holds + 1)) (fun _ => rfl) (by by_cases hk : k = 2 <;> simp [hk]) fun e o => ⟨rfl, rfl, by rw [if_pos e]; show ((c + 1 : Nat) : Int) - c ≤ o.holds + 1 - o.holds; omega⟩
theorem kp_holdsDown (h : Kp s (c + 1) t) (k : Int) : Kp s c (holdsDown t k) := kp_upd h k (fun o => o.setHolds (o.holds - 1)) (fun _ => rfl) (.inl (Nat.le_succ c)) fun _ o => ⟨rfl, rfl, by show (c : Int) - ((c + 1 : Nat) : Int) ≤ o.holds - 1 - o.holds; omega⟩
theorem kp_holdsDown_ne (h : Kp s c t) {k : Int} (hk : k ≠ 2) : Kp s c (holdsDown t k) := kp_upd h k (fun o => o.setHolds (o.holds - 1)) (fun _ => rfl) (.inl (Nat.le_refl _)) fun e => absurd e hk
theorem kp_gone (h : Kp s c t) (hc : 1 ≤ c) (k : Int) : Kp s c (gone t k) := by
  obtain ⟨x, hx, hd, hs, hh⟩ := h
  by_cases hk : k = 2
  · subst hk
    unfold gone
    rw [at_some hx]
    have : (x.links == 0 && x.holds == 0) = false := by
      have : (x.holds == 0) = false := beq_eq_false_iff_ne.2 (by omega)
      simp [this]
    rw [this]
    exact ⟨x, hx, hd, hs, hh⟩
  · exact ⟨x, by rw [find_gone_ne (fun e => hk e.symm)]; exact hx, hd, hs, hh⟩
theorem kp_loses (h : Kp s c t) (hc : 1 ≤ c) (k : Int) (n : ByteArray) : Kp s c (loses t k n) := kp_gone (kp_linksDown (kp_nameOut h k n) _) hc _
theorem kp_make (h : Kp s c t) (dir : Int) (n : ByteArray) (b : Bool) : Kp s c (make t dir n b).2.2 := by
  unfold make
  split
  · obtain ⟨x, hx, r⟩ := kp_nameIn h dir n (t.last + 1)
    refine ⟨x, ?_, r⟩
    show find ((nameIn t dir n (t.last + 1)).nodes ++ _) 2 = _
    unfold find at hx ⊢
    rw [List.find?_append, hx]; rfl
  · exact h
theorem kp_link (h : Kp s c t) (i dir : Int) (n : ByteArray) : Kp s c (link t i dir n).2 := by
  unfold link
  split
  · exact kp_linksUp (kp_nameIn h _ _ _) _
  · exact h
theorem kp_unlink (h : Kp s c t) (hc : 1 ≤ c) (dir : Int) (n : ByteArray) : Kp s c (unlink t dir n).2 := by
  unfold unlink
  split
  · exact kp_loses h hc _ _
  · exact h
theorem kp_remove (h : Kp s c t) (hc : 1 ≤ c) (dir : Int) (n : ByteArray) : Kp s c (remove t dir n).2 := by
  unfold remove
  split
  · exact kp_loses h hc _ _
  · exact h
theorem kp_rename (h : Kp s c t) (hc : 1 ≤ c) (dir : Int) (n : ByteArray) (tod : Int) (m : ByteArray) : Kp s c (rename t dir n tod m).2 := by
  unfold rename
  split
  · show Kp s c (renameT _ _ _ _ _)
    unfold renameT
    split
    · exact h
    split
    · exact kp_nameIn (kp_nameOut h _ _) _ _ _
    · exact kp_nameIn (kp_nameOut (kp_loses h hc _ _) _ _) _ _ _
  · exact h
theorem kp_hold (h : Kp s c t) {k : Int} (he : (hold t k).1 = 0) : Kp s (c + if k = 2 then 1 else 0) (hold t k).2 := by
  unfold hold at he ⊢
  cases hb : holdE t k == 0 with
  | true => exact kp_holdsUp h k
  | false =>
    rw [hb] at he
    have he' : holdE t k = 0 := he
    rw [he'] at hb
    cases hb
theorem hold_no {k : Int} (he : (hold t k).1 ≠ 0) : (hold t k).2 = t := by
  unfold hold at he ⊢
  split
  · rename_i hn
    rw [if_pos hn] at he
    exact absurd rfl he
  · rfl
theorem kp_drop (h : Kp s (c + 1) t) (hc : 1 ≤ c) (k : Int) : Kp s c (drop t k).2 := by
  unfold drop
  split
  · exact kp_gone (kp_holdsDown h k) hc k
  · exact kp_less h (Nat.le_succ c)
theorem kp_drop_ne (h : Kp s c t) (hc : 1 ≤ c) {k : Int} (hk : k ≠ 2) : Kp s c (drop t k).2 := by
  unfold drop
  split
  · exact kp_gone (kp_holdsDown_ne h hk) hc k
  · exact h
end
end In
namespace Fs
/-- How many handles hold inode 2. -/
def cnt : List (Int × List Int) → Nat
  | [] => 0
  | p :: r => p.2.count 2 + cnt r
theorem hOf_nil (o : Int) : hOf [] o = z9 := rfl
theorem hOf_cons (p : Int × List Int) (r : List (Int × List Int)) (o : Int) : hOf (p :: r) o = if p.1 = o then p.2 else hOf r o := by
  unfold hOf
  rw [List.find?_cons]
  by_cases h : p.1 = o
  · simp [h]
  · have hb : (p.1 == o) = false := by simpa using h
    rw [hb, if_neg h]
theorem del_cons (p : Int × List Int) (r : List (Int × List Int)) (o : Int) : del (p :: r) o = if p.1 = o then del r o else p :: del r o := by
  unfold del
  rw [List.filter_cons]
  by_cases h : p.1 = o
  · simp [h]
  · simp [h]
theorem cnt_del (o : Int) : ∀ h : List (Int × List Int), cnt (del h o) + (hOf h o).count 2 ≤ cnt h
  | [] => show 0 + z9.count 2 ≤ 0 by decide
  | p :: r => by
    have ih := cnt_del o r
    rw [hOf_cons, del_cons]
    by_cases h : p.1 = o
    · rw [if_pos h, if_pos h]
      show _ ≤ p.2.count 2 + cnt r
      omega
    · rw [if_neg h, if_neg h]
      show p.2.count 2 + cnt (del r o) + _ ≤ p.2.count 2 + cnt r
      omega
theorem cnt_ins (x : Int × List Int) : ∀ h : List (Int × List Int), cnt (ins x h) = x.2.count 2 + cnt h
  | [] => rfl
  | p :: r => by
    unfold ins
    split
    · rfl
    · show p.2.count 2 + cnt (ins x r) = x.2.count 2 + (p.2.count 2 + cnt r)
      rw [cnt_ins x r]; omega
theorem hOf_ins {x : Int × List Int} {o : Int} (hx : x.1 ≠ o) : ∀ h : List (Int × List Int), hOf (ins x h) o = hOf h o
  | [] => by
    show hOf [x] o = _
    rw [hOf_cons, if_neg hx]
  | p :: r => by
    unfold ins
    split
    · rw [hOf_cons, if_neg hx]
    · rw [hOf_cons, hOf_cons, hOf_ins hx r]
theorem hOf_del {q o : Int} (hx : q ≠ o) : ∀ h : List (Int × List Int), hOf (del h q) o = hOf h o
  | [] => rfl
  | p :: r => by
    rw [del_cons]
    split
    · rename_i hp
      rw [hOf_cons, if_neg (by omega), hOf_del hx r]
    · rw [hOf_cons, hOf_cons, hOf_del hx r]
theorem hOf_del_self (o : Int) : ∀ h : List (Int × List Int), hOf (del h o) o = z9
  | [] => rfl
  | p :: r => by
    rw [del_cons]
    split
    · exact hOf_del_self o r
    · rename_i hp
      rw [hOf_cons, if_neg hp, hOf_del_self o r]
theorem hOf_put {q o : Int} (hx : q ≠ o) (h : List (Int × List Int)) (l : List Int) : hOf (put h q l) o = hOf h o := by
  unfold put
  rw [hOf_ins hx, hOf_del hx]
theorem hOf_shut {q o : Int} (hx : q ≠ o) (h : List (Int × List Int)) (l : List Int) : hOf (shut h q l) o = hOf h o := by
  unfold shut
  split
  · rw [hOf_del hx, hOf_put hx]
  · rw [hOf_put hx]
theorem cnt_put (h : List (Int × List Int)) (o : Int) (l : List Int) : cnt (put h o l) = l.count 2 + cnt (del h o) := cnt_ins _ _
theorem cnt_shut (h : List (Int × List Int)) (o : Int) (l : List Int) : cnt (shut h o l) ≤ l.count 2 + cnt (del h o) := by
  unfold shut
  split
  · have := cnt_del o (put h o l)
    rw [cnt_put] at this
    omega
  · rw [cnt_put]; exact Nat.le_refl _
theorem count_set (v : Int) : ∀ (l : List Int) (n : Nat), (l.set n v).count 2 ≤ l.count 2 + if v = 2 then 1 else 0
  | [], n => by simp
  | a :: r, 0 => by
    rw [List.set_cons_zero, List.count_cons, List.count_cons]
    by_cases hv : v = 2
    · simp [hv]
    · simp [hv]
  | a :: r, n + 1 => by
    rw [List.set_cons_succ, List.count_cons, List.count_cons]
    have := count_set v r n
    omega
theorem count_unset : ∀ (l : List Int) (n : Nat), l.getD n 0 = 2 → (l.set n 0).count 2 + 1 ≤ l.count 2
  | [], n, h => by simp at h
  | a :: r, 0, h => by
    have ha : a = 2 := h
    subst ha
    rw [List.set_cons_zero, List.count_cons, List.count_cons]
    simp
  | a :: r, n + 1, h => by
    rw [List.set_cons_succ, List.count_cons, List.count_cons]
    have := count_unset r n (by simpa using h)
    omega
/-- Owner -1 has its first handle, on inode 2, which is a file of just these bytes, held as often as there are handles on it. -/
structure Hk (s : ByteArray) (d : FsD) : Prop where
  row : hOf d.h (-1) = Sw.row 2
  kp : In.Kp s (cnt d.h) d.t
section
variable {s : ByteArray} {d : FsD} {o : Int}
theorem cnt_one {h : List (Int × List Int)} (hr : hOf h (-1) = Sw.row 2) : 1 ≤ cnt h := by
  have := cnt_del (-1) h
  rw [hr] at this
  have : (Sw.row 2).count 2 = 1 := by decide
  omega
theorem Hk.one (h : Hk s d) : 1 ≤ cnt d.h := cnt_one h.row
theorem Hk.tbl (h : Hk s d) {t : TabD} (ht : In.Kp s (cnt d.h) t) : Hk s ⟨t, d.h⟩ := ⟨h.row, ht⟩
theorem hk_closes (h : Hk s d) (ho : o ≠ -1) (n : Nat) : Hk s (closes d o n) := by
  have hr : hOf (closes d o n).h (-1) = Sw.row 2 := (hOf_shut ho _ _).trans h.row
  refine ⟨hr, ?_⟩
  have c1 := cnt_one hr
  have cs := cnt_shut d.h o ((hOf d.h o).set n 0)
  have cd := cnt_del o d.h
  have hk := h.kp
  show In.Kp s (cnt (closes d o n).h) (In.drop d.t ((hOf d.h o).getD n 0)).2
  have e : cnt (closes d o n).h = cnt (shut d.h o ((hOf d.h o).set n 0)) := rfl
  by_cases h2 : (hOf d.h o).getD n 0 = 2
  · have cu := count_unset _ n h2
    exact In.kp_drop (In.kp_less hk (by omega)) c1 _
  · have cu := count_set 0 (hOf d.h o) n
    rw [if_neg (by decide)] at cu
    exact In.kp_drop_ne (In.kp_less hk (by omega)) c1 h2
theorem hk_gives (h : Hk s d) (ho : o ≠ -1) (i : Int) : Hk s (gives d o i).2 := by
  unfold gives
  split
  · rename_i he
    refine ⟨(hOf_put ho _ _).trans h.row, ?_⟩
    have cs := cnt_put d.h o ((hOf d.h o).set (free d o) i)
    have cu := count_set i (hOf d.h o) (free d o)
    have cd := cnt_del o d.h
    refine In.kp_less (In.kp_hold h.kp he) ?_
    show cnt (put d.h o ((hOf d.h o).set (free d o) i)) ≤ _
    omega
  · rename_i he
    refine h.tbl ?_
    rw [In.hold_no he]
    exact h.kp
theorem hk_do (h : Hk s d) (ho : o ≠ -1) {p : OpD} (h7 : p.kind ≠ 7) (h8 : p.kind ≠ 8) : Hk s (do_ d o p).2 := by
  unfold do_
  split
  · exact h
  split
  · unfold opens
    split
    · exact h
    split
    · exact h
    split
    · have hm := h.tbl (In.kp_make h.kp (at_ d p.path).1.1 (at_ d p.path).1.2 false)
      split
      · exact hm
      · exact hk_gives hm ho _
    split
    · exact h
    · exact hk_gives h ho _
  split
  · unfold handled
    split
    · exact h
    split
    · exact hk_closes h ho _
    split
    · exact h
    · exact h
  split
  · exact h
  · refine h.tbl ?_
    unfold named
    split
    · exact h.kp
    unfold namedAt
    split
    · exact In.kp_make h.kp _ _ true
    split
    · exact In.kp_remove h.kp h.one _ _
    split
    · exact In.kp_unlink h.kp h.one _ _
    split
    · split
      · exact h.kp
      split
      · exact h.kp
      · exact In.kp_link h.kp _ _ _
    split
    · exact h.kp
    · exact In.kp_rename h.kp h.one _ _ _ _
theorem hk_exitL (ho : o ≠ -1) : ∀ (l : List Int) (n : Nat) (d : FsD), Hk s d → Hk s (exitL o l n d)
  | [], _, _, h => h
  | i :: r, n, d, h => by
    show Hk s (exitL o r (n + 1) (if i ≠ 0 then closes d o n else d))
    refine hk_exitL ho r (n + 1) _ ?_
    split
    · exact hk_closes h ho n
    · exact h
theorem hk_exit (h : Hk s d) (ho : o ≠ -1) : Hk s (exit d o) := hk_exitL ho _ _ _ h
theorem Hk.at_ (h : Hk s d) : (In.at_ d.t 2).data = s ∧ In.getE d.t 2 false = 0 := by
  obtain ⟨x, hx, hd, hs, hh⟩ := h.kp
  refine ⟨by rw [In.at_some hx]; exact hs, ?_⟩
  unfold In.getE
  rw [hx]
  simp only [hd]
  rfl
theorem Hk.held (h : Hk s d) : held d (-1) 1 = 2 := by
  unfold Fs.held
  rw [h.row]
  rfl
theorem hk_read (h : Hk s d) (hs : s.size ≤ 256) : do_ d (-1) (Sw.oH 6 1 1024 ⟨#[]⟩) = (⟨0, 0, s, []⟩, d) :=
  Sw.do_read (i := 2) h.held (by decide) (by unfold In.readE In.fileE; rw [h.at_.2]; rfl) h.at_.1 (by omega)
theorem hk_size (h : Hk s d) (hs : s.size ≤ 256) : do_ d (-1) (Sw.oH 9 1 0 ⟨#[]⟩) = (⟨0, s.size, ⟨#[]⟩, []⟩, d) := by
  have he : In.readE d.t 2 0 1048576 = 0 := by unfold In.readE In.fileE; rw [h.at_.2]; rfl
  have hr : In.read d.t 2 0 1048576 = s := by
    unfold In.read
    rw [he, h.at_.1]
    exact In.part_all (by omega)
  rw [Sw.do_hand (.inr (.inr (.inr (.inr rfl))))]
  have hh' : Fs.held d (-1) (Sw.oH 9 1 0 ⟨#[]⟩).h = 2 := h.held
  unfold handled
  rw [hh', if_neg (by decide), if_neg (show ¬ (Sw.oH 9 1 0 ⟨#[]⟩).kind = 5 from (by decide : ¬ (9 : Int) = 5)), if_neg (show ¬ (Sw.oH 9 1 0 ⟨#[]⟩).kind = 6 from (by decide : ¬ (9 : Int) = 6)), if_neg (show ¬ (Sw.oH 9 1 0 ⟨#[]⟩).kind = 7 from (by decide : ¬ (9 : Int) = 7)), if_neg (show ¬ (Sw.oH 9 1 0 ⟨#[]⟩).kind = 8 from (by decide : ¬ (9 : Int) = 8)), he, hr]
theorem hk_end (h : Hk s d) : do_ (exit d (-1)) (-1) (Sw.oH 6 1 1 ⟨#[]⟩) = (⟨13, 0, ⟨#[]⟩, []⟩, exit d (-1)) := by
  have hx : exit d (-1) = closes d (-1) 1 := by
    unfold exit
    rw [h.row]
    rfl
  have hh : Fs.held (exit d (-1)) (-1) 1 = 0 := by
    rw [hx]
    unfold Fs.held
    rw [if_pos (by decide)]
    have : hOf (closes d (-1) 1).h (-1) = z9 := by
      unfold closes
      rw [h.row]
      show hOf (shut d.h (-1) ((Sw.row 2).set 1 0)) (-1) = z9
      rw [shut_yes (by decide)]
      exact hOf_del_self _ _
    rw [this]
    rfl
  rw [Sw.do_hand (.inr (.inl rfl))]
  have hh' : Fs.held (exit d (-1)) (-1) (Sw.oH 6 1 1 ⟨#[]⟩).h = 0 := hh
  unfold handled
  rw [hh', if_pos rfl]
  rfl
end
end Fs
/-! ### the beginning -/
namespace Ha
def ca : ByteArray := ⟨#[97]⟩
def q1 : FsD := ⟨⟨1048576, 128, 2, [Sw.root [(ca, 2)]] ++ [Sw.file 2 1 1 Sw.e0]⟩, [(-1, Sw.row 2)]⟩
def q2 (s : ByteArray) : FsD := ⟨⟨1048576, 128 + s.size, 2, [Sw.root [(ca, 2)]] ++ [Sw.file 2 1 1 s]⟩, [(-1, Sw.row 2)]⟩
theorem d1 : Fs.do_ Sw.p0 (-1) (Sw.oP 3 ca) = (⟨0, 1, ⟨#[]⟩, []⟩, q1) := by kernel_rfl
theorem d2 (s : ByteArray) (hs : s.size ≤ 256) : Fs.do_ q1 (-1) (Sw.oH 7 1 0 s) = (⟨0, 0, ⟨#[]⟩, []⟩, q2 s) :=
  Sw.do_write (i := 2) (t := (q2 s).t) (by kernel_rfl) (by decide) (In.write_last (A := [Sw.root [(ca, 2)]]) (F := Sw.file 2 1 1 Sw.e0) (q := 1048576) (u := 128) (l := 2) (s := s) (by intro m hm; rcases List.mem_singleton.1 hm with rfl; decide) rfl rfl hs (by decide))
theorem hk2 (s : ByteArray) : Fs.Hk s (q2 s) := ⟨rfl, Sw.file 2 1 1 s, rfl, rfl, rfl, by show ((1 : Nat) : Int) ≤ 1; decide⟩
end Ha
end Go.Proofs.YtcicjklhbnipcaaGreatDoor
