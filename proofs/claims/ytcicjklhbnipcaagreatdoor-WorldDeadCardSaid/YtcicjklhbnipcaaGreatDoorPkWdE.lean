/-
  Texts laid one behind the other: what WrlE asks for.
-/
import Derived.Test.YtcicjklhbnipcaaGreatDoorPkWdD
namespace Go.Proofs.YtcicjklhbnipcaaGreatDoor
set_option linter.unusedVariables false
set_option linter.unusedSimpArgs false
namespace In
/-- A directory leads just to directories of greater numbers. -/
def Up (t : TabD) : Prop := ∀ a m p n, find t.nodes a = some m → p ∈ m.names → find t.nodes p.2 = some n → n.dir = true → a < p.2
/-- All that is there was there, of its kind, with its names, but for this one. -/
def Come (k i : Int) (t t' : TabD) : Prop := ∀ x m', find t'.nodes x = some m' → ∃ m, find t.nodes x = some m ∧ m'.dir = m.dir ∧ ∀ p ∈ m'.names, p ∈ m.names ∨ (x = k ∧ p.2 = i)
/-- All that is there was there, of its kind, with its names. -/
def Less (t t' : TabD) : Prop := ∀ x m', find t'.nodes x = some m' → ∃ m, find t.nodes x = some m ∧ m'.dir = m.dir ∧ ∀ p ∈ m'.names, p ∈ m.names
section
variable {N : Nat} {t t' t'' : TabD} {k i : Int}
theorem Up.come (h : Up t) (hc : Come k i t t') (hi : ∀ n, find t.nodes i = some n → n.dir = true → k < i) : Up t' := by
  intro a m p n ha hp hn hd
  obtain ⟨m0, h1, -, h2⟩ := hc a m ha
  obtain ⟨n0, h3, h4, -⟩ := hc p.2 n hn
  rcases h2 p hp with h5 | ⟨rfl, h5⟩
  · exact h a m0 p n0 h1 h5 h3 (h4 ▸ hd)
  · rw [h5] at h3 ⊢
    exact hi n0 h3 (h4 ▸ hd)
theorem Less.refl (t : TabD) : Less t t := fun _ m h => ⟨m, h, rfl, fun _ h => h⟩
theorem Less.trans (h : Less t t') (h' : Less t' t'') : Less t t'' := fun x m hm => by
  obtain ⟨m1, a1, a2, a3⟩ := h' x m hm
  obtain ⟨m2, b1, b2, b3⟩ := h x m1 a1
  exact ⟨m2, b1, a2.trans b2, fun p hp => b3 p (a3 p hp)⟩
theorem Less.come (h : Less t t') : Come k i t t' := fun x m hm => by
  obtain ⟨m1, a1, a2, a3⟩ := h x m hm
  exact ⟨m1, a1, a2, fun p hp => .inl (a3 p hp)⟩
theorem Come.less (h : Come k i t t') (h' : Less t' t'') : Come k i t t'' := fun x m hm => by
  obtain ⟨m1, a1, a2, a3⟩ := h' x m hm
  obtain ⟨m2, b1, b2, b3⟩ := h x m1 a1
  exact ⟨m2, b1, a2.trans b2, fun p hp => b3 p (a3 p hp)⟩
theorem Less.then (h : Less t t') (h' : Come k i t' t'') : Come k i t t'' := fun x m hm => by
  obtain ⟨m1, a1, a2, a3⟩ := h' x m hm
  obtain ⟨m2, b1, b2, b3⟩ := h x m1 a1
  exact ⟨m2, b1, a2.trans b2, fun p hp => (a3 p hp).imp (b3 p) fun h => h⟩
theorem Up.less (h : Up t) (hl : Less t t') : Up t' := by
  intro a m p n ha hp hn hd
  obtain ⟨m0, h1, -, h2⟩ := hl a m ha
  obtain ⟨n0, h3, h4, -⟩ := hl p.2 n hn
  exact h a m0 p n0 h1 (h2 p hp) h3 (h4 ▸ hd)
theorem at_id (t : TabD) (k : Int) : (at_ t k).id = k := by
  unfold at_
  split
  · rename_i n h
    exact (find_some h).2
  · rfl
theorem find_map_id (l : List NodeD) (n : NodeD) (x : Int) : find (set l n) x = (find l x).map fun m => if m.id == n.id then n else m := by
  unfold find set
  rw [List.find?_map]
  congr 2
  funext m
  show ((if m.id == n.id then n else m).id == x) = (m.id == x)
  split
  · rename_i h
    have h' : m.id = n.id := by simpa using h
    rw [h']
  · rfl
theorem come_setN {n : NodeD} (hn : ∀ m, find t.nodes n.id = some m → n.dir = m.dir ∧ ∀ p ∈ n.names, p ∈ m.names ∨ (n.id = k ∧ p.2 = i)) : Come k i t (setN t n) := fun x m' h => by
  have h' : find (set t.nodes n) x = some m' := h
  rw [find_map_id] at h'
  cases hf : find t.nodes x with
  | none => rw [hf] at h'; cases h'
  | some m =>
    rw [hf] at h'
    have h2 : (if m.id == n.id then n else m) = m' := by simpa using h'
    have hx := (find_some hf).2
    cases he : m.id == n.id with
    | false =>
      rw [he] at h2
      subst h2
      exact ⟨m, rfl, rfl, fun p hp => .inl hp⟩
    | true =>
      rw [he] at h2
      subst h2
      have he' : m.id = n.id := by simpa using he
      have e2 : x = n.id := hx.symm.trans he'
      subst e2
      obtain ⟨h3, h4⟩ := hn m hf
      exact ⟨m, rfl, h3, h4⟩
theorem less_setN {n : NodeD} (hn : ∀ m, find t.nodes n.id = some m → n.dir = m.dir ∧ ∀ p ∈ n.names, p ∈ m.names) : Less t (setN t n) := fun x m' h => by
  obtain ⟨m, h1, h2, h3⟩ := come_setN (t := t) (k := x - 1) (i := 0) (n := n) (fun m hm => ⟨(hn m hm).1, fun p hp => .inl ((hn m hm).2 p hp)⟩) x m' h
  exact ⟨m, h1, h2, fun p hp => (h3 p hp).elim (fun h => h) fun h => by omega⟩
theorem at_less (f : NodeD → NodeD) (hi : ∀ m, (f m).id = m.id) (hd : ∀ m, (f m).dir = m.dir) (hp : ∀ m, ∀ p ∈ (f m).names, p ∈ m.names) (k : Int) : Less t (setN t (f (at_ t k))) := less_setN fun m hm => by
  rw [hi, at_id] at hm
  rw [at_some hm]
  exact ⟨hd m, hp m⟩
theorem less_nameOut (dir : Int) (s : ByteArray) : Less t (nameOut t dir s) := at_less (fun m => m.setNames (without m.names s)) (fun _ => rfl) (fun _ => rfl) (fun _ _ hp => (mem_without.1 hp).1) dir
theorem less_linksUp (id : Int) : Less t (linksUp t id) := at_less (fun m => m.setLinks (m.links + 1)) (fun _ => rfl) (fun _ => rfl) (fun _ _ hp => hp) id
theorem less_linksDown (id : Int) : Less t (linksDown t id) := at_less (fun m => m.setLinks (m.links - 1)) (fun _ => rfl) (fun _ => rfl) (fun _ _ hp => hp) id
theorem less_holdsUp (id : Int) : Less t (holdsUp t id) := at_less (fun m => m.setHolds (m.holds + 1)) (fun _ => rfl) (fun _ => rfl) (fun _ _ hp => hp) id
theorem less_holdsDown (id : Int) : Less t (holdsDown t id) := at_less (fun m => m.setHolds (m.holds - 1)) (fun _ => rfl) (fun _ => rfl) (fun _ _ hp => hp) id
theorem less_dataOf (id : Int) (v : ByteArray) : Less t (dataOf t id v) := at_less (fun m => m.setData v) (fun _ => rfl) (fun _ => rfl) (fun _ _ hp => hp) id
theorem come_nameIn (dir : Int) (s : ByteArray) (id : Int) : Come dir id t (nameIn t dir s id) := come_setN (n := (at_ t dir).setNames (with_ (at_ t dir).names s id)) fun m hm => by
  have hm' : find t.nodes (at_ t dir).id = some m := hm
  rw [at_id] at hm'
  rw [at_some hm']
  refine ⟨rfl, fun p hp => ?_⟩
  rcases mem_put.1 hp with rfl | hp
  · exact .inr ⟨(find_some hm').2, rfl⟩
  · exact .inl (mem_without.1 hp).1
theorem less_gone (id : Int) : Less t (gone t id) := fun x m h => by
  unfold gone at h
  split at h
  · have h' : find (del t.nodes id) x = some m := h
    unfold find del at h'
    rw [List.find?_filter] at h'
    refine ⟨m, ?_, rfl, fun _ hp => hp⟩
    have h1 := List.find?_some h'
    have h2 : m.id = x := by
      have := h1
      simp only [Bool.not_eq_true', beq_eq_false_iff_ne, beq_iff_eq, decide_eq_true_eq] at this
      exact this.2
    have h3 : x ≠ id := by
      have := h1
      simp only [Bool.not_eq_true', beq_eq_false_iff_ne, beq_iff_eq, decide_eq_true_eq] at this
      rw [← h2]; exact this.1
    have e : (fun a : NodeD => decide ((!a.id == id) = true ∧ (a.id == x) = true)) = fun a => a.id == x := by
      funext a
      cases hx : a.id == x with
      | false => simp
      | true =>
        have : a.id = x := by simpa using hx
        rw [this]
        simp [h3]
    rw [e] at h'
    exact h'
  · exact ⟨m, h, rfl, fun _ hp => hp⟩
theorem less_loses (dir : Int) (s : ByteArray) : Less t (loses t dir s) := ((less_nameOut dir s).trans (less_linksDown _)).trans (less_gone _)
theorem less_unlink (dir : Int) (s : ByteArray) : Less t (unlink t dir s).2 := by
  unfold unlink
  split
  · exact less_loses dir s
  · exact Less.refl t
theorem less_remove (dir : Int) (s : ByteArray) : Less t (remove t dir s).2 := by
  unfold remove
  split
  · exact less_loses dir s
  · exact Less.refl t
theorem less_sizedT (id n : Int) : Less t (sizedT t id n) := less_dataOf id (resized (at_ t id).data n.toNat)
theorem less_write (id a : Int) (s : ByteArray) : Less t (write t id a s).2 := by
  unfold write
  split
  · show Less t (writeT t id a s)
    unfold writeT
    split
    · exact Less.refl t
    · exact (less_sizedT id _).trans (less_dataOf id _)
  · exact Less.refl t
theorem less_trunc (id n : Int) : Less t (trunc t id n).2 := by
  unfold trunc
  split
  · exact less_sizedT id n
  · exact Less.refl t
theorem less_hold (id : Int) : Less t (hold t id).2 := by
  unfold hold
  split
  · exact less_holdsUp id
  · exact Less.refl t
theorem less_drop (id : Int) : Less t (drop t id).2 := by
  unfold drop
  split
  · exact (less_holdsDown id).trans (less_gone id)
  · exact Less.refl t
theorem up_link (h : Up t) (id dir : Int) (s : ByteArray) : Up (link t id dir s).2 := by
  unfold link
  cases he : linkE t id dir s == 0 with
  | false => exact h
  | true =>
    have he' : linkE t id dir s = 0 := by simpa using he
    unfold linkE at he'
    cases h1 : getE t id false == 0 with
    | true =>
      obtain ⟨n, hn, hnd⟩ := getE_ok (t := t) (id := id) (dir := false) (by simpa using h1)
      exact h.come (Come.less (come_nameIn dir s id) (less_linksUp id)) fun m hm hd => by rw [hn] at hm; cases hm; rw [hnd] at hd; cases hd
    | false => rw [h1] at he'; simp at he' h1; exact absurd he' h1
theorem up_rename (h : Up t) (dir : Int) (s : ByteArray) (tod : Int) (as_ : ByteArray) : Up (rename t dir s tod as_).2 := by
  unfold rename
  cases he : renameE t dir s tod as_ == 0 with
  | false => exact h
  | true =>
    obtain ⟨h1, h2, h3⟩ := renameE_ok (t := t) (dir := dir) (s := s) (tod := tod) (as_ := as_) (by simpa using he)
    obtain ⟨_, d, n, hd, hdd, hl, hN, hn, hnd⟩ := unlinkE_ok h1
    have key : ∀ t1, Less t t1 → Up (renameIn t1 dir s tod as_ (findN t dir s)) := fun t1 hl1 => by
      refine h.come ((hl1.trans (less_nameOut dir s)).then (come_nameIn tod as_ (findN t dir s))) fun m hm hmd => ?_
      rw [hN, hn] at hm
      cases hm
      rw [hnd] at hmd
      cases hmd
    show Up (renameT t dir s tod as_)
    unfold renameT
    split
    · exact h
    split
    · exact key t (Less.refl t)
    · exact key _ (less_loses tod as_)
theorem up_make (I : Inv N t) (h : Up t) (dir : Int) (s : ByteArray) (isDir : Bool) : Up (make t dir s isDir).2.2 := by
  unfold make
  cases he : makeE t dir s == 0 with
  | false => exact h
  | true =>
    show Up (makeT t dir s isDir)
    have hc := come_nameIn (t := t) dir s (t.last + 1)
    have hne : ∀ m ∈ (nameIn t dir s (t.last + 1)).nodes, m.id ≠ (⟨t.last + 1, isDir, 1, 0, ByteArray.empty, []⟩ : NodeD).id := fun m hm => by
      have hm' : m ∈ set t.nodes ((at_ t dir).setNames (with_ (at_ t dir).names s (t.last + 1))) := hm
      unfold set at hm'
      obtain ⟨y, hy, e⟩ := List.mem_map.1 hm'
      have hp := (I.pos y hy).2
      have : m.id = y.id := by
        rw [← e]
        split
        · rename_i hh
          exact (by simpa using hh : y.id = _).symm
        · rfl
      show m.id ≠ t.last + 1
      omega
    have hfs := find_snoc hne
    have hle : ∀ x m, find (nameIn t dir s (t.last + 1)).nodes x = some m → x ≤ t.last := fun x m hx => by
      obtain ⟨m0, g1, -, -⟩ := hc x m hx
      obtain ⟨g2, g3⟩ := find_some g1
      have := (I.pos m0 g2).2
      omega
    intro a m p n ha hp hn hd
    have ha' : find ((nameIn t dir s (t.last + 1)).nodes ++ [⟨t.last + 1, isDir, 1, 0, ByteArray.empty, []⟩]) a = some m := ha
    have hn' : find ((nameIn t dir s (t.last + 1)).nodes ++ [⟨t.last + 1, isDir, 1, 0, ByteArray.empty, []⟩]) p.2 = some n := hn
    rw [hfs] at ha' hn'
    split at ha'
    · cases ha'
      cases hp
    · have hal := hle a m ha'
      split at hn'
      · rename_i e
        rw [e]
        show a < t.last + 1
        omega
      · rename_i hpn
        obtain ⟨m0, g1, -, g2⟩ := hc a m ha'
        obtain ⟨n0, g3, g4, -⟩ := hc p.2 n hn'
        rcases g2 p hp with g5 | ⟨-, g5⟩
        · exact h a m0 p n0 g1 g5 g3 (g4 ▸ hd)
        · exact absurd g5 hpn
theorem up_new (q : Int) : Up (new q) := fun a m p n ha hp _ _ => by
  have := (find_some ha).1
  have e : m = ⟨1, true, 1, 0, ByteArray.empty, []⟩ := by simpa [new] using this
  subst e
  cases hp
end
/-! ### what lies below a directory -/
/-- The directories in a directory. -/
def dirsIn (t : TabD) (id : Int) : List Int := ((at_ t id).names.map Prod.snd).filter fun i => (at_ t i).dir
/-- What is reached from a directory. -/
inductive Reach (t : TabD) : Int → Int → Prop where
  | refl (a : Int) : Reach t a a
  | step {a b c : Int} (h : Reach t a b) (hc : c ∈ dirsIn t b) : Reach t a c
section
variable {N : Nat} {t : TabD}
theorem mem_dirsIn {id c : Int} : c ∈ dirsIn t id ↔ ∃ p ∈ (at_ t id).names, p.2 = c ∧ (at_ t c).dir = true := by
  unfold dirsIn
  rw [List.mem_filter, List.mem_map]
  constructor
  · rintro ⟨⟨p, hp, rfl⟩, hd⟩
    exact ⟨p, hp, rfl, hd⟩
  · rintro ⟨p, hp, rfl, hd⟩
    exact ⟨⟨p, hp, rfl⟩, hd⟩
theorem names_found {id : Int} {p : ByteArray × Int} (hp : p ∈ (at_ t id).names) : find t.nodes id = some (at_ t id) := by
  unfold at_ at hp ⊢
  cases hf : find t.nodes id with
  | none => rw [hf] at hp; cases hp
  | some n => rfl
theorem dir_up (h : Up t) {a c : Int} (hc : c ∈ dirsIn t a) : a < c := by
  obtain ⟨p, hp, rfl, hd⟩ := mem_dirsIn.1 hc
  refine h a _ p _ (names_found hp) hp ?_ hd
  unfold at_ at hd ⊢
  cases hf : find t.nodes p.2 with
  | none => rw [hf] at hd; cases hd
  | some n => rfl
theorem Reach.le (h : Up t) {a b : Int} (r : Reach t a b) : a ≤ b := by
  induction r with
  | refl => exact Int.le_refl _
  | step _ hc ih => have := dir_up h hc; omega
theorem Reach.trans {a b c : Int} (h : Reach t a b) (r : Reach t b c) : Reach t a c := by
  induction r with
  | refl => exact h
  | step _ hc ih => exact ih.step hc
theorem cntN_one {d : List (ByteArray × Int)} {i : Int} : cntN d i = ((d.map Prod.snd).count i) := by
  unfold cntN List.count
  rw [List.countP_map]
  rfl
/-- One name at most leads to a directory. -/
theorem cnt_dir (I : Inv N t) {c : Int} {n : NodeD} (hn : find t.nodes c = some n) (hd : n.dir = true) : cnt t.nodes c ≤ 1 := by
  obtain ⟨nm, ni⟩ := find_some hn
  have h1 := I.links n nm
  have h2 := (I.alive n nm (by have := (I.pos n nm).1; omega)).2 hd
  rw [ni] at h1
  have h3 : 0 ≤ rootI c := by unfold rootI; split <;> decide
  omega
theorem dir_found {c : Int} (hd : (at_ t c).dir = true) : find t.nodes c = some (at_ t c) := by
  unfold at_ at hd ⊢
  cases hf : find t.nodes c with
  | none => rw [hf] at hd; cases hd
  | some n => rfl
theorem sum_two {f : NodeD → Nat} : ∀ {l : List NodeD}, asc l → ∀ {a b : NodeD}, a ∈ l → b ∈ l → a.id ≠ b.id → f a + f b ≤ (l.map f).sum
  | [], _, _, _, h, _, _ => by cases h
  | y :: r, hs, a, b, ha, hb, hne => by
    obtain ⟨h1, h2⟩ := List.pairwise_cons.1 hs
    rw [List.map_cons, List.sum_cons]
    rcases List.mem_cons.1 ha with rfl | ha'
    · rcases List.mem_cons.1 hb with rfl | hb'
      · exact absurd rfl hne
      · have := le_sum (f := f) hb'; omega
    · rcases List.mem_cons.1 hb with rfl | hb'
      · have := le_sum (f := f) ha'; omega
      · have := sum_two (f := f) h2 ha' hb' hne; omega
theorem dirs_nodup (I : Inv N t) (a : Int) : (dirsIn t a).Nodup := by
  rw [List.nodup_iff_count]
  intro c
  cases hd : (at_ t c).dir with
  | false =>
    rw [List.count_eq_zero.2]
    · exact Nat.zero_le _
    · intro hc
      obtain ⟨-, -, -, h⟩ := mem_dirsIn.1 hc
      rw [hd] at h
      cases h
  | true =>
    have h1 : (dirsIn t a).count c ≤ ((at_ t a).names.map Prod.snd).count c := (List.filter_sublist).count_le c
    refine Nat.le_trans h1 ?_
    rw [← cntN_one]
    by_cases hn : (at_ t a).names = []
    · rw [hn]; exact Nat.zero_le _
    · obtain ⟨p, hp⟩ := List.exists_mem_of_ne_nil _ hn
      have hf := names_found hp
      refine Nat.le_trans ?_ (cnt_dir I (dir_found hd) hd)
      exact le_sum (f := fun n => cntN n.names c) (find_some hf).1
/-- A directory lies in one directory. -/
theorem one_parent (I : Inv N t) {a b c : Int} (ha : c ∈ dirsIn t a) (hb : c ∈ dirsIn t b) : a = b := by
  obtain ⟨p, hp, e1, hd⟩ := mem_dirsIn.1 ha
  obtain ⟨q, hq, e2, -⟩ := mem_dirsIn.1 hb
  have fa := names_found hp
  have fb := names_found hq
  by_cases hne : a = b
  · exact hne
  · have h1 := sum_two (f := fun n => cntN n.names c) I.asc (find_some fa).1 (find_some fb).1 (by rw [at_id, at_id]; exact hne)
    have h2 := cnt_dir I (dir_found hd) hd
    have k1 : 0 < cntN (at_ t a).names c := List.countP_pos_iff.2 ⟨p, hp, by simpa using e1⟩
    have k2 : 0 < cntN (at_ t b).names c := List.countP_pos_iff.2 ⟨q, hq, by simpa using e2⟩
    have h3 : cntN (at_ t a).names c + cntN (at_ t b).names c ≤ cnt t.nodes c := h1
    omega
theorem reach_two (I : Inv N t) {a b x : Int} (ha : Reach t a x) (hb : Reach t b x) : Reach t a b ∨ Reach t b a := by
  induction ha with
  | refl => exact .inr hb
  | @step y x h hc ih =>
    cases hb with
    | refl => exact .inl (h.step hc)
    | @step y' _ h' hc' =>
      have := one_parent I hc hc'
      subst this
      exact ih h'
theorem reach_last {a b : Int} (h : Reach t a b) (hne : a ≠ b) : ∃ y, Reach t a y ∧ b ∈ dirsIn t y := by
  cases h with
  | refl => exact absurd rfl hne
  | step h hc => exact ⟨_, h, hc⟩
theorem reach_apart (I : Inv N t) (h : Up t) {a c d x : Int} (hc : c ∈ dirsIn t a) (hd : d ∈ dirsIn t a) (hne : c ≠ d) (h1 : Reach t c x) (h2 : Reach t d x) : False := by
  have key : ∀ c d, c ∈ dirsIn t a → d ∈ dirsIn t a → c ≠ d → ¬ Reach t c d := fun c d hc hd hne hr => by
    obtain ⟨y, hy, hyd⟩ := reach_last hr hne
    have := one_parent I hyd hd
    subst this
    have k1 := hy.le h
    have k2 := dir_up h hc
    omega
  rcases reach_two I h1 h2 with hr | hr
  · exact key c d hc hd hne hr
  · exact key d c hd hc (Ne.symm hne) hr
/-- A directory, and the directories below it, down to a depth. -/
def below (t : TabD) : Nat → Int → List Int
  | 0, id => [id]
  | k + 1, id => id :: (dirsIn t id).flatMap (below t k)
theorem below_reach : ∀ (k : Nat) (id x : Int), x ∈ below t k id → Reach t id x
  | 0, id, x, h => by
    have : x = id := by simpa [below] using h
    subst this
    exact .refl _
  | k + 1, id, x, h => by
    unfold below at h
    rcases List.mem_cons.1 h with rfl | h
    · exact .refl _
    · obtain ⟨c, hc, hx⟩ := List.mem_flatMap.1 h
      exact ((Reach.refl id).step hc).trans (below_reach k c x hx)
theorem below_nodup (I : Inv N t) (h : Up t) : ∀ (k : Nat) (id : Int), (below t k id).Nodup
  | 0, _ => by simp [below]
  | k + 1, id => by
    unfold below
    rw [List.nodup_cons]
    constructor
    · intro hm
      obtain ⟨c, hc, hx⟩ := List.mem_flatMap.1 hm
      have h1 := (below_reach k c id hx).le h
      have h2 := dir_up h hc
      omega
    · unfold List.Nodup
      rw [List.pairwise_flatMap]
      refine ⟨fun c _ => below_nodup I h k c, ?_⟩
      have hn := dirs_nodup I id
      have hm : ∀ c ∈ dirsIn t id, c ∈ dirsIn t id := fun _ h => h
      refine List.Pairwise.imp_of_mem (R := fun a b => a ≠ b) (fun {c d} hc hd hne x hx y hy e => ?_) hn
      subst e
      exact reach_apart I h hc hd hne (below_reach k c x hx) (below_reach k d x hy)
theorem sum_sub {g : Int → Nat} : ∀ {V ids : List Int}, V.Nodup → (∀ x ∈ V, g x ≠ 0 → x ∈ ids) → (V.map g).sum ≤ (ids.map g).sum
  | [], _, _, _ => Nat.zero_le _
  | x :: V, ids, hn, hs => by
    obtain ⟨h1, h2⟩ := List.nodup_cons.1 hn
    rw [List.map_cons, List.sum_cons]
    by_cases hg : g x = 0
    · rw [hg]
      have := sum_sub (g := g) h2 fun y hy => hs y (.tail _ hy)
      omega
    · have hx := hs x (.head _) hg
      have hp := (List.perm_cons_erase hx).map g
      have := sum_sub (g := g) (ids := ids.erase x) h2 fun y hy hy0 => (List.mem_erase_of_ne (fun e : y = x => h1 (by rw [← e]; exact hy))).2 (hs y (.tail _ hy) hy0)
      rw [hp.sum_nat]
      rw [List.map_cons, List.sum_cons]
      omega
/-- All names below a directory are no more than all names. -/
theorem below_names (I : Inv N t) (h : Up t) (k : Nat) (id : Int) : ((below t k id).map fun i => (at_ t i).names.length).sum ≤ tot t.nodes := by
  refine Nat.le_trans (sum_sub (ids := t.nodes.map (·.id)) (below_nodup I h k id) fun x _ hx => ?_) ?_
  · cases hq : (at_ t x).names with
    | nil => rw [hq] at hx; exact absurd rfl hx
    | cons p r =>
      have hf := names_found (t := t) (id := x) (p := p) (by rw [hq]; exact .head _)
      exact List.mem_map.2 ⟨_, (find_some hf).1, at_id t x⟩
  · unfold tot
    rw [List.map_map]
    refine Nat.le_of_eq (congrArg List.sum (List.map_congr_left fun n hn => ?_))
    show (at_ t n.id).names.length = n.names.length
    rw [at_some (find_asc I.asc hn)]
end
end In
end Go.Proofs.YtcicjklhbnipcaaGreatDoor
namespace Go.Proofs.YtcicjklhbnipcaaGreatDoor
set_option linter.unusedVariables false
set_option linter.unusedSimpArgs false
/-- Two lists in which each thing stands as often are one in another order. -/
theorem perm_by {α : Type} {l l' : List α} (h : ∀ [DecidableEq α] (x : α), l.count x = l'.count x) : l.Perm l' := by
  classical exact List.perm_iff_count.2 fun x => h x
/-- A file, or a directory, as it is told. -/
structure FileD where
  path : ByteArray
  dir : Bool
  data : ByteArray
def FileD.cells (f : FileD) : List Value := [.string f.path, .bool f.dir, .string f.data]
namespace Fs
theorem inv_tblN {N : Nat} {d : FsD} {t : TabD} (h : Inv N d) (ht : In.Inv N t) : Inv N ⟨t, d.h⟩ := inv_tbl h ht (Nat.le_refl N)
section
variable {N : Nat} {d : FsD}
theorem up_gives (h : In.Up d.t) (o id : Int) : In.Up (gives d o id).2.t := by
  unfold gives
  split <;> exact h.less (In.less_hold id)
theorem up_closes (h : In.Up d.t) (o : Int) (n : Nat) : In.Up (closes d o n).t := h.less (In.less_drop _)
theorem up_opens (I : Inv N d) (h : In.Up d.t) (o : Int) (p : OpD) : In.Up (opens d o p).2.t := by
  unfold opens
  split
  · exact h
  split
  · exact h
  split
  · have hm := In.up_make I.tbl h (at_ d p.path).1.1 (at_ d p.path).1.2 false
    split
    · exact hm
    · exact up_gives (d := ⟨(In.make d.t (at_ d p.path).1.1 (at_ d p.path).1.2 false).2.2, d.h⟩) hm o _
  split
  · exact h
  · exact up_gives h o _
theorem up_handled (h : In.Up d.t) (o : Int) (p : OpD) : In.Up (handled d o p).2.t := by
  unfold handled
  split
  · exact h
  split
  · exact up_closes h o _
  split
  · exact h
  split
  · exact h.less (In.less_write _ _ _)
  split
  · exact h.less (In.less_trunc _ _)
  · exact h
theorem up_named (I : Inv N d) (h : In.Up d.t) (p : OpD) : In.Up (named d p).2 := by
  unfold named namedAt
  split
  · exact h
  split
  · exact In.up_make I.tbl h _ _ true
  split
  · exact h.less (In.less_remove _ _)
  split
  · exact h.less (In.less_unlink _ _)
  split
  · split
    · exact h
    split
    · exact h
    · exact In.up_link h _ _ _
  split
  · exact h
  · exact In.up_rename h _ _ _ _
theorem up_do (I : Inv N d) (h : In.Up d.t) (o : Int) (p : OpD) : In.Up (do_ d o p).2.t := by
  unfold do_
  split
  · exact h
  split
  · exact up_opens I h o p
  split
  · exact up_handled h o p
  split
  · exact h
  · exact up_named I h p
theorem up_exitL (o : Int) : ∀ (l : List Int) (n : Nat) (d : FsD), In.Up d.t → In.Up (exitL o l n d).t
  | [], _, _, h => h
  | i :: r, n, d, h => by
    unfold exitL
    refine up_exitL o r (n + 1) _ ?_
    split
    · exact up_closes h o n
    · exact h
theorem up_exit (h : In.Up d.t) (o : Int) : In.Up (exit d o).t := up_exitL o _ 0 d h
/-- An owner's handles are closed: no more owners than there were. -/
theorem len_del {h : List (Int × List Int)} {o : Int} : (del h o).length + (if (h.find? fun p => p.1 == o).isSome then 1 else 0) ≤ h.length := by
  induction h with
  | nil => simp [del]
  | cons y r ih =>
    unfold del at ih ⊢
    rw [List.filter_cons, List.find?_cons]
    cases hy : y.1 == o with
    | true =>
      have := List.length_filter_le (fun p : Int × List Int => !(p.1 == o)) r
      simp only [Bool.not_true, Bool.false_eq_true, if_false, Option.isSome_some, if_true, List.length_cons]
      omega
    | false =>
      simp only [Bool.not_false, if_true, List.length_cons]
      omega
theorem inv_closes0 (I : Inv N d) {o : Int} {n : Nat} (hn : (hOf d.h o).getD n 0 ≠ 0) : Inv N (closes d o n) := by
  have hr := rows_put I.rows (o := o) (set_row (hOf_row I o) n (v := 0) (by omega))
  have hN := I.len
  have hs : (d.h.find? fun p => p.1 == o).isSome = true := by
    unfold hOf at hn
    cases hf : d.h.find? fun p => p.1 == o with
    | some p => rfl
    | none =>
      rw [hf] at hn
      refine absurd ?_ hn
      show z9.getD n 0 = 0
      unfold z9
      match n with
      | 0 | 1 | 2 | 3 | 4 | 5 | 6 | 7 | 8 => rfl
      | n + 9 => rfl
  have hl : (put d.h o ((hOf d.h o).set n 0)).length ≤ N := by
    unfold put
    rw [len_ins]
    have := len_del (h := d.h) (o := o)
    rw [hs] at this
    simp only [if_true] at this
    omega
  refine ⟨In.inv_drop I.tbl _, ?_, ?_⟩
  · unfold closes shut
    simp only
    split
    · exact rows_del hr o
    · exact hr
  · unfold closes shut
    simp only
    split
    · exact Nat.le_trans (List.length_filter_le _ _) hl
    · exact hl
theorem hOf_ins {h : List (Int × List Int)} {o : Int} {l : List Int} (hn : (h.find? fun p => p.1 == o) = none) (o' : Int) : hOf (ins (o, l) h) o' = if o' = o then l else hOf h o' := by
  induction h with
  | nil =>
    unfold ins hOf
    rw [List.find?_cons]
    by_cases e : o' = o
    · subst e; simp
    · have : (o == o') = false := beq_eq_false_iff_ne.2 fun h => e h.symm
      simp [this, e]
  | cons y r ih =>
    rw [List.find?_cons] at hn
    cases hy : y.1 == o with
    | true => rw [hy] at hn; cases hn
    | false =>
      rw [hy] at hn
      have hyo : y.1 ≠ o := by simpa using hy
      have ih' := ih hn
      unfold ins
      split
      · unfold hOf
        rw [List.find?_cons]
        by_cases e : o' = o
        · subst e; simp
        · have : (o == o') = false := beq_eq_false_iff_ne.2 fun h => e h.symm
          simp [this, e]
      · unfold hOf at ih' ⊢
        rw [List.find?_cons, List.find?_cons]
        cases hy' : y.1 == o' with
        | true =>
          have e : y.1 = o' := by simpa using hy'
          rw [if_neg (fun h => hyo (e.trans h))]
        | false => exact ih'
theorem find_del (h : List (Int × List Int)) (o o' : Int) : ((del h o).find? fun p => p.1 == o') = if o' = o then none else h.find? fun p => p.1 == o' := by
  unfold del
  rw [List.find?_filter]
  split
  · rename_i e
    subst e
    rw [List.find?_eq_none]
    intro p _
    simp
  · rename_i e
    congr 1
    funext p
    cases hp : p.1 == o' with
    | false => simp
    | true =>
      have : p.1 = o' := by simpa using hp
      simp [this, e]
theorem hOf_put (h : List (Int × List Int)) (o : Int) (l : List Int) (o' : Int) : hOf (put h o l) o' = if o' = o then l else hOf h o' := by
  unfold put
  rw [hOf_ins (by rw [find_del, if_pos rfl])]
  split
  · rfl
  · rename_i e
    unfold hOf
    rw [find_del, if_neg e]
theorem hOf_del (h : List (Int × List Int)) (o o' : Int) : hOf (del h o) o' = if o' = o then z9 else hOf h o' := by
  unfold hOf
  rw [find_del]
  by_cases e : o' = o
  · rw [if_pos e, if_pos e]
  · rw [if_neg e, if_neg e]
theorem hOf_shut (h : List (Int × List Int)) (o : Int) (l : List Int) (o' : Int) : hOf (shut h o l) o' = if o' = o then l else hOf h o' := by
  unfold shut
  split
  · rename_i e
    rw [hOf_del, hOf_put]
    split
    · exact e.symm
    · rfl
  · exact hOf_put h o l o'
/-- Exit keeps the bound. -/
theorem inv_exitL (o : Int) : ∀ (l : List Int) (n : Nat) (d : FsD), Inv N d → (∀ j, l[j]? = (hOf d.h o)[n + j]?) → Inv N (exitL o l n d)
  | [], _, _, I, _ => I
  | i :: r, n, d, I, hl => by
    unfold exitL
    have h0 := hl 0
    rw [List.getElem?_cons_zero, Nat.add_zero] at h0
    split
    · rename_i hi
      refine inv_exitL o r (n + 1) _ (inv_closes0 I (n := n) (by rw [List.getD_eq_getElem?_getD, ← h0]; exact hi)) fun j => ?_
      have hj := hl (j + 1)
      rw [List.getElem?_cons_succ] at hj
      unfold closes
      simp only
      rw [hOf_shut, if_pos rfl, List.getElem?_set_ne (by omega), hj]
      congr 1
      omega
    · refine inv_exitL o r (n + 1) _ I fun j => ?_
      have hj := hl (j + 1)
      rw [List.getElem?_cons_succ] at hj
      rw [hj]
      congr 1
      omega
theorem inv_exit (I : Inv N d) (o : Int) : Inv N (exit d o) := inv_exitL o _ 0 d I fun j => by rw [Nat.zero_add]
/-! ### all files -/
/-- What lies below a directory. -/
def under (t : TabD) : Nat → Int → ByteArray → List FileD
  | 0, _, _ => []
  | k + 1, id, dir => (In.at_ t id).names.flatMap fun p => ⟨Pt.join dir p.1, (In.at_ t p.2).dir, (In.at_ t p.2).data⟩ :: under t k p.2 (Pt.join dir p.1)
def files (d : FsD) : List FileD := under d.t d.t.last.toNat 1 ⟨#[]⟩
theorem under_none {t : TabD} {id : Int} (h : (In.at_ t id).names = []) (k : Nat) (dir : ByteArray) : under t k id dir = [] := by
  cases k with
  | zero => rfl
  | succ k => unfold under; rw [h]; rfl
theorem leaf_names {t : TabD} (I : In.Inv N t) {id : Int} (h : (In.at_ t id).dir = false) : (In.at_ t id).names = [] := by
  cases hq : (In.at_ t id).names with
  | nil => rfl
  | cons p r =>
    have hf := In.names_found (t := t) (id := id) (p := p) (by rw [hq]; exact .head _)
    rw [I.files _ (In.find_some hf).1 h] at hq
    cases hq
theorem sum_dirs {t : TabD} {f : ByteArray × Int → Nat} {g : Int → Nat} (hf : ∀ p, f p ≤ if (In.at_ t p.2).dir then g p.2 else 0) : ∀ l : List (ByteArray × Int), (l.map fun p => 1 + f p).sum ≤ l.length + (((l.map Prod.snd).filter fun i => (In.at_ t i).dir).map g).sum
  | [] => by simp
  | p :: r => by
    have ih := sum_dirs hf r
    have hp := hf p
    rw [List.map_cons, List.sum_cons, List.map_cons, List.filter_cons, List.length_cons]
    cases hd : (In.at_ t p.2).dir with
    | true =>
      rw [hd] at hp
      simp only [if_true] at hp ⊢
      rw [List.map_cons, List.sum_cons]
      omega
    | false =>
      rw [hd] at hp
      simp only [Bool.false_eq_true, if_false] at hp ⊢
      omega
theorem sum_one {α : Type} : ∀ l : List α, (l.map fun _ => 1).sum = l.length
  | [] => rfl
  | _ :: r => by rw [List.map_cons, List.sum_cons, sum_one r, List.length_cons]; omega
theorem sum_flat {α : Type} (f : α → List Nat) : ∀ l : List α, (l.flatMap f).sum = (l.map fun a => (f a).sum).sum
  | [] => rfl
  | a :: r => by rw [List.flatMap_cons, List.sum_append, sum_flat f r, List.map_cons, List.sum_cons]
theorem under_len {t : TabD} (I : In.Inv N t) : ∀ (k : Nat) (id : Int) (dir : ByteArray), (under t (k + 1) id dir).length ≤ ((In.below t k id).map fun i => (In.at_ t i).names.length).sum
  | 0, id, dir => by
    unfold under
    rw [List.length_flatMap]
    refine Nat.le_trans (Nat.le_of_eq ?_) (Nat.le_of_eq (show (In.at_ t id).names.length = _ by simp [In.below]))
    exact sum_one _
  | k + 1, id, dir => by
    unfold under
    rw [List.length_flatMap]
    simp only [List.length_cons]
    unfold In.below
    rw [List.map_cons, List.sum_cons, List.map_flatMap]
    have key := sum_dirs (t := t) (f := fun p => (under t (k + 1) p.2 (Pt.join dir p.1)).length) (g := fun c => ((In.below t k c).map fun i => (In.at_ t i).names.length).sum) (fun p => by
      split
      · exact under_len I k p.2 _
      · rename_i hd
        rw [under_none (leaf_names I (by simpa using hd))]
        exact Nat.zero_le _) (In.at_ t id).names
    have e1 : ((In.at_ t id).names.map fun p => (under t (k + 1) p.2 (Pt.join dir p.1)).length + 1) = (In.at_ t id).names.map fun p => 1 + (under t (k + 1) p.2 (Pt.join dir p.1)).length := List.map_congr_left fun p _ => Nat.add_comm _ _
    rw [e1]
    refine Nat.le_trans key (Nat.le_of_eq ?_)
    congr 1
    unfold In.dirsIn
    rw [sum_flat]
theorem files_len (I : Inv N d) (h : In.Up d.t) : (files d).length ≤ N := by
  unfold files
  have h1 := I.tbl.last
  obtain ⟨k, hk⟩ : ∃ k, d.t.last.toNat = k + 1 := ⟨d.t.last.toNat - 1, by omega⟩
  rw [hk]
  exact Nat.le_trans (under_len I.tbl k 1 _) (Nat.le_trans (In.below_names I.tbl h k 1) I.tbl.tot)
end
end Fs
end Go.Proofs.YtcicjklhbnipcaaGreatDoor
namespace Go.Proofs.YtcicjklhbnipcaaGreatDoor
set_option linter.unusedVariables false
set_option linter.unusedSimpArgs false
namespace Pt
/-- Does a path lie in a directory? -/
def under (p dir : ByteArray) : Bool := decide ((parts dir).length < (parts p).length) && decide ((parts p).take (parts dir).length = parts dir)
def run : ByteArray := ⟨#[114, 117, 110]⟩
end Pt
/-- What is logged: an operation of an owner, or its exit. -/
abbrev LogD := Int × Option OpD
/-- A disk. -/
structure DskD where
  now : FsD
  base : FsD
  log : List LogD
def opK (k : Int) (p : ByteArray) : OpD := ⟨k, p, ⟨#[]⟩, 0, 0, 0, ⟨#[]⟩, 0, 0⟩
namespace Ol
def again (d : FsD) : LogD → FsD
  | (o, some p) => (Fs.do_ d o p).2
  | (o, none) => Fs.exit d o
def replay (d : FsD) (l : List LogD) : FsD := l.foldl again d
/-- A file that lies under a directory is taken away. -/
def empty1 (d : FsD) (x : FileD) : FsD := if Pt.under x.path Pt.run then (Fs.do_ d 0 (opK (if x.dir then 2 else 11) x.path)).2 else d
def empties (d : FsD) : FsD := (Fs.files d).reverse.foldl empty1 d
def exits (d : FsD) : FsD := (Fs.owners d).foldl Fs.exit d
/-- What a power failure leaves of a disk. -/
def cutFs (D : DskD) (keep : Int) : FsD := empties (exits (replay D.base (D.log.take (max 0 (min keep D.log.length)).toNat)))
def cut (D : DskD) (keep : Int) : DskD := ⟨cutFs D keep, cutFs D keep, []⟩
def new (q : Int) : DskD := ⟨Fs.new q, Fs.new q, []⟩
def sync (D : DskD) : DskD := ⟨D.now, D.now, []⟩
def logs (r : ResD) (p : OpD) : Prop := r.err = 0 ∧ p.kind ≠ 6 ∧ p.kind ≠ 9 ∧ p.kind ≠ 13
instance (r : ResD) (p : OpD) : Decidable (logs r p) := by unfold logs; infer_instance
def doN (D : DskD) (o : Int) (p : OpD) : DskD := ⟨(Fs.do_ D.now o p).2, D.base, if logs (Fs.do_ D.now o p).1 p then D.log ++ [(o, some p)] else D.log⟩
def do_ (D : DskD) (o : Int) (p : OpD) : ResD × DskD := if p.kind = 14 then (Fs.errR 0, sync D) else ((Fs.do_ D.now o p).1, doN D o p)
def exit (D : DskD) (o : Int) : DskD := if o ∈ Fs.owners D.now then ⟨Fs.exit D.now o, D.base, D.log ++ [(o, none)]⟩ else D
/-- A logged operation whose numbers and texts fit. -/
def LogOk (l : LogD) : Prop := Fits l.1 ∧ ∀ p, l.2 = some p → p.Ok
/-- What is always so of a file system. -/
structure FInv (N : Nat) (d : FsD) : Prop where
  inv : Fs.Inv N d
  up : In.Up d.t
  own : ∀ p ∈ d.h, Fits p.1
/-- What is always so of a disk. -/
structure Inv (N : Nat) (D : DskD) : Prop where
  now : FInv N D.now
  base : ∃ M, FInv M D.base ∧ M + 3 * D.log.length ≤ N
  ok : ∀ l ∈ D.log, LogOk l
section
variable {N M : Nat} {d : FsD} {D : DskD}
theorem FInv.more (h : FInv N d) (hM : N ≤ M) : FInv M d := ⟨h.inv.more hM, h.up, h.own⟩
theorem put_own {h : List (Int × List Int)} {o : Int} {l : List Int} (hh : ∀ p ∈ h, Fits p.1) (ho : Fits o) : ∀ p ∈ Fs.put h o l, Fits p.1 := fun p hp => by
  rcases Fs.mem_ins.1 hp with rfl | hp
  · exact ho
  · exact hh p (List.mem_filter.1 hp).1
theorem shut_own {h : List (Int × List Int)} {o : Int} {l : List Int} (hh : ∀ p ∈ h, Fits p.1) (ho : Fits o) : ∀ p ∈ Fs.shut h o l, Fits p.1 := fun p hp => by
  unfold Fs.shut at hp
  split at hp
  · exact put_own hh ho p (List.mem_filter.1 hp).1
  · exact put_own hh ho p hp
theorem gives_own {o id : Int} (hh : ∀ p ∈ d.h, Fits p.1) (ho : Fits o) : ∀ p ∈ (Fs.gives d o id).2.h, Fits p.1 := by
  unfold Fs.gives
  split
  · exact put_own hh ho
  · exact hh
theorem do_own {o : Int} {q : OpD} (hh : ∀ p ∈ d.h, Fits p.1) (ho : Fits o) : ∀ p ∈ (Fs.do_ d o q).2.h, Fits p.1 := by
  unfold Fs.do_
  split
  · exact hh
  split
  · unfold Fs.opens
    split
    · exact hh
    split
    · exact hh
    split
    · split
      · exact hh
      · exact gives_own hh ho
    split
    · exact hh
    · exact gives_own hh ho
  split
  · unfold Fs.handled
    split
    · exact hh
    split
    · exact shut_own hh ho
    split
    · exact hh
    split
    · exact hh
    split
    · exact hh
    · exact hh
  split
  · exact hh
  · exact hh
theorem exitL_own (o : Int) (ho : Fits o) : ∀ (l : List Int) (n : Nat) (d : FsD), (∀ p ∈ d.h, Fits p.1) → ∀ p ∈ (Fs.exitL o l n d).h, Fits p.1
  | [], _, _, h => h
  | i :: r, n, d, h => by
    unfold Fs.exitL
    refine exitL_own o ho r (n + 1) _ ?_
    split
    · exact shut_own h ho
    · exact h
theorem finv_do (h : FInv N d) (hN : N ≤ 999999990) {o : Int} (ho : Fits o) (p : OpD) : FInv (N + 3) (Fs.do_ d o p).2 := ⟨Fs.inv_do h.inv hN o p, Fs.up_do h.inv h.up o p, do_own h.own ho⟩
theorem finv_exit (h : FInv N d) {o : Int} (ho : Fits o) : FInv N (Fs.exit d o) := ⟨Fs.inv_exit h.inv o, Fs.up_exit h.up o, exitL_own o ho _ 0 d h.own⟩
theorem finv_again (h : FInv N d) (hN : N ≤ 999999990) {l : LogD} (hl : LogOk l) : FInv (N + 3) (again d l) := by
  obtain ⟨o, _ | p⟩ := l
  · exact (finv_exit h hl.1).more (by omega)
  · exact finv_do h hN hl.1 p
theorem finv_replay : ∀ (l : List LogD) {N : Nat} {d : FsD}, (∀ x ∈ l, LogOk x) → FInv N d → N + 3 * l.length ≤ 999999990 → FInv (N + 3 * l.length) (replay d l)
  | [], _, _, _, h, _ => h
  | x :: r, N, d, hl, h, hN => by
    rw [List.length_cons] at hN
    have := finv_replay r (fun y hy => hl y (.tail _ hy)) (finv_again h (by omega) (hl x (.head _))) (by omega)
    rw [List.length_cons, show N + 3 * (r.length + 1) = N + 3 + 3 * r.length by omega]
    exact this
theorem owners_fit (h : FInv N d) : ∀ o ∈ Fs.owners d, Fits o := fun o ho => by
  obtain ⟨p, hp, rfl⟩ := List.mem_map.1 ho
  exact h.own p hp
theorem finv_foldl : ∀ (l : List Int) {d : FsD}, (∀ o ∈ l, Fits o) → FInv N d → FInv N (l.foldl Fs.exit d)
  | [], _, _, h => h
  | o :: r, _, hl, h => finv_foldl r (fun y hy => hl y (.tail _ hy)) (finv_exit h (hl o (.head _)))
theorem finv_exits (h : FInv N d) : FInv N (exits d) := finv_foldl _ (owners_fit h) h
/-- A name that is taken away: nothing grows. -/
theorem finv_out (h : FInv N d) {o : Int} (ho : Fits o) {p : OpD} (hk : p.kind = 2 ∨ p.kind = 11) : FInv N (Fs.do_ d o p).2 := by
  have key : Fs.Inv N (Fs.do_ d o p).2 := by
    have I := h.inv
    unfold Fs.do_
    split
    · exact I
    split
    · exfalso; omega
    split
    · exfalso; omega
    split
    · exact I
    · show Fs.Inv N ⟨(Fs.named d p).2, d.h⟩
      unfold Fs.named Fs.namedAt
      split
      · exact I
      split
      · exfalso; omega
      split
      · exact Fs.inv_tblN I (In.inv_remove I.tbl _ _)
      split
      · exact Fs.inv_tblN I (In.inv_unlink I.tbl _ _)
      · exfalso; omega
  exact ⟨key, Fs.up_do h.inv h.up o p, do_own h.own ho⟩
theorem finv_empty1 (h : FInv N d) (x : FileD) : FInv N (empty1 d x) := by
  unfold empty1
  split
  · refine finv_out h (show Fits 0 by decide) ?_
    show (if x.dir then (2 : Int) else 11) = 2 ∨ (if x.dir then (2 : Int) else 11) = 11
    split <;> simp
  · exact h
theorem finv_empties (h : FInv N d) : FInv N (empties d) := by
  unfold empties
  generalize (Fs.files d).reverse = l
  induction l generalizing d with
  | nil => exact h
  | cons o r ih => exact ih (finv_empty1 h o)
theorem finv_new {q : Int} (h0 : 64 ≤ q) (h1 : q ≤ 1099511627776) : FInv 1 (Fs.new q) := ⟨Fs.inv_new h0 h1, In.up_new q, nofun⟩
theorem inv_new {q : Int} (h0 : 64 ≤ q) (h1 : q ≤ 1099511627776) : Inv 1 (new q) := ⟨finv_new h0 h1, ⟨1, finv_new h0 h1, Nat.le_refl _⟩, nofun⟩
theorem Inv.more (h : Inv N D) (hM : N ≤ M) : Inv M D := by
  obtain ⟨K, h1, h2⟩ := h.base
  exact ⟨h.now.more hM, ⟨K, h1, by omega⟩, h.ok⟩
theorem inv_sync (h : Inv N D) : Inv N (sync D) := ⟨h.now, ⟨N, h.now, by show N + 3 * 0 ≤ N; omega⟩, nofun⟩
theorem take_len (D : DskD) (keep : Int) : (D.log.take (max 0 (min keep D.log.length)).toNat).length ≤ D.log.length := by
  rw [List.length_take]; omega
theorem inv_cutFs (h : Inv N D) (hN : N ≤ 999999990) (keep : Int) : FInv N (cutFs D keep) := by
  obtain ⟨K, h1, h2⟩ := h.base
  have := take_len D keep
  exact finv_empties (finv_exits ((finv_replay _ (fun x hx => h.ok x (List.mem_of_mem_take hx)) h1 (by omega)).more (by omega)))
theorem inv_cut (h : Inv N D) (hN : N ≤ 999999990) (keep : Int) : Inv N (cut D keep) := ⟨inv_cutFs h hN keep, ⟨N, inv_cutFs h hN keep, by show N + 3 * 0 ≤ N; omega⟩, nofun⟩
theorem inv_doN (h : Inv N D) (hN : N ≤ 999999980) {o : Int} (ho : Fits o) {p : OpD} (hp : p.Ok) : Inv (N + 3) (doN D o p) := by
  obtain ⟨K, h1, h2⟩ := h.base
  refine ⟨finv_do h.now (by omega) ho p, ⟨K, h1, ?_⟩, fun l hl => ?_⟩
  · unfold doN
    simp only
    split
    · rw [List.length_append, List.length_singleton]; omega
    · omega
  · unfold doN at hl
    simp only at hl
    split at hl
    · rcases List.mem_append.1 hl with hl | hl
      · exact h.ok l hl
      · rcases List.mem_singleton.1 hl with rfl
        exact ⟨ho, fun q hq => by cases hq; exact hp⟩
    · exact h.ok l hl
theorem inv_do (h : Inv N D) (hN : N ≤ 999999980) {o : Int} (ho : Fits o) {p : OpD} (hp : p.Ok) : Inv (N + 3) (do_ D o p).2 := by
  unfold do_
  split
  · exact (inv_sync h).more (by omega)
  · exact inv_doN h hN ho hp
theorem inv_exit (h : Inv N D) {o : Int} (ho : Fits o) : Inv (N + 3) (exit D o) := by
  unfold exit
  split
  · obtain ⟨K, h1, h2⟩ := h.base
    refine ⟨(finv_exit h.now ho).more (by omega), ⟨K, h1, by rw [List.length_append, List.length_singleton]; omega⟩, fun l hl => ?_⟩
    rcases List.mem_append.1 hl with hl | hl
    · exact h.ok l hl
    · rcases List.mem_singleton.1 hl with rfl
      exact ⟨ho, nofun⟩
  · exact h.more (by omega)
end
end Ol
end Go.Proofs.YtcicjklhbnipcaaGreatDoor
namespace Go.Proofs.YtcicjklhbnipcaaGreatDoor
set_option linter.unusedVariables false
set_option linter.unusedSimpArgs false
namespace In
section
variable {N : Nat} {t : TabD}
theorem make_bad {dir : Int} {s : ByteArray} {b : Bool} (h : (make t dir s b).2.1 ≠ 0) : (make t dir s b).2.2 = t := by
  unfold make at h ⊢
  split
  · rename_i e
    rw [if_pos e] at h
    exact absurd rfl h
  · rfl
theorem pair_bad {c : Bool} {a : TabD} {e : Int} (h : (if c then ((0 : Int), a) else (e, t)).1 ≠ 0) : (if c then ((0 : Int), a) else (e, t)).2 = t := by
  cases c with
  | true => exact absurd rfl h
  | false => rfl
theorem hold_bad {id : Int} (h : (hold t id).1 ≠ 0) : (hold t id).2 = t := pair_bad h
theorem write_bad {id a : Int} {s : ByteArray} (h : (write t id a s).1 ≠ 0) : (write t id a s).2 = t := pair_bad h
theorem trunc_bad {id n : Int} (h : (trunc t id n).1 ≠ 0) : (trunc t id n).2 = t := pair_bad h
theorem remove_bad {id : Int} {s : ByteArray} (h : (remove t id s).1 ≠ 0) : (remove t id s).2 = t := pair_bad h
theorem unlink_bad {id : Int} {s : ByteArray} (h : (unlink t id s).1 ≠ 0) : (unlink t id s).2 = t := pair_bad h
theorem link_bad {id dir : Int} {s : ByteArray} (h : (link t id dir s).1 ≠ 0) : (link t id dir s).2 = t := pair_bad h
theorem rename_bad {dir tod : Int} {s as_ : ByteArray} (h : (rename t dir s tod as_).1 ≠ 0) : (rename t dir s tod as_).2 = t := pair_bad h
/-- What was made just now can be held. -/
theorem hold_made (I : Inv N t) {dir : Int} {s : ByteArray} (h : (make t dir s false).2.1 = 0) : (hold (make t dir s false).2.2 (make t dir s false).1).1 = 0 := by
  unfold make at h ⊢
  cases he : makeE t dir s == 0 with
  | false => rw [he] at h; have h' : makeE t dir s = 0 := h; rw [h'] at he; cases he
  | true =>
    show (hold (makeT t dir s false) (t.last + 1)).1 = 0
    have hne : ∀ m ∈ (nameIn t dir s (t.last + 1)).nodes, m.id ≠ (⟨t.last + 1, false, 1, 0, ByteArray.empty, []⟩ : NodeD).id := fun m hm => by
      have hm' : m ∈ set t.nodes ((at_ t dir).setNames (with_ (at_ t dir).names s (t.last + 1))) := hm
      unfold set at hm'
      obtain ⟨y, hy, e⟩ := List.mem_map.1 hm'
      have hp := (I.pos y hy).2
      have : m.id = y.id := by
        rw [← e]
        split
        · rename_i hh
          exact (by simpa using hh : y.id = _).symm
        · rfl
      show m.id ≠ t.last + 1
      omega
    have hf : find (makeT t dir s false).nodes (t.last + 1) = some ⟨t.last + 1, false, 1, 0, ByteArray.empty, []⟩ := by
      show find ((nameIn t dir s (t.last + 1)).nodes ++ [⟨t.last + 1, false, 1, 0, ByteArray.empty, []⟩]) (t.last + 1) = _
      rw [find_snoc hne, if_pos rfl]
    have hE : holdE (makeT t dir s false) (t.last + 1) = 0 := by
      unfold holdE getE
      rw [at_some hf]
      simp only [hf]
      rfl
    unfold hold
    rw [hE]
    rfl
end
end In
namespace Fs
variable {N : Nat} {d : FsD}
theorem gives_bad {o id : Int} (h : (gives d o id).1.err ≠ 0) : (gives d o id).2 = d := by
  unfold gives at h ⊢
  split
  · rename_i e
    rw [if_pos e] at h
    exact absurd rfl h
  · rename_i e
    rw [In.hold_bad e]
theorem stays (I : Inv N d) (o : Int) (p : OpD) (h : ¬ Ol.logs (do_ d o p).1 p) : (do_ d o p).2 = d := by
  have hk : (p.kind ≠ 6 ∧ p.kind ≠ 9 ∧ p.kind ≠ 13) → (do_ d o p).1.err ≠ 0 := fun hk he => h ⟨he, hk⟩
  clear h
  unfold do_ at hk ⊢
  split
  · rfl
  rename_i h1
  rw [if_neg h1] at hk
  split
  · rename_i h2
    rw [if_pos h2] at hk
    have hk := hk (by omega)
    unfold opens at hk ⊢
    split
    · rfl
    rename_i h3
    rw [if_neg h3] at hk
    split
    · rfl
    rename_i h4
    rw [if_neg h4] at hk
    split
    · rename_i h5
      rw [if_pos h5] at hk
      split
      · rename_i h6
        rw [In.make_bad h6]
      · rename_i h6
        rw [if_neg h6] at hk
        refine absurd ?_ hk
        unfold gives
        rw [if_pos (In.hold_made I.tbl (Decidable.not_not.1 h6))]
    · rename_i h5
      rw [if_neg h5] at hk
      split
      · rfl
      · rename_i h6
        rw [if_neg h6] at hk
        exact gives_bad hk
  rename_i h2
  rw [if_neg h2] at hk
  split
  · rename_i h3
    rw [if_pos h3] at hk
    unfold handled at hk ⊢
    split
    · rfl
    rename_i h4
    rw [if_neg h4] at hk
    split
    · rename_i h5
      rw [if_pos h5] at hk
      exact absurd rfl (hk (by omega))
    rename_i h5
    rw [if_neg h5] at hk
    split
    · rfl
    rename_i h6
    rw [if_neg h6] at hk
    split
    · rename_i h7
      rw [if_pos h7] at hk
      have hw : (In.write d.t (held d o p.h) p.at_ p.data).1 ≠ 0 := hk (by omega)
      rw [In.write_bad hw]
    rename_i h7
    rw [if_neg h7] at hk
    split
    · rename_i h8
      rw [if_pos h8] at hk
      have hw : (In.trunc d.t (held d o p.h) p.n).1 ≠ 0 := hk (by omega)
      rw [In.trunc_bad hw]
    · rfl
  rename_i h3
  rw [if_neg h3] at hk
  split
  · rfl
  rename_i h4
  rw [if_neg h4] at hk
  have hn : (named d p).1 ≠ 0 := hk (by omega)
  have key : (named d p).2 = d.t := by
    unfold named namedAt at hn ⊢
    split
    · rfl
    rename_i h5
    rw [if_neg h5] at hn
    split
    · rename_i h6
      rw [if_pos h6] at hn
      exact In.make_bad hn
    rename_i h6
    rw [if_neg h6] at hn
    split
    · rename_i h7
      rw [if_pos h7] at hn
      exact In.remove_bad hn
    rename_i h7
    rw [if_neg h7] at hn
    split
    · rename_i h8
      rw [if_pos h8] at hn
      exact In.unlink_bad hn
    rename_i h8
    rw [if_neg h8] at hn
    split
    · rename_i h9
      rw [if_pos h9] at hn
      split
      · rfl
      rename_i h10
      rw [if_neg h10] at hn
      split
      · rfl
      rename_i h11
      rw [if_neg h11] at hn
      exact In.link_bad hn
    rename_i h9
    rw [if_neg h9] at hn
    split
    · rfl
    rename_i h10
    rw [if_neg h10] at hn
    exact In.rename_bad hn
  rw [key]
end Fs
namespace Ol
theorem replay_snoc (d : FsD) (l : List LogD) (x : LogD) : replay d (l ++ [x]) = again (replay d l) x := by
  unfold replay
  rw [List.foldl_append]
  rfl
/-- Two disks: the second has done just the first 'k' that were logged by the first. -/
structure Two (k : Nat) (D E : DskD) : Prop where
  now : D.now = replay D.base D.log
  base : E.base = D.base
  log : E.log = D.log.take k
  now2 : E.now = replay E.base E.log
section
variable {k N : Nat} {D E : DskD} {o : Int} {p : OpD}
theorem len_doN (h : ¬ logs (Fs.do_ D.now o p).1 p) : (doN D o p).log = D.log := by
  show (if logs (Fs.do_ D.now o p).1 p then D.log ++ [(o, some p)] else D.log) = D.log
  exact if_neg h
theorem log_doN (h : logs (Fs.do_ D.now o p).1 p) : (doN D o p).log = D.log ++ [(o, some p)] := by
  show (if logs (Fs.do_ D.now o p).1 p then D.log ++ [(o, some p)] else D.log) = _
  exact if_pos h
end
end Ol
end Go.Proofs.YtcicjklhbnipcaaGreatDoor
namespace Go.Proofs.YtcicjklhbnipcaaGreatDoor
set_option linter.unusedVariables false
set_option linter.unusedSimpArgs false
namespace Fs
/-- No owner stands there without a handle. -/
def Full (d : FsD) : Prop := ∀ p ∈ d.h, p.2 ≠ z9
section
variable {N : Nat} {d : FsD} {o : Int}
theorem hOf_full (hF : Full d) (ho : o ∈ owners d) : hOf d.h o ≠ z9 := by
  obtain ⟨p, hp, rfl⟩ := List.mem_map.1 ho
  unfold hOf
  cases hf : d.h.find? fun q => q.1 == p.1 with
  | some q => exact hF q (List.mem_of_find?_eq_some hf)
  | none =>
    rw [List.find?_eq_none] at hf
    exact absurd (beq_self_eq_true p.1) (hf p hp)
theorem hOf_out (ho : o ∉ owners d) : hOf d.h o = z9 := by
  unfold hOf
  cases hf : d.h.find? fun q => q.1 == o with
  | some q =>
    have h1 := List.find?_some hf
    have e : q.1 = o := by simpa using h1
    exact absurd (List.mem_map.2 ⟨q, List.mem_of_find?_eq_some hf, e⟩) ho
  | none => rfl
theorem full_put {h : List (Int × List Int)} (hF : ∀ p ∈ h, p.2 ≠ z9) {l : List Int} (hl : l ≠ z9) : ∀ p ∈ put h o l, p.2 ≠ z9 := fun p hp => by
  rcases mem_ins.1 hp with rfl | hp
  · exact hl
  · exact hF p (List.mem_filter.1 hp).1
theorem full_shut {h : List (Int × List Int)} (hF : ∀ p ∈ h, p.2 ≠ z9) {l : List Int} : ∀ p ∈ shut h o l, p.2 ≠ z9 := fun p hp => by
  unfold shut at hp
  split at hp
  · have h1 := (List.mem_filter.1 hp)
    have h2 : p.1 ≠ o := by simpa using h1.2
    rcases mem_ins.1 h1.1 with rfl | h3
    · exact absurd rfl h2
    · exact hF p (List.mem_filter.1 h3).1
  · rename_i hl
    exact full_put hF hl p hp
theorem set_z9 {l : List Int} {k : Nat} {v : Int} (hk : k < l.length) (hv : v ≠ 0) : l.set k v ≠ z9 := fun e => by
  have h1 : v ∈ l.set k v := List.mem_set hk v
  rw [e] at h1
  unfold z9 at h1
  simp at h1
  exact hv h1
theorem hold_pos (I : In.Inv N d.t) {id : Int} (h : (In.hold d.t id).1 = 0) : id ≠ 0 := by
  have hE : In.holdE d.t id = 0 := by
    unfold In.hold at h
    split at h
    · rename_i e; simpa using e
    · exact h
  unfold In.holdE at hE
  split at hE
  · rename_i e
    obtain ⟨n, hn, -⟩ := In.getE_ok (show In.getE d.t id false = 0 by simpa using e)
    obtain ⟨hm, rfl⟩ := In.find_some hn
    have := I.pos n hm
    omega
  · rename_i e
    exact absurd (by simpa using hE) e
theorem full_gives (I : Inv N d) (hF : Full d) (o id : Int) : Full (gives d o id).2 := by
  unfold gives
  split
  · rename_i h
    refine full_put hF (set_z9 ?_ (hold_pos I.tbl h))
    have h1 := (hOf_row I o).1
    have h2 := free_le I o
    omega
  · exact hF
theorem full_opens (I : Inv N d) (hF : Full d) (o : Int) (p : OpD) : Full (opens d o p).2 := by
  unfold opens
  split
  · exact hF
  split
  · exact hF
  split
  · split
    · exact hF
    · exact full_gives (d := ⟨(In.make d.t (at_ d p.path).1.1 (at_ d p.path).1.2 false).2.2, d.h⟩) (inv_tbl I (In.inv_make I.tbl _ _ false) (by omega : N ≤ N + 2)|>.more (Nat.le_refl _)) hF o _
  split
  · exact hF
  · exact full_gives I hF o _
theorem full_do (I : Inv N d) (hF : Full d) (o : Int) (p : OpD) : Full (do_ d o p).2 := by
  unfold do_
  split
  · exact hF
  split
  · exact full_opens I hF o p
  split
  · unfold handled
    split
    · exact hF
    split
    · exact full_shut hF
    split
    · exact hF
    split
    · exact hF
    split
    · exact hF
    · exact hF
  split
  · exact hF
  · exact hF
/-- Who has handles behind an operation had some, or asked for it. -/
theorem own_put {P : Int → Prop} {h : List (Int × List Int)} {l : List Int} (hh : ∀ p ∈ h, P p.1) (ho : P o) : ∀ p ∈ put h o l, P p.1 := fun p hp => by
  rcases mem_ins.1 hp with rfl | hp
  · exact ho
  · exact hh p (List.mem_filter.1 hp).1
theorem own_shut {P : Int → Prop} {h : List (Int × List Int)} {l : List Int} (hh : ∀ p ∈ h, P p.1) (ho : P o) : ∀ p ∈ shut h o l, P p.1 := fun p hp => by
  unfold shut at hp
  split at hp
  · exact own_put hh ho p (List.mem_filter.1 hp).1
  · exact own_put hh ho p hp
theorem own_gives {P : Int → Prop} (hh : ∀ p ∈ d.h, P p.1) (ho : P o) (id : Int) : ∀ p ∈ (gives d o id).2.h, P p.1 := by
  unfold gives
  split
  · exact own_put hh ho
  · exact hh
theorem own_do {P : Int → Prop} (hh : ∀ p ∈ d.h, P p.1) (ho : P o) (q : OpD) : ∀ p ∈ (do_ d o q).2.h, P p.1 := by
  unfold do_
  split
  · exact hh
  split
  · unfold opens
    split
    · exact hh
    split
    · exact hh
    split
    · split
      · exact hh
      · exact own_gives (d := ⟨(In.make d.t (at_ d q.path).1.1 (at_ d q.path).1.2 false).2.2, d.h⟩) hh ho _
    split
    · exact hh
    · exact own_gives hh ho _
  split
  · unfold handled
    split
    · exact hh
    split
    · exact own_shut hh ho
    split
    · exact hh
    split
    · exact hh
    split
    · exact hh
    · exact hh
  split
  · exact hh
  · exact hh
theorem own_exitL {P : Int → Prop} (ho : P o) : ∀ (l : List Int) (n : Nat) (d : FsD), (∀ p ∈ d.h, P p.1) → ∀ p ∈ (exitL o l n d).h, P p.1
  | [], _, _, h => h
  | i :: r, n, d, h => by
    unfold exitL
    refine own_exitL ho r (n + 1) _ ?_
    split
    · exact own_shut h ho
    · exact h
theorem exitL_none (o : Int) : ∀ (l : List Int) (n : Nat) (d : FsD), (∀ i ∈ l, i = 0) → exitL o l n d = d
  | [], _, _, _ => rfl
  | i :: r, n, d, h => by
    unfold exitL
    rw [if_neg (by rw [h i (.head _)]; simp)]
    exact exitL_none o r (n + 1) d fun j hj => h j (.tail _ hj)
theorem exit_none (ho : o ∉ owners d) : exit d o = d := by
  unfold exit
  rw [hOf_out ho]
  exact exitL_none o _ 0 d (by decide)
theorem full_exitL (o : Int) : ∀ (l : List Int) (n : Nat) (d : FsD), Full d → Full (exitL o l n d)
  | [], _, _, h => h
  | i :: r, n, d, h => by
    unfold exitL
    refine full_exitL o r (n + 1) _ ?_
    split
    · exact full_shut h
    · exact h
theorem full_exit (hF : Full d) (o : Int) : Full (exit d o) := full_exitL o _ 0 d hF
/-- All handles of an owner go. -/
theorem hOf_exitL (o : Int) : ∀ (l : List Int) (n : Nat) (d : FsD), n + l.length = 9 → hOf d.h o = List.replicate n 0 ++ l → hOf (exitL o l n d).h o = z9
  | [], n, d, hn, h => by
    unfold exitL
    rw [h]
    simp only [List.length_nil] at hn
    obtain rfl : n = 9 := by omega
    rfl
  | i :: r, n, d, hn, h => by
    rw [List.length_cons] at hn
    have hs : List.replicate (n + 1) (0 : Int) ++ r = (List.replicate n 0 ++ i :: r).set n 0 := by
      rw [List.set_append_right _ _ (by simp)]
      simp [List.replicate_succ']
    unfold exitL
    refine hOf_exitL o r (n + 1) _ (by omega) ?_
    split
    · unfold closes
      simp only
      rw [hOf_shut, if_pos rfl, h, hs]
    · rename_i hi
      have : i = 0 := Decidable.not_not.1 hi
      rw [h, this]
      simp [List.replicate_succ']
theorem hOf_exit (I : Inv N d) (o : Int) : hOf (exit d o).h o = z9 := hOf_exitL o _ 0 d (by rw [(hOf_row I o).1]) (by simp)
theorem out_exit (I : Inv N d) (hF : Full d) (o : Int) : o ∉ owners (exit d o) := fun h => hOf_full (full_exit hF o) h (hOf_exit I o)
theorem owners_exit {q : Int} (h : q ∈ owners (exit d o)) : q ∈ owners d := by
  by_cases ho : o ∈ owners d
  · obtain ⟨p, hp, rfl⟩ := List.mem_map.1 h
    exact own_exitL (P := fun q => q ∈ owners d) ho _ 0 d (fun p hp => List.mem_map.2 ⟨p, hp, rfl⟩) p hp
  · rwa [exit_none ho] at h
theorem owners_nil (h : ∀ q, q ∉ owners d) : owners d = [] := List.eq_nil_iff_forall_not_mem.2 h
theorem exits_nil : ∀ (l : List Int) (d : FsD), Inv N d → Full d → (∀ q ∈ owners d, q ∈ l) → owners (l.foldl exit d) = []
  | [], d, _, _, h => owners_nil fun q hq => by cases h q hq
  | o :: r, d, I, hF, h => by
    rw [List.foldl_cons]
    refine exits_nil r _ (inv_exit I o) (full_exit hF o) fun q hq => ?_
    rcases List.mem_cons.1 (h q (owners_exit hq)) with rfl | h1
    · exact absurd hq (out_exit I hF q)
    · exact h1
/-- A name that is taken away: handles stay. -/
theorem out_h {o : Int} {p : OpD} (hk : p.kind = 2 ∨ p.kind = 11) : (do_ d o p).2.h = d.h := by
  unfold do_
  split
  · rfl
  split
  · exfalso; omega
  split
  · exfalso; omega
  split
  · rfl
  · rfl
end
end Fs
namespace Ol
section
variable {N : Nat} {d : FsD} {D : DskD} {o : Int} {p : OpD}
theorem owners_exits (I : Fs.Inv N d) (hF : Fs.Full d) : Fs.owners (exits d) = [] := Fs.exits_nil _ d I hF fun _ h => h
theorem empty1_h (d : FsD) (x : FileD) : (empty1 d x).h = d.h := by
  unfold empty1
  split
  · refine Fs.out_h ?_
    show (if x.dir then (2 : Int) else 11) = 2 ∨ (if x.dir then (2 : Int) else 11) = 11
    split <;> simp
  · rfl
theorem empties_h (d : FsD) : (empties d).h = d.h := by
  unfold empties
  generalize (Fs.files d).reverse = l
  induction l generalizing d with
  | nil => rfl
  | cons x r ih => rw [List.foldl_cons, ih, empty1_h]
theorem full_again (I : FInv N d) (hF : Fs.Full d) (l : LogD) : Fs.Full (again d l) := by
  obtain ⟨o, _ | p⟩ := l
  · exact Fs.full_exit hF o
  · exact Fs.full_do I.inv hF o p
theorem full_replay : ∀ (l : List LogD) {N : Nat} {d : FsD}, (∀ x ∈ l, LogOk x) → FInv N d → N + 3 * l.length ≤ 999999990 → Fs.Full d → Fs.Full (replay d l)
  | [], _, _, _, _, _, h => h
  | x :: r, N, d, hl, I, hN, h => by
    rw [List.length_cons] at hN
    exact full_replay r (fun y hy => hl y (.tail _ hy)) (finv_again I (by omega) (hl x (.head _))) (by omega) (full_again I h x)
/-- No owner stands there without a handle, in what is and what is sure; and what is comes from what is sure by what was logged. -/
structure Good (D : DskD) : Prop where
  now : Fs.Full D.now
  base : Fs.Full D.base
  is : D.now = replay D.base D.log
theorem good_new (q : Int) : Good (new q) := ⟨nofun, nofun, rfl⟩
theorem good_sync (h : Good D) : Good (sync D) := ⟨h.now, h.now, rfl⟩
theorem good_doN (I : Inv N D) (h : Good D) : Good (doN D o p) := by
  refine ⟨Fs.full_do I.now.inv h.now o p, h.base, ?_⟩
  by_cases hl : logs (Fs.do_ D.now o p).1 p
  · show (Fs.do_ D.now o p).2 = replay D.base (doN D o p).log
    rw [log_doN hl, replay_snoc, ← h.is]
    rfl
  · show (Fs.do_ D.now o p).2 = replay D.base (doN D o p).log
    rw [len_doN hl, Fs.stays I.now.inv o p hl]
    exact h.is
theorem good_do (I : Inv N D) (h : Good D) : Good (do_ D o p).2 := by
  unfold do_
  split
  · exact good_sync h
  · exact good_doN I h
theorem good_exit (h : Good D) : Good (exit D o) := by
  unfold exit
  split
  · exact ⟨Fs.full_exit h.now o, h.base, by show Fs.exit D.now o = replay D.base (D.log ++ [(o, none)]); rw [replay_snoc, ← h.is]; rfl⟩
  · exact h
theorem full_cutFs (I : Inv N D) (h : Good D) (hN : N ≤ 999999990) (k : Int) : Fs.Full (cutFs D k) := by
  obtain ⟨K, h1, h2⟩ := I.base
  have h3 := take_len D k
  have hr := full_replay (D.log.take (max 0 (min k D.log.length)).toNat) (fun x hx => I.ok x (List.mem_of_mem_take hx)) h1 (by omega) h.base
  have hf := finv_replay (D.log.take (max 0 (min k D.log.length)).toNat) (fun x hx => I.ok x (List.mem_of_mem_take hx)) h1 (by omega)
  unfold Fs.Full cutFs
  rw [empties_h]
  have : Fs.owners (exits (replay D.base (D.log.take (max 0 (min k D.log.length)).toNat))) = [] := owners_exits hf.inv hr
  intro p hp
  have h4 : p.1 ∈ Fs.owners (exits (replay D.base (D.log.take (max 0 (min k D.log.length)).toNat))) := List.mem_map.2 ⟨p, hp, rfl⟩
  rw [this] at h4
  cases h4
/-- Nobody has a handle behind a power failure. -/
theorem owners_cut (I : Inv N D) (h : Good D) (hN : N ≤ 999999990) (k : Int) : Fs.owners (cutFs D k) = [] := by
  obtain ⟨K, h1, h2⟩ := I.base
  have h3 := take_len D k
  have hr := full_replay (D.log.take (max 0 (min k D.log.length)).toNat) (fun x hx => I.ok x (List.mem_of_mem_take hx)) h1 (by omega) h.base
  have hf := finv_replay (D.log.take (max 0 (min k D.log.length)).toNat) (fun x hx => I.ok x (List.mem_of_mem_take hx)) h1 (by omega)
  have : Fs.owners (exits (replay D.base (D.log.take (max 0 (min k D.log.length)).toNat))) = [] := owners_exits hf.inv hr
  unfold Fs.owners cutFs at *
  rw [empties_h]
  exact this
theorem good_cut (I : Inv N D) (h : Good D) (hN : N ≤ 999999990) (k : Int) : Good (cut D k) := ⟨full_cutFs I h hN k, full_cutFs I h hN k, rfl⟩
theorem owners_do {q : Int} (h : q ∈ Fs.owners (do_ D o p).2.now) : q ∈ Fs.owners D.now ∨ q = o := by
  unfold do_ at h
  split at h
  · exact .inl h
  · obtain ⟨x, hx, rfl⟩ := List.mem_map.1 h
    exact Fs.own_do (P := fun q => q ∈ Fs.owners D.now ∨ q = o) (fun x hx => .inl (List.mem_map.2 ⟨x, hx, rfl⟩)) (.inr rfl) p x hx
theorem owners_exitD {q : Int} (h : q ∈ Fs.owners (exit D o).now) : q ∈ Fs.owners D.now := by
  unfold exit at h
  split at h
  · exact Fs.owners_exit h
  · exact h
/-- Who has no handle asks in vain through one. -/
theorem no_handle {q : OpD} (ho : o ∉ Fs.owners D.now) (hr : Pt.right q = true) (hk : q.kind = 9) : do_ D o q = (Fs.errR 13, D) := by
  have hz : Fs.held D.now o q.h = 0 := by
    unfold Fs.held
    split
    · rename_i h
      rw [Fs.hOf_out ho]
      have : q.h.toNat ≤ 8 := by omega
      generalize q.h.toNat = n at this
      match n, this with
      | 0, _ | 1, _ | 2, _ | 3, _ | 4, _ | 5, _ | 6, _ | 7, _ | 8, _ => rfl
    · rfl
  have hd : Fs.do_ D.now o q = (Fs.errR 13, D.now) := by
    unfold Fs.do_
    rw [if_neg (by rw [hr]; simp), if_neg (by omega), if_pos (by omega)]
    unfold Fs.handled
    rw [if_pos hz]
  unfold do_
  rw [if_neg (by omega), hd]
  unfold doN
  rw [hd, if_neg (fun h => by have := h.1; simp [Fs.errR] at this)]
end
end Ol
end Go.Proofs.YtcicjklhbnipcaaGreatDoor
namespace Go.Proofs.YtcicjklhbnipcaaGreatDoor
set_option linter.unusedVariables false
set_option linter.unusedSimpArgs false
structure WrlD where
  d : DskD
  p : PrcD
namespace Wd
def new (q : Int) : WrlD := ⟨Ol.new q, ⟨[], 0⟩⟩
def spawn (W : WrlD) (pid : Int) : WrlD := ⟨W.d, (Pc.spawn W.p pid).2⟩
def kill (W : WrlD) (pid : Int) : Int × WrlD := if Pc.birth W.p.births pid = 0 then (3, W) else (0, ⟨Ol.exit W.d (Pc.birth W.p.births pid), (Pc.kill W.p pid).2⟩)
def power (W : WrlD) (k : Int) : WrlD := ⟨Ol.cut W.d k, Pc.killAll W.p⟩
def aliveR (b : Bool) : ResD := if b then ⟨0, 1, ⟨#[]⟩, []⟩ else Fs.errR 0
def do_ (W : WrlD) (pid : Int) (op : OpD) : ResD × WrlD :=
  if Pc.birth W.p.births pid = 0 then (Fs.errR 3, W)
  else if op.kind = 15 then (aliveR (Pc.alive W.p op.pid op.birth), W)
  else ((Ol.do_ W.d (Pc.birth W.p.births pid) op).1, ⟨(Ol.do_ W.d (Pc.birth W.p.births pid) op).2, W.p⟩)
/-- What is always so of a world. -/
structure Inv (N : Nat) (W : WrlD) : Prop where
  disk : Ol.Inv N W.d
  fit : Pc.Fit W.p
  good : Ol.Good W.d
  own : ∀ o ∈ Fs.owners W.d.now, o ≤ W.p.last
  last : W.p.last ≤ N
section
variable {N M : Nat} {W : WrlD} {pid : Int}
theorem Inv.more (h : Inv N W) (hM : N ≤ M) : Inv M W := ⟨h.disk.more hM, h.fit, h.good, h.own, by have := h.last; omega⟩
theorem inv_new {q : Int} (h0 : 64 ≤ q) (h1 : q ≤ 1099511627776) : Inv 1 (new q) := ⟨Ol.inv_new h0 h1, Pc.fit_new, Ol.good_new q, nofun, by show (0 : Int) ≤ 1; decide⟩
theorem inv_spawn (h : Inv N W) (pid : Int) : Inv (N + 3) (spawn W pid) := by
  have h1 := Pc.spawn_last W.p pid
  have h2 := h.last
  exact ⟨h.disk.more (by omega), Pc.fit_spawn h.fit pid, h.good, fun o ho => by have := h.own o ho; show o ≤ (Pc.spawn W.p pid).2.last; omega, by show (Pc.spawn W.p pid).2.last ≤ _; omega⟩
theorem birth_fits (h : Inv N W) (hN : N ≤ 999999980) (pid : Int) : Fits (Pc.birth W.p.births pid) := by
  have h1 := Pc.birth_le h.fit pid
  have h2 := h.last
  exact fits_of (by omega) (by omega)
theorem inv_kill (h : Inv N W) (hN : N ≤ 999999980) (pid : Int) : Inv (N + 3) (kill W pid).2 := by
  unfold kill
  split
  · exact h.more (by omega)
  · refine ⟨Ol.inv_exit h.disk (birth_fits h hN pid), Pc.fit_kill h.fit pid, Ol.good_exit h.good, fun o ho => ?_, ?_⟩
    · show o ≤ (Pc.kill W.p pid).2.last
      rw [Pc.kill_last]
      exact h.own o (Ol.owners_exitD ho)
    · show (Pc.kill W.p pid).2.last ≤ _
      rw [Pc.kill_last]
      have := h.last
      omega
theorem inv_power (h : Inv N W) (hN : N ≤ 999999990) (k : Int) : Inv N (power W k) := by
  refine ⟨Ol.inv_cut h.disk hN k, Pc.fit_killAll h.fit, Ol.good_cut h.disk h.good hN k, fun o ho => ?_, h.last⟩
  have : o ∈ Fs.owners (Ol.cutFs W.d k) := ho
  rw [Ol.owners_cut h.disk h.good hN k] at this
  cases this
theorem inv_do (h : Inv N W) (hN : N ≤ 999999980) (pid : Int) {op : OpD} (hp : op.Ok) : Inv (N + 3) (do_ W pid op).2 := by
  unfold do_
  split
  · exact h.more (by omega)
  split
  · exact h.more (by omega)
  · refine ⟨Ol.inv_do h.disk hN (birth_fits h hN pid) hp, h.fit, Ol.good_do h.disk h.good, fun o ho => ?_, by have := h.last; show W.p.last ≤ _; omega⟩
    rcases Ol.owners_do ho with h1 | rfl
    · exact h.own o h1
    · exact (Pc.birth_le h.fit pid).2
/-- Who began just now has no handles. -/
theorem fresh_size (h : Inv N W) (he : Pc.spawnE W.p pid = 0) {q : OpD} (hk : q.kind = 9) : do_ (spawn W pid) pid q = (Fs.errR 13, spawn W pid) ∧ (Pc.spawn W.p pid).1 = (W.p.last + 1, 0) ∧ (spawn W pid).p.last = W.p.last + 1 := by
  have hs : Pc.spawn W.p pid = ((W.p.last + 1, 0), ⟨Pc.put W.p.births pid (W.p.last + 1), W.p.last + 1⟩) := if_pos he
  have hl := h.fit.last
  have hb : Pc.birth (spawn W pid).p.births pid = W.p.last + 1 := by
    unfold spawn
    rw [hs]
    exact Pc.birth_put _ _ _
  refine ⟨?_, by rw [hs], by unfold spawn; rw [hs]⟩
  unfold do_
  rw [hb, if_neg (by omega), if_neg (by omega), Ol.no_handle (fun ho => by have := h.own _ ho; omega) (by unfold Pt.right; rw [if_pos (by omega)]) hk]
end
end Wd
end Go.Proofs.YtcicjklhbnipcaaGreatDoor
namespace Go.Proofs.YtcicjklhbnipcaaGreatDoor
set_option linter.unusedVariables false
set_option linter.unusedSimpArgs false
open Go.RowKit Go.Maps
def nodM (zs : List NodV) : List (Lit × Value) := zs.map fun z => (.int .i64 z.1.id, .agg z.cells.toArray)
theorem zs_mem {zs : List NodV} {t : TabD} (hz : zs.map (·.1) = t.nodes) {z : NodV} (h : z ∈ zs) : z.1 ∈ t.nodes := by rw [← hz]; exact List.mem_map_of_mem h
theorem look_nod {N : Nat} {t : TabD} (I : In.Inv N t) {zs : List NodV} (hz : zs.map (·.1) = t.nodes) {z : NodV} (h : z ∈ zs) (v : Value) : lookL (nodM zs) (.int .i64 z.1.id) v = .agg z.cells.toArray := by
  have key : ∀ zs : List NodV, (zs.map fun z => z.1).Pairwise (fun a b => a.id < b.id) → z ∈ zs → ((nodM zs).find? fun p => p.1.sameKey (.int .i64 z.1.id)) = some (.int .i64 z.1.id, .agg z.cells.toArray) := by
    intro zs hs hm
    induction zs with
    | nil => cases hm
    | cons y r ih =>
      rw [List.map_cons] at hs
      obtain ⟨h1, h2⟩ := List.pairwise_cons.1 hs
      unfold nodM
      rw [List.map_cons, List.find?_cons]
      rcases List.mem_cons.1 hm with rfl | hm'
      · have : (Lit.int .i64 z.1.id).sameKey (.int .i64 z.1.id) = true := by
          show decide (IntKind.i64 = IntKind.i64 ∧ z.1.id = z.1.id) = true
          simp
        rw [this]
      · have hlt := h1 z.1 (List.mem_map_of_mem hm')
        have : (Lit.int .i64 y.1.id).sameKey (.int .i64 z.1.id) = false := by
          show decide (IntKind.i64 = IntKind.i64 ∧ y.1.id = z.1.id) = false
          simp
          omega
        rw [this]
        exact ih h2 hm'
  unfold lookL
  rw [key zs (by rw [hz]; exact I.asc) h]
theorem ents_flag (zs : List NodV) : flagged (zs.flatMap NodV.ents) := fun x hx => by
  obtain ⟨z, -, hx⟩ := List.mem_flatMap.1 hx
  exact slL_flag _ _ _ _ x hx
/-- Where Files' variables lie. -/
structure UndX where
  t3 : Nat
  t6 : Nat
  t7 : Nat
  m : Nat
def undH (u : UndX) (n : Nat) (s : Option (Nat × Nat)) : List Ent := [(u.t7, true, .cells [.func (.func 70) #[] #[.pointer (some ⟨u.t3, 0, none⟩), .pointer (some ⟨u.t6, 0, none⟩), .pointer (some ⟨u.t7, 0, none⟩)]] 125), (u.t6, true, .cells [slV s n] 47), (u.t3, true, .cells [.map (some u.m)] 119)]
abbrev fileL (s : Option (Nat × Nat)) (xs : List FileD) : List Ent := slL s (xs.flatMap FileD.cells) 112 3
abbrev FileOK (s : Option (Nat × Nat)) (xs : List FileD) : Prop := SlOK s xs.length (xs.flatMap FileD.cells) 3
def undL (u : UndX) (zs : List NodV) (s : Option (Nat × Nat)) (xs : List FileD) : List Ent := undH u xs.length s ++ ((u.m, true, mapR Tryz.prog 3 (nodM zs)) :: (fileL s xs ++ zs.flatMap NodV.ents))
theorem undL_flag (u : UndX) (zs : List NodV) (s : Option (Nat × Nat)) (xs : List FileD) : flagged (undL u zs s xs) := fun x hx => by
  unfold undL undH at hx
  simp only [List.cons_append, List.nil_append, List.mem_cons, List.mem_append] at hx
  rcases hx with rfl | rfl | rfl | rfl | hx | hx
  · rfl
  · rfl
  · rfl
  · rfl
  · exact slL_flag _ _ _ _ x hx
  · exact ents_flag zs x hx
/-- Files are appended to what was found. -/
def UndGoes (u : UndX) (zs : List NodV) (s : Option (Nat × Nat)) (xs ys : List FileD) (w : World) (e : Ending) (w' : World) : Prop :=
  e = .returned (.tuple #[]) ∧ ∃ s', FileOK s' (xs ++ ys) ∧ St w (keysOf (undL u zs s xs)) w' (undL u zs s' (xs ++ ys))
def fileOf (t : TabD) (dir : ByteArray) (p : ByteArray × Int) : FileD := ⟨Pt.join dir p.1, (In.at_ t p.2).dir, (In.at_ t p.2).data⟩
theorem ent_at {d : List (ByteArray × Int)} {j : Nat} {nm : ByteArray} {idv : Int} (h : d[j]? = some (nm, idv)) : ((entC d).drop (j * 2)).take 2 = [.string nm, .int .i64 idv] := by
  induction d generalizing j with
  | nil => simp at h
  | cons p r ih =>
    cases j with
    | zero =>
      rw [List.getElem?_cons_zero] at h
      cases h
      rfl
    | succ j =>
      rw [List.getElem?_cons_succ] at h
      have := ih h
      rw [show (j + 1) * 2 = j * 2 + 2 by omega]
      exact this
theorem entC_len (d : List (ByteArray × Int)) : (entC d).length = d.length * 2 := by
  unfold entC
  induction d with
  | nil => rfl
  | cons p r ih => rw [List.flatMap_cons, List.length_append, ih, List.length_cons]; simp; omega
section
variable {N : Nat} {t : TabD} {zs : List NodV} {u : UndX} {w : World}
/-- One inode's names lie ahead, the others' behind. -/
theorem und_perm {A B : List NodV} {z : NodV} {g cap : Nat} (hz : z.2 = some (g, cap)) (n : Nat) (s : Option (Nat × Nat)) (xs : List FileD) :
    (undH u n s ++ ((u.m, true, mapR Tryz.prog 3 (nodM zs)) :: (fileL s xs ++ (A ++ z :: B).flatMap NodV.ents))).Perm
      ((g, true, .pre (entC z.1.names) 127 (cap * 2)) :: (undH u n s ++ ((u.m, true, mapR Tryz.prog 3 (nodM zs)) :: (fileL s xs ++ (A.flatMap NodV.ents ++ B.flatMap NodV.ents))))) := by
  have e : z.ents = [(g, true, .pre (entC z.1.names) 127 (cap * 2))] := by unfold NodV.ents; rw [hz]; rfl
  rw [List.flatMap_append, List.flatMap_cons, e]
  have h1 : (A.flatMap NodV.ents ++ ([(g, true, Res.pre (entC z.1.names) 127 (cap * 2))] ++ B.flatMap NodV.ents)).Perm ((g, true, Res.pre (entC z.1.names) 127 (cap * 2)) :: (A.flatMap NodV.ents ++ B.flatMap NodV.ents)) := List.perm_middle
  refine (List.Perm.append_left _ ((h1.append_left _).cons _)).trans ?_
  refine (List.Perm.append_left _ ((List.perm_middle).cons _)).trans ?_
  refine (List.Perm.append_left _ (List.Perm.swap _ _ _)).trans ?_
  exact List.perm_middle
set_option maxHeartbeats 16000000 in
set_option maxRecDepth 100000 in
/-- What lies below a directory, if each name's walk is known. -/
theorem under_step (hz : zs.map (·.1) = t.nodes) (I : In.Inv N t) (hN : N ≤ 1000000000) (hks : ∀ z ∈ zs, SlOK z.2 z.1.names.length (entC z.1.names) 2)
    {z : NodV} (hzm : z ∈ zs) {dir : ByteArray} (hd : dir.size ≤ 4611686018427387904) (U : ByteArray × Int → List FileD) {Bd : Nat} (hBd : Bd ≤ 1000000000)
    (IH : ∀ p ∈ z.1.names, ∀ (xs : List FileD) (s : Option (Nat × Nat)) (W : World), xs.length + (U p).length ≤ Bd → FileOK s xs → At (undL u zs s xs) W →
      Calls Tryz.prog 70 #[.int .i64 p.2, .string (Pt.join dir p.1), .pointer (some ⟨u.t3, 0, none⟩), .pointer (some ⟨u.t6, 0, none⟩), .pointer (some ⟨u.t7, 0, none⟩)] W (UndGoes u zs s xs (U p) W))
    (xs : List FileD) (s : Option (Nat × Nat)) (hB : xs.length + (z.1.names.flatMap fun p => fileOf t dir p :: U p).length ≤ Bd) (hok : FileOK s xs) (hA : At (undL u zs s xs) w) :
    Calls Tryz.prog 70 #[.int .i64 z.1.id, .string dir, .pointer (some ⟨u.t3, 0, none⟩), .pointer (some ⟨u.t6, 0, none⟩), .pointer (some ⟨u.t7, 0, none⟩)] w (UndGoes u zs s xs (z.1.names.flatMap fun p => fileOf t dir p :: U p) w) := by
  have hM := hA.st
  unfold UndGoes
  obtain ⟨F, hF⟩ : ∃ F, keysOf (undL u zs s xs) = F := ⟨_, rfl⟩
  rw [hF] at hM ⊢
  clear hF hA
  have hfid : ∀ z' ∈ zs, Fits z'.1.id := fun z' hz' => by
    have := I.pos _ (zs_mem hz hz')
    have := I.last
    exact fits_of (by omega) (by omega)
  have hid := hfid z hzm
  obtain ⟨sa, sc, hsv, hsa⟩ := slV_open (hks z hzm)
  have hl : lookL (nodM zs) (.int .i64 z.1.id) zN = .agg #[.int .i64 z.1.id, .bool z.1.dir, .int .i64 z.1.links, .int .i64 z.1.holds, .string z.1.data, .slice sa z.1.names.length sc] := by
    rw [look_nod I hz hzm zN]
    unfold NodV.cells
    rw [hsv]
  obtain ⟨A, B, hAB⟩ := List.append_of_mem hzm
  have hnl : z.1.names.length ≤ 1000000000 := by
    have h1 := In.le_sum (f := fun n => n.names.length) (zs_mem hz hzm)
    have h2 := I.tot
    unfold In.tot at h2
    omega
  have HOK := Lib.hid hok
  have HZ := Lib.hid (hks z hzm)
  have CJ := Lib.hid (fun (nm : ByteArray) (W : World) (hn : nm.size ≤ 1000000) => Join_any dir nm W hd hn)
  unfold undL at hM
  clear hok hd
  rcases hz2 : z.2 with _ | ⟨g, cap⟩
  · have h0 : z.1.names = [] := by
      have := HZ.out
      rw [hz2] at this
      exact List.eq_nil_of_length_eq_zero this.2
    have h0l : z.1.names.length = 0 := by rw [h0]; rfl
    rw [h0l] at hl
    rw [h0]
    unfold undH at hM
    simp only [List.cons_append, List.nil_append] at hM
    go_enter Tryz.func70, Tryz.ntmps70
    (repeat (first | ((with_reducible show wpSeq _ _ _ _ _ _ _); ((first | (refine St.copy (v := ?_) (by exact .inl rfl) rfl rfl ?_ ?_; rotate_left; (focus ((try simp only [Act.eval, getD_lit, qGz, qGs]); with_reducible rfl))) | refine St.load rfl hM rfl rfl rfl rfl (by repeat constructor) (by rfl) (by kernel_rfl) ?_); (try simp only [Act.put, qSa, qSz, qSs]))) | (first | (refine wp_seq_shut (fun K hK => ?_)) | (refine wp_text hM (fun Kr hKr => ?_); simp only [inText]))))
    refine St.lookup rfl hM rfl rfl rfl rfl (by repeat constructor) key_int Tryz.underlying119 zero_node (keyOf_int_mk Tryz.underlying3 hid) hl ?_
    (try simp only [Act.put, qSa, qSz, qSs])
    refine St.field (off := 5) rfl rfl rfl rfl (by kernel_rfl) rfl ?_
    (try simp only [Act.put, qSa, qSz, qSs])
    (repeat (first | ((with_reducible show wpSeq _ _ _ _ _ _ _); first | ((with_reducible refine wpSeq_nil ?_); refine hKr.out _ _ ?_; clear hKr Kr) | ((first | (refine St.copy (v := ?_) (by exact .inl rfl) rfl rfl ?_ ?_; rotate_left; (focus ((try simp only [Act.eval, getD_lit, qGz, qGs]); with_reducible rfl))) | (refine St.pure (v := ?_) rfl rfl rfl (fun w => ?_) ?_; rotate_left; (focus (go_simp; all_goals with_reducible rfl)))); (try simp only [Act.put, qSa, qSz, qSs]))) | (first | refine wp_block ?_ | ((refine hK.out _ _ ?_); clear hK K))))
    refine wp_loop_rounds 1 ?_
    (refine rounds_shut (fun K hK => ?_))
    (repeat (first | ((with_reducible show wpSeq _ _ _ _ _ _ _); first | ((with_reducible refine wpSeq_nil ?_); refine hKr.out _ _ ?_; clear hKr Kr) | (((refine St.pure (v := ?_) rfl rfl rfl (fun w => ?_) ?_; rotate_left; (focus (go_simp; all_goals with_reducible rfl)))); (try simp only [Act.put, qSa, qSz, qSs]))) | (first | (refine wp_seq_shut (fun K hK => ?_)) | (refine wp_text hM (fun Kr hKr => ?_); simp only [inText]) | (refine wp_cond_false rfl ?_) | (refine wp_exit ?_; simp only [Exit.then, Exit.inBlock, if_true, if_false, reduceCtorEq, Nat.reduceEqDiff, Nat.succ_ne_zero]) | ((refine hK.out _ _ ?_); clear hK K))))
    ((refine St.fin hM rfl (by repeat (exact Outs.nil)) rfl ?_))
    refine ⟨rfl, s, by rw [List.flatMap_nil, List.append_nil]; exact HOK.out, ?_⟩
    rw [List.flatMap_nil, List.append_nil]
    exact hM
  · obtain ⟨rfl, rfl⟩ := hsa g cap hz2
    rw [show zs.flatMap NodV.ents = (A ++ z :: B).flatMap NodV.ents by rw [← hAB]] at hM
    replace hM := hM.perm (und_perm hz2 _ _ _)
    have HP := Lib.hid (fun (n : Nat) (s : Option (Nat × Nat)) (xs : List FileD) => und_perm (u := u) (zs := zs) (A := A) (B := B) hz2 n s xs)
    have HAB := Lib.hid (show (A ++ z :: B).flatMap NodV.ents = zs.flatMap NodV.ents by rw [← hAB])
    generalize (A ++ z :: B).flatMap NodV.ents = E1 at *
    generalize A.flatMap NodV.ents ++ B.flatMap NodV.ents = E2 at *
    have HI := Lib.hid I
    have HZZ := Lib.hid hz
    have HKS := Lib.hid hks
    have HFD := Lib.hid hfid
    have HIH := Lib.hid IH
    have HBB := Lib.hid hB
    clear hAB hz2 hsa hsv I hz hks hfid IH hB
    unfold undH at hM
    simp only [List.cons_append, List.nil_append] at hM
    go_enter Tryz.func70, Tryz.ntmps70
    (repeat (first | ((with_reducible show wpSeq _ _ _ _ _ _ _); ((first | (refine St.copy (v := ?_) (by exact .inl rfl) rfl rfl ?_ ?_; rotate_left; (focus ((try simp only [Act.eval, getD_lit, qGz, qGs]); with_reducible rfl))) | refine St.load rfl hM rfl rfl rfl rfl (by repeat constructor) (by rfl) (by kernel_rfl) ?_); (try simp only [Act.put, qSa, qSz, qSs]))) | (first | (refine wp_seq_shut (fun K hK => ?_)) | (refine wp_text hM (fun Kr hKr => ?_); simp only [inText]))))
    refine St.lookup rfl hM rfl rfl rfl rfl (by repeat constructor) key_int Tryz.underlying119 zero_node (keyOf_int_mk Tryz.underlying3 hid) hl ?_
    (try simp only [Act.put, qSa, qSz, qSs])
    refine St.field (off := 5) rfl rfl rfl rfl (by kernel_rfl) rfl ?_
    (try simp only [Act.put, qSa, qSz, qSs])
    (repeat (first | ((with_reducible show wpSeq _ _ _ _ _ _ _); first | ((with_reducible refine wpSeq_nil ?_); refine hKr.out _ _ ?_; clear hKr Kr) | ((first | (refine St.copy (v := ?_) (by exact .inl rfl) rfl rfl ?_ ?_; rotate_left; (focus ((try simp only [Act.eval, getD_lit, qGz, qGs]); with_reducible rfl))) | (refine St.pure (v := ?_) rfl rfl rfl (fun w => ?_) ?_; rotate_left; (focus (go_simp; all_goals with_reducible rfl)))); (try simp only [Act.put, qSa, qSz, qSs]))) | (first | refine wp_block ?_ | ((refine hK.out _ _ ?_); clear hK K))))
    go_loopw [16] (fun i wr => ∃ (k : Nat) (s' : Option (Nat × Nat)) (ys : List FileD), k ≤ z.1.names.length ∧ i = .int .i64 k ∧ ys = xs ++ (z.1.names.take k).flatMap (fun p => fileOf t dir p :: U p) ∧ FileOK s' ys ∧ St w F wr ((g, true, .pre (entC z.1.names) 127 (sc * 2)) :: (u.t7, true, .cells [.func (.func 70) #[] #[.pointer (some ⟨u.t3, 0, none⟩), .pointer (some ⟨u.t6, 0, none⟩), .pointer (some ⟨u.t7, 0, none⟩)]] 125) :: (u.t6, true, .cells [slV s' ys.length] 47) :: (u.t3, true, .cells [.map (some u.m)] 119) :: (u.m, true, mapR Tryz.prog 3 (nodM zs)) :: (fileL s' ys ++ E2))) (fun i _ => z.1.names.length - (intOf i).toNat)
    case atStart => exact ⟨0, s, xs, by omega, rfl, by simp, HOK.out, hM⟩
    case round =>
      clear hM
      obtain ⟨k, s', ys, hk, rfl, hys, hok', hM⟩ := hrel
      have HYS := Lib.hid hys
      have HOK' := Lib.hid hok'
      clear hys hok'
      by_cases hlt : k < z.1.names.length
      · obtain ⟨p, hp⟩ := get_at hlt
        obtain ⟨nm, idv⟩ := p
        have hpm := List.mem_of_getElem? hp
        have hzi := zs_mem HZZ.out hzm
        have hns := HI.out.short _ hzi _ hpm
        obtain ⟨n2, hn2⟩ := HI.out.leads _ hzi _ hpm
        simp only at hns hn2
        obtain ⟨hn2m, hn2i⟩ := In.find_some hn2
        obtain ⟨zc, hzc, hzce⟩ : ∃ zc ∈ zs, zc.1 = n2 := by
          rw [← HZZ.out] at hn2m
          obtain ⟨zc, h1, h2⟩ := List.mem_map.1 hn2m
          exact ⟨zc, h1, h2⟩
        have hat : In.at_ t idv = zc.1 := by rw [In.at_some hn2, hzce]
        have hidv : zc.1.id = idv := by rw [hzce]; exact hn2i
        obtain ⟨ca, cc, hcv, -⟩ := slV_open (HKS.out zc hzc)
        have hl2 : lookL (nodM zs) (.int .i64 idv) zN = .agg #[.int .i64 idv, .bool zc.1.dir, .int .i64 zc.1.links, .int .i64 zc.1.holds, .string zc.1.data, .slice ca zc.1.names.length cc] := by
          rw [← hidv, look_nod HI.out HZZ.out hzc zN]
          unfold NodV.cells
          rw [hcv]
        have hfv : Fits idv := by rw [← hidv]; exact HFD.out zc hzc
        have hent := ent_at hp
        have hfile : fileOf t dir (nm, idv) = ⟨Pt.join dir nm, zc.1.dir, zc.1.data⟩ := by unfold fileOf; rw [hat]
        have htake : (z.1.names.take (k + 1)).flatMap (fun p => fileOf t dir p :: U p) = (z.1.names.take k).flatMap (fun p => fileOf t dir p :: U p) ++ (⟨Pt.join dir nm, zc.1.dir, zc.1.data⟩ :: U (nm, idv)) := by
          rw [List.take_add_one, hp, Option.toList_some, List.flatMap_append, List.flatMap_singleton, hfile]
        have hys2 : (ys ++ [⟨Pt.join dir nm, zc.1.dir, zc.1.data⟩]) ++ U (nm, idv) = xs ++ (z.1.names.take (k + 1)).flatMap (fun p => fileOf t dir p :: U p) := by
          rw [htake, HYS.out]
          simp
        have hlen : ys.length + 1 + (U (nm, idv)).length ≤ Bd := by
          have h1 := congrArg List.length hys2
          have h2 : ((z.1.names.take (k + 1)).flatMap (fun p => fileOf t dir p :: U p)).length ≤ (z.1.names.flatMap fun p => fileOf t dir p :: U p).length := by
            conv => rhs; rw [← List.take_append_drop (k + 1) z.1.names]
            rw [List.flatMap_append, List.length_append]
            omega
          have h3 := HBB.out
          rw [List.length_append, List.length_append, List.length_append, List.length_singleton] at h1
          omega
        have CI := Lib.hid (fun s' W h1 h2 => HIH.out (nm, idv) hpm (ys ++ [⟨Pt.join dir nm, zc.1.dir, zc.1.data⟩]) s' W (by rw [List.length_append, List.length_singleton]; exact hlen) h1 h2)
        have CJ' := Lib.hid (fun W => CJ.out nm W (by omega))
        have HY2 := Lib.hid hys2
        have k1 : (k : Int) < (z.1.names.length : Int) := by omega
        have hel : k * 2 + 2 ≤ (entC z.1.names).length := by rw [entC_len]; omega
        have hyl : ys.length + 1 ≤ 1000000000 := by omega
        simp only at CI
        generalize Pt.join dir nm = J at *
        generalize U (nm, idv) = UP at *
        generalize zc.1.names.length = cn at *
        generalize zc.1.dir = zd at *
        generalize zc.1.links = zl at *
        generalize zc.1.holds = zh at *
        generalize zc.1.data = zt at *
        clear hp hpm hzi hns hn2 hn2m hn2i hzce hat hidv hcv hfile htake hys2 hlen hzc HBB HIH CJ
        (repeat (first | ((with_reducible show wpSeq _ _ _ _ _ _ _); first | ((with_reducible refine wpSeq_nil ?_); refine hKr.out _ _ ?_; clear hKr Kr) | (((refine St.pure (v := ?_) rfl rfl rfl (fun w => ?_) ?_; rotate_left; (focus (go_simp; all_goals with_reducible rfl)))); (try simp only [Act.put, qSa, qSz, qSs]))) | (first | (refine wp_seq_shut (fun K hK => ?_)) | (refine wp_text hM (fun Kr hKr => ?_); simp only [inText]) | refine wp_block ?_ | refine wp_skip ?_ | (refine wp_cond_true rfl ?_) | ((refine hK.out _ _ ?_); clear hK K))))
        refine St.loadRow rfl hM rfl rfl rfl rfl (by repeat constructor) (by exact hel) (by kernel_rfl) ?_
        simp only [Res.known]
        rw [hent]
        (try simp only [Act.put, qSa, qSz, qSs])
        (repeat (first | ((with_reducible show wpSeq _ _ _ _ _ _ _); first | ((with_reducible refine wpSeq_nil ?_); refine hKr.out _ _ ?_; clear hKr Kr) | ((first | (refine St.pure (v := ?_) rfl rfl rfl (fun w => ?_) ?_; rotate_left; (focus (go_simp; all_goals with_reducible rfl))) | refine St.load rfl hM rfl rfl rfl rfl (by repeat constructor) (by rfl) (by kernel_rfl) ?_ | ((((refine St.storeRow rfl hM rfl rfl rfl rfl rfl (by repeat constructor) (Nat.le_of_ble_eq_true rfl) (Nat.le_of_ble_eq_true rfl) (by kernel_rfl) rfl ?_ ?_); (focus ((intro h; cases h; done))); clear hM; intro w hM)); (try simp only [Res.put, Res.known, Act.eval, Value.cells, getD_lit, qGz, qGs, List.toList_toArray, qSz, qSs, over, Nat.reduceAdd] at hM))); (try simp only [Act.put, qSa, qSz, qSs])) | (((refine St.alloc (ty := 127) (z := .agg #[.string ⟨#[]⟩, .int .i64 0]) rfl hM rfl rfl (by kernel_rfl) ?_); clear hM; intro w bk hM); (try simp only [Res.put, Res.known, Act.eval, Value.cells, getD_lit, qGz, qGs, List.toList_toArray, qSz, qSs, over, Nat.reduceAdd] at hM); (try simp only [Act.put, qSa, qSz, qSs]))) | (first | (refine wp_seq_shut (fun K hK => ?_)) | (refine wp_text hM (fun Kr hKr => ?_); simp only [inText]) | ((refine hK.out _ _ ?_); clear hK K))))
        refine St.lookup rfl hM rfl rfl rfl rfl (by repeat constructor) key_int Tryz.underlying119 zero_node (keyOf_int_mk Tryz.underlying3 hfv) hl2 ?_
        (try simp only [Act.put, qSa, qSz, qSs])
        (repeat (first | ((with_reducible show wpSeq _ _ _ _ _ _ _); first | ((with_reducible refine wpSeq_nil ?_); refine hKr.out _ _ ?_; clear hKr Kr) | ((first | (refine St.copy (v := ?_) (by exact .inl rfl) rfl rfl ?_ ?_; rotate_left; (focus ((try simp only [Act.eval, getD_lit, qGz, qGs]); with_reducible rfl))) | (refine St.pure (v := ?_) rfl rfl rfl (fun w => ?_) ?_; rotate_left; (focus (go_simp; all_goals with_reducible rfl))) | refine St.load rfl hM rfl rfl rfl rfl (by repeat constructor) (by rfl) (by kernel_rfl) ?_ | ((((refine St.storeRow rfl hM rfl rfl rfl rfl rfl (by repeat constructor) (Nat.le_of_ble_eq_true rfl) (Nat.le_of_ble_eq_true rfl) (by kernel_rfl) rfl ?_ ?_); (focus ((intro h; cases h; done))); clear hM; intro w hM)); (try simp only [Res.put, Res.known, Act.eval, Value.cells, getD_lit, qGz, qGs, List.toList_toArray, qSz, qSs, over, Nat.reduceAdd] at hM))); (try simp only [Act.put, qSa, qSz, qSs])) | (((refine St.alloc (ty := 124) (z := .agg #[.int .i64 0, .bool false, .int .i64 0, .int .i64 0, .string ⟨#[]⟩, .slice none 0 0]) rfl hM rfl rfl (by kernel_rfl) ?_); clear hM; intro w bk hM); (try simp only [Res.put, Res.known, Act.eval, Value.cells, getD_lit, qGz, qGs, List.toList_toArray, qSz, qSs, over, Nat.reduceAdd] at hM); (try simp only [Act.put, qSa, qSz, qSs]))) | (first | (refine wp_seq_shut (fun K hK => ?_)) | (refine wp_text hM (fun Kr hKr => ?_); simp only [inText]) | ((refine hK.out _ _ ?_); clear hK K))))
        (refine St.call3 rfl rfl (by kernel_rfl) (fun R hR => ?_); simp only [List.map_toArray, List.map_cons, List.map_nil, Act.eval, getD_lit, qGz, qGs])
        refine (CJ'.out _).mono ?_
        rintro e w' ⟨rfl, rfl⟩; refine hR.out _ _ ?_; clear hR R; (try simp only [Act.put, qSa, qSz, qSs])
        (repeat (first | ((with_reducible show wpSeq _ _ _ _ _ _ _); first | ((with_reducible refine wpSeq_nil ?_); refine hKr.out _ _ ?_; clear hKr Kr) | ((first | (refine St.copy (v := ?_) (by first | exact .inl rfl | exact .inr rfl) rfl rfl ?_ ?_; rotate_left; (focus ((try simp only [Act.eval, getD_lit, qGz, qGs]); with_reducible rfl))) | (refine St.pure (v := ?_) rfl rfl rfl (fun w => ?_) ?_; rotate_left; (focus (go_simp; all_goals with_reducible rfl))) | refine St.load rfl hM rfl rfl rfl rfl (by repeat constructor) (by rfl) (by kernel_rfl) ?_ | (((((refine St.buildSlice (cells := ?_) (e := ?_) rfl hM rfl rfl (fun w => ?_) ?_; rotate_left 2; (focus (go_simp; all_goals with_reducible rfl)))); clear hM; intro w bk hM)); (try simp only [Res.put, Res.known, Act.eval, Value.cells, getD_lit, qGz, qGs, List.toList_toArray, qSz, qSs, over, Nat.reduceAdd] at hM))); (try simp only [Act.put, qSa, qSz, qSs]))) | (first | (refine wp_seq_shut (fun K hK => ?_)) | (refine wp_text hM (fun Kr hKr => ?_); simp only [inText]) | ((refine hK.out _ _ ?_); clear hK K))))
        refine St.append (s := s') (n := ys.length) (xs := ys.flatMap FileD.cells) rfl hM rfl rfl rfl rfl rfl (by kernel_rfl) (by intro s'; repeat (first | exact Swap.here | apply Swap.skip)) HOK'.out rfl (hM.news (by repeat constructor)) rfl (by rw [maxLen_val]; omega) (by omega) (fun h => by cases h) ?_
        clear hM; intro w s2 hM hk2 _
        have e1 : ys.flatMap FileD.cells ++ [.string J, .bool zd, .string zt] = (ys ++ [(⟨J, zd, zt⟩ : FileD)]).flatMap FileD.cells := by rw [List.flatMap_append, List.flatMap_singleton]; rfl
        have e2 : ys.length + 1 = (ys ++ [(⟨J, zd, zt⟩ : FileD)]).length := by simp
        simp only [Res.known] at hM hk2
        rw [e1] at hM hk2
        rw [e2] at hk2 ⊢
        have HK2 := Lib.hid hk2
        generalize ys ++ [(⟨J, zd, zt⟩ : FileD)] = ys2 at *
        obtain ⟨a2, c2, hv2, -⟩ := slV_open hk2
        rw [hv2]
        clear e1 e2 hk2
        (try simp only [Act.put, qSa, qSz, qSs])
        (repeat (first | ((with_reducible show wpSeq _ _ _ _ _ _ _); first | ((with_reducible refine wpSeq_nil ?_); refine hKr.out _ _ ?_; clear hKr Kr) | ((first | (refine St.copy (v := ?_) (by exact .inl rfl) rfl rfl ?_ ?_; rotate_left; (focus ((try simp only [Act.eval, getD_lit, qGz, qGs]); with_reducible rfl))) | (refine St.pure (v := ?_) rfl rfl rfl (fun w => ?_) ?_; rotate_left; (focus (go_simp; all_goals with_reducible rfl))) | refine St.load rfl hM rfl rfl rfl rfl (by repeat constructor) (by rfl) (by kernel_rfl) ?_ | ((((refine St.store rfl hM rfl rfl rfl rfl rfl (by repeat constructor) (Nat.le_of_ble_eq_true rfl) (by kernel_rfl) rfl ?_ ?_); (focus ((intro h; cases h; done))); clear hM; intro w hM)); (try simp only [Res.put, Res.known, Act.eval, Value.cells, getD_lit, qGz, qGs, List.toList_toArray, qSz, qSs, over, Nat.reduceAdd] at hM))); (try simp only [Act.put, qSa, qSz, qSs]))) | (first | (refine wp_text hM (fun Kr hKr => ?_); simp only [inText]) | ((refine hK.out _ _ ?_); clear hK K))))
        (refine St.callv rfl rfl rfl rfl (by kernel_rfl) (fun R hR => ?_); simp only [List.map_toArray, List.map_cons, List.map_nil, Act.eval, getD_lit, qGz, qGs, Array.append_empty, Array.empty_append])
        rw [← hv2] at hM
        have hU := hM.forget.forget.forget.perm (L' := undH u _ s2 ++ ((u.m, true, mapR Tryz.prog 3 (nodM zs)) :: (fileL s2 _ ++ E1))) (HP.out _ _ _).symm
        rw [HAB.out] at hU
        clear hM
        change St _ F w (undL u zs s2 ys2) at hU
        refine (CI.out s2 w HK2.out hU.whole).mono ?_
        rintro e w' ⟨rfl, s3, hk3, hN3⟩
        have hM := hU.backM Swap.all (undL_flag _ _ _ _) hN3 (undL_flag _ _ _ _)
        refine hR.out _ _ (fun _ => ⟨hM.only, nofun⟩) ?_
        clear hR R hU hN3 CI HK2 HOK'
        rw [HY2.out] at hM hk3
        have HK3 := Lib.hid hk3
        clear hk3
        unfold undL at hM
        rw [← HAB.out] at hM
        replace hM := hM.perm (HP.out _ _ _)
        unfold undH at hM
        simp only [List.cons_append, List.nil_append] at hM
        (try simp only [Act.put, qSa, qSz, qSs])
        (repeat (first | ((with_reducible show wpSeq _ _ _ _ _ _ _); first | ((with_reducible refine wpSeq_nil ?_); refine hKr.out _ _ ?_; clear hKr Kr) | ((first | (refine St.copy (v := ?_) (by exact .inl rfl) rfl rfl ?_ ?_; rotate_left; (focus ((try simp only [Act.eval, getD_lit, qGz, qGs]); with_reducible rfl))) | refine St.inc rfl rfl rfl rfl rfl (by omega) ?_); (try simp only [Act.put, qSa, qSz, qSs]))) | (first | (refine wp_text hM (fun Kr hKr => ?_); simp only [inText]) | ((refine hK.out _ _ ?_); clear hK K))))
        (refine ⟨?_, ?_⟩; (focus (repeat (first | exact ⟨⟨k + 1, s3, _, by omega, rfl, rfl, HK3.out, hM⟩, rfl⟩ | apply Exists.intro))); (simp only [getD_lit, qGz, qGs, intOf]; omega))
      · have k0 : ¬ ((k : Int) < (z.1.names.length : Int)) := by omega
        obtain rfl : k = z.1.names.length := by omega
        have hys := HYS.out
        rw [List.take_length] at hys
        subst hys
        clear hlt hk HYS
        (repeat (first | ((with_reducible show wpSeq _ _ _ _ _ _ _); first | ((with_reducible refine wpSeq_nil ?_); refine hKr.out _ _ ?_; clear hKr Kr) | (((refine St.pure (v := ?_) rfl rfl rfl (fun w => ?_) ?_; rotate_left; (focus (go_simp; all_goals with_reducible rfl)))); (try simp only [Act.put, qSa, qSz, qSs]))) | (first | (refine wp_seq_shut (fun K hK => ?_)) | (refine wp_text hM (fun Kr hKr => ?_); simp only [inText]) | (refine wp_cond_false rfl ?_) | (refine wp_exit ?_; simp only [Exit.then, Exit.inBlock, if_true, if_false, reduceCtorEq, Nat.reduceEqDiff, Nat.succ_ne_zero]) | ((refine hK.out _ _ ?_); clear hK K))))
        ((refine St.fin hM rfl (by repeat (exact Outs.nil)) rfl ?_))
        refine ⟨rfl, s', HOK'.out, ?_⟩
        have := hM.perm (L' := undH u _ s' ++ ((u.m, true, mapR Tryz.prog 3 (nodM zs)) :: (fileL s' _ ++ E1))) (HP.out _ _ _).symm
        rw [HAB.out] at this
        exact this
theorem join_size (d n : ByteArray) : (Pt.join d n).size ≤ d.size + n.size + 1 := by
  unfold Pt.join
  split
  · rw [ByteArray.size_append]; omega
  · rw [ByteArray.size_append, ByteArray.size_append]
    have : Pt.slash.size = 1 := rfl
    omega
theorem at_zs (hz : zs.map (·.1) = t.nodes) (I : In.Inv N t) {z : NodV} (h : z ∈ zs) : In.at_ t z.1.id = z.1 := In.at_some (In.find_asc I.asc (zs_mem hz h))
/-- All that lies below a directory. -/
theorem under_any (hz : zs.map (·.1) = t.nodes) (I : In.Inv N t) (hup : In.Up t) (hN : N ≤ 1000000000) (hks : ∀ z ∈ zs, SlOK z.2 z.1.names.length (entC z.1.names) 2) :
    ∀ (k : Nat) (z : NodV), z ∈ zs → (z.1.names = [] ∨ t.last + 1 ≤ z.1.id + k) → ∀ (dir : ByteArray), dir.size + 33 * k ≤ 4611686018427387904 → ∀ (xs : List FileD) (s : Option (Nat × Nat)) (W : World), xs.length + (Fs.under t k z.1.id dir).length ≤ 1000000000 → FileOK s xs → At (undL u zs s xs) W →
      Calls Tryz.prog 70 #[.int .i64 z.1.id, .string dir, .pointer (some ⟨u.t3, 0, none⟩), .pointer (some ⟨u.t6, 0, none⟩), .pointer (some ⟨u.t7, 0, none⟩)] W (UndGoes u zs s xs (Fs.under t k z.1.id dir) W)
  | 0, z, hzm, hl, dir, hd, xs, s, W, hB, hok, hA => by
    have h0 : z.1.names = [] := by
      rcases hl with h | h
      · exact h
      · have := (I.pos _ (zs_mem hz hzm)).2
        omega
    have := under_step hz I hN hks hzm (dir := dir) (by omega) (fun _ => []) (Bd := 1000000000) (Nat.le_refl _) (fun p hp => by rw [h0] at hp; cases hp) xs s (by rw [h0, List.flatMap_nil]; exact hB) hok hA
    rw [h0] at this
    exact this
  | k + 1, z, hzm, hl, dir, hd, xs, s, W, hB, hok, hA => by
    have e : Fs.under t (k + 1) z.1.id dir = z.1.names.flatMap fun p => fileOf t dir p :: Fs.under t k p.2 (Pt.join dir p.1) := by
      show ((In.at_ t z.1.id).names.flatMap fun p => fileOf t dir p :: Fs.under t k p.2 (Pt.join dir p.1)) = _
      rw [at_zs hz I hzm]
    rw [e] at hB ⊢
    refine under_step hz I hN hks hzm (by omega) (fun p => Fs.under t k p.2 (Pt.join dir p.1)) (Bd := 1000000000) (Nat.le_refl _) (fun p hp xs' s' W' hB' hok' hA' => ?_) xs s hB hok hA
    have hzi := zs_mem hz hzm
    have hns := I.short _ hzi _ hp
    obtain ⟨n2, hn2⟩ := I.leads _ hzi _ hp
    obtain ⟨hn2m, hn2i⟩ := In.find_some hn2
    obtain ⟨zc, hzc, hzce⟩ : ∃ zc ∈ zs, zc.1 = n2 := by
      rw [← hz] at hn2m
      obtain ⟨zc, h1, h2⟩ := List.mem_map.1 hn2m
      exact ⟨zc, h1, h2⟩
    have hidv : zc.1.id = p.2 := by rw [hzce]; exact hn2i
    have hj := join_size dir p.1
    have key := under_any hz I hup hN hks k zc hzc ?_ (Pt.join dir p.1) (by omega) xs' s' W' (by rw [hidv]; exact hB') hok' hA'
    · rw [hidv] at key
      exact key
    · cases hdr : zc.1.dir with
      | false => exact .inl (I.files _ (zs_mem hz hzc) hdr)
      | true =>
        refine .inr ?_
        have hlt := hup z.1.id z.1 p n2 (In.find_asc I.asc hzi) hp hn2 (by rw [← hzce]; exact hdr)
        rcases hl with h | h
        · rw [h] at hp; cases hp
        · omega
theorem put_nod (I : In.Inv N t) (hz : zs.map (·.1) = t.nodes) {k : Nat} {z : NodV} (h : zs[k]? = some z) : putL (.int .i64 z.1.id) (.agg z.cells.toArray) (nodM (zs.take k)) = nodM (zs.take (k + 1)) := by
  have hs : (zs.map fun z => z.1).Pairwise (fun a b => a.id < b.id) := by rw [hz]; exact I.asc
  have key : ∀ (l : List NodV), (∀ y ∈ l, y.1.id < z.1.id) → putL (.int .i64 z.1.id) (.agg z.cells.toArray) (nodM l) = nodM (l ++ [z]) := fun l hl => by
    have hdel : delL (.int .i64 z.1.id) (nodM l) = nodM l := by
      unfold delL
      rw [List.filter_eq_self]
      intro x hx
      obtain ⟨y, hy, rfl⟩ := List.mem_map.1 hx
      have := hl y hy
      show (!decide (IntKind.i64 = IntKind.i64 ∧ y.1.id = z.1.id)) = true
      have hne : y.1.id ≠ z.1.id := by omega
      simp [hne]
    unfold putL
    rw [hdel]
    clear hdel
    induction l with
    | nil => rfl
    | cons y r ih =>
      have h1 := hl y (.head _)
      have ih' := ih fun y' hy' => hl y' (.tail _ hy')
      unfold nodM at ih' ⊢
      rw [List.map_cons, List.cons_append, List.map_cons]
      unfold insL
      rw [if_neg (show ¬ (Lit.int .i64 z.1.id).before (.int .i64 y.1.id) = true by simp [Lit.before]; omega)]
      rw [ih']
  rw [key _ (fun y hy => ?_)]
  · rw [List.take_add_one, h]
    rfl
  · obtain ⟨i, hi, rfl⟩ := List.mem_take_iff_getElem.1 hy
    obtain ⟨hk, rfl⟩ := List.getElem?_eq_some_iff.1 h
    rw [List.pairwise_map] at hs
    exact List.pairwise_iff_getElem.1 hs i k (by omega) hk (by omega)
theorem row_at {k : Nat} {z : NodV} (h : zs[k]? = some z) : ((zs.flatMap NodV.cells).drop (k * 6)).take 6 = z.cells := by
  induction zs generalizing k with
  | nil => simp at h
  | cons p r ih =>
    cases k with
    | zero =>
      rw [List.getElem?_cons_zero] at h
      cases h
      rfl
    | succ k =>
      rw [List.getElem?_cons_succ] at h
      have := ih h
      rw [show (k + 1) * 6 = k * 6 + 6 by omega]
      exact this
theorem asc_len : ∀ (l : List NodeD) (lo hi : Int), In.asc l → (∀ n ∈ l, lo < n.id ∧ n.id ≤ hi) → lo ≤ hi → (l.length : Int) ≤ hi - lo
  | [], lo, hi, _, _, h => by simp; omega
  | y :: r, lo, hi, hs, hb, _ => by
    obtain ⟨h1, h2⟩ := List.pairwise_cons.1 hs
    have hy := hb y (.head _)
    have := asc_len r y.id hi h2 (fun n hn => ⟨h1 n hn, (hb n (.tail _ hn)).2⟩) (by omega)
    rw [List.length_cons]
    omega
theorem nodes_most (I : In.Inv N t) : t.nodes.length ≤ N := by
  have := asc_len t.nodes 0 t.last I.asc (fun n hn => by have := I.pos n hn; omega) (by have := I.last; omega)
  have := I.last
  omega
theorem names_most (I : In.Inv N t) {n : NodeD} (hn : n ∈ t.nodes) : n.names.length ≤ N := by
  have h1 := In.le_sum (f := fun n => n.names.length) hn
  have h2 := I.tot
  unfold In.tot at h2
  exact Nat.le_trans h1 h2
/-- It answers these files, in a slice of its own. -/
def SomeFiles (xs : List FileD) (w : World) (e : Ending) (w' : World) : Prop := ∃ s, e = .returned (slV s xs.length) ∧ FileOK s xs ∧ St w [] w' (fileL s xs)
end
section
variable {N : Nat} {x : FsX} {β : Int → Nat × Nat} {d : FsD} {w : World}
set_option maxHeartbeats 16000000 in
set_option maxRecDepth 100000 in
theorem fFiles_any {w0 : World} (h : FsAt N x β d w0) (hup : In.Up d.t) (hN : N ≤ 1000000) : Calls Tryz.prog 20 #[.pointer (some ⟨x.f, 0, none⟩)] w0 (SomeFiles (Fs.files d) w0) := by
  have hM := h.at_.ro
  unfold fsL at hM
  simp only [List.map_cons, unflag] at hM
  have HF := Lib.hid h
  have HFL := Lib.hid (Fs.files_len h.inv hup)
  have HUP := Lib.hid hup
  have HI := Lib.hid h.inv.tbl
  clear h hup
  generalize List.map unflag (tblL x.g x.mb β d.t) = E0 at *
  go_enter Tryz.func20, Tryz.ntmps20
  (repeat (first | ((with_reducible show wpSeq _ _ _ _ _ _ _); first | ((with_reducible refine wpSeq_nil ?_); refine hKr.out _ _ ?_; clear hKr Kr) | (((refine St.copy (v := ?_) (by first | exact .inl rfl | exact .inr rfl) rfl rfl ?_ ?_; rotate_left; (focus ((try simp only [Act.eval, getD_lit, qGz, qGs]); with_reducible rfl)))); (try simp only [Act.put, qSa, qSz, qSs]))) | (first | (refine wp_seq_shut (fun K hK => ?_)) | (refine wp_text hM (fun Kr hKr => ?_); simp only [inText]) | ((refine hK.out _ _ ?_); clear hK K))))
  (refine St.call3 rfl rfl (by kernel_rfl) (fun R hR => ?_); simp only [List.map_toArray, List.map_cons, List.map_nil, Act.eval, getD_lit, qGz, qGs])
  refine (fgiven_any (HF.out.below hM.to_below)).mono ?_
  rintro e w' ⟨rfl, rfl⟩; refine hR.out _ _ ?_; clear hR R; (try simp only [Act.put, qSa, qSz, qSs])
  (repeat (first | ((with_reducible show wpSeq _ _ _ _ _ _ _); first | ((with_reducible refine wpSeq_nil ?_); refine hKr.out _ _ ?_; clear hKr Kr) | (((refine St.pure (v := ?_) rfl rfl rfl (fun w => ?_) ?_; rotate_left; (focus (go_simp; all_goals with_reducible rfl)))); (try simp only [Act.put, qSa, qSz, qSs]))) | (first | (refine wp_seq_shut (fun K hK => ?_)) | (refine wp_text hM (fun Kr hKr => ?_); simp only [inText]) | refine wp_skip ?_ | (refine wp_cond_false rfl ?_) | ((refine hK.out _ _ ?_); clear hK K))))
  refine St.makeMap (kt := 3) rfl hM rfl rfl (fun w => ?_) ?_
  · go_simp
    simp [Instr.makeMap, newObj, Sem.run]
  clear hM; intro w b hM
  (try simp only [Act.put, qSa, qSz, qSs])
  (repeat (first | ((with_reducible show wpSeq _ _ _ _ _ _ _); first | ((with_reducible refine wpSeq_nil ?_); refine hKr.out _ _ ?_; clear hKr Kr) | ((first | (refine St.copy (v := ?_) (by exact .inl rfl) rfl rfl ?_ ?_; rotate_left; (focus ((try simp only [Act.eval, getD_lit, qGz, qGs]); with_reducible rfl))) | (refine St.pure (v := ?_) rfl rfl rfl (fun w => ?_) ?_; rotate_left; (focus (go_simp; all_goals with_reducible rfl))) | refine St.load rfl hM rfl rfl rfl rfl (by repeat constructor) (by rfl) (by kernel_rfl) ?_ | ((((refine St.store rfl hM rfl rfl rfl rfl rfl (by repeat constructor) (Nat.le_of_ble_eq_true rfl) (by kernel_rfl) rfl ?_ ?_); (focus ((intro h; cases h; done))); clear hM; intro w hM)); (try simp only [Res.put, Res.known, Act.eval, Value.cells, getD_lit, qGz, qGs, List.toList_toArray, qSz, qSs, over, Nat.reduceAdd] at hM))); (try simp only [Act.put, qSa, qSz, qSs])) | (((refine St.alloc (ty := 119) (z := .map none) rfl hM rfl rfl (by kernel_rfl) ?_); clear hM; intro w bk hM); (try simp only [Res.put, Res.known, Act.eval, Value.cells, getD_lit, qGz, qGs, List.toList_toArray, qSz, qSs, over, Nat.reduceAdd] at hM); (try simp only [Act.put, qSa, qSz, qSs]))) | (first | (refine wp_seq_shut (fun K hK => ?_)) | (refine wp_text hM (fun Kr hKr => ?_); simp only [inText]) | ((refine hK.out _ _ ?_); clear hK K))))
  (refine St.call3 rfl rfl (by kernel_rfl) (fun R hR => ?_); simp only [List.map_toArray, List.map_cons, List.map_nil, Act.eval, getD_lit, qGz, qGs])
  refine (Nodes9_any (HF.out.below hM.to_below).tbl (by have := HI.out.q0; omega) (fun n hn => fits_of (by have := HI.out.pos n hn; omega) (by have := HI.out.pos n hn; have := HI.out.last; omega)) (Nat.le_trans (nodes_most HI.out) hN) (fun n hn => Nat.le_trans (names_most HI.out hn) hN) (fun n hn => HI.out.sorted n hn)).mono ?_
  rintro e w' ⟨s0, zs, rfl, hz, hs0, hks, hN2⟩
  have HZ := Lib.hid hz
  have HKS := Lib.hid hks
  replace hM := hM.madeM hN2 (fun y hy => (List.mem_append.1 hy).elim (slL_flag _ _ _ _ y) (ents_flag zs y))
  refine hR.out _ _ ?_; clear hR R hN2
  obtain ⟨va, vc, hsv, hsa⟩ := slV_open hs0
  rw [hsv]
  have HS0 := Lib.hid hs0
  have hzl : zs.length ≤ 1000000 := by
    have h1 := nodes_most HI.out
    rw [← hz, List.length_map] at h1
    omega
  clear hz hks hs0 hsv
  replace hM := hM.perm (L' := slL s0 (zs.flatMap NodV.cells) 124 6 ++ ((bk, true, .cells [.map (some b)] 119) :: (b, true, mapR Tryz.prog 3 []) :: (zs.flatMap NodV.ents ++ ((x.f, false, .cells [.pointer (some ⟨x.g, 0, none⟩), .map (some x.hb)] 44) :: (x.hb, false, mapR Tryz.prog 3 (handL d.h)) :: E0)))) (perm_by (by intro _ x; simp only [List.append_eq, List.count_append, List.count_cons, List.count_nil, List.cons_append, List.nil_append]; omega))
  generalize (x.f, false, Res.cells [Value.pointer (some ⟨x.g, 0, none⟩), .map (some x.hb)] 44) :: (x.hb, false, mapR Tryz.prog 3 (handL d.h)) :: E0 = E1 at *
  generalize bk = t3b at *
  (try simp only [Act.put, qSa, qSz, qSs])
  (repeat (first | ((with_reducible show wpSeq _ _ _ _ _ _ _); first | ((with_reducible refine wpSeq_nil ?_); refine hKr.out _ _ ?_; clear hKr Kr) | ((first | (refine St.copy (v := ?_) (by exact .inl rfl) rfl rfl ?_ ?_; rotate_left; (focus ((try simp only [Act.eval, getD_lit, qGz, qGs]); with_reducible rfl))) | (refine St.pure (v := ?_) rfl rfl rfl (fun w => ?_) ?_; rotate_left; (focus (go_simp; all_goals with_reducible rfl)))); (try simp only [Act.put, qSa, qSz, qSs]))) | (first | refine wp_block ?_ | ((refine hK.out _ _ ?_); clear hK K))))
  go_loopw [18] (fun i wr => ∃ k : Nat, k ≤ zs.length ∧ i = .int .i64 k ∧ St w0 [] wr (slL s0 (zs.flatMap NodV.cells) 124 6 ++ ((t3b, true, .cells [.map (some b)] 119) :: (b, true, mapR Tryz.prog 3 (nodM (zs.take k))) :: (zs.flatMap NodV.ents ++ E1)))) (fun i _ => zs.length - (intOf i).toNat)
  case atStart => exact ⟨0, by omega, rfl, by rw [List.take_zero]; exact hM⟩
  case round =>
    clear hM
    obtain ⟨k, hk, rfl, hM⟩ := hrel
    by_cases hlt : k < zs.length
    · obtain ⟨z, hzk⟩ := get_at hlt
      cases s0 with
      | none => exact absurd HS0.out.2 (by omega)
      | some gc =>
      obtain ⟨g0, cap0⟩ := gc
      obtain ⟨rfl, rfl⟩ := hsa g0 cap0 rfl
      have hzm := List.mem_of_getElem? hzk
      have hrow := row_at hzk
      have hput := put_nod HI.out HZ.out hzk
      have hfv : Fits z.1.id := by
        have := HI.out.pos _ (zs_mem HZ.out hzm)
        have := HI.out.last
        exact fits_of (by omega) (by omega)
      obtain ⟨ca, cc, hcv, -⟩ := slV_open (HKS.out z hzm)
      have hcells : z.cells = [.int .i64 z.1.id, .bool z.1.dir, .int .i64 z.1.links, .int .i64 z.1.holds, .string z.1.data, .slice ca z.1.names.length cc] := by
        unfold NodV.cells
        rw [hcv]
      rw [hcells] at hrow hput
      have hlen : k * 6 + 6 ≤ (zs.flatMap NodV.cells).length := by
        have := HS0.out.1
        omega
      have k1 : (k : Int) < (zs.length : Int) := by omega
      have hml : (nodM (zs.take k)).length < maxLen := by
        unfold nodM
        rw [List.length_map, List.length_take, maxLen_val]
        omega
      clear hzk hzm hcv hlt hcells
      simp only [slL, List.cons_append, List.nil_append] at hM
      (repeat (first | ((with_reducible show wpSeq _ _ _ _ _ _ _); first | ((with_reducible refine wpSeq_nil ?_); refine hKr.out _ _ ?_; clear hKr Kr) | (((refine St.pure (v := ?_) rfl rfl rfl (fun w => ?_) ?_; rotate_left; (focus (go_simp; all_goals with_reducible rfl)))); (try simp only [Act.put, qSa, qSz, qSs]))) | (first | (refine wp_seq_shut (fun K hK => ?_)) | (refine wp_text hM (fun Kr hKr => ?_); simp only [inText]) | refine wp_block ?_ | refine wp_skip ?_ | (refine wp_cond_true rfl ?_) | ((refine hK.out _ _ ?_); clear hK K))))
      refine St.loadRow rfl hM rfl rfl rfl rfl (by repeat constructor) (by exact hlen) (by kernel_rfl) ?_
      simp only [Res.known]
      rw [hrow]
      (try simp only [Act.put, qSa, qSz, qSs])
      (repeat (first | ((with_reducible show wpSeq _ _ _ _ _ _ _); first | ((with_reducible refine wpSeq_nil ?_); refine hKr.out _ _ ?_; clear hKr Kr) | ((first | (refine St.pure (v := ?_) rfl rfl rfl (fun w => ?_) ?_; rotate_left; (focus (go_simp; all_goals with_reducible rfl))) | refine St.load rfl hM rfl rfl rfl rfl (by repeat constructor) (by rfl) (by kernel_rfl) ?_ | ((refine St.loadRow rfl hM rfl rfl rfl rfl (by repeat constructor) (Nat.le_of_ble_eq_true rfl) (by kernel_rfl) ?_); (try simp only [Res.known, List.drop_succ_cons, List.drop_zero, List.take_succ_cons, List.take_zero])) | ((((refine St.storeRow rfl hM rfl rfl rfl rfl rfl (by repeat constructor) (Nat.le_of_ble_eq_true rfl) (Nat.le_of_ble_eq_true rfl) (by kernel_rfl) rfl ?_ ?_); (focus ((intro h; cases h; done))); clear hM; intro w hM)); (try simp only [Res.put, Res.known, Act.eval, Value.cells, getD_lit, qGz, qGs, List.toList_toArray, qSz, qSs, over, Nat.reduceAdd] at hM))); (try simp only [Act.put, qSa, qSz, qSs])) | (((refine St.alloc (ty := 124) (z := .agg #[.int .i64 0, .bool false, .int .i64 0, .int .i64 0, .string ⟨#[]⟩, .slice none 0 0]) rfl hM rfl rfl (by kernel_rfl) ?_); clear hM; intro w bk hM); (try simp only [Res.put, Res.known, Act.eval, Value.cells, getD_lit, qGz, qGs, List.toList_toArray, qSz, qSs, over, Nat.reduceAdd] at hM); (try simp only [Act.put, qSa, qSz, qSs]))) | (first | (refine wp_text hM (fun Kr hKr => ?_); simp only [inText]) | ((refine hK.out _ _ ?_); clear hK K))))
      refine St.mapUpdate (kl := .int .i64 z.1.id) (key := .int .i64 z.1.id) (val := .agg #[.int .i64 z.1.id, .bool z.1.dir, .int .i64 z.1.links, .int .i64 z.1.holds, .string z.1.data, .slice ca z.1.names.length cc]) (m' := nodM (zs.take (k + 1))) rfl hM rfl rfl rfl rfl rfl (by repeat constructor) hput key_int Tryz.underlying119 hml (keyOf_int_mk Tryz.underlying3 hfv) (fun h => by cases h) ?_
      clear hM; intro w hM
      (try simp only [Act.put, qSa, qSz, qSs])
      (repeat (first | ((with_reducible show wpSeq _ _ _ _ _ _ _); first | ((with_reducible refine wpSeq_nil ?_); refine hKr.out _ _ ?_; clear hKr Kr) | ((first | (refine St.copy (v := ?_) (by exact .inl rfl) rfl rfl ?_ ?_; rotate_left; (focus ((try simp only [Act.eval, getD_lit, qGz, qGs]); with_reducible rfl))) | refine St.inc rfl rfl rfl rfl rfl (by omega) ?_); (try simp only [Act.put, qSa, qSz, qSs]))) | (first | (refine wp_text hM (fun Kr hKr => ?_); simp only [inText]) | ((refine hK.out _ _ ?_); clear hK K))))
      replace hM := hM.forget
      (refine ⟨?_, ?_⟩; (focus (repeat (first | exact ⟨⟨k + 1, by omega, rfl, hM⟩, rfl⟩ | apply Exists.intro))); (simp only [getD_lit, qGz, qGs, intOf]; omega))
    · have k0 : ¬ ((k : Int) < (zs.length : Int)) := by omega
      obtain rfl : k = zs.length := by omega
      rw [List.take_length] at hM
      clear hlt hk
      (repeat (first | ((with_reducible show wpSeq _ _ _ _ _ _ _); first | ((with_reducible refine wpSeq_nil ?_); refine hKr.out _ _ ?_; clear hKr Kr) | ((first | (refine St.pure (v := ?_) rfl rfl rfl (fun w => ?_) ?_; rotate_left; (focus (go_simp; all_goals with_reducible rfl))) | refine St.load rfl hM rfl rfl rfl rfl (by repeat constructor) (by rfl) (by kernel_rfl) ?_ | ((((refine St.store rfl hM rfl rfl rfl rfl rfl (by repeat constructor) (Nat.le_of_ble_eq_true rfl) (by kernel_rfl) rfl ?_ ?_); (focus ((intro h; cases h; done))); clear hM; intro w hM)); (try simp only [Res.put, Res.known, Act.eval, Value.cells, getD_lit, qGz, qGs, List.toList_toArray, qSz, qSs, over, Nat.reduceAdd] at hM))); (try simp only [Act.put, qSa, qSz, qSs])) | (((first | refine St.alloc (ty := 47) (z := .slice none 0 0) rfl hM rfl rfl (by kernel_rfl) ?_ | refine St.alloc (ty := 125) (z := .nilFunc) rfl hM rfl rfl (by kernel_rfl) ?_); clear hM; intro w bk hM); (try simp only [Res.put, Res.known, Act.eval, Value.cells, getD_lit, qGz, qGs, List.toList_toArray, qSz, qSs, over, Nat.reduceAdd] at hM); (try simp only [Act.put, qSa, qSz, qSs]))) | (first | (refine wp_seq_shut (fun K hK => ?_)) | (refine wp_text hM (fun Kr hKr => ?_); simp only [inText]) | (refine wp_cond_false rfl ?_) | (refine wp_exit ?_; simp only [Exit.then, Exit.inBlock, if_true, if_false, reduceCtorEq, Nat.reduceEqDiff, Nat.succ_ne_zero]) | ((first | refine hK.out _ _ ?_ | (clear hK K; refine hK.out _ _ ?_)); clear hK K))))
      rename_i t6b wx
      generalize bk = t7b at *
      (refine St.callv rfl rfl rfl rfl (by kernel_rfl) (fun R hR => ?_); simp only [List.map_toArray, List.map_cons, List.map_nil, Act.eval, getD_lit, qGz, qGs, Array.append_empty, Array.empty_append])
      replace hM := hM.perm (L' := ((t7b, true, .cells [.func (.func 70) #[] #[.pointer (some ⟨t3b, 0, none⟩), .pointer (some ⟨t6b, 0, none⟩), .pointer (some ⟨t7b, 0, none⟩)]] 125) :: (t6b, true, .cells [.slice none 0 0] 47) :: (t3b, true, .cells [.map (some b)] 119) :: (b, true, mapR Tryz.prog 3 (nodM zs)) :: zs.flatMap NodV.ents) ++ (slL s0 (zs.flatMap NodV.cells) 124 6 ++ E1)) (perm_by (by intro _ x; simp only [List.append_eq, List.count_append, List.count_cons, List.count_nil, List.cons_append, List.nil_append]; omega))
      obtain ⟨r, hr, hrd⟩ := HI.out.root
      obtain ⟨hrm, hri⟩ := In.find_some hr
      obtain ⟨z, hzm, hze⟩ : ∃ z ∈ zs, z.1 = r := by
        rw [← HZ.out] at hrm
        obtain ⟨z, h1, h2⟩ := List.mem_map.1 hrm
        exact ⟨z, h1, h2⟩
      have hz1 : z.1.id = 1 := by rw [hze]; exact hri
      have CU := Lib.hid (under_any (u := ⟨t3b, t6b, t7b, b⟩) HZ.out HI.out HUP.out (Nat.le_trans hN (by decide)) HKS.out d.t.last.toNat z hzm (.inr (by have := HI.out.last; omega)) ⟨#[]⟩ (by
        have := HI.out.last
        have e : (⟨#[]⟩ : ByteArray).size = 0 := rfl
        omega) [] none w (by
        rw [hz1]
        have := HFL.out
        unfold Fs.files at this
        rw [List.length_nil]
        omega) ⟨rfl, rfl⟩ (hM.part Part.here))
      have e1 : Fs.under d.t d.t.last.toNat z.1.id ⟨#[]⟩ = Fs.files d := by rw [hz1]; rfl
      rw [hz1] at CU
      refine CU.out.mono ?_
      rintro e w' ⟨rfl, s3, hk3, hN3⟩
      rw [← hz1, e1, List.nil_append] at hk3 hN3
      have hM := hM.backM Swap.here (undL_flag ⟨t3b, t6b, t7b, b⟩ zs none []) hN3 (undL_flag _ _ _ _)
      refine hR.out _ _ (fun _ => ⟨hM.only, nofun⟩) ?_
      clear hR R hN3 CU
      obtain ⟨a3, c3, hv3, -⟩ := slV_open hk3
      have HK3 := Lib.hid hk3
      clear hk3
      unfold undL undH at hM
      rw [hv3] at hM
      simp only [List.cons_append, List.nil_append] at hM
      (try simp only [Act.put, qSa, qSz, qSs])
      (repeat (first | ((with_reducible show wpSeq _ _ _ _ _ _ _); first | ((with_reducible refine wpSeq_nil ?_); refine hKr.out _ _ ?_; clear hKr Kr) | ((first | (refine St.copy (v := ?_) (by exact .inr rfl) rfl rfl ?_ ?_; rotate_left; (focus ((try simp only [Act.eval, getD_lit, qGz, qGs]); with_reducible rfl))) | refine St.load rfl hM rfl rfl rfl rfl (by repeat constructor) (by rfl) (by kernel_rfl) ?_); (try simp only [Act.put, qSa, qSz, qSs]))) | (first | (refine wp_seq_shut (fun K hK => ?_)) | (refine wp_text hM (fun Kr hKr => ?_); simp only [inText]) | ((refine hK.out _ _ ?_); clear hK K))))
      rw [← hv3] at hM
      ((refine wp_ret ?_; (try simp only [Exit.then, Exit.inBlock]); refine St.ret hM rfl (by repeat (first | exact Outs.nil | apply Outs.tmp rfl)) rfl ?_))
      refine ⟨s3, by rw [← hv3]; rfl, HK3.out, St.front (M := fileL s3 (Fs.files d)) (R := (t7b, true, .cells [.func (.func 70) #[] #[.pointer (some ⟨t3b, 0, none⟩), .pointer (some ⟨t6b, 0, none⟩), .pointer (some ⟨t7b, 0, none⟩)]] 125) :: (t6b, true, .cells [slV s3 (Fs.files d).length] 47) :: (t3b, true, .cells [.map (some b)] 119) :: (b, true, mapR Tryz.prog 3 (nodM zs)) :: (zs.flatMap NodV.ents ++ (slL s0 (zs.flatMap NodV.cells) 124 6 ++ E1))) (hM.perm (perm_by (by intro _ x; simp only [List.append_eq, List.count_append, List.count_cons, List.count_nil, List.cons_append, List.nil_append]; omega)))⟩
end
end Go.Proofs.YtcicjklhbnipcaaGreatDoor
namespace Go.Proofs.YtcicjklhbnipcaaGreatDoor
set_option linter.unusedVariables false
set_option linter.unusedSimpArgs false
open Go.RowKit Go.Maps
/-- What is logged, and where its variables lie. -/
abbrev LogV := LogD × (Nat × Nat)
def LogV.val (z : LogV) : Value := match z.1.2 with
  | some _ => .func (.func 83) #[] #[.pointer (some ⟨z.2.1, 0, none⟩), .pointer (some ⟨z.2.2, 0, none⟩)]
  | none => .func (.func 90) #[] #[.pointer (some ⟨z.2.1, 0, none⟩)]
def LogV.ents (z : LogV) : List Ent := match z.1.2 with
  | some p => [(z.2.1, true, .cells [.int .i64 z.1.1] 3), (z.2.2, true, .cells p.cells 34)]
  | none => [(z.2.1, true, .cells [.int .i64 z.1.1] 3)]
theorem logE_flag (zs : List LogV) : flagged (zs.flatMap LogV.ents) := fun x hx => by
  obtain ⟨z, -, hx⟩ := List.mem_flatMap.1 hx
  unfold LogV.ents at hx
  split at hx
  · simp only [List.mem_cons, List.not_mem_nil, or_false] at hx
    rcases hx with rfl | rfl <;> rfl
  · simp only [List.mem_cons, List.not_mem_nil, or_false] at hx
    subst hx
    rfl
/-- Where a disk lies. -/
structure DskX where
  b : Nat
  now : FsX
  sure : FsX
  s : Option (Nat × Nat)
  zs : List LogV
def dskE (b f g : Nat) (s : Option (Nat × Nat)) (n : Nat) : Ent := (b, true, .cells [.pointer (some ⟨f, 0, none⟩), .pointer (some ⟨g, 0, none⟩), slV s n] 81)
abbrev logL (s : Option (Nat × Nat)) (vs : List Value) : List Ent := slL s vs 138 1
def dskL (X : DskX) (β γ : Int → Nat × Nat) (D : DskD) : List Ent := dskE X.b X.now.f X.sure.f X.s X.zs.length :: (fsL X.now β D.now ++ (logL X.s (X.zs.map LogV.val) ++ (fsL X.sure γ D.base ++ X.zs.flatMap LogV.ents)))
structure DskOk (X : DskX) (D : DskD) : Prop where
  log : X.zs.map (·.1) = D.log
  sl : SlOK X.s X.zs.length (X.zs.map LogV.val) 1
theorem dskL_flag (X : DskX) (β γ : Int → Nat × Nat) (D : DskD) : flagged (dskL X β γ D) := fun y hy => by
  unfold dskL at hy
  rcases List.mem_cons.1 hy with rfl | hy
  · rfl
  rcases List.mem_append.1 hy with hy | hy
  · exact fsL_flag _ _ _ y hy
  rcases List.mem_append.1 hy with hy | hy
  · exact slL_flag _ _ _ _ y hy
  rcases List.mem_append.1 hy with hy | hy
  · exact fsL_flag _ _ _ y hy
  · exact logE_flag _ y hy
/-- A disk that is right stands here. -/
structure DskAt (N : Nat) (X : DskX) (β γ : Int → Nat × Nat) (D : DskD) (w : World) : Prop where
  at_ : At (dskL X β γ D) w
  ok : DskOk X D
  inv : Ol.Inv N D
  mx : Mx w
  zero : 0 ∉ keysOf (dskL X β γ D)
/-- Since 'w' the disk has become this one. -/
def DGoes (w : World) (X : DskX) (β γ : Int → Nat × Nat) (D : DskD) (w' : World) (D' : DskD) : Prop := ∃ X' β' γ', DskX.b X' = X.b ∧ DskOk X' D' ∧ St w (keysOf (dskL X β γ D)) w' (dskL X' β' γ' D')
section
variable {N : Nat} {X : DskX} {x y : FsX} {β γ : Int → Nat × Nat} {D : DskD} {d : FsD} {w w' w0 : World} {F : List Nat} {L L' M M' : List Ent} {b f g n : Nat} {s : Option (Nat × Nat)}
theorem At.sub (h : At L w) (hs : M.Sublist L) : At M w := ⟨fun x hx => h.has x (hs.subset hx), (hs.map _).nodup h.nd⟩
theorem keys_sub {M L : List Ent} (hs : M.Sublist L) {k : Nat} (h : k ∉ keysOf L) : k ∉ keysOf M := fun hm => h ((hs.map _).subset hm)
theorem DskAt.below (h : DskAt N X β γ D w) (hb : Below w.heap.size w w') : DskAt N X β γ D w' := ⟨h.at_.below hb, h.ok, h.inv, h.mx.below hb, h.zero⟩
theorem now_sub : (fsL X.now β D.now).Sublist (dskL X β γ D) := by
  unfold dskL
  exact ((List.sublist_append_left _ _)).cons _
theorem DskAt.now (h : DskAt N X β γ D w) : FsAt N X.now β D.now w := ⟨h.at_.sub now_sub, h.inv.now.inv, h.mx, keys_sub now_sub h.zero⟩
theorem DskAt.row (h : DskAt N X β γ D w) : (dskE X.b X.now.f X.sure.f X.s X.zs.length).2.2.holds w.heap[X.b]? := h.at_.has (dskE X.b X.now.f X.sure.f X.s X.zs.length) (by unfold dskL; exact .head _)
/-- The disk that a state holds. -/
theorem St.dsk (hM : St w0 F w L) (hs : Part L (dskL X β γ D)) (hk : DskOk X D) (hI : Ol.Inv N D) (hm : Mx w0) (h0 : 0 ∉ F) : DskAt N X β γ D w := by
  refine ⟨hM.part hs, hk, hI, hM.mx hm h0, fun h => ?_⟩
  obtain ⟨y, hy, e⟩ := List.mem_map.1 h
  obtain ⟨A, B, rfl⟩ := hs.split
  rcases hM.own y (by simp [hy]) (dskL_flag X β γ D y hy) with h1 | h1
  · rw [e] at h1; exact h0 h1
  · have := hm.pos
    omega
/-- One block that is read. -/
theorem St.one {r : Res} (h : r.holds w.heap[b]?) : St w [] w [(b, false, r)] := (St.start w []).learn h nofun nofun
set_option maxHeartbeats 4000000 in
set_option maxRecDepth 100000 in
theorem dgiven_any (h : (dskE b f g s n).2.2.holds w.heap[b]?) : Calls Tryz.prog 76 #[.pointer (some ⟨b, 0, none⟩)] w fun e w' => e = .returned (.bool true) ∧ w = w' := by
  have hM := St.one h
  clear h
  unfold dskE at hM
  go_enter Tryz.func76, Tryz.ntmps76
  (repeat (first | ((with_reducible show wpSeq _ _ _ _ _ _ _); first | ((with_reducible refine wpSeq_nil ?_); refine hKr.out _ _ ?_; clear hKr Kr) | ((first | (refine St.copy (v := ?_) (by first | exact .inl rfl | exact .inr rfl) rfl rfl ?_ ?_; rotate_left; (focus ((try simp only [Act.eval, getD_lit, qGz, qGs]); with_reducible rfl))) | (refine St.pure (v := ?_) rfl rfl rfl (fun w => ?_) ?_; rotate_left; (focus (go_simp; all_goals with_reducible rfl))) | refine St.load rfl hM rfl rfl rfl rfl (by repeat constructor) (by rfl) (by kernel_rfl) ?_); (try simp only [Act.put, qSa, qSz, qSs]))) | (first | (refine wp_seq_shut (fun K hK => ?_)) | (refine wp_text hM (fun Kr hKr => ?_); simp only [inText]) | ((refine hK.out _ _ ?_); clear hK K))))
  (refine wp_ret ?_; (try simp only [Exit.then, Exit.inBlock]); refine St.ret hM rfl (by repeat (first | exact Outs.nil | apply Outs.tmp rfl)) rfl ?_)
  exact ⟨rfl, rfl⟩
set_option maxHeartbeats 4000000 in
set_option maxRecDepth 100000 in
/-- What is now is what is sure. -/
theorem syncs_any (hA : FsAt N x β d w) (hN : N ≤ 1000000000) (h : At (dskE b x.f g s n :: fsL x β d) w) : Calls Tryz.prog 80 #[.pointer (some ⟨b, 0, none⟩)] w fun e w' => e = .returned (.tuple #[]) ∧ ∃ x' γ', St w [b] w' (dskE b x.f (FsX.f x') none 0 :: fsL x' γ' d) := by
  have hM : St w [b] w [dskE b x.f g s n] := (h.sub (M := [dskE b x.f g s n]) (by simp)).st
  have hap : ∀ k ∈ keysOf (fsL x β d), k ∉ [b] := fun k hk hm => by
    have := h.nd
    unfold keysOf at this hk
    rw [List.map_cons, List.nodup_cons] at this
    rcases List.mem_singleton.1 hm with rfl
    exact this.1 hk
  have HF := Lib.hid hA
  clear h hA
  unfold dskE at hM
  go_enter Tryz.func80, Tryz.ntmps80
  (repeat (first | ((with_reducible show wpSeq _ _ _ _ _ _ _); ((first | (refine St.copy (v := ?_) (by exact .inl rfl) rfl rfl ?_ ?_; rotate_left; (focus ((try simp only [Act.eval, getD_lit, qGz, qGs]); with_reducible rfl))) | (refine St.pure (v := ?_) rfl rfl rfl (fun w => ?_) ?_; rotate_left; (focus (go_simp; all_goals with_reducible rfl))) | refine St.load rfl hM rfl rfl rfl rfl (by repeat constructor) (by rfl) (by kernel_rfl) ?_); (try simp only [Act.put, qSa, qSz, qSs]))) | ((refine wp_text hM (fun Kr hKr => ?_); simp only [inText]))))
  ((refine St.call rfl rfl rfl (by kernel_rfl) (fun R hR => ?_); simp only [List.map_toArray, List.map_cons, List.map_nil, Act.eval, getD_lit, qGz, qGs]))
  refine (fClone_any HF.out hN).mono ?_
  rintro e w' ⟨x', γ', rfl, hN2⟩
  replace hM := hM.madeM hN2 (fsL_flag _ _ _)
  refine hR.out _ _ (fun h => h.below hN2.to_below) ?_; clear hR R hN2
  replace hM := hM.perm (L' := _ :: fsL x' γ' d) (List.perm_append_comm)
  (try simp only [Act.put, qSa, qSz, qSs])
  (repeat (((with_reducible show wpSeq _ _ _ _ _ _ _); first | ((with_reducible refine wpSeq_nil ?_); refine hKr.out _ _ ?_; clear hKr Kr) | ((first | (refine St.pure (v := ?_) rfl rfl rfl (fun w => ?_) ?_; rotate_left; (focus (go_simp; all_goals with_reducible rfl))) | ((((refine St.store rfl hM rfl rfl rfl rfl rfl (by repeat constructor) (Nat.le_of_ble_eq_true rfl) (by kernel_rfl) rfl ?_ ?_); (focus ((intro h; cases h; done))); clear hM; intro w hM)); (try simp only [Res.put, Res.known, Act.eval, Value.cells, getD_lit, qGz, qGs, List.toList_toArray, qSz, qSs, over, Nat.reduceAdd] at hM))); (try simp only [Act.put, qSa, qSz, qSs])))))
  ((refine St.fin hM rfl (by repeat (exact Outs.nil)) rfl ?_))
  exact ⟨rfl, x', γ', hM⟩
set_option maxHeartbeats 4000000 in
set_option maxRecDepth 100000 in
/-- Something is logged. -/
theorem logs_any {vs : List Value} {fid : FuncId} {caps : Array Value} (hk : SlOK s n vs 1) (hn : n ≤ 1000000000) (h : At (dskE b f g s n :: logL s vs) w) : Calls Tryz.prog 82 #[.pointer (some ⟨b, 0, none⟩), .func (.func fid) #[] caps] w fun e w' => e = .returned (.tuple #[]) ∧ ∃ s', SlOK s' (n + 1) (vs ++ [.func (.func fid) #[] caps]) 1 ∧ St w (keysOf (dskE b f g s n :: logL s vs)) w' (dskE b f g s' (n + 1) :: logL s' (vs ++ [.func (.func fid) #[] caps])) := by
  have hM := h.st
  obtain ⟨F, hF⟩ : ∃ F, keysOf (dskE b f g s n :: logL s vs) = F := ⟨_, rfl⟩
  rw [hF] at hM ⊢
  have HK := Lib.hid hk
  clear hF h hk
  unfold dskE at hM
  go_enter Tryz.func82, Tryz.ntmps82
  (repeat (first | ((with_reducible show wpSeq _ _ _ _ _ _ _); ((first | (refine St.copy (v := ?_) (by exact .inl rfl) rfl rfl ?_ ?_; rotate_left; (focus ((try simp only [Act.eval, getD_lit, qGz, qGs]); with_reducible rfl))) | (refine St.pure (v := ?_) rfl rfl rfl (fun w => ?_) ?_; rotate_left; (focus (go_simp; all_goals with_reducible rfl))) | refine St.load rfl hM rfl rfl rfl rfl (by repeat constructor) (by rfl) (by kernel_rfl) ?_ | (((((refine St.buildSlice (cells := ?_) (e := ?_) rfl hM rfl rfl (fun w => ?_) ?_; rotate_left 2; (focus (go_simp; all_goals with_reducible rfl)))); clear hM; intro w bk hM)); (try simp only [Res.put, Res.known, Act.eval, Value.cells, getD_lit, qGz, qGs, List.toList_toArray, qSz, qSs, over, Nat.reduceAdd] at hM))); (try simp only [Act.put, qSa, qSz, qSs]))) | ((refine wp_text hM (fun Kr hKr => ?_); simp only [inText]))))
  refine St.append (s := s) (n := n) (xs := vs) rfl hM rfl rfl rfl rfl rfl (by kernel_rfl) (by intro s'; repeat (first | exact Swap.all | apply Swap.skip)) HK.out rfl (hM.news (by repeat constructor)) rfl (by rw [maxLen_val]; omega) (by omega) (fun h => by cases h) ?_
  clear hM; intro w s' hM hk' hs'
  simp only [Res.known] at hM hk'
  obtain ⟨va, vc, hv, -⟩ := slV_open hk'
  rw [hv]
  have HK' := Lib.hid hk'
  clear hk' hs'
  (try simp only [Act.put, qSa, qSz, qSs])
  (repeat (((with_reducible show wpSeq _ _ _ _ _ _ _); first | ((with_reducible refine wpSeq_nil ?_); refine hKr.out _ _ ?_; clear hKr Kr) | ((first | (refine St.pure (v := ?_) rfl rfl rfl (fun w => ?_) ?_; rotate_left; (focus (go_simp; all_goals with_reducible rfl))) | ((((refine St.store rfl hM rfl rfl rfl rfl rfl (by repeat constructor) (Nat.le_of_ble_eq_true rfl) (by kernel_rfl) rfl ?_ ?_); (focus ((intro h; cases h; done))); clear hM; intro w hM)); (try simp only [Res.put, Res.known, Act.eval, Value.cells, getD_lit, qGz, qGs, List.toList_toArray, qSz, qSs, over, Nat.reduceAdd] at hM))); (try simp only [Act.put, qSa, qSz, qSs])))))
  rw [← hv] at hM
  ((refine St.fin hM rfl (by repeat (exact Outs.nil)) rfl ?_))
  exact ⟨rfl, s', HK'.out, hM.forget⟩
set_option maxHeartbeats 4000000 in
set_option maxRecDepth 100000 in
theorem dFiles_any (h : (dskE b x.f g s n).2.2.holds w.heap[b]?) (hA : FsAt N x β d w) (hup : In.Up d.t) (hN : N ≤ 1000000) : Calls Tryz.prog 29 #[.pointer (some ⟨b, 0, none⟩)] w (SomeFiles (Fs.files d) w) := by
  have hM := St.one h
  have HW := Lib.hid h
  unfold dskE at hM
  go_enter Tryz.func29, Tryz.ntmps29
  (repeat (first | ((with_reducible show wpSeq _ _ _ _ _ _ _); first | ((with_reducible refine wpSeq_nil ?_); refine hKr.out _ _ ?_; clear hKr Kr) | (((refine St.copy (v := ?_) (by first | exact .inl rfl | exact .inr rfl) rfl rfl ?_ ?_; rotate_left; (focus ((try simp only [Act.eval, getD_lit, qGz, qGs]); with_reducible rfl)))); (try simp only [Act.put, qSa, qSz, qSs]))) | (first | (refine wp_seq_shut (fun K hK => ?_)) | (refine wp_text hM (fun Kr hKr => ?_); simp only [inText]) | ((refine hK.out _ _ ?_); clear hK K))))
  ((refine St.call rfl rfl rfl (by kernel_rfl) (fun R hR => ?_); simp only [List.map_toArray, List.map_cons, List.map_nil, Act.eval, getD_lit, qGz, qGs]))
  refine (dgiven_any (hM.only.holds HW.out)).mono ?_
  rintro e w' ⟨rfl, rfl⟩; refine hR.out _ _ (fun h => h) ?_; clear hR R; (try simp only [Act.put, qSa, qSz, qSs])
  (repeat (first | ((with_reducible show wpSeq _ _ _ _ _ _ _); first | ((with_reducible refine wpSeq_nil ?_); refine hKr.out _ _ ?_; clear hKr Kr) | ((first | (refine St.copy (v := ?_) (by exact .inl rfl) rfl rfl ?_ ?_; rotate_left; (focus ((try simp only [Act.eval, getD_lit, qGz, qGs]); with_reducible rfl))) | (refine St.pure (v := ?_) rfl rfl rfl (fun w => ?_) ?_; rotate_left; (focus (go_simp; all_goals with_reducible rfl))) | refine St.load rfl hM rfl rfl rfl rfl (by repeat constructor) (by rfl) (by kernel_rfl) ?_); (try simp only [Act.put, qSa, qSz, qSs]))) | (first | (refine wp_seq_shut (fun K hK => ?_)) | (refine wp_text hM (fun Kr hKr => ?_); simp only [inText]) | refine wp_skip ?_ | (refine wp_cond_false rfl ?_) | ((refine hK.out _ _ ?_); clear hK K))))
  ((refine St.call rfl rfl rfl (by kernel_rfl) (fun R hR => ?_); simp only [List.map_toArray, List.map_cons, List.map_nil, Act.eval, getD_lit, qGz, qGs]))
  refine (fFiles_any (hA.below hM.to_below) hup hN).mono ?_
  rintro e w' ⟨s1, rfl, hk, hN2⟩
  replace hM := hM.madeM hN2 (slL_flag _ _ _ _)
  refine hR.out _ _ (fun h => ⟨hM.only, nofun⟩) ?_; clear hR R hN2; (try simp only [Act.put, qSa, qSz, qSs])
  (repeat (first | ((with_reducible show wpSeq _ _ _ _ _ _ _); first | ((with_reducible refine wpSeq_nil ?_); refine hKr.out _ _ ?_; clear hKr Kr) | (((refine St.copy (v := ?_) (by exact .inr rfl) rfl rfl ?_ ?_; rotate_left; (focus ((try simp only [Act.eval, getD_lit, qGz, qGs]); with_reducible rfl)))); (try simp only [Act.put, qSa, qSz, qSs]))) | (((refine hK.out _ _ ?_); clear hK K))))
  ((refine wp_ret ?_; (try simp only [Exit.then, Exit.inBlock]); refine St.ret hM rfl (by repeat (first | exact Outs.nil | apply Outs.tmp rfl)) rfl ?_))
  exact ⟨s1, rfl, hk, St.front hM⟩
set_option maxHeartbeats 4000000 in
set_option maxRecDepth 100000 in
theorem dNew_any (q : Int) (w : World) (hq : In.newE q = 0) (hX : Mx w) : Calls Tryz.prog 23 #[.int .i64 q] w fun e w' => ∃ X β γ, e = .returned (.tuple #[.pointer (some ⟨DskX.b X, 0, none⟩), .int .i64 0]) ∧ DskOk X (Ol.new q) ∧ St w [] w' (dskL X β γ (Ol.new q)) := by
  have hM := St.start w []
  have HX := Lib.hid hX
  have F0 : 0 ∉ ([] : List Nat) := nofun
  have CN := Lib.hid (fun W : World => fNew_any q W hq)
  have I0 := Lib.hid (show Fs.Inv 1 (Fs.new q) from by
    unfold In.newE at hq
    by_cases c : (decide (q < 64) || decide (1099511627776 < q)) = true
    · rw [if_pos c] at hq; cases hq
    · simp only [Bool.or_eq_true, decide_eq_true_eq] at c
      exact Fs.inv_new (by omega) (by omega))
  clear hq hX
  go_enter Tryz.func23, Tryz.ntmps23
  (repeat (first | ((with_reducible show wpSeq _ _ _ _ _ _ _); first | ((with_reducible refine wpSeq_nil ?_); refine hKr.out _ _ ?_; clear hKr Kr) | (((refine St.copy (v := ?_) (by first | exact .inl rfl | exact .inr rfl) rfl rfl ?_ ?_; rotate_left; (focus ((try simp only [Act.eval, getD_lit, qGz, qGs]); with_reducible rfl)))); (try simp only [Act.put, qSa, qSz, qSs]))) | (first | (refine wp_seq_shut (fun K hK => ?_)) | (refine wp_text hM (fun Kr hKr => ?_); simp only [inText]) | ((refine hK.out _ _ ?_); clear hK K))))
  ((refine St.call rfl rfl rfl (by kernel_rfl) (fun R hR => ?_); simp only [List.map_toArray, List.map_cons, List.map_nil, Act.eval, getD_lit, qGz, qGs]))
  refine (CN.out _).mono ?_
  rintro e w' ⟨x, β, rfl, hN⟩
  replace hM := hM.madeM hN (fsL_flag _ _ _)
  refine hR.out _ _ (fun h => h.below hN.to_below) ?_; clear hR R hN
  (try simp only [Act.put, qSa, qSz, qSs])
  (repeat (first | ((with_reducible show wpSeq _ _ _ _ _ _ _); first | ((with_reducible refine wpSeq_nil ?_); refine hKr.out _ _ ?_; clear hKr Kr) | ((first | (refine St.copy (v := ?_) (by first | exact .inl rfl | exact .inr rfl) rfl rfl ?_ ?_; rotate_left; (focus ((try simp only [Act.eval, getD_lit, qGz, qGs]); with_reducible rfl))) | (refine St.pure (v := ?_) rfl rfl rfl (fun w => ?_) ?_; rotate_left; (focus (go_simp; all_goals with_reducible rfl)))); (try simp only [Act.put, qSa, qSz, qSs]))) | (first | (refine wp_seq_shut (fun K hK => ?_)) | (refine wp_text hM (fun Kr hKr => ?_); simp only [inText]) | refine wp_skip ?_ | (refine wp_cond_false rfl ?_) | ((refine hK.out _ _ ?_); clear hK K))))
  ((refine St.call rfl rfl rfl (by kernel_rfl) (fun R hR => ?_); simp only [List.map_toArray, List.map_cons, List.map_nil, Act.eval, getD_lit, qGz, qGs]))
  refine (fClone_any (hM.fs (x := x) (β := β) (d := Fs.new q) (by repeat (exact Part.all)) I0.out HX.out F0) (by decide)).mono ?_
  rintro e w' ⟨x', γ, rfl, hN⟩
  replace hM := hM.madeM hN (fsL_flag _ _ _)
  refine hR.out _ _ (fun h => h.below hN.to_below) ?_; clear hR R hN
  (try simp only [Act.put, qSa, qSz, qSs])
  (repeat (first | ((with_reducible show wpSeq _ _ _ _ _ _ _); first | ((with_reducible refine wpSeq_nil ?_); refine hKr.out _ _ ?_; clear hKr Kr) | ((first | (refine St.copy (v := ?_) (by exact .inr rfl) rfl rfl ?_ ?_; rotate_left; (focus ((try simp only [Act.eval, getD_lit, qGz, qGs]); with_reducible rfl))) | (refine St.pure (v := ?_) rfl rfl rfl (fun w => ?_) ?_; rotate_left; (focus (go_simp; all_goals with_reducible rfl))) | ((((refine St.box rfl hM rfl rfl rfl ?_); clear hM; intro w bk hM)); (try simp only [Res.put, Res.known, Act.eval, Value.cells, getD_lit, qGz, qGs, List.toList_toArray, qSz, qSs, over, Nat.reduceAdd] at hM))); (try simp only [Act.put, qSa, qSz, qSs]))) | (((refine hK.out _ _ ?_); clear hK K))))
  ((refine wp_ret ?_; (try simp only [Exit.then, Exit.inBlock]); refine St.ret hM rfl (by repeat (first | exact Outs.nil | apply Outs.tmp rfl)) rfl ?_))
  refine ⟨⟨bk, x, x', none, []⟩, β, γ, rfl, ⟨rfl, ⟨rfl, rfl⟩⟩, ?_⟩
  exact hM.perm (L' := (bk, true, .cells [.pointer (some ⟨x.f, 0, none⟩), .pointer (some ⟨x'.f, 0, none⟩), .slice none 0 0] 81) :: (fsL x β (Fs.new q) ++ ([] ++ (fsL x' γ (Fs.new q) ++ [])))) (perm_by (by intro _ x; simp only [List.append_eq, List.count_append, List.count_cons, List.count_nil, List.cons_append, List.nil_append]; omega))
end
end Go.Proofs.YtcicjklhbnipcaaGreatDoor
namespace Go.Proofs.YtcicjklhbnipcaaGreatDoor
set_option linter.unusedVariables false
set_option linter.unusedSimpArgs false
open Go.RowKit Go.Maps
section
variable {P : Program} {K : Act → World → Prop} {a : Act} {w w0 : World} {ops : Array Oper} {l : List (Oper × Nat)} {o : Oper} {F : List Nat} {L Lr : List Ent} {ty : TypeId}
theorem Held.backM {A B M M' : List Ent} {w' : World} (hM : St w0 F w (A ++ (M ++ B))) (hs : Sub Lr A) (hw : flagged M) (h' : St w (keysOf M) w' M') (hh : Held w0 F Lr w) : Held w0 F Lr w' := by
  have hnd := hM.nd
  simp only [List.map_append, List.nodup_append] at hnd
  obtain ⟨n1, ⟨n2, n3, n4⟩, n5⟩ := hnd
  refine ⟨hh.only.then h'.only (fun k hk => ?_), fun z hz => ?_⟩
  · obtain ⟨z, hz, rfl⟩ := List.mem_map.1 hk
    exact hM.own z (by simp [hz]) (hw z hz)
  · rw [h'.only.block z.1 (hh.has.lt hz) (fun hm => n5 z.1 (List.mem_map_of_mem (hs.mem z hz)) z.1 (by rw [List.mem_append]; exact .inl hm) rfl)]
    exact hh.has z hz
/-- A call that turns a chunk, and a variable that is made beside it, in either order. -/
theorem St.callAllocM {o' : Oper} {c : Nat} {f : FuncId} {ags : Array Operand} {ts : Array TypeId} {args : Array Value} (hx : o.op = .call { callee := .value (.func f), args := ags, argTypes := ts }) (hx' : o'.op = .alloc ty) {A M B : List Ent} (hM : St w0 F w (A ++ (M ++ B))) (hg : o.guard = none) (hg' : o'.guard = none) (hd : ∀ d, o.dst = some d → o'.dst ≠ some d)
    (hf : bodyB P f = true) (he : ags.map a.eval = args) (he' : ∀ p, ags.map (a.put o'.dst p).eval = args) {z : Value} (hz : ((P.info? ty).bind (·.zero)) = some z) (hs : Sub Lr A) (hw : flagged M) {R : Value → List Ent → Prop}
    (hC : ∀ W, St w0 F W (A ++ (M ++ B)) → Calls P f args W fun e w' => ∃ v M', R v M' ∧ e = .returned v ∧ flagged M' ∧ St W (keysOf M) w' M')
    (h : ∀ w' b v M', R v M' → St w0 F w' ((b, true, .cells z.cells.toList ty) :: (A ++ (M' ++ B))) → wpSeq P ops K (Held w0 F Lr) l ((a.put o.dst v).put o'.dst (.pointer (some ⟨b, 0, none⟩))) w') : wpSeq P ops K (Held w0 F Lr) ((o, 4) :: (o', c) :: l) a w := by
  have hsw : ∀ M', Swap (A ++ (M ++ B)) M M' (A ++ (M' ++ B)) := fun M' => .past .here
  refine wpSeq_pair hg hg' ?_ ?_
  · unfold Oper.wp
    rw [run_call w hx hf he, Oper.upon_enter]
    refine (hC w hM).mono fun e w' ⟨v, M', hR, h1, hf', hN⟩ => ?_
    subst h1
    refine ⟨Held.backM hM hs hw hN, ?_⟩
    rw [run_alloc _ hx' hz]
    exact ⟨fun hh => ⟨hh.only.alloc _, hh.has.push _⟩, h _ _ v M' hR ((hM.backM (hsw M') hw hN hf').push _ (by simp [Res.holds]))⟩
  · unfold Oper.wp
    rw [run_alloc w hx' hz]
    refine ⟨fun hh => ⟨hh.only.alloc _, hh.has.push _⟩, ?_⟩
    have hp := hM.push (r := .cells z.cells.toList ty) (.cells z.cells ty) (by simp [Res.holds])
    rw [run_call _ hx hf (he' _), Oper.upon_enter]
    refine (hC _ hp.forget).mono fun e w' ⟨v, M', hR, h1, hf', hN⟩ => ?_
    subst h1
    refine ⟨Held.backM hp.forget hs hw hN, ?_⟩
    rw [← Act.put_comm _ _ _ hd]
    exact h _ _ v M' hR (hp.backM (.skip (hsw M')) hw hN hf')
end
theorem perm_log {α : Type} (a b c d e : α) (t f g h : List α) : (a :: b :: c :: d :: e :: (t ++ (f ++ (g ++ h)))).Perm ((e :: g) ++ (a :: b :: c :: d :: (t ++ (f ++ h)))) := (perm_by (by intro _ x; simp only [List.append_eq, List.count_append, List.count_cons, List.count_nil, List.cons_append, List.nil_append]; omega))
theorem perm_log2 {α : Type} (a b c d e : α) (g r : List α) : ((e :: g) ++ (a :: b :: c :: d :: r)).Perm (a :: b :: c :: d :: e :: (g ++ r)) := (perm_by (by intro _ x; simp only [List.append_eq, List.count_append, List.count_cons, List.count_nil, List.cons_append, List.nil_append]; omega))
theorem perm_log3 {α : Type} (q o e : α) (g t f h l : List α) : (q :: o :: e :: (g ++ (t ++ (f ++ (h ++ l))))).Perm (t ++ (e :: (f ++ (g ++ (h ++ (l ++ [o, q])))))) := (perm_by (by intro _ x; simp only [List.append_eq, List.count_append, List.count_cons, List.count_nil, List.cons_append, List.nil_append]; omega))
theorem dskL_snoc (b : Nat) (x y : FsX) (s : Option (Nat × Nat)) (zs : List LogV) (z : LogV) (β γ : Int → Nat × Nat) (D : DskD) : dskL ⟨b, x, y, s, zs ++ [z]⟩ β γ D = dskE b x.f y.f s (zs.length + 1) :: (fsL x β D.now ++ (logL s (zs.map LogV.val ++ [LogV.val z]) ++ (fsL y γ D.base ++ (zs.flatMap LogV.ents ++ LogV.ents z)))) := by
  unfold dskL
  simp only [List.length_append, List.length_singleton, List.map_append, List.map_singleton, List.flatMap_append, List.flatMap_singleton]
section
variable {N : Nat} {X : DskX} {x y : FsX} {β γ : Int → Nat × Nat} {D : DskD} {d : FsD} {w w' w0 : World} {F : List Nat} {L L' M M' : List Ent} {b f g n : Nat} {s : Option (Nat × Nat)}
/-- What a disk answers, and what it has become. -/
def DDid (w : World) (X : DskX) (β γ : Int → Nat × Nat) (D : DskD) (r : ResD × DskD) (e : Ending) (w' : World) : Prop :=
  ∃ s X' β' γ', e = .returned (.agg #[.int .i64 r.1.err, .int .i64 r.1.n, .string r.1.data, slV s r.1.names.length]) ∧ TxOK s r.1.names ∧ DskX.b X' = X.b ∧ DskOk X' r.2 ∧ St w (keysOf (dskL X β γ D)) w' (txL s r.1.names ++ dskL X' β' γ' r.2)
theorem has369 (k : Int) : (([6, 9, 13] : List Int).take 3).contains k = decide (k = 6 ∨ k = 9 ∨ k = 13) := by
  simp only [List.take_succ_cons, List.take_zero, List.contains_cons, List.contains_nil, Bool.or_false]
  by_cases h1 : k = 6
  · simp [h1]
  by_cases h2 : k = 9
  · simp [h2]
  by_cases h3 : k = 13
  · simp [h3]
  simp [h1, h2, h3]
set_option maxHeartbeats 16000000 in
set_option maxRecDepth 100000 in
theorem dDo_any (h : DskAt N X β γ D w) (hN : N ≤ 999999980) {o : Int} (ho : Fits o) (p : OpD) (hp : p.Ok) :
    Calls Tryz.prog 34 #[.pointer (some ⟨X.b, 0, none⟩), .int .i64 o, .agg p.cells.toArray] w (DDid w X β γ D (Ol.do_ D o p)) := by
  have hM := h.at_.st
  unfold DDid
  obtain ⟨F, hF⟩ : ∃ F, keysOf (dskL X β γ D) = F := ⟨_, rfl⟩
  rw [hF] at hM ⊢
  have F0 : 0 ∉ F := hF ▸ h.zero
  clear hF
  have HI := Lib.hid h.inv
  have HX := Lib.hid h.mx
  have HK := Lib.hid h.ok
  have HP := Lib.hid hp
  by_cases hk : p.kind = 14
  · have e1 : Ol.do_ D o p = (Fs.errR 0, Ol.sync D) := if_pos hk
    rw [e1]
    obtain ⟨pk, pp, pd, ph, pa, pn, px, py, pb⟩ := p
    simp only [OpD.cells] at hk ⊢
    subst hk
    clear h hp e1
    unfold dskL at hM
    unfold dskE at hM
    go_enter Tryz.func34, Tryz.ntmps34
    (repeat (first | ((with_reducible show wpSeq _ _ _ _ _ _ _); first | ((with_reducible refine wpSeq_nil ?_); refine hKr.out _ _ ?_; clear hKr Kr) | ((first | (refine St.copy (v := ?_) (by exact .inl rfl) rfl rfl ?_ ?_; rotate_left; (focus ((try simp only [Act.eval, getD_lit, qGz, qGs]); with_reducible rfl))) | ((((refine St.box rfl hM rfl rfl rfl ?_); clear hM; intro w bk hM)); (try simp only [Res.put, Res.known, Act.eval, Value.cells, getD_lit, qGz, qGs, List.toList_toArray, qSz, qSs, over, Nat.reduceAdd] at hM))); (try simp only [Act.put, qSa, qSz, qSs])) | ((((refine St.alloc (ty := 31) (z := .agg #[.int .i64 0, .int .i64 0, .string ⟨#[]⟩, .slice none 0 0]) rfl hM rfl rfl (by kernel_rfl) ?_); clear hM; intro w bk hM)); (try simp only [Res.put, Res.known, Act.eval, Value.cells, getD_lit, qGz, qGs, List.toList_toArray, qSz, qSs, over, Nat.reduceAdd] at hM); (try simp only [Act.put, qSa, qSz, qSs]))) | (first | (refine wp_seq_shut (fun K hK => ?_)) | (refine wp_text hM (fun Kr hKr => ?_); simp only [inText]) | ((refine hK.out _ _ ?_); clear hK K))))
    ((refine St.call rfl rfl rfl (by kernel_rfl) (fun R hR => ?_); simp only [List.map_toArray, List.map_cons, List.map_nil, Act.eval, getD_lit, qGz, qGs]))
    refine (dgiven_any (hM.holds (dskE X.b X.now.f X.sure.f X.s X.zs.length) (by repeat constructor))).mono ?_
    rintro e w' ⟨rfl, rfl⟩; refine hR.out _ _ (fun h => h) ?_; clear hR R; (try simp only [Act.put, qSa, qSz, qSs])
    (repeat (first | ((with_reducible show wpSeq _ _ _ _ _ _ _); first | ((with_reducible refine wpSeq_nil ?_); refine hKr.out _ _ ?_; clear hKr Kr) | ((first | (refine St.copy (v := ?_) (by exact .inl rfl) rfl rfl ?_ ?_; rotate_left; (focus ((try simp only [Act.eval, getD_lit, qGz, qGs]); with_reducible rfl))) | (refine St.pure (v := ?_) rfl rfl rfl (fun w => ?_) ?_; rotate_left; (focus (go_simp; all_goals with_reducible rfl))) | refine St.load rfl hM rfl rfl rfl rfl (by repeat constructor) (by rfl) (by kernel_rfl) ?_); (try simp only [Act.put, qSa, qSz, qSs]))) | (first | (refine wp_seq_shut (fun K hK => ?_)) | (refine wp_text hM (fun Kr hKr => ?_); simp only [inText]) | refine wp_skip ?_ | (first | refine wp_cond_true rfl ?_ | refine wp_cond_false rfl ?_) | ((refine hK.out _ _ ?_); clear hK K))))
    ((refine St.call rfl rfl rfl (by kernel_rfl) (fun R hR => ?_); simp only [List.map_toArray, List.map_cons, List.map_nil, Act.eval, getD_lit, qGz, qGs]))
    have hM' : St _ F w (_ :: _ :: _ :: ((dskE X.b X.now.f X.sure.f X.s X.zs.length :: fsL X.now β D.now) ++ (logL X.s (X.zs.map LogV.val) ++ (fsL X.sure γ D.base ++ X.zs.flatMap LogV.ents)))) := hM
    refine (syncs_any (hM.fs (x := X.now) (β := β) (d := D.now) (by repeat (first | exact Part.here | apply Part.skip)) HI.out.now.inv HX.out F0) (by omega) (hM'.part (.skip (.skip (.skip .here))))).mono ?_
    rintro e w' ⟨rfl, x', γ', hN2⟩
    replace hM := hM'.backM (.skip (.skip (.skip .one))) (flag_1 _ _) hN2 (fun y hy => by
      rcases List.mem_cons.1 hy with rfl | hy
      · rfl
      · exact fsL_flag _ _ _ y hy)
    clear hM'
    clear hN2
    refine hR.out _ _ (fun _ => ⟨hM.only, nofun⟩) ?_; clear hR R
    unfold dskE at hM
    (try simp only [Act.put, qSa, qSz, qSs])
    (repeat (first | ((with_reducible show wpSeq _ _ _ _ _ _ _); first | ((with_reducible refine wpSeq_nil ?_); refine hKr.out _ _ ?_; clear hKr Kr) | ((first | (refine St.pure (v := ?_) rfl rfl rfl (fun w => ?_) ?_; rotate_left; (focus (go_simp; all_goals with_reducible rfl))) | ((((refine St.storeRow rfl hM rfl rfl rfl rfl rfl (by repeat constructor) (Nat.le_of_ble_eq_true rfl) (Nat.le_of_ble_eq_true rfl) (by kernel_rfl) rfl ?_ ?_); (focus ((intro h; cases h; done))); clear hM; intro w hM)); (try simp only [Res.put, Res.known, Act.eval, Value.cells, getD_lit, qGz, qGs, List.toList_toArray, qSz, qSs, over, Nat.reduceAdd] at hM))); (try simp only [Act.put, qSa, qSz, qSs]))) | (first | (refine wp_seq_shut (fun K hK => ?_)) | (refine wp_text hM (fun Kr hKr => ?_); simp only [inText]) | ((refine hK.out _ _ ?_); clear hK K))))
    ((refine wp_ret ?_; (try simp only [Exit.then, Exit.inBlock]); refine St.ret hM rfl (by repeat (first | exact Outs.nil | (apply Outs.row rfl rfl (by repeat constructor) (by kernel_rfl)))) rfl ?_))
    have hS : St _ F w ((dskE X.b X.now.f x'.f none 0 :: fsL x' γ' D.now) ++ fsL X.now β D.now) := hM.subM ((((List.Sublist.append_left (List.sublist_append_left _ _) _).cons _).cons _).cons _)
    refine ⟨none, ⟨X.b, X.now, x', none, []⟩, β, γ', rfl, ⟨rfl, rfl⟩, rfl, ⟨rfl, ⟨rfl, rfl⟩⟩, ?_⟩
    exact hS.perm (L' := dskE X.b X.now.f x'.f none 0 :: (fsL X.now β D.now ++ ([] ++ (fsL x' γ' D.now ++ [])))) (perm_by (by intro _ x; simp only [List.append_eq, List.count_append, List.count_cons, List.count_nil, List.cons_append, List.nil_append]; omega))
  · have e1 : Ol.do_ D o p = ((Fs.do_ D.now o p).1, Ol.doN D o p) := if_neg hk
    rw [e1]
    have C := Lib.hid (fun (W : World) (β' : Int → Nat × Nat) (hA : FsAt N X.now β' D.now W) => fDo_any hA (by omega) ho p hp)
    have HD := Lib.hid (show Ol.doN D o p = ⟨(Fs.do_ D.now o p).2, D.base, if Ol.logs (Fs.do_ D.now o p).1 p then D.log ++ [(o, some p)] else D.log⟩ from rfl)
    obtain ⟨G, hG⟩ : ∃ G, Fs.do_ D.now o p = G := ⟨_, rfl⟩
    rw [hG] at C HD ⊢
    generalize Ol.doN D o p = DN at *
    obtain ⟨⟨er, n, da, ns⟩, d'⟩ := G
    have HO := Lib.hid ho
    have hq : (p.kind == 14) = false := beq_eq_false_iff_ne.2 hk
    obtain ⟨p', hp'⟩ : ∃ p', p = p' := ⟨_, rfl⟩
    obtain ⟨pk, pp, pd, ph, pa, pn, px, py, pb⟩ := p
    simp only [OpD.cells] at C hq ⊢
    clear h hp e1 hk hG ho
    unfold dskL at hM
    unfold dskE at hM
    go_enter Tryz.func34, Tryz.ntmps34
    (repeat (first | ((with_reducible show wpSeq _ _ _ _ _ _ _); first | ((with_reducible refine wpSeq_nil ?_); refine hKr.out _ _ ?_; clear hKr Kr) | ((first | (refine St.copy (v := ?_) (by exact .inl rfl) rfl rfl ?_ ?_; rotate_left; (focus ((try simp only [Act.eval, getD_lit, qGz, qGs]); with_reducible rfl))) | ((((refine St.box rfl hM rfl rfl rfl ?_); clear hM; intro w bk hM)); (try simp only [Res.put, Res.known, Act.eval, Value.cells, getD_lit, qGz, qGs, List.toList_toArray, qSz, qSs, over, Nat.reduceAdd] at hM))); (try simp only [Act.put, qSa, qSz, qSs])) | ((((refine St.alloc (ty := 31) (z := .agg #[.int .i64 0, .int .i64 0, .string ⟨#[]⟩, .slice none 0 0]) rfl hM rfl rfl (by kernel_rfl) ?_); clear hM; intro w bk hM)); (try simp only [Res.put, Res.known, Act.eval, Value.cells, getD_lit, qGz, qGs, List.toList_toArray, qSz, qSs, over, Nat.reduceAdd] at hM); (try simp only [Act.put, qSa, qSz, qSs]))) | (first | (refine wp_seq_shut (fun K hK => ?_)) | (refine wp_text hM (fun Kr hKr => ?_); simp only [inText]) | ((refine hK.out _ _ ?_); clear hK K))))
    rename_i w0 wx ob wy qb K hK
    generalize bk = rb at *
    ((refine St.call rfl rfl rfl (by kernel_rfl) (fun R hR => ?_); simp only [List.map_toArray, List.map_cons, List.map_nil, Act.eval, getD_lit, qGz, qGs]))
    refine (dgiven_any (hM.holds (dskE X.b X.now.f X.sure.f X.s X.zs.length) (by repeat constructor))).mono ?_
    rintro e w' ⟨rfl, rfl⟩; refine hR.out _ _ (fun h => h) ?_; clear hR R; (try simp only [Act.put, qSa, qSz, qSs])
    (repeat (first | ((with_reducible show wpSeq _ _ _ _ _ _ _); first | ((with_reducible refine wpSeq_nil ?_); refine hKr.out _ _ ?_; clear hKr Kr) | ((first | (refine St.copy (v := ?_) (by exact .inl rfl) rfl rfl ?_ ?_; rotate_left; (focus ((try simp only [Act.eval, getD_lit, qGz, qGs]); with_reducible rfl))) | (refine St.pure (v := ?_) rfl rfl rfl (fun w => ?_) ?_; rotate_left; (focus (go_simp; all_goals with_reducible rfl))) | refine St.load rfl hM rfl rfl rfl rfl (by repeat constructor) (by rfl) (by kernel_rfl) ?_ | refine St.load1 rfl rfl rfl rfl (by repeat constructor) (by rfl) (by kernel_rfl) ?_ | ((refine St.loadRow1 rfl rfl rfl rfl (by repeat constructor) (Nat.le_of_ble_eq_true rfl) (by kernel_rfl) ?_); (try simp only [Res.known, List.drop_succ_cons, List.drop_zero, List.take_succ_cons, List.take_zero]))); (try simp only [Act.put, qSa, qSz, qSs]))) | (first | (refine wp_seq_shut (fun K hK => ?_)) | (refine wp_text hM (fun Kr hKr => ?_); simp only [inText]) | refine wp_skip ?_ | (refine wp_cond_false rfl ?_) | ((refine hK.out _ _ ?_); clear hK K)) | ((refine wp_drawn (id := 6) hM (Sub.take (Sub.take (Sub.take (Sub.take Sub.nil)))) [3, 4, 5] [(0, 0), (1, 0), (2, 0), (3, 1), (4, 1), (5, 1), (6, 4), (7, 4), (8, 3)] (by kernel_rfl) (by kernel_rfl) ?_); (clear hM; intro w hM Kr hKr); simp only [opsOf, qGz, qGs])))
    refine St.callAllocM (A := [_, _, _, _]) (M := fsL X.now β D.now) (R := fun v M' => ∃ s β', v = .agg #[.int .i64 er, .int .i64 n, .string da, slV s ns.length] ∧ TxOK s ns ∧ M' = txL s ns ++ fsL X.now β' d') rfl rfl hM rfl rfl (fun d h => by cases h; decide) (by kernel_rfl) (by simp only [Act.put, qSa, qSz, qSs, List.map_toArray, List.map_cons, List.map_nil, Act.eval, getD_lit, qGz, qGs] <;> rfl) (fun p => (by simp only [Act.put, qSa, qSz, qSs, List.map_toArray, List.map_cons, List.map_nil, Act.eval, getD_lit, qGz, qGs] <;> rfl)) rfl (Sub.all _) (fsL_flag _ _ _) (fun W hW => ?_) ?_
    · refine (C.out W β (hW.fs (.past .here) HI.out.now.inv HX.out F0)).mono ?_
      rintro e w' ⟨s, β', rfl, hs, hN2⟩
      exact ⟨_, _, ⟨s, β', rfl, hs, rfl⟩, rfl, fun y hy => (List.mem_append.1 hy).elim (txL_flag _ _ y) (fsL_flag _ _ _ y), hN2⟩
    clear hM
    rintro w bk v M' ⟨s, β', rfl, hs, rfl⟩ hM
    obtain ⟨sa, sc, hsv, -⟩ := slV_open hs
    rw [hsv]
    have HS := Lib.hid hs
    have HSV := Lib.hid hsv
    have HP' := Lib.hid hp'
    clear hs C hsv hp'
    simp only [List.cons_append, List.nil_append, List.append_assoc] at hM
    generalize bk = ab at *
    by_cases h0 : er = 0
    · have q0 : (er == 0) = true := by rw [h0]; rfl
      (try simp only [Act.put, qSa, qSz, qSs])
      (repeat (first | ((with_reducible show wpSeq _ _ _ _ _ _ _); first | ((with_reducible refine wpSeq_nil ?_); refine hKr.out _ _ ?_; clear hKr Kr) | ((first | (refine St.copy (v := ?_) (by exact .inl rfl) rfl rfl ?_ ?_; rotate_left; (focus ((try simp only [Act.eval, getD_lit, qGz, qGs]); with_reducible rfl))) | (refine St.pure (v := ?_) rfl rfl rfl (fun w => ?_) ?_; rotate_left; (focus (go_simp; all_goals with_reducible rfl))) | refine St.load rfl hM rfl rfl rfl rfl (by repeat constructor) (by rfl) (by kernel_rfl) ?_ | ((first | ((refine St.storeRow rfl hM rfl rfl rfl rfl rfl (by repeat constructor) (Nat.le_of_ble_eq_true rfl) (Nat.le_of_ble_eq_true rfl) (by kernel_rfl) rfl ?_ ?_); (focus ((intro h; cases h; done))); clear hM; intro w hM) | (((refine St.buildSlice (cells := ?_) (e := ?_) rfl hM rfl rfl (fun w => ?_) ?_; rotate_left 2; (focus (go_simp; all_goals with_reducible rfl)))); clear hM; intro w bk hM)); (try simp only [Res.put, Res.known, Act.eval, Value.cells, getD_lit, qGz, qGs, List.toList_toArray, qSz, qSs, over, Nat.reduceAdd] at hM))); (try simp only [Act.put, qSa, qSz, qSs]))) | (first | (refine wp_seq_shut (fun K hK => ?_)) | (refine wp_text hM (fun Kr hKr => ?_); simp only [inText]) | ((refine hK.out _ _ ?_); clear hK K))))
      ((refine St.call rfl rfl rfl (by kernel_rfl) (fun R hR => ?_); simp only [List.map_toArray, List.map_cons, List.map_nil, Act.eval, getD_lit, qGz, qGs]))
      have C3 := Tryz.slices_Contains_int bk 0 3 3 [6, 9, 13] pk w (by decide) (by decide) (fun j hj => Res.cell (hM.holds _ (.head _)) (by
        have : j = 0 ∨ j = 1 ∨ j = 2 := by simp only [List.length_cons, List.length_nil] at hj; omega
        rcases this with rfl | rfl | rfl <;> rfl))
      rw [has369] at C3
      refine C3.mono ?_
      rintro e w' ⟨rfl, rfl⟩; refine hR.out _ _ (fun h => h) ?_; clear hR R C3
      replace hM := hM.forget
      by_cases h1 : pk = 6 ∨ pk = 9 ∨ pk = 13
      · rw [decide_eq_true h1]
        (try simp only [Act.put, qSa, qSz, qSs])
        (repeat (first | ((with_reducible show wpSeq _ _ _ _ _ _ _); first | ((with_reducible refine wpSeq_nil ?_); refine hKr.out _ _ ?_; clear hKr Kr) | ((first | (refine St.pure (v := ?_) rfl rfl rfl (fun w => ?_) ?_; rotate_left; (focus (go_simp; all_goals with_reducible rfl))) | ((refine St.loadRow rfl hM rfl rfl rfl rfl (by repeat constructor) (Nat.le_of_ble_eq_true rfl) (by kernel_rfl) ?_); (try simp only [Res.known, List.drop_succ_cons, List.drop_zero, List.take_succ_cons, List.take_zero])) | ((((refine St.storeRow rfl hM rfl rfl rfl rfl rfl (by repeat constructor) (Nat.le_of_ble_eq_true rfl) (Nat.le_of_ble_eq_true rfl) (by kernel_rfl) rfl ?_ ?_); (focus ((intro h; cases h; done))); clear hM; intro w hM)); (try simp only [Res.put, Res.known, Act.eval, Value.cells, getD_lit, qGz, qGs, List.toList_toArray, qSz, qSs, over, Nat.reduceAdd] at hM))); (try simp only [Act.put, qSa, qSz, qSs]))) | (first | (refine wp_seq_shut (fun K hK => ?_)) | (refine wp_text hM (fun Kr hKr => ?_); simp only [inText]) | refine wp_skip ?_ | (refine wp_cond_false rfl ?_) | ((refine hK.out _ _ ?_); clear hK K))))
        ((refine wp_ret ?_; (try simp only [Exit.then, Exit.inBlock]); refine St.ret hM rfl (by repeat (first | exact Outs.nil | (apply Outs.row rfl rfl (by repeat constructor) (by kernel_rfl)))) rfl ?_))
        have e2 : DN = ⟨d', D.base, D.log⟩ := by rw [HD.out]; show DskD.mk d' D.base _ = _; rw [if_neg (fun h => by
          obtain ⟨-, g1, g2, g3⟩ := h
          have g1' : pk ≠ 6 := g1
          have g2' : pk ≠ 9 := g2
          have g3' : pk ≠ 13 := g3
          omega)]
        rw [e2]
        have hS : St _ F _ (dskE X.b X.now.f X.sure.f X.s X.zs.length :: (txL s ns ++ (fsL X.now β' d' ++ (logL X.s (X.zs.map LogV.val) ++ (fsL X.sure γ D.base ++ X.zs.flatMap LogV.ents))))) := hM.forget.forget.forget.forget
        refine ⟨s, X, β', γ, by rw [HSV.out]; rfl, HS.out, rfl, ⟨HK.out.log, HK.out.sl⟩, ?_⟩
        exact hS.perm (L' := txL s ns ++ (dskE X.b X.now.f X.sure.f X.s X.zs.length :: (fsL X.now β' d' ++ (logL X.s (X.zs.map LogV.val) ++ (fsL X.sure γ D.base ++ X.zs.flatMap LogV.ents))))) (perm_by (by intro _ x; simp only [List.append_eq, List.count_append, List.count_cons, List.count_nil, List.cons_append, List.nil_append]; omega))
      · rw [decide_eq_false h1]
        (try simp only [Act.put, qSa, qSz, qSs])
        (repeat (first | ((with_reducible show wpSeq _ _ _ _ _ _ _); first | ((with_reducible refine wpSeq_nil ?_); refine hKr.out _ _ ?_; clear hKr Kr) | ((first | (refine St.copy (v := ?_) (by exact .inl rfl) rfl rfl ?_ ?_; rotate_left; (focus ((try simp only [Act.eval, getD_lit, qGz, qGs]); with_reducible rfl))) | (refine St.pure (v := ?_) rfl rfl rfl (fun w => ?_) ?_; rotate_left; (focus (go_simp; all_goals with_reducible rfl)))); (try simp only [Act.put, qSa, qSz, qSs]))) | (first | (refine wp_text hM (fun Kr hKr => ?_); simp only [inText]) | (refine wp_cond_true rfl ?_) | ((refine hK.out _ _ ?_); clear hK K))))
        ((refine St.call rfl rfl rfl (by kernel_rfl) (fun R hR => ?_); simp only [List.map_toArray, List.map_cons, List.map_nil, Act.eval, getD_lit, qGz, qGs]))
        have hS : St w0 F _ (_ :: _ :: _ :: _ :: dskE X.b X.now.f X.sure.f X.s X.zs.length :: (txL s ns ++ (fsL X.now β' d' ++ (logL X.s (X.zs.map LogV.val) ++ (fsL X.sure γ D.base ++ X.zs.flatMap LogV.ents))))) := hM
        clear hM
        replace hS := hS.perm (perm_log _ _ _ _ _ _ _ _ _)
        have hzl : X.zs.length ≤ 1000000000 := by
          have g1 := congrArg List.length HK.out.log
          rw [List.length_map] at g1
          obtain ⟨M0, -, g2⟩ := HI.out.base
          omega
        refine (logs_any HK.out.sl hzl (hS.part .here)).mono ?_
        rintro e w' ⟨rfl, s', hk', hN2⟩
        have hM := (hS.backM .here (fun y hy => by
          rcases List.mem_cons.1 hy with rfl | hy
          · rfl
          · exact slL_flag _ _ _ _ y hy) hN2 (fun y hy => by
          rcases List.mem_cons.1 hy with rfl | hy
          · rfl
          · exact slL_flag _ _ _ _ y hy)).perm (perm_log2 _ _ _ _ _ _ _)
        refine hR.out _ _ (fun _ => ⟨hM.only, nofun⟩) ?_; clear hR R hS hN2
        have HK' := Lib.hid hk'
        clear hk'
        (try simp only [Act.put, qSa, qSz, qSs])
        (repeat (first | ((with_reducible show wpSeq _ _ _ _ _ _ _); first | ((with_reducible refine wpSeq_nil ?_); refine hKr.out _ _ ?_; clear hKr Kr) | ((first | ((refine St.loadRow rfl hM rfl rfl rfl rfl (by repeat constructor) (Nat.le_of_ble_eq_true rfl) (by kernel_rfl) ?_); (try simp only [Res.known, List.drop_succ_cons, List.drop_zero, List.take_succ_cons, List.take_zero])) | ((((refine St.storeRow rfl hM rfl rfl rfl rfl rfl (by repeat constructor) (Nat.le_of_ble_eq_true rfl) (Nat.le_of_ble_eq_true rfl) (by kernel_rfl) rfl ?_ ?_); (focus ((intro h; cases h; done))); clear hM; intro w hM)); (try simp only [Res.put, Res.known, Act.eval, Value.cells, getD_lit, qGz, qGs, List.toList_toArray, qSz, qSs, over, Nat.reduceAdd] at hM))); (try simp only [Act.put, qSa, qSz, qSs]))) | (first | (refine wp_seq_shut (fun K hK => ?_)) | (refine wp_text hM (fun Kr hKr => ?_); simp only [inText]) | ((refine hK.out _ _ ?_); clear hK K))))
        ((refine wp_ret ?_; (try simp only [Exit.then, Exit.inBlock]); refine St.ret hM rfl (by repeat (first | exact Outs.nil | (apply Outs.row rfl rfl (by repeat constructor) (by kernel_rfl)))) rfl ?_))
        have e2 : DN = ⟨d', D.base, D.log ++ [(o, some ⟨pk, pp, pd, ph, pa, pn, px, py, pb⟩)]⟩ := by rw [HD.out]; show DskD.mk d' D.base _ = _; rw [if_pos ⟨h0, fun h => h1 (.inl h), fun h => h1 (.inr (.inl h)), fun h => h1 (.inr (.inr h))⟩]
        rw [e2]
        refine ⟨s, ⟨X.b, X.now, X.sure, s', X.zs ++ [((o, some ⟨pk, pp, pd, ph, pa, pn, px, py, pb⟩), (ob, qb))]⟩, β', γ, by rw [HSV.out]; rfl, HS.out, rfl, ⟨?_, ?_⟩, ?_⟩
        · show List.map (fun z : LogV => z.1) (X.zs ++ [_]) = D.log ++ [_]
          rw [List.map_append, HK.out.log]
          rfl
        · show SlOK s' (X.zs ++ [_]).length ((X.zs ++ [_]).map LogV.val) 1
          rw [List.length_append, List.map_append]
          exact HK'.out
        · rw [dskL_snoc]
          exact hM.forget.forget.perm (perm_log3 _ _ _ _ _ _ _ _)
    · have q0 : (er == 0) = false := beq_eq_false_iff_ne.2 h0
      (try simp only [Act.put, qSa, qSz, qSs])
      (repeat (first | ((with_reducible show wpSeq _ _ _ _ _ _ _); first | ((with_reducible refine wpSeq_nil ?_); refine hKr.out _ _ ?_; clear hKr Kr) | ((first | (refine St.copy (v := ?_) (by exact .inl rfl) rfl rfl ?_ ?_; rotate_left; (focus ((try simp only [Act.eval, getD_lit, qGz, qGs]); with_reducible rfl))) | (refine St.pure (v := ?_) rfl rfl rfl (fun w => ?_) ?_; rotate_left; (focus (go_simp; all_goals with_reducible rfl))) | refine St.load rfl hM rfl rfl rfl rfl (by repeat constructor) (by rfl) (by kernel_rfl) ?_ | ((refine St.loadRow rfl hM rfl rfl rfl rfl (by repeat constructor) (Nat.le_of_ble_eq_true rfl) (by kernel_rfl) ?_); (try simp only [Res.known, List.drop_succ_cons, List.drop_zero, List.take_succ_cons, List.take_zero])) | refine wpSeq_off rfl rfl ?_ | ((((refine St.storeRow rfl hM rfl rfl rfl rfl rfl (by repeat constructor) (Nat.le_of_ble_eq_true rfl) (Nat.le_of_ble_eq_true rfl) (by kernel_rfl) rfl ?_ ?_); (focus ((intro h; cases h; done))); clear hM; intro w hM)); (try simp only [Res.put, Res.known, Act.eval, Value.cells, getD_lit, qGz, qGs, List.toList_toArray, qSz, qSs, over, Nat.reduceAdd] at hM))); (try simp only [Act.put, qSa, qSz, qSs]))) | (first | (refine wp_seq_shut (fun K hK => ?_)) | (refine wp_text hM (fun Kr hKr => ?_); simp only [inText]) | refine wp_skip ?_ | (refine wp_cond_false rfl ?_) | ((refine hK.out _ _ ?_); clear hK K))))
      ((refine wp_ret ?_; (try simp only [Exit.then, Exit.inBlock]); refine St.ret hM rfl (by repeat (first | exact Outs.nil | (apply Outs.row rfl rfl (by repeat constructor) (by kernel_rfl)))) rfl ?_))
      have e2 : DN = ⟨d', D.base, D.log⟩ := by rw [HD.out]; show DskD.mk d' D.base _ = _; rw [if_neg (fun h => h0 h.1)]
      rw [e2]
      have hS : St _ F w (dskE X.b X.now.f X.sure.f X.s X.zs.length :: (txL s ns ++ (fsL X.now β' d' ++ (logL X.s (X.zs.map LogV.val) ++ (fsL X.sure γ D.base ++ X.zs.flatMap LogV.ents))))) := hM.forget.forget.forget.forget
      refine ⟨s, X, β', γ, by rw [HSV.out]; rfl, HS.out, rfl, ⟨HK.out.log, HK.out.sl⟩, ?_⟩
      exact hS.perm (L' := txL s ns ++ (dskE X.b X.now.f X.sure.f X.s X.zs.length :: (fsL X.now β' d' ++ (logL X.s (X.zs.map LogV.val) ++ (fsL X.sure γ D.base ++ X.zs.flatMap LogV.ents))))) (perm_by (by intro _ x; simp only [List.append_eq, List.count_append, List.count_cons, List.count_nil, List.cons_append, List.nil_append]; omega))
end
end Go.Proofs.YtcicjklhbnipcaaGreatDoor
namespace Go.Proofs.YtcicjklhbnipcaaGreatDoor
set_option linter.unusedVariables false
set_option linter.unusedSimpArgs false
open Go.RowKit Go.Maps
theorem perm_ex1 {α : Type} (a e : α) (t f g h : List α) : (a :: e :: (t ++ (f ++ (g ++ h)))).Perm ((e :: g) ++ (a :: (t ++ (f ++ h)))) := (perm_by (by intro _ x; simp only [List.append_eq, List.count_append, List.count_cons, List.count_nil, List.cons_append, List.nil_append]; omega))
theorem perm_ex3 {α : Type} (o e : α) (g t f h l : List α) : ((e :: g) ++ (o :: (t ++ (f ++ (h ++ l))))).Perm ((e :: (f ++ (g ++ (h ++ (l ++ [o]))))) ++ t) := (perm_by (by intro _ x; simp only [List.append_eq, List.count_append, List.count_cons, List.count_nil, List.cons_append, List.nil_append]; omega))
section
variable {N : Nat} {X : DskX} {x y : FsX} {β γ : Int → Nat × Nat} {D : DskD} {d : FsD} {w w' w0 : World} {F : List Nat} {L L' M M' : List Ent} {b f g n : Nat} {s : Option (Nat × Nat)}
theorem contains_any {xs : List Int} (hM : St w0 F w (slL s (xs.map (Value.int .i64)) 3 1 ++ L)) (hk : SlOK s xs.length (xs.map (Value.int .i64)) 1) (x : Int) : Calls Tryz.prog 81 #[slV s xs.length, .int .i64 x] w fun e w' => e = .returned (.bool (xs.contains x)) ∧ w' = w := by
  rcases s with _ | ⟨g, cap⟩
  · have h0 : xs = [] := List.eq_nil_of_length_eq_zero hk.2
    subst h0
    exact Tryz.slices_Contains_int_empty none 0 x w
  · have := Tryz.slices_Contains_int g 0 xs.length cap xs x w (Nat.le_refl _) (by have := hk.2.1; have := hk.2.2; rw [maxLen_val] at this; omega) (fun j hj => by
      refine Res.cell (hM.holds (g, true, .pre (xs.map (Value.int .i64)) 3 (cap * 1)) (by simp [slL])) ?_
      show (xs.map (Value.int .i64))[0 + j]? = _
      rw [Nat.zero_add, List.getElem?_map, List.getElem?_eq_getElem hj, List.getD_eq_getElem?_getD, List.getElem?_eq_getElem hj]
      rfl)
    rw [List.take_length] at this
    exact this
set_option maxHeartbeats 16000000 in
set_option maxRecDepth 100000 in
theorem dExit_any (h : DskAt N X β γ D w) (hN : N ≤ 999999980) {o : Int} (ho : Fits o) :
    Calls Tryz.prog 44 #[.pointer (some ⟨X.b, 0, none⟩), .int .i64 o] w fun e w' => e = .returned (.tuple #[]) ∧ DGoes w X β γ D w' (Ol.exit D o) := by
  have hM := h.at_.st
  unfold DGoes
  obtain ⟨F, hF⟩ : ∃ F, keysOf (dskL X β γ D) = F := ⟨_, rfl⟩
  rw [hF] at hM ⊢
  have F0 : 0 ∉ F := hF ▸ h.zero
  clear hF
  have HI := Lib.hid h.inv
  have HX := Lib.hid h.mx
  have HK := Lib.hid h.ok
  have HO := Lib.hid ho
  clear h ho
  generalize hDN : Ol.exit D o = DN
  have HD := Lib.hid hDN
  clear hDN
  have hol : (Fs.owners D.now).length ≤ 1000000000 := by
    have := HI.out.now.inv.len
    unfold Fs.owners
    rw [List.length_map]
    omega
  unfold dskL at hM
  unfold dskE at hM
  go_enter Tryz.func44, Tryz.ntmps44
  (repeat (first | ((with_reducible show wpSeq _ _ _ _ _ _ _); first | ((with_reducible refine wpSeq_nil ?_); refine hKr.out _ _ ?_; clear hKr Kr) | ((first | (refine St.copy (v := ?_) (by exact .inl rfl) rfl rfl ?_ ?_; rotate_left; (focus ((try simp only [Act.eval, getD_lit, qGz, qGs]); with_reducible rfl))) | ((((refine St.box rfl hM rfl rfl rfl ?_); clear hM; intro w bk hM)); (try simp only [Res.put, Res.known, Act.eval, Value.cells, getD_lit, qGz, qGs, List.toList_toArray, qSz, qSs, over, Nat.reduceAdd] at hM))); (try simp only [Act.put, qSa, qSz, qSs]))) | (first | (refine wp_seq_shut (fun K hK => ?_)) | (refine wp_text hM (fun Kr hKr => ?_); simp only [inText]) | ((refine hK.out _ _ ?_); clear hK K)) | ((refine wp_drawn (id := 1) hM (Sub.all _) [7, 9] [(0, 2), (1, 2), (2, 2), (3, 2), (4, 0), (5, 0), (6, 0), (7, 1), (9, 1), (8, 2), (10, 2), (11, 2), (12, 2)] (by kernel_rfl) (by kernel_rfl) ?_); (clear hM; intro w hM Kr hKr); simp only [opsOf, qGz, qGs])))
  generalize bk = ob at *
  ((refine St.call rfl rfl rfl (by kernel_rfl) (fun R hR => ?_); simp only [List.map_toArray, List.map_cons, List.map_nil, Act.eval, getD_lit, qGz, qGs]))
  refine (dgiven_any (hM.holds (dskE X.b X.now.f X.sure.f X.s X.zs.length) (by repeat constructor))).mono ?_
  rintro e w' ⟨rfl, rfl⟩; refine hR.out _ _ (fun h => h) ?_; clear hR R; (try simp only [Act.put, qSa, qSz, qSs])
  (repeat (((with_reducible show wpSeq _ _ _ _ _ _ _); ((first | (refine St.copy (v := ?_) (by exact .inl rfl) rfl rfl ?_ ?_; rotate_left; (focus ((try simp only [Act.eval, getD_lit, qGz, qGs]); with_reducible rfl))) | (refine St.pure (v := ?_) rfl rfl rfl (fun w => ?_) ?_; rotate_left; (focus (go_simp; all_goals with_reducible rfl))) | refine St.load1 rfl rfl rfl rfl (by repeat constructor) (by rfl) (by kernel_rfl) ?_); (try simp only [Act.put, qSa, qSz, qSs])))))
  ((refine St.call rfl rfl rfl (by kernel_rfl) (fun R hR => ?_); simp only [List.map_toArray, List.map_cons, List.map_nil, Act.eval, getD_lit, qGz, qGs]))
  refine (fOwners_any (hM.fs (x := X.now) (β := β) (d := D.now) (by repeat (first | exact Part.here | apply Part.skip)) HI.out.now.inv HX.out F0) (by omega)).mono ?_
  rintro e w' ⟨s1, rfl, hk1, hN2⟩
  replace hM := hM.madeM hN2 (slL_flag _ _ _ _)
  refine hR.out _ _ (fun h => h.below hN2.to_below) ?_; clear hR R hN2
  (try simp only [Act.put, qSa, qSz, qSs])
  (repeat (fail))
  ((refine St.call rfl rfl rfl (by kernel_rfl) (fun R hR => ?_); simp only [List.map_toArray, List.map_cons, List.map_nil, Act.eval, getD_lit, qGz, qGs]))
  refine (contains_any hM hk1 o).mono ?_
  rintro e w' ⟨rfl, rfl⟩; refine hR.out _ _ (fun h => h) ?_; clear hR R hk1
  replace hM : St _ F _ ((ob, true, .cells [.int .i64 o] 3) :: (X.b, true, .cells [.pointer (some ⟨X.now.f, 0, none⟩), .pointer (some ⟨X.sure.f, 0, none⟩), slV X.s X.zs.length] 81) :: (fsL X.now β D.now ++ (logL X.s (X.zs.map LogV.val) ++ (fsL X.sure γ D.base ++ X.zs.flatMap LogV.ents)))) := hM.subM (List.sublist_append_right _ _)
  by_cases ho : o ∈ Fs.owners D.now
  · rw [List.contains_iff_mem.2 ho]
    (try simp only [Act.put, qSa, qSz, qSs])
    (repeat (first | ((with_reducible show wpSeq _ _ _ _ _ _ _); first | ((with_reducible refine wpSeq_nil ?_); refine hKr.out _ _ ?_; clear hKr Kr) | ((first | (refine St.copy (v := ?_) (by exact .inl rfl) rfl rfl ?_ ?_; rotate_left; (focus ((try simp only [Act.eval, getD_lit, qGz, qGs]); with_reducible rfl))) | (refine St.pure (v := ?_) rfl rfl rfl (fun w => ?_) ?_; rotate_left; (focus (go_simp; all_goals with_reducible rfl))) | refine St.load rfl hM rfl rfl rfl rfl (by repeat constructor) (by rfl) (by kernel_rfl) ?_ | refine St.load1 rfl rfl rfl rfl (by repeat constructor) (by rfl) (by kernel_rfl) ?_); (try simp only [Act.put, qSa, qSz, qSs]))) | (first | (refine wp_seq_shut (fun K hK => ?_)) | refine wp_skip ?_ | (refine wp_cond_false rfl ?_) | ((refine hK.out _ _ ?_); clear hK K)) | ((refine wp_drawn (id := 2) hM (Sub.all _) [3] [(0, 0), (1, 0), (2, 0), (3, 1), (4, 2), (5, 3)] (by kernel_rfl) (by kernel_rfl) ?_); (clear hM; intro w hM Kr hKr); simp only [opsOf, qGz, qGs])))
    (refine St.call3 rfl rfl (by kernel_rfl) (fun R hR => ?_); simp only [List.map_toArray, List.map_cons, List.map_nil, Act.eval, getD_lit, qGz, qGs])
    refine (fExit_any (hM.fs (x := X.now) (β := β) (d := D.now) (by repeat (first | exact Part.here | apply Part.skip)) HI.out.now.inv HX.out F0) hN HO.out).mono ?_
    rintro e w' ⟨rfl, ⟨β', hN2⟩, -⟩
    replace hM := hM.backM (M := fsL X.now β D.now) (by repeat (first | exact Swap.here | apply Swap.skip)) (fsL_flag _ _ _) hN2 (fsL_flag _ _ _)
    refine hR.out _ _ ?_; clear hR R hN2
    (try simp only [Act.put, qSa, qSz, qSs])
    (repeat (first | ((with_reducible show wpSeq _ _ _ _ _ _ _); first | ((with_reducible refine wpSeq_nil ?_); refine hKr.out _ _ ?_; clear hKr Kr) | ((first | (refine St.copy (v := ?_) (by exact .inl rfl) rfl rfl ?_ ?_; rotate_left; (focus ((try simp only [Act.eval, getD_lit, qGz, qGs]); with_reducible rfl))) | (refine St.pure (v := ?_) rfl rfl rfl (fun w => ?_) ?_; rotate_left; (focus (go_simp; all_goals with_reducible rfl)))); (try simp only [Act.put, qSa, qSz, qSs]))) | (first | (refine wp_text hM (fun Kr hKr => ?_); simp only [inText]) | ((refine hK.out _ _ ?_); clear hK K))))
    ((refine St.call rfl rfl rfl (by kernel_rfl) (fun R hR => ?_); simp only [List.map_toArray, List.map_cons, List.map_nil, Act.eval, getD_lit, qGz, qGs]))
    have hS : St _ F _ (_ :: dskE X.b X.now.f X.sure.f X.s X.zs.length :: ([] ++ (fsL X.now β' (Fs.exit D.now o) ++ (logL X.s (X.zs.map LogV.val) ++ (fsL X.sure γ D.base ++ X.zs.flatMap LogV.ents))))) := hM
    clear hM
    replace hS := hS.perm (perm_ex1 _ _ _ _ _ _)
    have hzl : X.zs.length ≤ 1000000000 := by
      have g1 := congrArg List.length HK.out.log
      rw [List.length_map] at g1
      obtain ⟨M0, -, g2⟩ := HI.out.base
      omega
    refine (logs_any HK.out.sl hzl (hS.part .here)).mono ?_
    rintro e w' ⟨rfl, s', hk', hN2⟩
    have hM := (hS.backM .here (fun y hy => by
      rcases List.mem_cons.1 hy with rfl | hy
      · rfl
      · exact slL_flag _ _ _ _ y hy) hN2 (fun y hy => by
      rcases List.mem_cons.1 hy with rfl | hy
      · rfl
      · exact slL_flag _ _ _ _ y hy))
    (refine hR.out _ _ (fun _ => ⟨hM.only, nofun⟩) ?_); clear hR R hS hN2
    have HK' := Lib.hid hk'
    clear hk'
    (try simp only [Act.put, qSa, qSz, qSs])
    (repeat (((with_reducible show wpSeq _ _ _ _ _ _ _); ((with_reducible refine wpSeq_nil ?_); refine hKr.out _ _ ?_; clear hKr Kr))))
    ((refine St.fin hM rfl (by repeat (exact Outs.nil)) rfl ?_))
    have e2 : DN = ⟨Fs.exit D.now o, D.base, D.log ++ [(o, none)]⟩ := by rw [← HD.out]; exact if_pos ho
    rw [e2]
    refine ⟨rfl, ⟨X.b, X.now, X.sure, s', X.zs ++ [((o, none), (ob, ob))]⟩, β', γ, rfl, ⟨?_, ?_⟩, ?_⟩
    · show List.map (fun z : LogV => z.1) (X.zs ++ [_]) = D.log ++ [_]
      rw [List.map_append, HK.out.log]
      rfl
    · show SlOK s' (X.zs ++ [_]).length ((X.zs ++ [_]).map LogV.val) 1
      rw [List.length_append, List.map_append]
      exact HK'.out
    · rw [dskL_snoc]
      exact (hM.perm (perm_ex3 _ _ _ [] _ _ _)).front
  · have hc : (Fs.owners D.now).contains o = false := by
      cases hq : (Fs.owners D.now).contains o with
      | false => rfl
      | true => exact absurd (List.contains_iff_mem.1 hq) ho
    rw [hc]
    have e2 : DN = D := by rw [← HD.out]; exact if_neg ho
    subst e2
    (try simp only [Act.put, qSa, qSz, qSs])
    (repeat (first | ((with_reducible show wpSeq _ _ _ _ _ _ _); first | ((with_reducible refine wpSeq_nil ?_); refine hKr.out _ _ ?_; clear hKr Kr) | (((refine St.pure (v := ?_) rfl rfl rfl (fun w => ?_) ?_; rotate_left; (focus (go_simp; all_goals with_reducible rfl)))); (try simp only [Act.put, qSa, qSz, qSs]))) | (first | (refine wp_cond_true rfl ?_) | ((refine hK.out _ _ ?_); clear hK K))))
    ((refine wp_ret ?_; (try simp only [Exit.then, Exit.inBlock]); refine St.ret hM rfl (by repeat (exact Outs.nil)) rfl ?_))
    exact ⟨rfl, X, β, γ, rfl, HK.out, hM.forget⟩
theorem perm_cl {α : Type} (n : α) (a b r : List α) : (n :: (a ++ (b ++ r))).Perm ((n :: (b ++ a)) ++ r) := (perm_by (by intro _ x; simp only [List.append_eq, List.count_append, List.count_cons, List.count_nil, List.cons_append, List.nil_append]; omega))
set_option maxHeartbeats 16000000 in
set_option maxRecDepth 100000 in
/-- A slice of logged entries, copied. -/
theorem cloneE_any {vs : List Value} (hk : SlOK s n vs 1) (h1 : vs.all (·.oneCell') = true) (hn : n ≤ 1000000000) (hA : At (logL s vs) w) : Calls Tryz.prog 77 #[slV s n] w fun e w' => ∃ s', e = .returned (slV s' n) ∧ SlOK s' n vs 1 ∧ St w [] w' (logL s' vs) := by
  have hM := hA.ro
  rcases s with _ | ⟨g, cap⟩
  · obtain ⟨hl, rfl⟩ := hk
    have hv : vs = [] := List.eq_nil_of_length_eq_zero (by omega)
    subst hv
    clear hM
    have hM := St.start w []
    simp only [slV]
    go_enter Tryz.func77, Tryz.ntmps77
    (repeat (first | ((with_reducible show wpSeq _ _ _ _ _ _ _); first | ((with_reducible refine wpSeq_nil ?_); refine hKr.out _ _ ?_; clear hKr Kr) | (((refine St.copy (v := ?_) (by first | exact .inl rfl | exact .inr rfl) rfl rfl ?_ ?_; rotate_left; (focus ((try simp only [Act.eval, getD_lit, qGz, qGs]); with_reducible rfl)))); (try simp only [Act.put, qSa, qSz, qSs]))) | (first | (refine wp_seq_shut (fun K hK => ?_)) | (refine wp_text hM (fun Kr hKr => ?_); simp only [inText]) | ((refine hK.out _ _ ?_); clear hK K))))
    refine St.pure (v := .bool true) rfl rfl rfl (fun w => ?_) ?_
    · go_simp
      rw [Lib.run_eql_slice_nil (h := Tryz.underlying79)]
      rfl
    (try simp only [Act.put, qSa, qSz, qSs])
    (repeat (first | ((with_reducible show wpSeq _ _ _ _ _ _ _); first | ((with_reducible refine wpSeq_nil ?_); refine hKr.out _ _ ?_; clear hKr Kr) | (((refine St.copy (v := ?_) (by exact .inr rfl) rfl rfl ?_ ?_; rotate_left; (focus ((try simp only [Act.eval, getD_lit, qGz, qGs]); with_reducible rfl)))); (try simp only [Act.put, qSa, qSz, qSs]))) | (first | (refine wp_seq_shut (fun K hK => ?_)) | (refine wp_text hM (fun Kr hKr => ?_); simp only [inText]) | (refine wp_cond_true rfl ?_) | ((refine hK.out _ _ ?_); clear hK K))))
    ((refine wp_ret ?_; (try simp only [Exit.then, Exit.inBlock]); refine St.ret hM rfl (by repeat (first | exact Outs.nil | apply Outs.tmp rfl)) rfl ?_))
    exact ⟨none, rfl, ⟨rfl, rfl⟩, hM⟩
  · have HK := Lib.hid hk
    clear hk
    simp only [slL, List.map_cons, List.map_nil, unflag] at hM
    simp only [slV]
    go_enter Tryz.func77, Tryz.ntmps77
    (repeat (first | ((with_reducible show wpSeq _ _ _ _ _ _ _); first | ((with_reducible refine wpSeq_nil ?_); refine hKr.out _ _ ?_; clear hKr Kr) | (((refine St.copy (v := ?_) (by first | exact .inl rfl | exact .inr rfl) rfl rfl ?_ ?_; rotate_left; (focus ((try simp only [Act.eval, getD_lit, qGz, qGs]); with_reducible rfl)))); (try simp only [Act.put, qSa, qSz, qSs]))) | (first | (refine wp_seq_shut (fun K hK => ?_)) | (refine wp_text hM (fun Kr hKr => ?_); simp only [inText]) | ((refine hK.out _ _ ?_); clear hK K))))
    refine St.pure (v := .bool false) rfl rfl rfl (fun w => ?_) ?_
    · go_simp
      rw [Lib.run_eql_slice_nil (h := Tryz.underlying79)]
      rfl
    (try simp only [Act.put, qSa, qSz, qSs])
    (repeat (first | ((with_reducible show wpSeq _ _ _ _ _ _ _); first | ((with_reducible refine wpSeq_nil ?_); refine hKr.out _ _ ?_; clear hKr Kr) | ((first | (refine St.copy (v := ?_) (by exact .inl rfl) rfl rfl ?_ ?_; rotate_left; (focus ((try simp only [Act.eval, getD_lit, qGz, qGs]); with_reducible rfl))) | (((((refine St.buildSlice (cells := ?_) (e := ?_) rfl hM rfl rfl (fun w => ?_) ?_; rotate_left 2; (focus (go_simp; all_goals with_reducible rfl)))); clear hM; intro w bk hM)); (try simp only [Res.put, Res.known, Act.eval, Value.cells, getD_lit, qGz, qGs, List.toList_toArray, qSz, qSs, over, Nat.reduceAdd] at hM))); (try simp only [Act.put, qSa, qSz, qSs]))) | (first | (refine wp_seq_shut (fun K hK => ?_)) | (refine wp_text hM (fun Kr hKr => ?_); simp only [inText]) | refine wp_skip ?_ | (refine wp_cond_false rfl ?_) | ((refine hK.out _ _ ?_); clear hK K))))
    replace hM := hM.weaken (r' := .pre [] 138 (0 * 1)) (L' := slL (some (bk, 0)) [] 138 1 ++ [(g, false, Res.pre vs 138 (cap * 1))]) Upd.head (Res.toPre rfl)
    have hlen := HK.out.1
    refine St.append (s := some (bk, 0)) (n := 0) (xs := []) (m := n) (news := vs) rfl hM rfl rfl rfl rfl rfl (by kernel_rfl) (by intro s'; repeat (exact Swap.here)) ⟨rfl, Nat.le_refl _, Nat.zero_le _⟩ hlen (hM.news (b := g) (ow := false) (r := .pre vs 138 (cap * 1)) (.tail _ (.head _))) h1 (by rw [maxLen_val]; omega) (by omega) (fun h => by cases h) ?_
    clear hM; intro w s' hM hk' _
    rw [List.nil_append] at hM hk'
    rw [Nat.zero_add] at hk' ⊢
    (try simp only [Act.put, qSa, qSz, qSs])
    (repeat (first | ((with_reducible show wpSeq _ _ _ _ _ _ _); first | ((with_reducible refine wpSeq_nil ?_); refine hKr.out _ _ ?_; clear hKr Kr) | (((refine St.copy (v := ?_) (by exact .inr rfl) rfl rfl ?_ ?_; rotate_left; (focus ((try simp only [Act.eval, getD_lit, qGz, qGs]); with_reducible rfl)))); (try simp only [Act.put, qSa, qSz, qSs]))) | (((refine hK.out _ _ ?_); clear hK K))))
    ((refine wp_ret ?_; (try simp only [Exit.then, Exit.inBlock]); refine St.ret hM rfl (by repeat (first | exact Outs.nil | apply Outs.tmp rfl)) rfl ?_))
    exact ⟨s', rfl, hk', hM.front⟩
set_option maxHeartbeats 16000000 in
set_option maxRecDepth 100000 in
/-- A disk of its own with the same files, what is sure shared. -/
theorem dClone_any {vs : List Value} (hk : SlOK s n vs 1) (h1 : vs.all (·.oneCell') = true) (hn : n ≤ 1000000000) (hN : N ≤ 1000000000) (h : (dskE b x.f g s n).2.2.holds w.heap[b]?) (hA : FsAt N x β d w) (hL : At (logL s vs) w) :
    Calls Tryz.prog 27 #[.pointer (some ⟨b, 0, none⟩)] w fun e w' => ∃ c x' γ s', e = .returned (.pointer (some ⟨c, 0, none⟩)) ∧ SlOK s' n vs 1 ∧ St w [] w' (dskE c (FsX.f x') g s' n :: (fsL x' γ d ++ logL s' vs)) := by
  have hM := St.one h
  have HW := Lib.hid h
  unfold dskE at hM
  obtain ⟨va, vc, hv, -⟩ := slV_open hk
  rw [hv] at hM
  go_enter Tryz.func27, Tryz.ntmps27
  (repeat (first | ((with_reducible show wpSeq _ _ _ _ _ _ _); first | ((with_reducible refine wpSeq_nil ?_); refine hKr.out _ _ ?_; clear hKr Kr) | (((refine St.copy (v := ?_) (by first | exact .inl rfl | exact .inr rfl) rfl rfl ?_ ?_; rotate_left; (focus ((try simp only [Act.eval, getD_lit, qGz, qGs]); with_reducible rfl)))); (try simp only [Act.put, qSa, qSz, qSs]))) | (first | (refine wp_seq_shut (fun K hK => ?_)) | (refine wp_text hM (fun Kr hKr => ?_); simp only [inText]) | ((refine hK.out _ _ ?_); clear hK K))))
  ((refine St.call rfl rfl rfl (by kernel_rfl) (fun R hR => ?_); simp only [List.map_toArray, List.map_cons, List.map_nil, Act.eval, getD_lit, qGz, qGs]))
  refine (dgiven_any (hM.only.holds HW.out)).mono ?_
  rintro e w' ⟨rfl, rfl⟩; refine hR.out _ _ (fun h => h) ?_; clear hR R; (try simp only [Act.put, qSa, qSz, qSs])
  (repeat (first | ((with_reducible show wpSeq _ _ _ _ _ _ _); first | ((with_reducible refine wpSeq_nil ?_); refine hKr.out _ _ ?_; clear hKr Kr) | ((first | (refine St.copy (v := ?_) (by exact .inl rfl) rfl rfl ?_ ?_; rotate_left; (focus ((try simp only [Act.eval, getD_lit, qGz, qGs]); with_reducible rfl))) | (refine St.pure (v := ?_) rfl rfl rfl (fun w => ?_) ?_; rotate_left; (focus (go_simp; all_goals with_reducible rfl))) | refine St.load1 rfl rfl rfl rfl (by repeat constructor) (by rfl) (by kernel_rfl) ?_); (try simp only [Act.put, qSa, qSz, qSs]))) | (first | (refine wp_seq_shut (fun K hK => ?_)) | refine wp_skip ?_ | (refine wp_cond_false rfl ?_) | ((refine hK.out _ _ ?_); clear hK K)) | ((refine wp_drawn (id := 3) hM (Sub.all _) [3, 8, 12] [(0, 0), (1, 0), (2, 0), (3, 1), (5, 0), (6, 0), (7, 0), (8, 1), (9, 0), (10, 0), (11, 0), (12, 1), (4, 2), (13, 2), (14, 2), (15, 2), (16, 3)] (by kernel_rfl) (by kernel_rfl) ?_); (clear hM; intro w hM Kr hKr); simp only [opsOf, qGz, qGs])))
  ((refine St.call rfl rfl rfl (by kernel_rfl) (fun R hR => ?_); simp only [List.map_toArray, List.map_cons, List.map_nil, Act.eval, getD_lit, qGz, qGs]))
  refine (fClone_any (hA.below hM.to_below) hN).mono ?_
  rintro e w' ⟨x', γ, rfl, hN2⟩
  replace hM := hM.madeM hN2 (fsL_flag _ _ _)
  refine hR.out _ _ (fun h => h.below hN2.to_below) ?_; clear hR R hN2; (try simp only [Act.put, qSa, qSz, qSs])
  (repeat (fail))
  ((refine St.call rfl rfl rfl (by kernel_rfl) (fun R hR => ?_); simp only [List.map_toArray, List.map_cons, List.map_nil, Act.eval, getD_lit, qGz, qGs]))
  rw [← hv]
  refine (cloneE_any hk h1 hn (hL.below hM.to_below)).mono ?_
  rintro e w' ⟨s', rfl, hk', hN2⟩
  replace hM := hM.madeM hN2 (slL_flag _ _ _ _)
  refine hR.out _ _ (fun h => h.below hN2.to_below) ?_; clear hR R hN2
  obtain ⟨va', vc', hv', -⟩ := slV_open hk'
  rw [hv']
  (try simp only [Act.put, qSa, qSz, qSs])
  (repeat (first | ((with_reducible show wpSeq _ _ _ _ _ _ _); first | ((with_reducible refine wpSeq_nil ?_); refine hKr.out _ _ ?_; clear hKr Kr) | ((first | (refine St.copy (v := ?_) (by exact .inr rfl) rfl rfl ?_ ?_; rotate_left; (focus ((try simp only [Act.eval, getD_lit, qGz, qGs]); with_reducible rfl))) | (refine St.pure (v := ?_) rfl rfl rfl (fun w => ?_) ?_; rotate_left; (focus (go_simp; all_goals with_reducible rfl))) | ((((refine St.box rfl hM rfl rfl rfl ?_); clear hM; intro w bk hM)); (try simp only [Res.put, Res.known, Act.eval, Value.cells, getD_lit, qGz, qGs, List.toList_toArray, qSz, qSs, over, Nat.reduceAdd] at hM))); (try simp only [Act.put, qSa, qSz, qSs]))) | (((refine hK.out _ _ ?_); clear hK K))))
  ((refine wp_ret ?_; (try simp only [Exit.then, Exit.inBlock]); refine St.ret hM rfl (by repeat (first | exact Outs.nil | apply Outs.tmp rfl)) rfl ?_))
  rw [← hv'] at hM
  refine ⟨bk, x', γ, s', rfl, hk', ?_⟩
  exact St.front (M := dskE bk x'.f g s' n :: (fsL x' γ d ++ logL s' vs)) (hM.perm (perm_cl _ _ _ _))
end
end Go.Proofs.YtcicjklhbnipcaaGreatDoor
namespace Go.Proofs.YtcicjklhbnipcaaGreatDoor
set_option linter.unusedVariables false
set_option linter.unusedSimpArgs false
open Go.RowKit Go.Maps
theorem tx_cells {w0 w : World} {F : List Nat} {L : List Ent} {g cap : Nat} {xs : List ByteArray} {ow : Bool} (hM : St w0 F w L) (hm : (g, ow, Res.pre (xs.map Value.string) 9 (cap * 1)) ∈ L) : ∀ j, j < xs.length → w.cell? ⟨g, 0 + j, none⟩ = some (.string (xs.getD j ByteArray.empty)) := fun j hj => by
  refine Res.cell (hM.holds _ hm) ?_
  show (xs.map Value.string)[0 + j]? = _
  rw [Nat.zero_add, List.getElem?_map, List.getElem?_eq_getElem hj, List.getD_eq_getElem?_getD, List.getElem?_eq_getElem hj]
  rfl
theorem draws_below (w : World) (q : Nat) : Below w.heap.size w (w.drewN q) := ⟨rfl, rfl, rfl, Nat.le_refl _, fun _ _ => rfl⟩
set_option maxHeartbeats 4000000 in
set_option maxRecDepth 100000 in
theorem Under_any (p dir : ByteArray) (w : World) (hp : p.size ≤ 1000000) (hd : dir.size ≤ 1000000) (hm : Mx w) : Calls Tryz.prog 130 #[.string p, .string dir] w fun e w' => e = .returned (.bool (Pt.under p dir)) ∧ Below w.heap.size w w' := by
  have hM := St.start w []
  have F0 : 0 ∉ ([] : List Nat) := nofun
  have HX := Lib.hid hm
  have C1 := Lib.hid (fun (W : World) (h : Mx W) => Parts_any p W hp h)
  have C2 := Lib.hid (fun (W : World) (h : Mx W) => Parts_any dir W hd h)
  have l1 := Pt.parts_len p hp
  have l2 := Pt.parts_len dir hd
  unfold Pt.under
  generalize Pt.parts p = xs at *
  generalize Pt.parts dir = ys at *
  clear hp hd hm
  generalize hU : (decide (ys.length < xs.length) && decide (xs.take ys.length = ys)) = U
  have HU := Lib.hid hU
  clear hU
  go_enter Tryz.func130, Tryz.ntmps130
  (repeat (first | ((with_reducible show wpSeq _ _ _ _ _ _ _); first | ((with_reducible refine wpSeq_nil ?_); refine hKr.out _ _ ?_; clear hKr Kr) | (((refine St.copy (v := ?_) (by first | exact .inl rfl | exact .inr rfl) rfl rfl ?_ ?_; rotate_left; (focus ((try simp only [Act.eval, getD_lit, qGz, qGs]); with_reducible rfl)))); (try simp only [Act.put, qSa, qSz, qSs]))) | (first | (refine wp_seq_shut (fun K hK => ?_)) | (refine wp_text hM (fun Kr hKr => ?_); simp only [inText]) | ((refine hK.out _ _ ?_); clear hK K))))
  ((refine St.call rfl rfl rfl (by kernel_rfl) (fun R hR => ?_); simp only [List.map_toArray, List.map_cons, List.map_nil, Act.eval, getD_lit, qGz, qGs]))
  refine (C1.out _ (hM.mx HX.out F0)).mono ?_
  rintro e w' ⟨s1, rfl, hk1, hN⟩
  replace hM := hM.madeM hN (txL_flag _ _)
  refine hR.out _ _ (fun h => h.below hN.to_below) ?_; clear hR R hN
  obtain ⟨a1, c1, hv1, ha1⟩ := slV_open hk1
  rw [hv1]
  (try simp only [Act.put, qSa, qSz, qSs])
  (repeat (((with_reducible show wpSeq _ _ _ _ _ _ _); (((refine St.copy (v := ?_) (by exact .inl rfl) rfl rfl ?_ ?_; rotate_left; (focus ((try simp only [Act.eval, getD_lit, qGz, qGs]); with_reducible rfl)))); (try simp only [Act.put, qSa, qSz, qSs])))))
  ((refine St.call rfl rfl rfl (by kernel_rfl) (fun R hR => ?_); simp only [List.map_toArray, List.map_cons, List.map_nil, Act.eval, getD_lit, qGz, qGs]))
  refine (C2.out _ (hM.mx HX.out F0)).mono ?_
  rintro e w' ⟨s2, rfl, hk2, hN⟩
  replace hM := hM.madeM hN (txL_flag _ _)
  refine hR.out _ _ (fun h => h.below hN.to_below) ?_; clear hR R hN
  obtain ⟨a2, c2, hv2, ha2⟩ := slV_open hk2
  rw [hv2]
  (try simp only [Act.put, qSa, qSz, qSs])
  by_cases h1 : ys.length < xs.length
  · have k1 : (ys.length : Int) < (xs.length : Int) := by omega
    have d1 : decide (ys.length < xs.length) = true := decide_eq_true h1
    cases s1 with
    | none => exact absurd hk1.2 (by omega)
    | some gc =>
    obtain ⟨g, cap⟩ := gc
    obtain ⟨rfl, rfl⟩ := ha1 g cap rfl
    have k2 : (ys.length : Int) ≤ (c1 : Int) := by have := hk1.2.1; omega
    have HL := Lib.hid hk2
    have e : decide (xs.take ys.length = ys) = U := by rw [← HU.out, d1, Bool.true_and]
    simp only [slL, List.cons_append, List.nil_append] at hM
    (repeat (first | ((with_reducible show wpSeq _ _ _ _ _ _ _); first | ((with_reducible refine wpSeq_nil ?_); refine hKr.out _ _ ?_; clear hKr Kr) | ((first | (refine St.copy (v := ?_) (by first | exact .inl rfl | exact .inr rfl) rfl rfl ?_ ?_; rotate_left; (focus ((try simp only [Act.eval, getD_lit, qGz, qGs]); with_reducible rfl))) | (refine St.pure (v := ?_) rfl rfl rfl (fun w => ?_) ?_; rotate_left; (focus (go_simp; all_goals with_reducible rfl)))); (try simp only [Act.put, qSa, qSz, qSs]))) | (first | (refine wp_seq_shut (fun K hK => ?_)) | (refine wp_text hM (fun Kr hKr => ?_); simp only [inText]) | ((refine hK.out _ _ ?_); clear hK K))))
    ((refine St.call rfl rfl rfl (by kernel_rfl) (fun R hR => ?_); simp only [List.map_toArray, List.map_cons, List.map_nil, Act.eval, getD_lit, qGz, qGs]))
    by_cases h0 : ys.length = 0
    · have e0 : true = U := by rw [← e, h0]; simpa using (List.eq_nil_of_length_eq_zero h0).symm
      subst e0
      rw [h0]
      refine (Tryz.slices_Equal_string_empty _ _ _ _ _ _ (by decide)).mono ?_
      rintro e w' ⟨rfl, rfl⟩; refine hR.out _ _ (fun h => h) ?_; clear hR R; (try simp only [Act.put, qSa, qSz, qSs])
      (repeat (first | ((with_reducible show wpSeq _ _ _ _ _ _ _); first | ((with_reducible refine wpSeq_nil ?_); refine hKr.out _ _ ?_; clear hKr Kr) | ((first | (refine St.copy (v := ?_) (by exact .inr rfl) rfl rfl ?_ ?_; rotate_left; (focus ((try simp only [Act.eval, getD_lit, qGz, qGs]); with_reducible rfl))) | (refine St.pure (v := ?_) rfl rfl rfl (fun w => ?_) ?_; rotate_left; (focus (go_simp; all_goals with_reducible rfl)))); (try simp only [Act.put, qSa, qSz, qSs]))) | (((refine hK.out _ _ ?_); clear hK K))))
      ((refine wp_ret ?_; (try simp only [Exit.then, Exit.inBlock]); refine St.ret hM rfl (by repeat (first | exact Outs.nil | apply Outs.tmp rfl)) rfl ?_))
      exact ⟨rfl, hM.to_below⟩
    · cases s2 with
      | none => exact absurd HL.out.2 h0
      | some gc2 =>
      obtain ⟨g2, cap2⟩ := gc2
      obtain ⟨rfl, rfl⟩ := ha2 g2 cap2 rfl
      simp only [slL, List.cons_append, List.nil_append] at hM
      refine (Tryz.slices_Equal_string _ _ _ _ _ _ _ _ xs ys _ (by omega) (by omega) (by omega) (by omega) (tx_cells hM (by repeat constructor)) (tx_cells hM (by repeat constructor))).mono ?_
      rintro e' w' ⟨rfl, q, rfl⟩
      refine hR.out _ _ (fun h => h.below (draws_below _ q)) ?_; clear hR R; replace hM := hM.below (draws_below _ q)
      rw [List.take_of_length_le (Nat.le_refl ys.length), e]
      (try simp only [Act.put, qSa, qSz, qSs])
      (repeat (first | ((with_reducible show wpSeq _ _ _ _ _ _ _); first | ((with_reducible refine wpSeq_nil ?_); refine hKr.out _ _ ?_; clear hKr Kr) | ((first | (refine St.copy (v := ?_) (by exact .inr rfl) rfl rfl ?_ ?_; rotate_left; (focus ((try simp only [Act.eval, getD_lit, qGz, qGs]); with_reducible rfl))) | (refine St.pure (v := ?_) rfl rfl rfl (fun w => ?_) ?_; rotate_left; (focus (go_simp; all_goals with_reducible rfl)))); (try simp only [Act.put, qSa, qSz, qSs]))) | (((refine hK.out _ _ ?_); clear hK K))))
      ((refine wp_ret ?_; (try simp only [Exit.then, Exit.inBlock]); refine St.ret hM rfl (by repeat (first | exact Outs.nil | apply Outs.tmp rfl)) rfl ?_))
      exact ⟨rfl, hM.to_below⟩
  · have k1 : ¬ ((ys.length : Int) < (xs.length : Int)) := by omega
    have d1 : decide (ys.length < xs.length) = false := decide_eq_false h1
    have e : false = U := by rw [← HU.out, d1, Bool.false_and]
    subst e
    (repeat (first | ((with_reducible show wpSeq _ _ _ _ _ _ _); first | ((with_reducible refine wpSeq_nil ?_); refine hKr.out _ _ ?_; clear hKr Kr) | ((first | (refine St.copy (v := ?_) (by first | exact .inl rfl | exact .inr rfl) rfl rfl ?_ ?_; rotate_left; (focus ((try simp only [Act.eval, getD_lit, qGz, qGs]); with_reducible rfl))) | (refine St.pure (v := ?_) rfl rfl rfl (fun w => ?_) ?_; rotate_left; (focus (go_simp; all_goals with_reducible rfl))) | refine wpSeq_off rfl rfl ?_); (try simp only [Act.put, qSa, qSz, qSs]))) | (first | (refine wp_seq_shut (fun K hK => ?_)) | (refine wp_text hM (fun Kr hKr => ?_); simp only [inText]) | ((refine hK.out _ _ ?_); clear hK K))))
    ((refine wp_ret ?_; (try simp only [Exit.then, Exit.inBlock]); refine St.ret hM rfl (by repeat (first | exact Outs.nil | apply Outs.tmp rfl)) rfl ?_))
    exact ⟨rfl, hM.to_below⟩
end Go.Proofs.YtcicjklhbnipcaaGreatDoor
namespace Go.Proofs.YtcicjklhbnipcaaGreatDoor
set_option linter.unusedVariables false
set_option linter.unusedSimpArgs false
open Go.RowKit Go.Maps
/-- The first 'k' and the last 'k' have changed places. -/
def RevK (xs ys : List FileD) (k : Nat) : Prop := ys.length = xs.length ∧ ∀ i, i < xs.length → ys[i]? = if i < k ∨ xs.length - 1 - k < i then xs[xs.length - 1 - i]? else xs[i]?
theorem revK_zero (xs : List FileD) : RevK xs xs 0 := ⟨rfl, fun i hi => by rw [if_neg (by omega)]⟩
theorem revK_all {xs ys : List FileD} {k : Nat} (h : RevK xs ys k) (hk : xs.length ≤ 2 * k + 1) : ys = xs.reverse := by
  obtain ⟨h1, h2⟩ := h
  refine List.ext_getElem? fun i => ?_
  by_cases hi : i < xs.length
  · rw [h2 i hi, List.getElem?_reverse hi]
    split
    · rfl
    · rw [show xs.length - 1 - i = i by omega]
  · rw [List.getElem?_eq_none (by omega), List.getElem?_eq_none (by rw [List.length_reverse]; omega)]
theorem revK_step {xs ys : List FileD} {k m : Nat} {a b : FileD} (h : RevK xs ys k) (hm : m = xs.length - 1 - k) (hkm : k < m) (ha : ys[k]? = some a) (hb : ys[m]? = some b) : RevK xs ((ys.set k b).set m a) (k + 1) := by
  obtain ⟨h1, h2⟩ := h
  refine ⟨by simp [h1], fun i hi => ?_⟩
  have ga := h2 k (by omega)
  rw [if_neg (by omega), ha] at ga
  have gb := h2 m (by omega)
  rw [if_neg (by omega), hb] at gb
  by_cases e1 : i = m
  · subst e1
    rw [List.getElem?_set_self (by simp; omega), if_pos (by omega), ga]
    exact congrArg (fun z => xs[z]?) (by omega)
  · rw [List.getElem?_set_ne (fun e => e1 e.symm)]
    by_cases e2 : i = k
    · subst e2
      rw [List.getElem?_set_self (by omega), if_pos (by omega), gb]
      exact congrArg (fun z => xs[z]?) (by omega)
    · rw [List.getElem?_set_ne (fun e => e2 e.symm), h2 i hi]
      by_cases c : i < k ∨ xs.length - 1 - k < i
      · rw [if_pos c, if_pos (by omega)]
      · rw [if_neg c, if_neg (by omega)]
theorem file_at {xs : List FileD} {k : Nat} {f : FileD} (h : xs[k]? = some f) : ((xs.flatMap FileD.cells).drop (k * 3)).take 3 = [.string f.path, .bool f.dir, .string f.data] := by
  induction xs generalizing k with
  | nil => simp at h
  | cons p r ih =>
    cases k with
    | zero =>
      rw [List.getElem?_cons_zero] at h
      cases h
      rfl
    | succ k =>
      rw [List.getElem?_cons_succ] at h
      have := ih h
      rw [show (k + 1) * 3 = k * 3 + 3 by omega]
      exact this
theorem over_file {xs : List FileD} {k : Nat} (f : FileD) (h : k < xs.length) : over (xs.flatMap FileD.cells) (k * 3) [.string f.path, .bool f.dir, .string f.data] = (xs.set k f).flatMap FileD.cells := by
  induction xs generalizing k with
  | nil => simp at h
  | cons p r ih =>
    cases k with
    | zero => rfl
    | succ k =>
      rw [List.length_cons] at h
      have := ih (k := k) (by omega)
      rw [show (k + 1) * 3 = k * 3 + 3 by omega, qSs]
      exact congrArg (fun z => p.cells ++ z) this
section
variable {N : Nat} {X : DskX} {x y : FsX} {β γ : Int → Nat × Nat} {D : DskD} {d : FsD} {w w' w0 : World} {F : List Nat} {L L' M M' : List Ent} {b f g n : Nat} {s : Option (Nat × Nat)}
theorem cells_len : ∀ l : List FileD, (l.flatMap FileD.cells).length = l.length * 3
  | [] => rfl
  | p :: r => by rw [List.flatMap_cons, List.length_append, cells_len r, List.length_cons]; simp [FileD.cells]; omega
theorem fileOK_set {xs ys : List FileD} (h : FileOK s xs) (hl : ys.length = xs.length) : FileOK s ys := by
  refine ⟨cells_len ys, ?_⟩
  rw [hl]
  exact h.2
set_option maxHeartbeats 16000000 in
set_option maxRecDepth 100000 in
theorem revF_any {xs : List FileD} (hk : FileOK s xs) (hl : xs.length ≤ 1000000) (hA : At (fileL s xs) w0) : Calls Tryz.prog 129 #[slV s xs.length] w0 fun e w' => e = .returned (.tuple #[]) ∧ St w0 (keysOf (fileL s xs)) w' (fileL s xs.reverse) := by
  have hM := hA.st
  obtain ⟨F, hF⟩ : ∃ F, keysOf (fileL s xs) = F := ⟨_, rfl⟩
  rw [hF] at hM ⊢
  have HK := Lib.hid hk
  clear hF hA hk
  rcases s with _ | ⟨g, cap⟩
  · have h0 : xs = [] := List.eq_nil_of_length_eq_zero HK.out.2
    subst h0
    simp only [slV]
    go_enter Tryz.func129, Tryz.ntmps129
    (repeat (first | ((with_reducible show wpSeq _ _ _ _ _ _ _); first | ((with_reducible refine wpSeq_nil ?_); refine hKr.out _ _ ?_; clear hKr Kr) | ((first | (refine St.copy (v := ?_) (by first | exact .inl rfl | exact .inr rfl) rfl rfl ?_ ?_; rotate_left; (focus ((try simp only [Act.eval, getD_lit, qGz, qGs]); with_reducible rfl))) | (refine St.pure (v := ?_) rfl rfl rfl (fun w => ?_) ?_; rotate_left; (focus (go_simp; all_goals with_reducible rfl)))); (try simp only [Act.put, qSa, qSz, qSs]))) | (first | (refine wp_seq_shut (fun K hK => ?_)) | (refine wp_text hM (fun Kr hKr => ?_); simp only [inText]) | refine wp_block ?_ | ((refine hK.out _ _ ?_); clear hK K))))
    refine wp_loop_rounds 1 ?_
    (refine rounds_shut (fun K hK => ?_))
    (repeat (first | ((with_reducible show wpSeq _ _ _ _ _ _ _); first | ((with_reducible refine wpSeq_nil ?_); refine hKr.out _ _ ?_; clear hKr Kr) | ((first | (refine St.copy (v := ?_) (by exact .inl rfl) rfl rfl ?_ ?_; rotate_left; (focus ((try simp only [Act.eval, getD_lit, qGz, qGs]); with_reducible rfl))) | (refine St.pure (v := ?_) rfl rfl rfl (fun w => ?_) ?_; rotate_left; (focus (go_simp; all_goals with_reducible rfl)))); (try simp only [Act.put, qSa, qSz, qSs]))) | (first | (refine wp_seq_shut (fun K hK => ?_)) | (refine wp_text hM (fun Kr hKr => ?_); simp only [inText]) | (refine wp_cond_false rfl ?_) | (refine wp_exit ?_; simp only [Exit.then, Exit.inBlock, if_true, if_false, reduceCtorEq, Nat.reduceEqDiff, Nat.succ_ne_zero]) | ((refine hK.out _ _ ?_); clear hK K))))
    ((refine St.fin hM rfl (by repeat (exact Outs.nil)) rfl ?_))
    exact ⟨rfl, hM⟩
  · simp only [slV, fileL, slL] at hM ⊢
    by_cases hz : xs.length = 0
    · have h0 : xs = [] := List.eq_nil_of_length_eq_zero hz
      subst h0
      simp only [List.length_nil]
      go_enter Tryz.func129, Tryz.ntmps129
      (repeat (first | ((with_reducible show wpSeq _ _ _ _ _ _ _); first | ((with_reducible refine wpSeq_nil ?_); refine hKr.out _ _ ?_; clear hKr Kr) | ((first | (refine St.copy (v := ?_) (by first | exact .inl rfl | exact .inr rfl) rfl rfl ?_ ?_; rotate_left; (focus ((try simp only [Act.eval, getD_lit, qGz, qGs]); with_reducible rfl))) | (refine St.pure (v := ?_) rfl rfl rfl (fun w => ?_) ?_; rotate_left; (focus (go_simp; all_goals with_reducible rfl)))); (try simp only [Act.put, qSa, qSz, qSs]))) | (first | (refine wp_seq_shut (fun K hK => ?_)) | (refine wp_text hM (fun Kr hKr => ?_); simp only [inText]) | refine wp_block ?_ | ((refine hK.out _ _ ?_); clear hK K))))
      refine wp_loop_rounds 1 ?_
      (refine rounds_shut (fun K hK => ?_))
      (repeat (first | ((with_reducible show wpSeq _ _ _ _ _ _ _); first | ((with_reducible refine wpSeq_nil ?_); refine hKr.out _ _ ?_; clear hKr Kr) | ((first | (refine St.copy (v := ?_) (by exact .inl rfl) rfl rfl ?_ ?_; rotate_left; (focus ((try simp only [Act.eval, getD_lit, qGz, qGs]); with_reducible rfl))) | (refine St.pure (v := ?_) rfl rfl rfl (fun w => ?_) ?_; rotate_left; (focus (go_simp; all_goals with_reducible rfl)))); (try simp only [Act.put, qSa, qSz, qSs]))) | (first | (refine wp_seq_shut (fun K hK => ?_)) | (refine wp_text hM (fun Kr hKr => ?_); simp only [inText]) | (refine wp_cond_false rfl ?_) | (refine wp_exit ?_; simp only [Exit.then, Exit.inBlock, if_true, if_false, reduceCtorEq, Nat.reduceEqDiff, Nat.succ_ne_zero]) | ((refine hK.out _ _ ?_); clear hK K))))
      ((refine St.fin hM rfl (by repeat (exact Outs.nil)) rfl ?_))
      exact ⟨rfl, hM⟩
    have hw1 : IntKind.i64.wrap ((xs.length : Int) - 1) = ((xs.length - 1 : Nat) : Int) := by rw [wrap_in _ (by omega)]; omega
    go_enter Tryz.func129, Tryz.ntmps129
    (repeat (first | ((with_reducible show wpSeq _ _ _ _ _ _ _); first | ((with_reducible refine wpSeq_nil ?_); refine hKr.out _ _ ?_; clear hKr Kr) | ((first | (refine St.copy (v := ?_) (by first | exact .inl rfl | exact .inr rfl) rfl rfl ?_ ?_; rotate_left; (focus ((try simp only [Act.eval, getD_lit, qGz, qGs]); with_reducible rfl))) | (refine St.pure (v := ?_) rfl rfl rfl (fun w => ?_) ?_; rotate_left; (focus (go_simp; all_goals with_reducible rfl)))); (try simp only [Act.put, qSa, qSz, qSs]))) | (first | (refine wp_seq_shut (fun K hK => ?_)) | (refine wp_text hM (fun Kr hKr => ?_); simp only [inText]) | refine wp_block ?_ | ((refine hK.out _ _ ?_); clear hK K))))
    go_loopw [2, 3] (fun i j wr => ∃ (k m : Nat) (ys : List FileD), i = .int .i64 k ∧ j = .int .i64 m ∧ m = xs.length - 1 - k ∧ k ≤ m + 1 ∧ RevK xs ys k ∧ St w0 F wr [(g, true, .pre (ys.flatMap FileD.cells) 112 (cap * 3))]) (fun i _ _ => xs.length - (intOf i).toNat)
    case atStart => exact ⟨0, xs.length - 1, xs, rfl, by simp [hw1], by omega, by omega, revK_zero xs, hM⟩
    case round =>
      clear hM
      obtain ⟨k, m, ys, rfl, rfl, hm, hkm, hrev, hM⟩ := hrel
      have HV := Lib.hid hrev
      clear hrev
      by_cases hlt : k < m
      · have hyl := HV.out.1
        obtain ⟨a, ha⟩ := get_at (xs := ys) (k := k) (by omega)
        obtain ⟨b, hb⟩ := get_at (xs := ys) (k := m) (by omega)
        have hra := file_at ha
        have hrb := file_at hb
        have HST := Lib.hid (revK_step HV.out hm hlt ha hb)
        have oa := over_file (xs := ys) (k := k) b (by omega)
        have ob := over_file (xs := ys.set k b) (k := m) a (by rw [List.length_set]; omega)
        have hca : k * 3 + 3 ≤ (ys.flatMap FileD.cells).length := by rw [cells_len]; omega
        have hcb : m * 3 + 3 ≤ (ys.flatMap FileD.cells).length := by rw [cells_len]; omega
        have hcc : m * 3 + 3 ≤ ((ys.set k b).flatMap FileD.cells).length := by rw [cells_len, List.length_set]; omega
        have k1 : (k : Int) < (m : Int) := by omega
        have b1 : (k : Int) < (xs.length : Int) := by omega
        have b2 : (m : Int) < (xs.length : Int) := by omega
        have HM := Lib.hid hm
        clear hyl ha hb hm hkm
        (repeat (first | ((with_reducible show wpSeq _ _ _ _ _ _ _); first | ((with_reducible refine wpSeq_nil ?_); refine hKr.out _ _ ?_; clear hKr Kr) | ((first | (refine St.copy (v := ?_) (by exact .inl rfl) rfl rfl ?_ ?_; rotate_left; (focus ((try simp only [Act.eval, getD_lit, qGz, qGs]); with_reducible rfl))) | (refine St.pure (v := ?_) rfl rfl rfl (fun w => ?_) ?_; rotate_left; (focus (go_simp; all_goals with_reducible rfl)))); (try simp only [Act.put, qSa, qSz, qSs]))) | (first | (refine wp_seq_shut (fun K hK => ?_)) | (refine wp_text hM (fun Kr hKr => ?_); simp only [inText]) | refine wp_block ?_ | refine wp_skip ?_ | (refine wp_cond_true rfl ?_) | ((refine hK.out _ _ ?_); clear hK K)) | ((refine wp_drawn (id := 3) hM (Sub.all _) [7] [(0, 0), (1, 0), (2, 0), (3, 0), (4, 0), (5, 0), (6, 0), (7, 1), (8, 0), (9, 2), (10, 2), (11, 2), (12, 3), (13, 3), (14, 3), (15, 3)] (by kernel_rfl) (by kernel_rfl) ?_); (clear hM; intro w hM Kr hKr); simp only [opsOf, qGz, qGs])))
        refine St.loadRow1 rfl rfl rfl rfl (by repeat constructor) (by exact hcb) (by kernel_rfl) ?_
        simp only [Res.known]
        rw [hrb]
        (try simp only [Act.put, qSa, qSz, qSs])
        (repeat (((with_reducible show wpSeq _ _ _ _ _ _ _); ((first | (refine St.copy (v := ?_) (by exact .inl rfl) rfl rfl ?_ ?_; rotate_left; (focus ((try simp only [Act.eval, getD_lit, qGz, qGs]); with_reducible rfl))) | (refine St.pure (v := ?_) rfl rfl rfl (fun w => ?_) ?_; rotate_left; (focus (go_simp; all_goals with_reducible rfl)))); (try simp only [Act.put, qSa, qSz, qSs])))))
        refine St.loadRow rfl hM rfl rfl rfl rfl (by repeat constructor) (by exact hca) (by kernel_rfl) ?_
        simp only [Res.known]
        rw [hra]
        (try simp only [Act.put, qSa, qSz, qSs])
        (repeat (((with_reducible show wpSeq _ _ _ _ _ _ _); (((refine St.pure (v := ?_) rfl rfl rfl (fun w => ?_) ?_; rotate_left; (focus (go_simp; all_goals with_reducible rfl)))); (try simp only [Act.put, qSa, qSz, qSs])))))
        refine St.storeRow (vs := #[.string b.path, .bool b.dir, .string b.data]) rfl hM rfl rfl rfl rfl rfl Upd.head (by exact hca) (Nat.le_of_ble_eq_true rfl) (by kernel_rfl) rfl (fun h => by cases h) ?_
        clear hM; intro w hM
        simp only [Res.put, Res.known] at hM
        rw [oa] at hM
        (try simp only [Act.put, qSa, qSz, qSs])
        (repeat (((with_reducible show wpSeq _ _ _ _ _ _ _); (((refine St.pure (v := ?_) rfl rfl rfl (fun w => ?_) ?_; rotate_left; (focus (go_simp; all_goals with_reducible rfl)))); (try simp only [Act.put, qSa, qSz, qSs])))))
        refine St.storeRow (vs := #[.string a.path, .bool a.dir, .string a.data]) rfl hM rfl rfl rfl rfl rfl Upd.head (by exact hcc) (Nat.le_of_ble_eq_true rfl) (by kernel_rfl) rfl (fun h => by cases h) ?_
        clear hM; intro w hM
        simp only [Res.put, Res.known] at hM
        rw [ob] at hM
        have hwm : IntKind.i64.wrap ((m : Int) - 1) = ((m - 1 : Nat) : Int) := by rw [wrap_in _ (by omega)]; omega
        (try simp only [Act.put, qSa, qSz, qSs])
        (repeat (first | ((with_reducible show wpSeq _ _ _ _ _ _ _); first | ((with_reducible refine wpSeq_nil ?_); refine hKr.out _ _ ?_; clear hKr Kr) | ((first | (refine St.copy (v := ?_) (by first | exact .inl rfl | exact .inr rfl) rfl rfl ?_ ?_; rotate_left; (focus ((try simp only [Act.eval, getD_lit, qGz, qGs]); with_reducible rfl))) | refine St.inc rfl rfl rfl rfl rfl (by omega) ?_ | (refine St.pure (v := ?_) rfl rfl rfl (fun w => ?_) ?_; rotate_left; (focus (go_simp; all_goals with_reducible rfl)))); (try simp only [Act.put, qSa, qSz, qSs]))) | (first | (refine wp_text hM (fun Kr hKr => ?_); simp only [inText]) | ((refine hK.out _ _ ?_); clear hK K))))
        (refine ⟨?_, ?_⟩; (focus (repeat (first | exact ⟨⟨k + 1, m - 1, _, rfl, rfl, by have := HM.out; omega, by omega, HST.out, hM⟩, rfl⟩ | apply Exists.intro))); (simp only [getD_lit, qGz, qGs, intOf]; omega))
      · have k0 : ¬ ((k : Int) < (m : Int)) := by omega
        have e := revK_all HV.out (by omega)
        subst e
        clear hm hkm hlt
        (repeat (first | ((with_reducible show wpSeq _ _ _ _ _ _ _); first | ((with_reducible refine wpSeq_nil ?_); refine hKr.out _ _ ?_; clear hKr Kr) | ((first | (refine St.copy (v := ?_) (by exact .inl rfl) rfl rfl ?_ ?_; rotate_left; (focus ((try simp only [Act.eval, getD_lit, qGz, qGs]); with_reducible rfl))) | (refine St.pure (v := ?_) rfl rfl rfl (fun w => ?_) ?_; rotate_left; (focus (go_simp; all_goals with_reducible rfl)))); (try simp only [Act.put, qSa, qSz, qSs]))) | (first | (refine wp_seq_shut (fun K hK => ?_)) | (refine wp_text hM (fun Kr hKr => ?_); simp only [inText]) | (refine wp_cond_false rfl ?_) | (refine wp_exit ?_; simp only [Exit.then, Exit.inBlock, if_true, if_false, reduceCtorEq, Nat.reduceEqDiff, Nat.succ_ne_zero]) | ((refine hK.out _ _ ?_); clear hK K))))
        ((refine St.fin hM rfl (by repeat (exact Outs.nil)) rfl ?_))
        exact ⟨rfl, hM⟩
set_option maxHeartbeats 4000000 in
set_option maxRecDepth 100000 in
/-- A logged operation is done again. -/
theorem again_do (hA : FsAt N x β d w) (hN : N ≤ 999999990) {o : Int} (ho : Fits o) {p : OpD} (hp : p.Ok) {ob qb : Nat} (h1 : (Res.cells [.int .i64 o] 3).holds w.heap[ob]?) (h2 : (Res.cells p.cells 34).holds w.heap[qb]?) :
    Calls Tryz.prog 83 #[.pointer (some ⟨x.f, 0, none⟩), .pointer (some ⟨ob, 0, none⟩), .pointer (some ⟨qb, 0, none⟩)] w fun e w' => e = .returned (.tuple #[]) ∧ ∃ β', St w (keysOf (fsL x β d)) w' (fsL x β' (Fs.do_ d o p).2) := by
  have hM := St.start w []
  have c1 : w.cell? ⟨ob, 0, none⟩ = some (.int .i64 o) := Res.cell h1 rfl
  have c2 : w.rangeAt qb 0 p.cells := Res.range (q := 0) (n := p.cells.length) h2 (by show 0 + p.cells.length ≤ p.cells.length; omega)
  have C := Lib.hid (fDo_any hA hN ho p hp)
  generalize Fs.do_ d o p = G at *
  obtain ⟨⟨er, n, da, ns⟩, d'⟩ := G
  clear h1 h2 hp ho
  obtain ⟨pk, pp, pd, ph, pa, pn, px, py, pb⟩ := p
  simp only [OpD.cells] at C c2
  go_enter Tryz.func83, Tryz.ntmps83
  (repeat (first | ((with_reducible show wpSeq _ _ _ _ _ _ _); ((first | (refine St.copy (v := ?_) (by exact .inl rfl) rfl rfl ?_ ?_; rotate_left; (focus ((try simp only [Act.eval, getD_lit, qGz, qGs]); with_reducible rfl))) | refine St.loadF rfl rfl rfl rfl rfl (hM.old (by assumption)) (by kernel_rfl) ?_ | refine St.loadRowF rfl rfl rfl rfl rfl (hM.oldRow (by assumption)) (by kernel_rfl) ?_); (try simp only [Act.put, qSa, qSz, qSs]))) | ((refine wp_text hM (fun Kr hKr => ?_); simp only [inText]))))
  (refine St.call3 rfl rfl (by kernel_rfl) (fun R hR => ?_); simp only [List.map_toArray, List.map_cons, List.map_nil, Act.eval, getD_lit, qGz, qGs])
  refine C.out.mono ?_
  rintro e w' ⟨s, β', rfl, hs, hN2⟩
  refine hR.out _ _ ?_; clear hR R hM C
  have hM := hN2
  clear hN2
  (try simp only [Act.put, qSa, qSz, qSs])
  (repeat (((with_reducible show wpSeq _ _ _ _ _ _ _); ((with_reducible refine wpSeq_nil ?_); refine hKr.out _ _ ?_; clear hKr Kr))))
  ((refine St.fin hM rfl (by repeat (exact Outs.nil)) rfl ?_))
  exact ⟨rfl, β', hM.subM (List.sublist_append_right _ _)⟩
set_option maxHeartbeats 4000000 in
set_option maxRecDepth 100000 in
/-- An exit is done again. -/
theorem again_exit (hA : FsAt N x β d w) (hN : N ≤ 999999980) {o : Int} (ho : Fits o) {ob : Nat} (h1 : (Res.cells [.int .i64 o] 3).holds w.heap[ob]?) :
    Calls Tryz.prog 90 #[.pointer (some ⟨x.f, 0, none⟩), .pointer (some ⟨ob, 0, none⟩)] w fun e w' => e = .returned (.tuple #[]) ∧ ∃ β', St w (keysOf (fsL x β d)) w' (fsL x β' (Fs.exit d o)) := by
  have hM := St.start w []
  have c1 : w.cell? ⟨ob, 0, none⟩ = some (.int .i64 o) := Res.cell h1 rfl
  have C := Lib.hid (fExit_any hA hN ho)
  generalize Fs.exit d o = d' at *
  clear h1 ho
  go_enter Tryz.func90, Tryz.ntmps90
  (repeat (first | ((with_reducible show wpSeq _ _ _ _ _ _ _); ((first | (refine St.copy (v := ?_) (by exact .inl rfl) rfl rfl ?_ ?_; rotate_left; (focus ((try simp only [Act.eval, getD_lit, qGz, qGs]); with_reducible rfl))) | refine St.loadF rfl rfl rfl rfl rfl (hM.old (by assumption)) (by kernel_rfl) ?_); (try simp only [Act.put, qSa, qSz, qSs]))) | ((refine wp_text hM (fun Kr hKr => ?_); simp only [inText]))))
  (refine St.call3 rfl rfl (by kernel_rfl) (fun R hR => ?_); simp only [List.map_toArray, List.map_cons, List.map_nil, Act.eval, getD_lit, qGz, qGs])
  refine C.out.mono ?_
  rintro e w' ⟨rfl, ⟨β', hN2⟩, -⟩
  refine hR.out _ _ ?_; clear hR R hM C
  have hM := hN2
  clear hN2
  (try simp only [Act.put, qSa, qSz, qSs])
  (repeat (((with_reducible show wpSeq _ _ _ _ _ _ _); ((with_reducible refine wpSeq_nil ?_); refine hKr.out _ _ ?_; clear hKr Kr))))
  ((refine St.fin hM rfl (by repeat (exact Outs.nil)) rfl ?_))
  exact ⟨rfl, β', hM⟩
end
end Go.Proofs.YtcicjklhbnipcaaGreatDoor
