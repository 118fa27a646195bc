/-
  Layer 8: each call of a table keeps what is always so. No program is named here.
-/
import Derived.Test.YtfepbjlaffpojaaGreatInoU
namespace Go.Proofs.YtfepbjlaffpojaaGreat
set_option linter.unusedVariables false
namespace In

section
variable {N : Nat} {t : TabD}
theorem getE_ok {id : Int} {dir : Bool} (h : getE t id dir = 0) : ∃ n, find t.nodes id = some n ∧ n.dir = dir := by
  unfold getE at h
  cases hn : find t.nodes id with
  | none => rw [hn] at h; cases h
  | some n =>
    rw [hn] at h
    cases hd : n.dir == dir with
    | true => exact ⟨n, rfl, by simpa using hd⟩
    | false => simp [hd] at h
theorem placeE_ok {dir : Int} {s : ByteArray} (h : placeE t dir s = 0) : ∃ d, find t.nodes dir = some d ∧ d.dir = true ∧ isName s = true := by
  unfold placeE at h
  cases h1 : getE t dir true == 0 with
  | true =>
    obtain ⟨d, hd, hdd⟩ := getE_ok (by simpa using h1)
    rw [h1] at h
    cases hn : isName s with
    | true => exact ⟨d, hd, hdd, rfl⟩
    | false => rw [hn] at h; simp at h
  | false => rw [h1] at h; simp at h h1; exact absurd h h1
theorem emptyE_ok {dir : Int} {s : ByteArray} (h : emptyE t dir s = 0) : ∃ d, find t.nodes dir = some d ∧ d.dir = true ∧ isName s = true ∧ leads d.names s = 0 := by
  unfold emptyE at h
  cases h1 : placeE t dir s == 0 with
  | true =>
    obtain ⟨d, hd, hdd, hn⟩ := placeE_ok (by simpa using h1)
    rw [h1, at_some hd] at h
    cases hl : leads d.names s == 0 with
    | true => exact ⟨d, hd, hdd, hn, by simpa using hl⟩
    | false => rw [hl] at h; simp at h
  | false => rw [h1] at h; simp at h h1; exact absurd h h1
theorem findE_ok {dir : Int} {s : ByteArray} (h : findE t dir s = 0) : ∃ d, find t.nodes dir = some d ∧ d.dir = true ∧ leads d.names s ≠ 0 ∧ findN t dir s = leads d.names s := by
  have hN : findN t dir s = leads (at_ t dir).names s := by unfold findN; rw [h]; rfl
  unfold findE at h
  cases h1 : placeE t dir s == 0 with
  | true =>
    obtain ⟨d, hd, hdd, hn⟩ := placeE_ok (by simpa using h1)
    rw [h1, at_some hd] at h
    rw [at_some hd] at hN
    cases hl : leads d.names s == 0 with
    | true => rw [hl] at h; simp at h
    | false => exact ⟨d, hd, hdd, by simpa using hl, hN⟩
  | false => rw [h1] at h; simp at h h1; exact absurd h h1
theorem unlinkE_ok {dir : Int} {s : ByteArray} (h : unlinkE t dir s = 0) : findE t dir s = 0 ∧ ∃ d n, find t.nodes dir = some d ∧ d.dir = true ∧ leads d.names s ≠ 0 ∧ findN t dir s = leads d.names s ∧ find t.nodes (leads d.names s) = some n ∧ n.dir = false := by
  unfold unlinkE at h
  cases h1 : findE t dir s == 0 with
  | true =>
    have h1' : findE t dir s = 0 := by simpa using h1
    obtain ⟨d, hd, hdd, hl, hN⟩ := findE_ok h1'
    rw [h1] at h
    have h : getE t (findN t dir s) false = 0 := h
    obtain ⟨n, hn, hnd⟩ := getE_ok h
    rw [hN] at hn
    exact ⟨h1', d, n, hd, hdd, hl, hN, hn, hnd⟩
  | false => rw [h1] at h; simp at h h1; exact absurd h h1

theorem find_turn {k : Int} {n o : NodeD} (ho : find t.nodes k = some o) (hi : n.id = k) (x : Int) : find (setN t n).nodes x = if x = k then some n else find t.nodes x := by
  subst hi; exact find_set ho x
theorem find_nameIn {k : Int} {o : NodeD} (ho : find t.nodes k = some o) (s : ByteArray) (i x : Int) : find (nameIn t k s i).nodes x = if x = k then some (o.setNames (with_ o.names s i)) else find t.nodes x := by
  unfold nameIn; rw [at_some ho]; exact find_turn (n := o.setNames (with_ o.names s i)) ho (find_some ho).2 x
theorem find_nameOut {k : Int} {o : NodeD} (ho : find t.nodes k = some o) (s : ByteArray) (x : Int) : find (nameOut t k s).nodes x = if x = k then some (o.setNames (without o.names s)) else find t.nodes x := by
  unfold nameOut; rw [at_some ho]; exact find_turn (n := o.setNames (without o.names s)) ho (find_some ho).2 x
theorem find_linksUp {k : Int} {o : NodeD} (ho : find t.nodes k = some o) (x : Int) : find (linksUp t k).nodes x = if x = k then some (o.setLinks (o.links + 1)) else find t.nodes x := by
  unfold linksUp; rw [at_some ho]; exact find_turn (n := o.setLinks (o.links + 1)) ho (find_some ho).2 x
theorem find_linksDown {k : Int} {o : NodeD} (ho : find t.nodes k = some o) (x : Int) : find (linksDown t k).nodes x = if x = k then some (o.setLinks (o.links - 1)) else find t.nodes x := by
  unfold linksDown; rw [at_some ho]; exact find_turn (n := o.setLinks (o.links - 1)) ho (find_some ho).2 x
theorem find_holdsUp {k : Int} {o : NodeD} (ho : find t.nodes k = some o) (x : Int) : find (holdsUp t k).nodes x = if x = k then some (o.setHolds (o.holds + 1)) else find t.nodes x := by
  unfold holdsUp; rw [at_some ho]; exact find_turn (n := o.setHolds (o.holds + 1)) ho (find_some ho).2 x
theorem find_holdsDown {k : Int} {o : NodeD} (ho : find t.nodes k = some o) (x : Int) : find (holdsDown t k).nodes x = if x = k then some (o.setHolds (o.holds - 1)) else find t.nodes x := by
  unfold holdsDown; rw [at_some ho]; exact find_turn (n := o.setHolds (o.holds - 1)) ho (find_some ho).2 x
theorem find_dataOf {k : Int} {o : NodeD} (ho : find t.nodes k = some o) (v : ByteArray) (x : Int) : find (dataOf t k v).nodes x = if x = k then some (o.setData v) else find t.nodes x := by
  unfold dataOf; rw [at_some ho]; exact find_turn (n := o.setData v) ho (find_some ho).2 x
theorem find_gone_ne {k x : Int} (hx : x ≠ k) : find (gone t k).nodes x = find t.nodes x := by
  unfold gone
  split
  · exact find_del_ne hx
  · rfl
theorem name_short {s : ByteArray} (h : isName s = true) : s.size ≤ 32 := by
  unfold isName at h
  simp only [Bool.and_eq_true, decide_eq_true_eq] at h
  exact h.1.1.1.2
theorem inv_loses (h : Inv N t) {dir : Int} {d : NodeD} (hd : find t.nodes dir = some d) (hdd : d.dir = true) {s : ByteArray} (hl : leads d.names s ≠ 0) {o : NodeD} (ho : find t.nodes (leads d.names s) = some o) (hod : o.dir = true → o.names = []) : Inv N (loses t dir s) := by
  obtain ⟨dm, di⟩ := find_some hd
  obtain ⟨om, oi⟩ := find_some ho
  have hne : leads d.names s ≠ dir := fun e => by
    rw [e, hd] at ho
    cases ho
    have := leads_some hl
    rw [hod hdd] at this
    cases this
  have h1 := inv_nameOut h hd hdd hl (by have := (h.pos d dm).1; omega)
  have hf1 : find (nameOut t dir s).nodes (leads d.names s) = some o := by rw [find_nameOut hd, if_neg hne]; exact ho
  have h2 := (inv_linksDown h1 hf1 (.inl rfl)).congr (δ' := fun _ => 0) fun id => by omega
  have hf2 : find (linksDown (nameOut t dir s) (leads d.names s)).nodes (leads d.names s) = some (o.setLinks (o.links - 1)) := by rw [find_linksDown hf1, if_pos rfl]
  have hlk := h2.links _ (find_some hf2).1
  unfold loses
  rw [at_some hd]
  refine inv_gone h2 hf2 ?_ fun hod' => ⟨?_, hod hod'⟩
  · rw [hlk]
    unfold rootI
    split <;> omega
  · have := (h.alive o om (by have := (h.pos o om).1; omega)).2 hod'
    show o.links - 1 = 0
    omega
theorem inv_unlink (h : Inv N t) (dir : Int) (s : ByteArray) : Inv N (unlink t dir s).2 := by
  unfold unlink
  cases he : unlinkE t dir s == 0 with
  | true =>
    obtain ⟨_, d, n, hd, hdd, hl, hN, hn, hnd⟩ := unlinkE_ok (t := t) (dir := dir) (s := s) (by simpa using he)
    exact inv_loses h hd hdd hl hn fun e => by rw [hnd] at e; cases e
  | false => exact h
theorem inv_remove (h : Inv N t) (dir : Int) (s : ByteArray) : Inv N (remove t dir s).2 := by
  unfold remove
  cases he : removeE t dir s == 0 with
  | true =>
    have he' : removeE t dir s = 0 := by simpa using he
    unfold removeE at he'
    cases h1 : findE t dir s == 0 with
    | true =>
      obtain ⟨d, hd, hdd, hl, hN⟩ := findE_ok (t := t) (dir := dir) (s := s) (by simpa using h1)
      rw [h1] at he'
      cases h2 : getE t (findN t dir s) true == 0 with
      | true =>
        obtain ⟨n, hn, hnd⟩ := getE_ok (t := t) (id := findN t dir s) (dir := true) (by simpa using h2)
        rw [h2, at_some hn] at he'
        cases h3 : decide (0 < n.names.length) with
        | true => rw [h3] at he'; simp at he'
        | false =>
          rw [hN] at hn
          exact inv_loses h hd hdd hl hn fun _ => List.eq_nil_of_length_eq_zero (by have := of_decide_eq_false h3; omega)
      | false => rw [h2] at he'; simp at he' h2; exact absurd he' h2
    | false => rw [h1] at he'; simp at he' h1; exact absurd he' h1
  | false => exact h
theorem inv_link (h : Inv N t) (id dir : Int) (s : ByteArray) : Inv (N + 1) (link t id dir s).2 := by
  unfold link
  cases he : linkE t id dir s == 0 with
  | true =>
    have he' : linkE t id dir s = 0 := by simpa using he
    unfold linkE at he'
    cases h1 : getE t id false == 0 with
    | true =>
      obtain ⟨n, hn, hnd⟩ := getE_ok (t := t) (id := id) (dir := false) (by simpa using h1)
      rw [h1] at he'
      obtain ⟨d, hd, hdd, hN, hl⟩ := emptyE_ok (t := t) (dir := dir) (s := s) he'
      obtain ⟨dm, di⟩ := find_some hd
      obtain ⟨nm, ni⟩ := find_some hn
      have hne : id ≠ dir := fun e => by rw [e, hd] at hn; cases hn; rw [hdd] at hnd; cases hnd
      have k1 := inv_nameIn h hd hdd (has_of_leads (pos_names h dm) hl) hn (name_short hN) (by have := (h.pos d dm).1; omega)
      have hf1 : find (nameIn t dir s id).nodes id = some n := by rw [find_nameIn hd, if_neg hne]; exact hn
      have k2 := (inv_linksUp k1 hf1 (.inl rfl)).congr (δ' := fun _ => 0) fun i => by omega
      refine k2.whole fun m hm => ?_
      have hf2 : find (linksUp (nameIn t dir s id) id).nodes id = some (n.setLinks (n.links + 1)) := by rw [find_linksUp hf1, if_pos rfl]
      rw [hf2] at hm
      cases hm
      have hlk := h.links n nm
      refine ⟨.inl ?_, fun e => by rw [show n.dir = true from e] at hnd; cases hnd⟩
      show 0 < n.links + 1
      rw [hlk]
      unfold rootI
      split <;> omega
    | false => rw [h1] at he'; simp at he' h1; exact absurd he' h1
  | false => exact h.more (Nat.le_succ N)
/-- A name goes out of one directory, and into another one, in which it was not. -/
theorem inv_renameIn (h : Inv N t) {dir tod : Int} {s as_ : ByteArray} {d e n : NodeD} (hd : find t.nodes dir = some d) (hdd : d.dir = true) (he : find t.nodes tod = some e) (hed : e.dir = true) (hl : leads d.names s ≠ 0) (hn : find t.nodes (leads d.names s) = some n) (hw : leads e.names as_ = 0) (hsz : as_.size ≤ 32) :
    Inv (N + 1) (renameIn t dir s tod as_ (leads d.names s)) := by
  obtain ⟨dm, di⟩ := find_some hd
  obtain ⟨em, ei⟩ := find_some he
  have h1 := inv_nameOut h hd hdd hl (by have := (h.pos d dm).1; omega)
  have hno : ¬ has e.names as_ := has_of_leads (pos_names h em) hw
  have hf : ∃ e', find (nameOut t dir s).nodes tod = some e' ∧ e'.dir = true ∧ ¬ has e'.names as_ := by
    rw [find_nameOut hd]
    split
    · rename_i hh
      rw [hh, hd] at he
      cases he
      exact ⟨_, rfl, hdd, fun ⟨p, hp, hs⟩ => hno ⟨p, (mem_without.1 hp).1, hs⟩⟩
    · exact ⟨e, he, hed, hno⟩
  obtain ⟨e', he', hed', hno'⟩ := hf
  have hk : ∃ m, find (nameOut t dir s).nodes (leads d.names s) = some m := by
    rw [find_nameOut hd]
    split
    · exact ⟨_, rfl⟩
    · exact ⟨n, hn⟩
  obtain ⟨m, hm⟩ := hk
  exact (inv_nameIn h1 he' hed' hno' hm hsz (by have := (h1.pos e' (find_some he').1).1; omega)).congr fun id => by omega
theorem renameE_ok {dir tod : Int} {s as_ : ByteArray} (h : renameE t dir s tod as_ = 0) : unlinkE t dir s = 0 ∧ placeE t tod as_ = 0 ∧ (leads (at_ t tod).names as_ = findN t dir s ∨ leads (at_ t tod).names as_ = 0 ∨ (at_ t (leads (at_ t tod).names as_)).dir = false) := by
  unfold renameE at h
  cases h1 : unlinkE t dir s == 0 with
  | true =>
    rw [h1] at h
    cases h2 : placeE t tod as_ == 0 with
    | true =>
      rw [h2] at h
      refine ⟨by simpa using h1, by simpa using h2, ?_⟩
      cases h3 : leads (at_ t tod).names as_ == findN t dir s with
      | true => exact .inl (by simpa using h3)
      | false =>
        rw [h3] at h
        cases h4 : leads (at_ t tod).names as_ == 0 with
        | true => exact .inr (.inl (by simpa using h4))
        | false =>
          rw [h4] at h
          cases h5 : (at_ t (leads (at_ t tod).names as_)).dir with
          | true => rw [h5] at h; simp at h
          | false => exact .inr (.inr rfl)
    | false => rw [h2] at h; simp at h h2; exact absurd h h2
  | false => rw [h1] at h; simp at h h1; exact absurd h h1
theorem leads_without_ne {d : List (ByteArray × Int)} {s r : ByteArray} (h : s ≠ r) : leads (without d r) s = leads d s := by
  unfold leads without
  rw [List.find?_filter]
  have e : (fun p : ByteArray × Int => decide ((!same p.1 r) = true ∧ same p.1 s = true)) = fun p => same p.1 s := by
    funext p
    cases hs : same p.1 s with
    | false => simp
    | true =>
      have : same p.1 r = false := by
        cases hr : same p.1 r
        · rfl
        · exact absurd ((same_iff.1 hs).symm.trans (same_iff.1 hr)) h
      simp [this]
  rw [e]
/-- What a file that loses a name leaves of the others. -/
theorem find_loses {dir x : Int} {s : ByteArray} {d n : NodeD} (hd : find t.nodes dir = some d) (hn : find t.nodes (leads d.names s) = some n) (hx : x ≠ leads d.names s) : find (loses t dir s).nodes x = if x = dir then some (d.setNames (without d.names s)) else find t.nodes x := by
  unfold loses
  rw [at_some hd, find_gone_ne hx]
  have hk : ∃ m, find (nameOut t dir s).nodes (leads d.names s) = some m := by
    rw [find_nameOut hd]
    split
    · exact ⟨_, rfl⟩
    · exact ⟨n, hn⟩
  obtain ⟨m, hm⟩ := hk
  rw [find_linksDown hm, if_neg hx, find_nameOut hd]
theorem inv_rename (h : Inv N t) (dir : Int) (s : ByteArray) (tod : Int) (as_ : ByteArray) : Inv (N + 1) (rename t dir s tod as_).2 := by
  unfold rename
  cases he : renameE t dir s tod as_ == 0 with
  | false => exact h.more (Nat.le_succ N)
  | true =>
    obtain ⟨h1, h2, h3⟩ := renameE_ok (t := t) (dir := dir) (s := s) (tod := tod) (as_ := as_) (by simpa using he)
    obtain ⟨_, d, n, hd, hdd, hl, hN, hn, hnd⟩ := unlinkE_ok h1
    obtain ⟨e, hee, hed, hasN⟩ := placeE_ok h2
    rw [at_some hee, hN] at h3
    show Inv (N + 1) (renameT t dir s tod as_)
    unfold renameT
    rw [at_some hee, hN]
    cases c1 : leads e.names as_ == leads d.names s with
    | true => exact h.more (Nat.le_succ N)
    | false =>
      cases c2 : leads e.names as_ == 0 with
      | true => exact inv_renameIn h hd hdd hee hed hl hn (by simpa using c2) (name_short hasN)
      | false =>
        have c1' : leads e.names as_ ≠ leads d.names s := by simpa using c1
        have c2' : leads e.names as_ ≠ 0 := by simpa using c2
        obtain ⟨w, hw⟩ := h.leads e (find_some hee).1 _ (leads_some c2')
        simp only at hw
        have hwd : w.dir = false := by
          rcases h3 with h3 | h3 | h3
          · exact absurd h3 c1'
          · exact absurd h3 c2'
          · rw [at_some hw] at h3; exact h3
        have hi := inv_loses h hee hed c2' hw fun e => by rw [hwd] at e; cases e
        have ndw : ∀ {x : Int} {m : NodeD}, find t.nodes x = some m → m.dir = true → x ≠ leads e.names as_ := fun {x m} hm hmd hx => by
          rw [hx, hw] at hm; cases hm; rw [hwd] at hmd; cases hmd
        have fd := find_loses hee hw (ndw hd hdd)
        have fe := find_loses hee hw (ndw hee hed)
        have fn := find_loses hee hw (x := leads d.names s) (fun hx => c1' hx.symm)
        rw [if_pos rfl] at fe
        have hne : leads d.names s ≠ tod := fun hx => by rw [hx, hee] at hn; cases hn; rw [hnd] at hed; cases hed
        rw [if_neg hne] at fn
        have hwz : leads (e.setNames (without e.names as_)).names as_ = 0 := leads_none (has_without _ _)
        by_cases hdt : dir = tod
        · subst hdt
          rw [hd] at hee
          cases hee
          have hsr : s ≠ as_ := fun e => c1' (by rw [e])
          have el : leads (d.setNames (without d.names as_)).names s = leads d.names s := leads_without_ne hsr
          have := inv_renameIn hi fe hdd fe hdd (s := s) (as_ := as_) (by rw [el]; exact hl) (by rw [el, fn]; exact hn) hwz (name_short hasN)
          rw [el] at this
          exact this
        · rw [if_neg hdt] at fd
          exact inv_renameIn hi (fd.trans hd) hdd fe hed hl (fn.trans hn) hwz (name_short hasN)
theorem inv_hold (h : Inv N t) (id : Int) : Inv N (hold t id).2 := by
  unfold hold
  cases he : holdE t id == 0 with
  | false => exact h
  | true =>
    have he' : holdE t id = 0 := by simpa using he
    unfold holdE at he'
    cases h1 : getE t id false == 0 with
    | false => rw [h1] at he'; simp at he' h1; exact absurd he' h1
    | true =>
      obtain ⟨n, hn, hnd⟩ := getE_ok (t := t) (id := id) (dir := false) (by simpa using h1)
      rw [h1, at_some hn] at he'
      obtain ⟨nm, ni⟩ := find_some hn
      have hh := h.holds n nm
      have hlt : n.holds < 1048576 := by
        by_cases c : 1048576 ≤ n.holds
        · rw [decide_eq_true c] at he'; simp at he'
        · omega
      have e : holdsUp t id = setN t { n with links := n.links, holds := n.holds + 1 } := by unfold holdsUp; rw [at_some hn]; rfl
      show Inv N (holdsUp t id)
      have k := (inv_numbers h hn (.inl rfl) n.links (n.holds + 1) ⟨by omega, by omega⟩ (fun e => by rw [hnd] at e; cases e)).congr (δ' := fun _ => 0) fun i => by split <;> omega
      rw [← e] at k
      refine k.whole fun m hm => ?_
      rw [find_holdsUp hn, if_pos rfl] at hm
      cases hm
      exact ⟨.inr (by show 0 < n.holds + 1; omega), fun e => by rw [show n.dir = true from e] at hnd; cases hnd⟩
theorem inv_drop (h : Inv N t) (id : Int) : Inv N (drop t id).2 := by
  unfold drop
  cases he : dropE t id == 0 with
  | false => exact h
  | true =>
    have he' : dropE t id = 0 := by simpa using he
    unfold dropE at he'
    cases hn : find t.nodes id with
    | none => rw [hn] at he'; cases he'
    | some n =>
      rw [hn] at he'
      obtain ⟨nm, ni⟩ := find_some hn
      have hh := h.holds n nm
      have he' : (if n.holds == 0 then 1 else 0) = (0 : Int) := he'
      have hnz : n.holds ≠ 0 := fun e => by rw [e] at he'; simp at he'
      have hnd : n.dir = false := by
        cases hd : n.dir with
        | false => rfl
        | true => exact absurd (h.dirs n nm hd).1 hnz
      have e : holdsDown t id = setN t { n with links := n.links, holds := n.holds - 1 } := by unfold holdsDown; rw [at_some hn]; rfl
      have k := (inv_numbers h hn (.inl rfl) n.links (n.holds - 1) ⟨by omega, by omega⟩ (fun e => by rw [hnd] at e; cases e)).congr (δ' := fun _ => 0) fun i => by split <;> omega
      rw [← e] at k
      show Inv N (gone (holdsDown t id) id)
      have hlk := h.links n nm
      refine inv_gone k (by rw [find_holdsDown hn, if_pos rfl]) ?_ fun e => by rw [show n.dir = true from e] at hnd; cases hnd
      show 0 ≤ n.links
      rw [hlk]
      unfold rootI
      split <;> omega
/-- A file's bytes turn. -/
theorem inv_data (h : Inv N t) {id : Int} {n : NodeD} (hn : find t.nodes id = some n) (hnd : n.dir = false) {v : ByteArray} (hv : v.size ≤ 1048576) {u : Int} (hu : u = t.used - n.data.size + v.size) (hc : u ≤ t.quota) : Inv N ⟨t.quota, u, t.last, (dataOf t id v).nodes⟩ := by
  obtain ⟨nm, ni⟩ := find_some hn
  have e : dataOf t id v = setN t { n with data := v } := by unfold dataOf; rw [at_some hn]; rfl
  have ho : find t.nodes ({ n with data := v } : NodeD).id = some n := by show find t.nodes n.id = _; rw [ni]; exact hn
  have hcn := cnt_set h.asc ho
  have hal := h.alive n nm (by have := (h.pos n nm).1; omega)
  rw [e]
  refine h.turn (n := { n with data := v }) (y := 0) (δ' := fun _ => 0) ho rfl (fun i => ⟨fun hi => ?_, fun hi => ?_⟩) (fun _ _ _ h => h) (fun _ => hal) (h.holds n nm) (fun e => by rw [show n.dir = true from e] at hnd; cases hnd) (h.files n nm) (h.leads n nm) (h.sorted n nm) (h.short n nm) (by show u = t.used - cost n + cost { n with data := v }; unfold cost; show u = t.used - ((64 + n.data.size : Nat) : Int) + ((64 + v.size : Nat) : Int); omega) hc hv (Nat.add_le_add_right h.tot _) (Nat.le_refl N)
  · have h1 := h.links n nm
    have h2 := hcn i
    have hi' : n.id = i := hi
    subst hi'
    have e2 : cntN ({ n with data := v } : NodeD).names n.id = cntN n.names n.id := rfl
    show n.links = _
    omega
  · have h2 := hcn i
    have e2 : cntN ({ n with data := v } : NodeD).names i = cntN n.names i := rfl
    omega
theorem noughts_len (c : Nat) : (noughts c).size = c := by
  show ((List.replicate c (0 : UInt8)).toArray).size = c
  simp
theorem resized_len (d : ByteArray) (n : Nat) : (resized d n).size = n := by
  unfold resized
  rw [ByteArray.size_extract, ByteArray.size_append, noughts_len]
  omega
theorem sizedE_ok {x : NodeD} {n : Int} (h : sizedE t x n = 0) : n ≤ 1048576 ∧ n - x.data.size ≤ t.quota - t.used := by
  unfold sizedE at h
  constructor
  · by_cases c : 1048576 < n
    · rw [decide_eq_true c] at h; simp at h
    · omega
  · by_cases c : t.quota - t.used < n - x.data.size
    · by_cases c2 : 1048576 < n
      · rw [decide_eq_true c2] at h; simp at h
      · rw [decide_eq_false c2, decide_eq_true c] at h; simp at h
    · omega
theorem fileE_ok {id n : Int} (h : fileE t id n = 0) : ∃ x, find t.nodes id = some x ∧ x.dir = false ∧ 0 ≤ n := by
  unfold fileE at h
  cases h1 : getE t id false == 0 with
  | false => rw [h1] at h; simp at h h1; exact absurd h h1
  | true =>
    obtain ⟨x, hx, hxd⟩ := getE_ok (t := t) (id := id) (dir := false) (by simpa using h1)
    rw [h1] at h
    refine ⟨x, hx, hxd, ?_⟩
    by_cases c : n < 0
    · rw [decide_eq_true c] at h; simp at h
    · omega
theorem inv_sized (h : Inv N t) {id : Int} {x : NodeD} (hx : find t.nodes id = some x) (hxd : x.dir = false) {n : Int} (h0 : 0 ≤ n) (hE : sizedE t x n = 0) : Inv N (sizedT t id n) := by
  obtain ⟨h1, h2⟩ := sizedE_ok hE
  unfold sizedT
  rw [at_some hx]
  exact inv_data h hx hxd (v := resized x.data n.toNat) (by rw [resized_len]; omega) (by rw [resized_len]; omega) (by omega)
theorem inv_trunc (h : Inv N t) (id n : Int) : Inv N (trunc t id n).2 := by
  unfold trunc
  cases he : truncE t id n == 0 with
  | false => exact h
  | true =>
    have he' : truncE t id n = 0 := by simpa using he
    unfold truncE at he'
    cases h1 : fileE t id n == 0 with
    | false => rw [h1] at he'; simp at he' h1; exact absurd he' h1
    | true =>
      obtain ⟨x, hx, hxd, h0⟩ := fileE_ok (t := t) (id := id) (n := n) (by simpa using h1)
      rw [h1, at_some hx] at he'
      exact inv_sized h hx hxd h0 he'
theorem writeE_ok {id a : Int} {s : ByteArray} (h : writeE t id a s = 0) : ∃ x, find t.nodes id = some x ∧ x.dir = false ∧ 0 ≤ a ∧ (s.size ≠ 0 → sizedE t x (max (a + s.size) x.data.size) = 0) := by
  unfold writeE at h
  cases h1 : fileE t id a == 0 with
  | false => rw [h1] at h; simp at h h1; exact absurd h h1
  | true =>
    obtain ⟨x, hx, hxd, h0⟩ := fileE_ok (t := t) (id := id) (n := a) (by simpa using h1)
    rw [h1, at_some hx] at h
    refine ⟨x, hx, hxd, h0, fun hz => ?_⟩
    have hz' : (s.size == 0) = false := by simpa using hz
    rw [hz'] at h
    cases c : (decide (1048576 < a) || decide (1048576 - a < s.size)) with
    | true => rw [c] at h; simp at h
    | false => rw [c] at h; exact h
theorem over_size {d : ByteArray} {a : Nat} {s : ByteArray} (h : a + s.size ≤ d.size) : (over d a s).size = d.size := by
  unfold over
  rw [ByteArray.size_append, ByteArray.size_append, ByteArray.size_extract, ByteArray.size_extract]
  omega
theorem inv_write (h : Inv N t) (id a : Int) (s : ByteArray) : Inv N (write t id a s).2 := by
  unfold write
  cases he : writeE t id a s == 0 with
  | false => exact h
  | true =>
    obtain ⟨x, hx, hxd, h0, hz⟩ := writeE_ok (t := t) (id := id) (a := a) (s := s) (by simpa using he)
    show Inv N (writeT t id a s)
    unfold writeT
    cases hs : s.size == 0 with
    | true => exact h
    | false =>
      have hE := hz (by simpa using hs)
      rw [at_some hx]
      have hi := inv_sized h hx hxd (n := max (a + s.size) x.data.size) (by omega) hE
      have hf : find (sizedT t id (max (a + s.size) x.data.size)).nodes id = some (x.setData (resized x.data (max (a + s.size) x.data.size).toNat)) := by
        unfold sizedT
        show find (dataOf t id _).nodes id = _
        rw [at_some hx, find_dataOf hx, if_pos rfl]
      obtain ⟨h1, _⟩ := sizedE_ok hE
      have hlen : (x.setData (resized x.data (max (a + s.size) x.data.size).toNat)).data.size = (max (a + s.size) (x.data.size : Int)).toNat := resized_len _ _
      have hov := over_size (d := (x.setData (resized x.data (max (a + s.size) x.data.size).toNat)).data) (a := a.toNat) (s := s) (by rw [hlen]; omega)
      show Inv N (overT _ id a s)
      unfold overT
      rw [at_some hf]
      exact inv_data hi hf hxd (v := over (x.setData (resized x.data (max (a + s.size) x.data.size).toNat)).data a.toNat s) (by rw [hov, hlen]; omega) (by rw [hov]; omega) hi.cap
theorem makeE_ok {dir : Int} {s : ByteArray} (h : makeE t dir s = 0) : emptyE t dir s = 0 ∧ t.nodes.length < 4096 ∧ 64 ≤ t.quota - t.used := by
  unfold makeE at h
  cases h1 : emptyE t dir s == 0 with
  | false => rw [h1] at h; simp at h h1; exact absurd h h1
  | true =>
    rw [h1] at h
    refine ⟨by simpa using h1, ?_, ?_⟩
    · by_cases c : 4096 ≤ (t.nodes.length : Int)
      · rw [decide_eq_true c] at h; simp at h
      · omega
    · by_cases c : 4096 ≤ (t.nodes.length : Int)
      · rw [decide_eq_true c] at h; simp at h
      · by_cases c2 : t.quota - t.used < 64
        · rw [decide_eq_false c, decide_eq_true c2] at h; simp at h
        · omega
theorem find_snoc {l : List NodeD} {n : NodeD} (hn : ∀ m ∈ l, m.id ≠ n.id) (x : Int) : find (l ++ [n]) x = if x = n.id then some n else find l x := by
  unfold find
  rw [List.find?_append]
  split
  · rename_i hx
    subst hx
    rw [List.find?_eq_none.2 fun m hm => by simpa using hn m hm]
    simp
  · rename_i hx
    have : (n.id == x) = false := beq_eq_false_iff_ne.2 fun e => hx e.symm
    simp [this]
theorem inv_make (h : Inv N t) (dir : Int) (s : ByteArray) (isDir : Bool) : Inv (N + 2) (make t dir s isDir).2.2 := by
  unfold make
  cases he : makeE t dir s == 0 with
  | false => exact h.more (by omega)
  | true =>
    obtain ⟨h1, h2, h3⟩ := makeE_ok (t := t) (dir := dir) (s := s) (by simpa using he)
    obtain ⟨d, hd, hdd, hN, hl⟩ := emptyE_ok h1
    obtain ⟨dm, di⟩ := find_some hd
    show Inv (N + 2) (makeT t dir s isDir)
    -- ahead of the name's coming in: the table with the new inode, to which one name too few leads
    obtain ⟨nn, hnn⟩ : ∃ nn : NodeD, nn = ⟨t.last + 1, isDir, 1, 0, ByteArray.empty, []⟩ := ⟨_, rfl⟩
    have hid : nn.id = t.last + 1 := by rw [hnn]
    have hnm : nn.names = [] := by rw [hnn]
    have hlk : nn.links = 1 := by rw [hnn]
    have hda : nn.data.size = 0 := by rw [hnn]; rfl
    have hho : nn.holds = 0 := by rw [hnn]
    have hne : ∀ m ∈ t.nodes, m.id ≠ nn.id := fun m hm => by have := (h.pos m hm).2; rw [hid]; omega
    have hcnt : ∀ i, cnt (t.nodes ++ [nn]) i = cnt t.nodes i := fun i => by
      unfold cnt
      rw [List.map_append, List.sum_append, List.map_singleton, hnm]
      simp [cntN]
    have hz : cnt t.nodes (t.last + 1) = 0 := by
      unfold cnt
      rw [List.sum_eq_zero_iff_forall_eq_nat] <;> skip
      intro k hk
      obtain ⟨m, hm, rfl⟩ := List.mem_map.1 hk
      unfold cntN
      rw [List.countP_eq_zero]
      intro p hp e
      obtain ⟨q, hq⟩ := h.leads m hm p hp
      have := (h.pos q (find_some hq).1).2
      rw [(find_some hq).2] at this
      have e' : p.2 = t.last + 1 := by simpa using e
      omega
    have hmem : ∀ m ∈ t.nodes ++ [nn], m ∈ t.nodes ∨ m = nn := fun m hm => by simpa using hm
    have k0 : InvD (fun i => one (nn.id == i)) 0 (N + 1) ⟨t.quota, t.used + 64, t.last + 1, t.nodes ++ [nn]⟩ := by
      refine { q0 := h.q0, q1 := h.q1, asc := ?_, root := ?_, pos := ?_, last := ⟨by have := h.last.1; show 1 ≤ t.last + 1; omega, by have := h.last.2; show t.last + 1 ≤ ((N + 1 : Nat) : Int); omega⟩, links := ?_, alive := ?_, holds := ?_, dirs := ?_, files := ?_, leads := ?_, sorted := ?_, short := ?_, used := ?_, cap := ?_, data := ?_, tot := ?_ }
      · refine List.pairwise_append.2 ⟨h.asc, List.pairwise_singleton _ _, fun a ha b hb => ?_⟩
        have : b = nn := by simpa using hb
        subst this
        have := (h.pos a ha).2
        omega
      · obtain ⟨r, hr, hrd⟩ := h.root
        refine ⟨r, ?_, hrd⟩
        show find (t.nodes ++ [nn]) 1 = _
        rw [find_snoc hne, if_neg (by have := h.last.1; omega)]
        exact hr
      · intro m hm
        rcases hmem m hm with hm | rfl
        · have := h.pos m hm; exact ⟨this.1, by show m.id ≤ t.last + 1; omega⟩
        · exact ⟨by have := h.last.1; omega, by show m.id ≤ t.last + 1; omega⟩
      · intro m hm
        show m.links = (cnt (t.nodes ++ [nn]) m.id : Int) + rootI m.id + one (nn.id == m.id)
        rw [hcnt]
        rcases hmem m hm with hm | rfl
        · have := h.links m hm
          have e : (nn.id == m.id) = false := beq_eq_false_iff_ne.2 fun e => hne m hm e.symm
          rw [e, this]; rfl
        · rw [hlk, hid, hz]
          have : rootI (t.last + 1) = 0 := by unfold rootI; rw [if_neg (by have := h.last.1; omega)]
          rw [this]
          simp [one]
      · intro m hm _
        rcases hmem m hm with hm | rfl
        · exact h.alive m hm (by have := (h.pos m hm).1; omega)
        · exact ⟨.inl (by omega), fun _ => hlk⟩
      · intro m hm
        rcases hmem m hm with hm | rfl
        · exact h.holds m hm
        · omega
      · intro m hm hmd
        rcases hmem m hm with hm | rfl
        · exact h.dirs m hm hmd
        · exact ⟨hho, hda⟩
      · intro m hm hmd
        rcases hmem m hm with hm | rfl
        · exact h.files m hm hmd
        · exact hnm
      · intro m hm p hp
        rcases hmem m hm with hm | rfl
        · obtain ⟨q, hq⟩ := h.leads m hm p hp
          show ∃ q, find (t.nodes ++ [nn]) p.2 = some q
          rw [find_snoc hne]
          split
          · exact ⟨_, rfl⟩
          · exact ⟨q, hq⟩
        · rw [hnm] at hp; cases hp
      · intro m hm
        rcases hmem m hm with hm | rfl
        · exact h.sorted m hm
        · rw [hnm]; exact List.Pairwise.nil
      · intro m hm p hp
        rcases hmem m hm with hm | rfl
        · exact h.short m hm p hp
        · rw [hnm] at hp; cases hp
      · have hu := h.used
        show t.used + 64 = ((In.sum (t.nodes ++ [nn]) : Nat) : Int)
        unfold In.sum at hu ⊢
        rw [List.map_append, List.sum_append]
        have e : ([nn].map cost).sum = 64 := by simp [cost, hda]
        rw [e]
        omega
      · show t.used + 64 ≤ t.quota
        omega
      · intro m hm
        rcases hmem m hm with hm | rfl
        · exact h.data m hm
        · omega
      · have ht := h.tot
        show In.tot (t.nodes ++ [nn]) ≤ N + 1
        unfold In.tot at ht ⊢
        rw [List.map_append, List.sum_append]
        simp [hnm]
        omega
    have hd' : find (t.nodes ++ [nn]) dir = some d := by
      rw [find_snoc hne, if_neg (by have := hne d dm; rw [di] at this; exact this)]
      exact hd
    have hk' : find (t.nodes ++ [nn]) nn.id = some nn := by rw [find_snoc hne, if_pos rfl]
    have k1 := (inv_nameIn k0 hd' hdd (has_of_leads (pos_names h dm) hl) hk' (name_short hN) (by have := (h.pos d dm).1; omega)).congr (δ' := fun _ => 0) fun i => by omega
    have e : nameIn ⟨t.quota, t.used + 64, t.last + 1, t.nodes ++ [nn]⟩ dir s nn.id = makeT t dir s isDir := by
      unfold nameIn makeT
      rw [at_some (t := ⟨t.quota, t.used + 64, t.last + 1, t.nodes ++ [nn]⟩) hd', hid]
      unfold nameIn
      rw [at_some hd, ← hnn]
      unfold setN
      simp only [TabD.mk.injEq, true_and]
      show set (t.nodes ++ [nn]) _ = set t.nodes _ ++ [nn]
      unfold set
      rw [List.map_append]
      congr 1
      have e2 : (nn.id == (d.setNames (with_ d.names s (t.last + 1))).id) = false := beq_eq_false_iff_ne.2 fun e => hne d dm e.symm
      simp only [List.map_cons, List.map_nil, e2, Bool.false_eq_true, if_false]
    rw [e] at k1
    exact k1
end
end In
end Go.Proofs.YtfepbjlaffpojaaGreat
