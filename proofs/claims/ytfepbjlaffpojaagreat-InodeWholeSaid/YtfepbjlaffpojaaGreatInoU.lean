/-
  Layer 8: each step of a table keeps what is always so. No program is named here.
-/
import Derived.Test.YtfepbjlaffpojaaGreatInoV
namespace Go.Proofs.YtfepbjlaffpojaaGreat
set_option linter.unusedVariables false
namespace In

theorem InvD.congr {δ δ' : Int → Int} {x : Int} {N : Nat} {t : TabD} (h : InvD δ x N t) (e : ∀ id, δ id = δ' id) : InvD δ' x N t := by
  have : δ = δ' := funext e
  subst this
  exact h
/-- An inode that stays is no exception. -/
theorem InvD.whole {δ : Int → Int} {x : Int} {N : Nat} {t : TabD} (h : InvD δ x N t) (ha : ∀ n, find t.nodes x = some n → Alive n) : InvD δ 0 N t := by
  have key : ∀ n ∈ t.nodes, n.id ≠ 0 → Alive n := fun n hn _ => by
    by_cases e : n.id = x
    · exact ha n (by rw [← e]; exact find_asc h.asc hn)
    · exact h.alive n hn e
  exact { h with alive := key }
theorem InvD.none {δ : Int → Int} {x : Int} {N : Nat} {t : TabD} (h : InvD δ 0 N t) : InvD δ x N t :=
  { h with alive := fun n hn _ => h.alive n hn (by have := (h.pos n hn).1; omega) }
theorem at_some {t : TabD} {id : Int} {n : NodeD} (h : find t.nodes id = some n) : at_ t id = n := by unfold at_; rw [h]
theorem setN_mk (t : TabD) (n : NodeD) : setN t n = ⟨t.quota, t.used, t.last, set t.nodes n⟩ := rfl
theorem one_cases (b : Bool) : (b = true ∧ one b = 1) ∨ (b = false ∧ one b = 0) := by cases b <;> simp [one]
section
variable {δ : Int → Int} {N : Nat} {t : TabD}
theorem pos_names {x : Int} (h : InvD δ x N t) {d : NodeD} (hd : d ∈ t.nodes) : ∀ p ∈ d.names, p.2 ≠ 0 := fun p hp => by
  obtain ⟨n, hn⟩ := h.leads d hd p hp
  obtain ⟨h1, h2⟩ := find_some hn
  have := (h.pos n h1).1
  omega
theorem inv_nameIn {x : Int} (h : InvD δ x N t) {dir : Int} {d : NodeD} (hd : find t.nodes dir = some d) (hdd : d.dir = true) {s : ByteArray} (hn : ¬ has d.names s) {k : Int} {m : NodeD} (hk : find t.nodes k = some m) (hsz : s.size ≤ 32) (hx : d.id ≠ x) :
    InvD (fun id => δ id - one (k == id)) x (N + 1) (nameIn t dir s k) := by
  obtain ⟨dm, di⟩ := find_some hd
  have e : nameIn t dir s k = ⟨t.quota, t.used, t.last, set t.nodes { d with names := with_ d.names s k }⟩ := by unfold nameIn; rw [at_some hd]; rfl
  rw [e]
  have ho : find t.nodes ({ d with names := with_ d.names s k } : NodeD).id = some d := by show find t.nodes d.id = _; rw [di]; exact hd
  have hc := cnt_set h.asc ho
  have hw : ∀ id, cntN (with_ d.names s k) id = cntN d.names id + one (k == id) := fun id => by
    unfold with_; rw [cntN_put, without_none hn]
  have hal := h.alive d dm hx
  refine h.turn ho rfl (fun id => ⟨fun hi => ?_, fun hi => ?_⟩) (fun _ _ _ h => h) (fun _ => hal) (h.holds d dm) (h.dirs d dm) (fun hf => by rw [show d.dir = false from hf] at hdd; cases hdd) (fun p hp => ?_) (sorted_with (h.sorted d dm) s k) (fun p hp => by
      rcases mem_put.1 hp with rfl | hp
      · exact hsz
      · exact h.short d dm p (mem_without.1 hp).1) (u := t.used) (by show t.used = t.used - cost d + cost d; omega) h.cap (h.data d dm) ?_ (Nat.le_succ N)
  · have h1 := h.links d dm
    have h2 := hc id
    have h3 := hw id
    have hi' : d.id = id := hi
    subst hi'
    show d.links = _
    have e2 : cntN ({ d with names := with_ d.names s k } : NodeD).names d.id = cntN (with_ d.names s k) d.id := rfl
    omega
  · have h2 := hc id
    have h3 := hw id
    have e2 : cntN ({ d with names := with_ d.names s k } : NodeD).names id = cntN (with_ d.names s k) id := rfl
    omega
  · rcases mem_put.1 hp with rfl | hp
    · exact ⟨m, hk⟩
    · exact h.leads d dm p (mem_without.1 hp).1
  · have : (with_ d.names s k).length = d.names.length + 1 := by unfold with_; rw [len_put, without_none hn]
    have e2 : ({ d with names := with_ d.names s k } : NodeD).names.length = (with_ d.names s k).length := rfl
    have := h.tot
    omega
theorem inv_nameOut {x : Int} (h : InvD δ x N t) {dir : Int} {d : NodeD} (hd : find t.nodes dir = some d) (hdd : d.dir = true) {s : ByteArray} (hn : leads d.names s ≠ 0) (hx : d.id ≠ x) :
    InvD (fun id => δ id + one (leads d.names s == id)) x N (nameOut t dir s) := by
  obtain ⟨dm, di⟩ := find_some hd
  have e : nameOut t dir s = ⟨t.quota, t.used, t.last, set t.nodes { d with names := without d.names s }⟩ := by unfold nameOut; rw [at_some hd]; rfl
  rw [e]
  have ho : find t.nodes ({ d with names := without d.names s } : NodeD).id = some d := by show find t.nodes d.id = _; rw [di]; exact hd
  have hc := cnt_set h.asc ho
  have hw := fun id => (cntN_without (h.sorted d dm) hn id).1
  have hal := h.alive d dm hx
  refine h.turn ho rfl (fun id => ⟨fun hi => ?_, fun hi => ?_⟩) (fun _ _ _ h => h) (fun _ => hal) (h.holds d dm) (h.dirs d dm) (fun hf => by rw [show d.dir = false from hf] at hdd; cases hdd) (fun p hp => h.leads d dm p (mem_without.1 hp).1) (sorted_without (h.sorted d dm) s) (fun p hp => h.short d dm p (mem_without.1 hp).1) (u := t.used) (by show t.used = t.used - cost d + cost d; omega) h.cap (h.data d dm) ?_ (Nat.le_refl N)
  · have h1 := h.links d dm
    have h2 := hc id
    have h3 := hw id
    have hi' : d.id = id := hi
    subst hi'
    show d.links = _
    have e2 : cntN ({ d with names := without d.names s } : NodeD).names d.id = cntN (without d.names s) d.id := rfl
    omega
  · have h2 := hc id
    have h3 := hw id
    have e2 : cntN ({ d with names := without d.names s } : NodeD).names id = cntN (without d.names s) id := rfl
    omega
  · have := (cntN_without (h.sorted d dm) hn 0).2
    have e2 : ({ d with names := without d.names s } : NodeD).names.length = (without d.names s).length := rfl
    have := h.tot
    omega
/-- An inode's links or holds turn. -/
theorem inv_numbers {x : Int} (h : InvD δ x N t) {k : Int} {o : NodeD} (ho : find t.nodes k = some o) (hx : x = 0 ∨ x = k) (l v : Int) (hv : 0 ≤ v ∧ v ≤ 1048576) (hdir : o.dir = true → v = 0) :
    InvD (fun id => δ id + (if k = id then l - o.links else 0)) k N (setN t { o with links := l, holds := v }) := by
  obtain ⟨om, oi⟩ := find_some ho
  rw [setN_mk]
  have ho' : find t.nodes ({ o with links := l, holds := v } : NodeD).id = some o := by show find t.nodes o.id = _; rw [oi]; exact ho
  have hc := cnt_set h.asc ho'
  refine h.turn ho' rfl (fun id => ⟨fun hi => ?_, fun hi => ?_⟩) (fun m hm h1 h2 => ?_) (fun hne => absurd oi hne) hv (fun hd => ⟨hdir hd, (h.dirs o om hd).2⟩) (h.files o om) (h.leads o om) (h.sorted o om) (h.short o om) (u := t.used) (by show t.used = t.used - cost o + cost o; omega) h.cap (h.data o om) ?_ (Nat.le_refl N)
  · have h1 := h.links o om
    have h2 := hc id
    have hi' : o.id = id := hi
    have e2 : cntN ({ o with links := l, holds := v } : NodeD).names id = cntN o.names id := rfl
    show l = _ + _ + (δ id + if k = id then l - o.links else 0)
    rw [if_pos (oi.symm.trans hi')]
    rw [hi'] at h1
    omega
  · have h2 := hc id
    have hi' : o.id ≠ id := hi
    have e2 : cntN ({ o with links := l, holds := v } : NodeD).names id = cntN o.names id := rfl
    show _ = _ + (δ id + if k = id then l - o.links else 0)
    rw [if_neg (fun e => hi' (oi.trans e))]
    omega
  · rcases hx with rfl | rfl
    · have := (h.pos m hm).1; omega
    · exact h2
  · have e2 : ({ o with links := l, holds := v } : NodeD).names.length = o.names.length := rfl
    have := h.tot
    omega
theorem inv_linksUp {x : Int} (h : InvD δ x N t) {k : Int} {o : NodeD} (ho : find t.nodes k = some o) (hx : x = 0 ∨ x = k) : InvD (fun id => δ id + one (k == id)) k N (linksUp t k) := by
  obtain ⟨om, oi⟩ := find_some ho
  have e : linksUp t k = setN t { o with links := o.links + 1, holds := o.holds } := by unfold linksUp; rw [at_some ho]; rfl
  rw [e]
  refine (inv_numbers h ho hx (o.links + 1) o.holds (h.holds o om) (fun hd => (h.dirs o om hd).1)).congr fun id => ?_
  rcases one_cases (k == id) with ⟨h1, h2⟩ | ⟨h1, h2⟩
  · rw [h2, if_pos (by simpa using h1)]; omega
  · rw [h2, if_neg (by simpa using h1)]; omega
theorem inv_linksDown {x : Int} (h : InvD δ x N t) {k : Int} {o : NodeD} (ho : find t.nodes k = some o) (hx : x = 0 ∨ x = k) : InvD (fun id => δ id - one (k == id)) k N (linksDown t k) := by
  obtain ⟨om, oi⟩ := find_some ho
  have e : linksDown t k = setN t { o with links := o.links - 1, holds := o.holds } := by unfold linksDown; rw [at_some ho]; rfl
  rw [e]
  refine (inv_numbers h ho hx (o.links - 1) o.holds (h.holds o om) (fun hd => (h.dirs o om hd).1)).congr fun id => ?_
  rcases one_cases (k == id) with ⟨h1, h2⟩ | ⟨h1, h2⟩
  · rw [h2, if_pos (by simpa using h1)]; omega
  · rw [h2, if_neg (by simpa using h1)]; omega
/-- What may go, goes. -/
theorem inv_gone {k : Int} (h : InvD (fun _ => 0) k N t) {o : NodeD} (ho : find t.nodes k = some o) (hl : 0 ≤ o.links) (hd : o.dir = true → o.links = 0 ∧ o.names = []) : Inv N (gone t k) := by
  obtain ⟨om, oi⟩ := find_some ho
  unfold gone
  rw [at_some ho]
  by_cases hg : (o.links == 0 && o.holds == 0) = true
  · rw [if_pos hg]
    rw [Bool.and_eq_true, beq_iff_eq, beq_iff_eq] at hg
    have hlk := h.links o om
    rw [hg.1, oi] at hlk
    have hk1 : k ≠ 1 := fun e => by rw [e] at hlk; simp [rootI] at hlk; omega
    have hz : cnt t.nodes k = 0 := by simp [rootI, hk1] at hlk; omega
    have hnm : o.names = [] := by
      cases hod : o.dir with
      | true => exact (hd hod).2
      | false => exact h.files o om hod
    have hcd : ∀ id, cnt (del t.nodes k) id = cnt t.nodes id := fun id => by
      have := sum_del (f := fun n => cntN n.names id) h.asc ho
      unfold cnt
      have e : cntN o.names id = 0 := by rw [hnm]; rfl
      omega
    have hmem : ∀ m, m ∈ del t.nodes k → m ∈ t.nodes ∧ m.id ≠ k := fun m hm => by
      obtain ⟨h1, h2⟩ := List.mem_filter.1 hm
      exact ⟨h1, by simpa using h2⟩
    have hnl : ∀ d ∈ t.nodes, ∀ p ∈ d.names, p.2 ≠ k := fun d hdm p hp e => by
      have h1 : cntN d.names k ≤ cnt t.nodes k := le_sum (f := fun n => cntN n.names k) hdm
      have h2 : 0 < cntN d.names k := List.countP_pos_iff.2 ⟨p, hp, by simpa using e⟩
      omega
    refine { q0 := h.q0, q1 := h.q1, asc := asc_del h.asc k, root := ?_, pos := fun m hm => h.pos m (hmem m hm).1, last := h.last, links := fun m hm => ?_, alive := fun m hm _ => h.alive m (hmem m hm).1 (hmem m hm).2, holds := fun m hm => h.holds m (hmem m hm).1, dirs := fun m hm => h.dirs m (hmem m hm).1, files := fun m hm => h.files m (hmem m hm).1, leads := fun d hdm p hp => ?_, sorted := fun m hm => h.sorted m (hmem m hm).1, short := fun m hm => h.short m (hmem m hm).1, used := ?_, cap := ?_, data := fun m hm => h.data m (hmem m hm).1, tot := ?_ }
    · obtain ⟨r, hr, hrd⟩ := h.root
      exact ⟨r, by show find (del t.nodes k) 1 = _; rw [find_del_ne (fun e => hk1 e.symm)]; exact hr, hrd⟩
    · have := h.links m (hmem m hm).1
      show m.links = (cnt (del t.nodes k) m.id : Int) + rootI m.id + 0
      rw [hcd]; exact this
    · obtain ⟨n, hn⟩ := h.leads d (hmem d hdm).1 p hp
      exact ⟨n, by show find (del t.nodes k) p.2 = _; rw [find_del_ne (hnl d (hmem d hdm).1 p hp)]; exact hn⟩
    · have := sum_del (f := cost) h.asc ho
      have hu := h.used
      unfold In.sum at hu ⊢
      have e : cost o = 64 + o.data.size := rfl
      show t.used - (64 + (o.data.size : Int)) = _
      show _ = (((del t.nodes k).map cost).sum : Int)
      omega
    · have := h.cap
      show t.used - (64 + (o.data.size : Int)) ≤ t.quota
      omega
    · have := sum_del (f := fun n => n.names.length) h.asc ho
      have ht := h.tot
      unfold In.tot at ht ⊢
      show ((del t.nodes k).map fun n => n.names.length).sum ≤ N
      omega
  · rw [if_neg hg]
    refine h.whole fun n hn => ?_
    rw [ho] at hn
    cases hn
    have hh := (h.holds o om).1
    rw [Bool.and_eq_true, beq_iff_eq, beq_iff_eq] at hg
    refine ⟨by omega, fun hod => ?_⟩
    exfalso
    exact hg ⟨(hd hod).1, (h.dirs o om hod).1⟩
end
end In
end Go.Proofs.YtfepbjlaffpojaaGreat
