/-
  Layer 8: what is always so of a table of inodes, and that each step keeps it. No program is named here.
-/
import Derived.Test.YtfepbjlaffpojaaGreatInoP
import Derived.WideAt
import Derived.WideShapes
namespace Go.Proofs.YtfepbjlaffpojaaGreat
set_option linter.unusedVariables false
namespace In

/-! ### names -/
def nameSorted (d : List (ByteArray × Int)) : Prop := d.Pairwise fun p q => before p.1 q.1 = true
/-- How many names lead to an inode. -/
def cntN (d : List (ByteArray × Int)) (id : Int) : Nat := d.countP fun p => p.2 == id
def cnt (l : List NodeD) (id : Int) : Nat := (l.map fun n => cntN n.names id).sum
def tot (l : List NodeD) : Nat := (l.map fun n => n.names.length).sum
def cost (n : NodeD) : Nat := 64 + n.data.size
def sum (l : List NodeD) : Nat := (l.map cost).sum
def has (d : List (ByteArray × Int)) (s : ByteArray) : Prop := ∃ p ∈ d, same p.1 s = true
def one (b : Bool) : Nat := if b then 1 else 0

theorem same_iff {a b : ByteArray} : same a b = true ↔ a = b := by
  unfold same
  rw [beq_iff_eq]
  constructor
  · intro h; exact ByteArray.ext (by simpa using congrArg List.toArray h)
  · intro h; rw [h]
theorem before_irrefl (a : ByteArray) : before a a = false := WideAt.bytes_irrefl _
theorem before_trans {a b c : ByteArray} (h1 : before a b = true) (h2 : before b c = true) : before a c = true := WideShapes.bytes_trans _ _ _ h1 h2
theorem before_total {a b : ByteArray} (h : a ≠ b) : before a b = true ∨ before b a = true :=
  WideAt.bytes_total _ _ fun e => h (same_iff.1 (by unfold same; rw [e]; simp))
theorem cntN_put (x : ByteArray × Int) (id : Int) : ∀ d, cntN (put x d) id = cntN d id + one (x.2 == id)
  | [] => by simp [put, cntN, one, List.countP_cons]
  | y :: r => by
    have ih := cntN_put x id r
    unfold put
    split
    · simp only [cntN, List.countP_cons, one]
    · simp only [cntN, List.countP_cons, one] at ih ⊢
      rw [ih]; omega
theorem len_put (x : ByteArray × Int) : ∀ d, (put x d).length = d.length + 1
  | [] => rfl
  | y :: r => by
    unfold put
    split
    · simp
    · simp [len_put x r]
theorem mem_put {x p : ByteArray × Int} : ∀ {d}, p ∈ put x d ↔ p = x ∨ p ∈ d
  | [] => by simp [put]
  | y :: r => by
    unfold put
    split
    · simp
    · simp only [List.mem_cons, mem_put (d := r)]
      constructor <;> (intro h; rcases h with h | h | h <;> simp [h])
theorem without_none {d : List (ByteArray × Int)} {s : ByteArray} (h : ¬ has d s) : without d s = d := by
  unfold without
  rw [List.filter_eq_self]
  intro p hp
  cases hs : same p.1 s
  · rfl
  · exact absurd ⟨p, hp, hs⟩ h
theorem mem_without {d : List (ByteArray × Int)} {s : ByteArray} {p : ByteArray × Int} : p ∈ without d s ↔ p ∈ d ∧ p.1 ≠ s := by
  unfold without
  rw [List.mem_filter]
  refine and_congr_right fun _ => ?_
  cases hs : same p.1 s
  · simp only [Bool.not_false, true_iff]
    intro e
    rw [same_iff.2 e] at hs
    cases hs
  · simp only [Bool.not_true, Bool.false_eq_true, false_iff]
    exact fun h => h (same_iff.1 hs)
theorem has_without (d : List (ByteArray × Int)) (s : ByteArray) : ¬ has (without d s) s := fun ⟨p, hp, hs⟩ => (mem_without.1 hp).2 (same_iff.1 hs)
theorem sorted_without {d : List (ByteArray × Int)} (h : nameSorted d) (s : ByteArray) : nameSorted (without d s) := List.Pairwise.filter _ h
theorem sorted_put {x : ByteArray × Int} : ∀ {d}, nameSorted d → ¬ has d x.1 → nameSorted (put x d)
  | [], _, _ => by simp [put, nameSorted]
  | y :: r, h, hn => by
    obtain ⟨h1, h2⟩ := List.pairwise_cons.1 h
    unfold put
    split
    · rename_i hb
      refine List.pairwise_cons.2 ⟨fun q hq => ?_, h⟩
      rcases List.mem_cons.1 hq with rfl | hq
      · exact hb
      · exact before_trans hb (h1 q hq)
    · rename_i hb
      have hyx : before y.1 x.1 = true := by
        rcases before_total (a := x.1) (b := y.1) (fun e => hn ⟨y, by simp, same_iff.2 e.symm⟩) with h' | h'
        · exact absurd h' hb
        · exact h'
      refine List.pairwise_cons.2 ⟨fun q hq => ?_, sorted_put h2 fun ⟨p, hp, hs⟩ => hn ⟨p, by simp [hp], hs⟩⟩
      rcases mem_put.1 hq with rfl | hq
      · exact hyx
      · exact h1 q hq
theorem sorted_with {d : List (ByteArray × Int)} (h : nameSorted d) (s : ByteArray) (id : Int) : nameSorted (with_ d s id) := sorted_put (sorted_without h s) (has_without d s)
theorem leads_none {d : List (ByteArray × Int)} {s : ByteArray} (h : ¬ has d s) : leads d s = 0 := by
  unfold leads
  rw [List.find?_eq_none.2 fun p hp hs => h ⟨p, hp, by simpa using hs⟩]
/-- A name stands there once. -/
theorem leads_at {d : List (ByteArray × Int)} (h : nameSorted d) {p : ByteArray × Int} (hp : p ∈ d) : leads d p.1 = p.2 := by
  induction d with
  | nil => cases hp
  | cons y r ih =>
    obtain ⟨h1, h2⟩ := List.pairwise_cons.1 h
    unfold leads
    rw [List.find?_cons]
    rcases List.mem_cons.1 hp with rfl | hp
    · rw [same_iff.2 rfl]
    · have : same y.1 p.1 = false := by
        cases hs : same y.1 p.1
        · rfl
        · have := h1 p hp
          rw [same_iff.1 hs, before_irrefl] at this
          cases this
      rw [this]
      exact ih h2 hp
theorem leads_some {d : List (ByteArray × Int)} {s : ByteArray} (h : leads d s ≠ 0) : (s, leads d s) ∈ d := by
  unfold leads at h ⊢
  cases hf : d.find? fun p => same p.1 s with
  | none => rw [hf] at h; exact absurd rfl h
  | some p =>
    have h1 := List.mem_of_find?_eq_some hf
    have h2 := List.find?_some hf
    have := same_iff.1 (by simpa using h2)
    subst this
    exact h1
theorem cntN_without {d : List (ByteArray × Int)} (h : nameSorted d) {s : ByteArray} (hl : leads d s ≠ 0) (id : Int) : cntN (without d s) id + one (leads d s == id) = cntN d id ∧ (without d s).length + 1 = d.length := by
  induction d with
  | nil => exact absurd rfl hl
  | cons y r ih =>
    obtain ⟨h1, h2⟩ := List.pairwise_cons.1 h
    cases hs : same y.1 s with
    | true =>
      have e := same_iff.1 hs
      have hn : ¬ has r s := fun ⟨p, hp, hps⟩ => by
        have := h1 p hp
        rw [e, same_iff.1 hps, before_irrefl] at this
        cases this
      have e1 : without (y :: r) s = r := by
        unfold without
        rw [List.filter_cons, hs]
        exact without_none hn
      have e2 : leads (y :: r) s = y.2 := by unfold leads; rw [List.find?_cons, hs]
      rw [e1, e2]
      refine ⟨?_, rfl⟩
      simp only [cntN, List.countP_cons, one]
    | false =>
      have e2 : leads (y :: r) s = leads r s := by unfold leads; rw [List.find?_cons, hs]
      have e1 : without (y :: r) s = y :: without r s := by
        unfold without
        rw [List.filter_cons, hs]; rfl
      rw [e2] at hl
      obtain ⟨i1, i2⟩ := ih h2 hl
      rw [e1, e2]
      simp only [cntN, List.countP_cons, List.length_cons] at i1 ⊢
      omega
theorem has_of_leads {d : List (ByteArray × Int)} {s : ByteArray} (hp : ∀ p ∈ d, p.2 ≠ 0) (h : leads d s = 0) : ¬ has d s := fun ⟨p, hm, hs⟩ => by
  unfold leads at h
  cases hf : d.find? fun p => same p.1 s with
  | none => exact List.find?_eq_none.1 hf p hm hs
  | some q => rw [hf] at h; exact hp q (List.mem_of_find?_eq_some hf) h

/-! ### lists of inodes -/
def asc (l : List NodeD) : Prop := l.Pairwise fun a b => a.id < b.id
theorem asc_set {l : List NodeD} (h : asc l) (n : NodeD) : asc (set l n) := by
  unfold asc set
  rw [List.pairwise_map]
  refine h.imp fun {a b} hab => ?_
  by_cases ha : a.id = n.id <;> by_cases hb : b.id = n.id <;> simp [ha, hb] <;> omega
theorem asc_del {l : List NodeD} (h : asc l) (id : Int) : asc (del l id) := List.Pairwise.filter _ h
theorem find_some {l : List NodeD} {id : Int} {n : NodeD} (h : find l id = some n) : n ∈ l ∧ n.id = id := by
  refine ⟨List.mem_of_find?_eq_some h, ?_⟩
  simpa using List.find?_some h
theorem find_asc {l : List NodeD} (hs : asc l) {n : NodeD} (hn : n ∈ l) : find l n.id = some n := by
  induction l with
  | nil => cases hn
  | cons y r ih =>
    obtain ⟨h1, h2⟩ := List.pairwise_cons.1 hs
    unfold find
    rw [List.find?_cons]
    rcases List.mem_cons.1 hn with rfl | hn
    · simp
    · have : (y.id == n.id) = false := by rw [beq_eq_false_iff_ne]; have := h1 n hn; omega
      rw [this]
      exact ih h2 hn
theorem mem_set_iff {l : List NodeD} (hs : asc l) {n o : NodeD} (ho : find l n.id = some o) {m : NodeD} : m ∈ set l n ↔ m = n ∨ (m ∈ l ∧ m.id ≠ n.id) := by
  unfold set
  rw [List.mem_map]
  constructor
  · rintro ⟨x, hx, rfl⟩
    split
    · exact .inl rfl
    · rename_i hne
      exact .inr ⟨hx, by simpa using hne⟩
  · rintro (rfl | ⟨hm, hne⟩)
    · obtain ⟨h1, h2⟩ := find_some ho
      exact ⟨o, h1, by rw [if_pos (by simpa using h2)]⟩
    · exact ⟨m, hm, by rw [if_neg (by simpa using hne)]⟩
/-- A sum over inodes, when one of them turns. -/
theorem sum_set {f : NodeD → Nat} {l : List NodeD} (hs : asc l) {n o : NodeD} (ho : find l n.id = some o) : ((set l n).map f).sum + f o = (l.map f).sum + f n := by
  induction l with
  | nil => cases ho
  | cons y r ih =>
    obtain ⟨h1, h2⟩ := List.pairwise_cons.1 hs
    unfold find at ho
    rw [List.find?_cons] at ho
    unfold set
    rw [List.map_cons, List.map_cons, List.sum_cons, List.map_cons, List.sum_cons]
    cases hy : y.id == n.id with
    | true =>
      rw [hy] at ho
      have : y = o := by simpa using ho
      subst this
      have hyn : y.id = n.id := by simpa using hy
      have e : List.map (fun m => if m.id == n.id then n else m) r = r := by
        rw [List.map_congr_left (g := id)]
        · simp
        · intro m hm
          have := h1 m hm
          rw [if_neg]
          · rfl
          · simp; omega
      rw [e]
      simp only [if_true]
      omega
    | false =>
      rw [hy] at ho
      have := ih h2 ho
      unfold set at this
      simp only [Bool.false_eq_true, if_false]
      omega
theorem sum_del {f : NodeD → Nat} {l : List NodeD} (hs : asc l) {id : Int} {o : NodeD} (ho : find l id = some o) : ((del l id).map f).sum + f o = (l.map f).sum := by
  induction l with
  | nil => cases ho
  | cons y r ih =>
    obtain ⟨h1, h2⟩ := List.pairwise_cons.1 hs
    unfold find at ho
    rw [List.find?_cons] at ho
    unfold del
    rw [List.filter_cons]
    cases hy : y.id == id with
    | true =>
      rw [hy] at ho
      have : y = o := by simpa using ho
      subst this
      have hyn : y.id = id := by simpa using hy
      have e : List.filter (fun m => !(m.id == id)) r = r := by
        rw [List.filter_eq_self]
        intro m hm
        have := h1 m hm
        simp; omega
      simp only [Bool.not_true, Bool.false_eq_true, if_false]
      rw [e, List.map_cons, List.sum_cons]
      omega
    | false =>
      rw [hy] at ho
      have := ih h2 ho
      unfold del at this
      simp only [Bool.not_false, if_true]
      rw [List.map_cons, List.sum_cons, List.map_cons, List.sum_cons]
      omega
theorem le_sum {f : NodeD → Nat} {l : List NodeD} {n : NodeD} (h : n ∈ l) : f n ≤ (l.map f).sum := by
  induction l with
  | nil => cases h
  | cons y r ih =>
    rw [List.map_cons, List.sum_cons]
    rcases List.mem_cons.1 h with rfl | h
    · omega
    · have := ih h; omega
theorem cntN_le (d : List (ByteArray × Int)) (id : Int) : cntN d id ≤ d.length := List.countP_le_length
theorem cnt_le (l : List NodeD) (id : Int) : cnt l id ≤ tot l := by
  unfold cnt tot
  induction l with
  | nil => simp
  | cons y r ih =>
    rw [List.map_cons, List.sum_cons, List.map_cons, List.sum_cons]
    have := cntN_le y.names id
    omega

/-! ### the invariant -/
/-- An inode that stays. -/
def Alive (n : NodeD) : Prop := (0 < n.links ∨ 0 < n.holds) ∧ (n.dir = true → n.links = 1)
def rootI (id : Int) : Int := if id = 1 then 1 else 0
/-- A table as it is between calls (δ = 0, x = 0), or between two steps of one: 'δ' names too few lead to each inode; inode 'x' may be one that goes. -/
structure InvD (δ : Int → Int) (x : Int) (N : Nat) (t : TabD) : Prop where
  q0 : 64 ≤ t.quota
  q1 : t.quota ≤ 1099511627776
  asc : asc t.nodes
  root : ∃ r, find t.nodes 1 = some r ∧ r.dir = true
  pos : ∀ n ∈ t.nodes, 1 ≤ n.id ∧ n.id ≤ t.last
  last : 1 ≤ t.last ∧ t.last ≤ N
  links : ∀ n ∈ t.nodes, n.links = cnt t.nodes n.id + rootI n.id + δ n.id
  alive : ∀ n ∈ t.nodes, n.id ≠ x → Alive n
  holds : ∀ n ∈ t.nodes, 0 ≤ n.holds ∧ n.holds ≤ 1048576
  dirs : ∀ n ∈ t.nodes, n.dir = true → n.holds = 0 ∧ n.data.size = 0
  files : ∀ n ∈ t.nodes, n.dir = false → n.names = []
  leads : ∀ d ∈ t.nodes, ∀ p ∈ d.names, ∃ n, find t.nodes p.2 = some n
  sorted : ∀ d ∈ t.nodes, nameSorted d.names
  short : ∀ d ∈ t.nodes, ∀ p ∈ d.names, p.1.size ≤ 32
  used : t.used = sum t.nodes
  cap : t.used ≤ t.quota
  data : ∀ n ∈ t.nodes, n.data.size ≤ 1048576
  tot : tot t.nodes ≤ N
abbrev Inv (N : Nat) (t : TabD) : Prop := InvD (fun _ => 0) 0 N t
theorem InvD.more {δ : Int → Int} {x : Int} {N M : Nat} {t : TabD} (h : InvD δ x N t) (hM : N ≤ M) : InvD δ x M t :=
  { h with last := ⟨h.last.1, by have := h.last.2; omega⟩, tot := Nat.le_trans h.tot hM }
theorem inv_new {q : Int} (h0 : 64 ≤ q) (h1 : q ≤ 1099511627776) : Inv 1 (new q) where
  q0 := h0
  q1 := h1
  asc := List.pairwise_singleton _ _
  root := ⟨_, rfl, rfl⟩
  pos := fun n hn => by have : n = ⟨1, true, 1, 0, ByteArray.empty, []⟩ := by simpa [new] using hn
                        subst this; exact ⟨by decide, show (1 : Int) ≤ 1 by decide⟩
  last := ⟨show (1 : Int) ≤ 1 by decide, show (1 : Int) ≤ ((1 : Nat) : Int) by decide⟩
  links := fun n hn => by have : n = ⟨1, true, 1, 0, ByteArray.empty, []⟩ := by simpa [new] using hn
                          subst this; rfl
  alive := fun n hn _ => by have : n = ⟨1, true, 1, 0, ByteArray.empty, []⟩ := by simpa [new] using hn
                            subst this; exact ⟨.inl (by decide), fun _ => rfl⟩
  holds := fun n hn => by have : n = ⟨1, true, 1, 0, ByteArray.empty, []⟩ := by simpa [new] using hn
                          subst this; exact ⟨by decide, by decide⟩
  dirs := fun n hn _ => by have : n = ⟨1, true, 1, 0, ByteArray.empty, []⟩ := by simpa [new] using hn
                           subst this; exact ⟨rfl, rfl⟩
  files := fun n hn hd => by have : n = ⟨1, true, 1, 0, ByteArray.empty, []⟩ := by simpa [new] using hn
                             subst this; rfl
  leads := fun n hn p hp => by have : n = ⟨1, true, 1, 0, ByteArray.empty, []⟩ := by simpa [new] using hn
                               subst this; cases hp
  sorted := fun n hn => by have : n = ⟨1, true, 1, 0, ByteArray.empty, []⟩ := by simpa [new] using hn
                           subst this; exact List.Pairwise.nil
  short := fun n hn p hp => by have : n = ⟨1, true, 1, 0, ByteArray.empty, []⟩ := by simpa [new] using hn
                               subst this; cases hp
  used := rfl
  cap := h0
  data := fun n hn => by have : n = ⟨1, true, 1, 0, ByteArray.empty, []⟩ := by simpa [new] using hn
                         subst this; exact Nat.zero_le _
  tot := show 0 ≤ 1 by decide
theorem find_set {l : List NodeD} {n o : NodeD} (ho : find l n.id = some o) (id : Int) : find (set l n) id = if id = n.id then some n else find l id := by
  unfold set find at *
  induction l with
  | nil => cases ho
  | cons y r ih =>
    rw [List.map_cons, List.find?_cons, List.find?_cons]
    rw [List.find?_cons] at ho
    cases hy : y.id == n.id with
    | true =>
      have hyn : y.id = n.id := by simpa using hy
      simp only [if_true]
      by_cases hi : id = n.id
      · subst hi; simp
      · rw [if_neg hi]
        have e2 : (n.id == id) = false := by rw [beq_eq_false_iff_ne]; exact fun e => hi e.symm
        have e3 : (y.id == id) = false := by rw [hyn]; exact e2
        rw [e2, e3]
        simp only
        rw [List.find?_map]
        have : ((fun m : NodeD => m.id == id) ∘ fun m => if m.id == n.id then n else m) = fun m => m.id == id := by
          funext m
          simp only [Function.comp]
          split
          · rename_i hm
            rw [show m.id = n.id by simpa using hm]
          · rfl
        rw [this]
        cases hf : r.find? fun m => m.id == id with
        | none => rfl
        | some x =>
          have hx := List.find?_some hf
          simp only [Option.map_some]
          rw [if_neg]
          intro hc
          have h1 : x.id = id := by simpa using hx
          have h2 : x.id = n.id := by simpa using hc
          exact hi (h1 ▸ h2)
    | false =>
      rw [hy] at ho
      simp only at ho
      simp only [Bool.false_eq_true, if_false]
      have hne : y.id ≠ n.id := by simpa using hy
      by_cases hyi : y.id = id
      · have e2 : (y.id == id) = true := by simpa using hyi
        rw [e2]
        simp only
        rw [if_neg (fun e => hne (hyi.trans e))]
      · have e2 : (y.id == id) = false := by rw [beq_eq_false_iff_ne]; exact hyi
        rw [e2]
        exact ih ho
theorem find_del_ne {l : List NodeD} {id x : Int} (hx : x ≠ id) : find (del l id) x = find l x := by
  unfold find del
  rw [List.find?_filter]
  congr 1
  funext m
  by_cases h : m.id = x
  · subst h
    simp [hx]
  · simp [h]
theorem cnt_set {l : List NodeD} (hs : In.asc l) {n o : NodeD} (ho : find l n.id = some o) (id : Int) : cnt (set l n) id + cntN o.names id = cnt l id + cntN n.names id := sum_set (f := fun n => cntN n.names id) hs ho
/-- One inode turns, its number and kind stay: what is to be shown. -/
theorem InvD.turn {δ δ' : Int → Int} {x y : Int} {N M : Nat} {t : TabD} (h : InvD δ x N t) {n o : NodeD} (ho : find t.nodes n.id = some o) (hd : n.dir = o.dir)
    (hl : ∀ id, (n.id = id → n.links = cnt (set t.nodes n) id + rootI id + δ' id) ∧ (n.id ≠ id → (cnt t.nodes id : Int) + δ id = cnt (set t.nodes n) id + δ' id)) (ha : ∀ m ∈ t.nodes, m.id ≠ n.id → m.id ≠ y → m.id ≠ x) (hn : n.id ≠ y → Alive n)
    (hh : 0 ≤ n.holds ∧ n.holds ≤ 1048576) (hdir : n.dir = true → n.holds = 0 ∧ n.data.size = 0) (hfile : n.dir = false → n.names = []) (hle : ∀ p ∈ n.names, ∃ m, find t.nodes p.2 = some m) (hso : nameSorted n.names) (hsh : ∀ p ∈ n.names, p.1.size ≤ 32)
    {u : Int} (hu : u = t.used - cost o + cost n) (hc : u ≤ t.quota) (hda : n.data.size ≤ 1048576) (hto : In.tot t.nodes + n.names.length ≤ M + o.names.length) (hM : N ≤ M) :
    InvD δ' y M ⟨t.quota, u, t.last, set t.nodes n⟩ := by
  obtain ⟨om, oi⟩ := find_some ho
  have hm := fun m => mem_set_iff h.asc ho (m := m)
  refine { q0 := h.q0, q1 := h.q1, asc := asc_set h.asc n, root := ?_, pos := ?_, last := ⟨h.last.1, by have := h.last.2; show t.last ≤ (M : Int); omega⟩, links := ?_, alive := ?_, holds := ?_, dirs := ?_, files := ?_, leads := ?_, sorted := ?_, short := ?_, used := ?_, cap := hc, data := ?_, tot := ?_ }
  · obtain ⟨r, hr, hrd⟩ := h.root
    show ∃ r, find (set t.nodes n) 1 = some r ∧ r.dir = true
    rw [find_set ho]
    split
    · rename_i e
      rw [e, ho] at hr
      cases hr
      exact ⟨n, rfl, hd.trans hrd⟩
    · exact ⟨r, hr, hrd⟩
  · intro m hm'
    rcases (hm m).1 hm' with rfl | ⟨h1, _⟩
    · have := h.pos o om; rw [oi] at this; exact this
    · exact h.pos m h1
  · intro m hm'
    show m.links = cnt (set t.nodes n) m.id + rootI m.id + δ' m.id
    rcases (hm m).1 hm' with rfl | ⟨h1, h2⟩
    · exact (hl m.id).1 rfl
    · have := h.links m h1
      have := (hl m.id).2 (fun e => h2 e.symm)
      omega
  · intro m hm' hy
    rcases (hm m).1 hm' with rfl | ⟨h1, h2⟩
    · exact hn hy
    · exact h.alive m h1 (ha m h1 h2 hy)
  · intro m hm'
    rcases (hm m).1 hm' with rfl | ⟨h1, _⟩
    · exact hh
    · exact h.holds m h1
  · intro m hm'
    rcases (hm m).1 hm' with rfl | ⟨h1, _⟩
    · exact hdir
    · exact h.dirs m h1
  · intro m hm'
    rcases (hm m).1 hm' with rfl | ⟨h1, _⟩
    · exact hfile
    · exact h.files m h1
  · intro m hm' p hp
    show ∃ k, find (set t.nodes n) p.2 = some k
    have key : ∃ k, find t.nodes p.2 = some k := by
      rcases (hm m).1 hm' with rfl | ⟨h1, _⟩
      · exact hle p hp
      · exact h.leads m h1 p hp
    obtain ⟨k, hk⟩ := key
    rw [find_set ho]
    split
    · exact ⟨n, rfl⟩
    · exact ⟨k, hk⟩
  · intro m hm'
    rcases (hm m).1 hm' with rfl | ⟨h1, _⟩
    · exact hso
    · exact h.sorted m h1
  · intro m hm'
    rcases (hm m).1 hm' with rfl | ⟨h1, _⟩
    · exact hsh
    · exact h.short m h1
  · show u = ((In.sum (set t.nodes n) : Nat) : Int)
    have := sum_set (f := cost) h.asc ho
    have hus := h.used
    unfold In.sum at hus ⊢
    omega
  · intro m hm'
    rcases (hm m).1 hm' with rfl | ⟨h1, _⟩
    · exact hda
    · exact h.data m h1
  · show In.tot (set t.nodes n) ≤ M
    have := sum_set (f := fun n => n.names.length) h.asc ho
    unfold In.tot at hto ⊢
    omega
end In
end Go.Proofs.YtfepbjlaffpojaaGreat
