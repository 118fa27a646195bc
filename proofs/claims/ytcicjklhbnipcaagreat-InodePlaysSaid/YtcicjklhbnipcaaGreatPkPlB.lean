/-
  Texts laid one behind the other: what RgS asks for.
-/
import Derived.Test.YtcicjklhbnipcaaGreatPkPlA
import Derived.ChangeOld
import Derived.Deep.Draws
import Derived.Deep.MidRow
import Derived.Deep.RegionHeld3
import Derived.Laws.OwnMore
import Derived.Lib.Strings
import Derived.LoopN
import Derived.Maps.AppendAt
import Derived.OpenShut
import Derived.ProofKit
import Derived.Test.YtcicjklhbnipcaaGreatRows
import Derived.WideAt
import Derived.WideShapes
namespace Go.Proofs.YtcicjklhbnipcaaGreat
set_option linter.unusedVariables false
set_option linter.unusedSimpArgs false
namespace In

/-! ### names -/
def nameSorted (d : List (ByteArray × Int)) : Prop := d.Pairwise fun p q => before p.1 q.1 = true
/-- How many names lead to an inode. -/
def cntN (d : List (ByteArray × Int)) (id : Int) : Nat := d.countP fun p => p.2 == id
def cnt (l : List NodeD) (id : Int) : Nat := (l.map fun n => cntN n.names id).sum
def tot (l : List NodeD) : Nat := (l.map fun n => n.names.length).sum
def cost (n : NodeD) : Nat := 64 + n.data.size
def sum (l : List NodeD) : Nat := (l.map cost).sum
def has (d : List (ByteArray × Int)) (s : ByteArray) : Prop := ∃ p ∈ d, same p.1 s = true
def one (b : Bool) : Nat := if b then 1 else 0

theorem same_iff {a b : ByteArray} : same a b = true ↔ a = b := by
  unfold same
  rw [beq_iff_eq]
  constructor
  · intro h; exact ByteArray.ext (by simpa using congrArg List.toArray h)
  · intro h; rw [h]
theorem before_irrefl (a : ByteArray) : before a a = false := WideAt.bytes_irrefl _
theorem before_trans {a b c : ByteArray} (h1 : before a b = true) (h2 : before b c = true) : before a c = true := WideShapes.bytes_trans _ _ _ h1 h2
theorem before_total {a b : ByteArray} (h : a ≠ b) : before a b = true ∨ before b a = true :=
  WideAt.bytes_total _ _ fun e => h (same_iff.1 (by unfold same; rw [e]; simp))
theorem cntN_put (x : ByteArray × Int) (id : Int) : ∀ d, cntN (put x d) id = cntN d id + one (x.2 == id)
  | [] => by simp [put, cntN, one, List.countP_cons]
  | y :: r => by
    have ih := cntN_put x id r
    unfold put
    split
    · simp only [cntN, List.countP_cons, one]
    · simp only [cntN, List.countP_cons, one] at ih ⊢
      rw [ih]; omega
theorem len_put (x : ByteArray × Int) : ∀ d, (put x d).length = d.length + 1
  | [] => rfl
  | y :: r => by
    unfold put
    split
    · simp
    · simp [len_put x r]
theorem mem_put {x p : ByteArray × Int} : ∀ {d}, p ∈ put x d ↔ p = x ∨ p ∈ d
  | [] => by simp [put]
  | y :: r => by
    unfold put
    split
    · simp
    · simp only [List.mem_cons, mem_put (d := r)]
      constructor <;> (intro h; rcases h with h | h | h <;> simp [h])
theorem without_none {d : List (ByteArray × Int)} {s : ByteArray} (h : ¬ has d s) : without d s = d := by
  unfold without
  rw [List.filter_eq_self]
  intro p hp
  cases hs : same p.1 s
  · rfl
  · exact absurd ⟨p, hp, hs⟩ h
theorem mem_without {d : List (ByteArray × Int)} {s : ByteArray} {p : ByteArray × Int} : p ∈ without d s ↔ p ∈ d ∧ p.1 ≠ s := by
  unfold without
  rw [List.mem_filter]
  refine and_congr_right fun _ => ?_
  cases hs : same p.1 s
  · simp only [Bool.not_false, true_iff]
    intro e
    rw [same_iff.2 e] at hs
    cases hs
  · simp only [Bool.not_true, Bool.false_eq_true, false_iff]
    exact fun h => h (same_iff.1 hs)
theorem has_without (d : List (ByteArray × Int)) (s : ByteArray) : ¬ has (without d s) s := fun ⟨p, hp, hs⟩ => (mem_without.1 hp).2 (same_iff.1 hs)
theorem sorted_without {d : List (ByteArray × Int)} (h : nameSorted d) (s : ByteArray) : nameSorted (without d s) := List.Pairwise.filter _ h
theorem sorted_put {x : ByteArray × Int} : ∀ {d}, nameSorted d → ¬ has d x.1 → nameSorted (put x d)
  | [], _, _ => by simp [put, nameSorted]
  | y :: r, h, hn => by
    obtain ⟨h1, h2⟩ := List.pairwise_cons.1 h
    unfold put
    split
    · rename_i hb
      refine List.pairwise_cons.2 ⟨fun q hq => ?_, h⟩
      rcases List.mem_cons.1 hq with rfl | hq
      · exact hb
      · exact before_trans hb (h1 q hq)
    · rename_i hb
      have hyx : before y.1 x.1 = true := by
        rcases before_total (a := x.1) (b := y.1) (fun e => hn ⟨y, by simp, same_iff.2 e.symm⟩) with h' | h'
        · exact absurd h' hb
        · exact h'
      refine List.pairwise_cons.2 ⟨fun q hq => ?_, sorted_put h2 fun ⟨p, hp, hs⟩ => hn ⟨p, by simp [hp], hs⟩⟩
      rcases mem_put.1 hq with rfl | hq
      · exact hyx
      · exact h1 q hq
theorem sorted_with {d : List (ByteArray × Int)} (h : nameSorted d) (s : ByteArray) (id : Int) : nameSorted (with_ d s id) := sorted_put (sorted_without h s) (has_without d s)
theorem leads_none {d : List (ByteArray × Int)} {s : ByteArray} (h : ¬ has d s) : leads d s = 0 := by
  unfold leads
  rw [List.find?_eq_none.2 fun p hp hs => h ⟨p, hp, by simpa using hs⟩]
/-- A name stands there once. -/
theorem leads_at {d : List (ByteArray × Int)} (h : nameSorted d) {p : ByteArray × Int} (hp : p ∈ d) : leads d p.1 = p.2 := by
  induction d with
  | nil => cases hp
  | cons y r ih =>
    obtain ⟨h1, h2⟩ := List.pairwise_cons.1 h
    unfold leads
    rw [List.find?_cons]
    rcases List.mem_cons.1 hp with rfl | hp
    · rw [same_iff.2 rfl]
    · have : same y.1 p.1 = false := by
        cases hs : same y.1 p.1
        · rfl
        · have := h1 p hp
          rw [same_iff.1 hs, before_irrefl] at this
          cases this
      rw [this]
      exact ih h2 hp
theorem leads_some {d : List (ByteArray × Int)} {s : ByteArray} (h : leads d s ≠ 0) : (s, leads d s) ∈ d := by
  unfold leads at h ⊢
  cases hf : d.find? fun p => same p.1 s with
  | none => rw [hf] at h; exact absurd rfl h
  | some p =>
    have h1 := List.mem_of_find?_eq_some hf
    have h2 := List.find?_some hf
    have := same_iff.1 (by simpa using h2)
    subst this
    exact h1
theorem cntN_without {d : List (ByteArray × Int)} (h : nameSorted d) {s : ByteArray} (hl : leads d s ≠ 0) (id : Int) : cntN (without d s) id + one (leads d s == id) = cntN d id ∧ (without d s).length + 1 = d.length := by
  induction d with
  | nil => exact absurd rfl hl
  | cons y r ih =>
    obtain ⟨h1, h2⟩ := List.pairwise_cons.1 h
    cases hs : same y.1 s with
    | true =>
      have e := same_iff.1 hs
      have hn : ¬ has r s := fun ⟨p, hp, hps⟩ => by
        have := h1 p hp
        rw [e, same_iff.1 hps, before_irrefl] at this
        cases this
      have e1 : without (y :: r) s = r := by
        unfold without
        rw [List.filter_cons, hs]
        exact without_none hn
      have e2 : leads (y :: r) s = y.2 := by unfold leads; rw [List.find?_cons, hs]
      rw [e1, e2]
      refine ⟨?_, rfl⟩
      simp only [cntN, List.countP_cons, one]
    | false =>
      have e2 : leads (y :: r) s = leads r s := by unfold leads; rw [List.find?_cons, hs]
      have e1 : without (y :: r) s = y :: without r s := by
        unfold without
        rw [List.filter_cons, hs]; rfl
      rw [e2] at hl
      obtain ⟨i1, i2⟩ := ih h2 hl
      rw [e1, e2]
      simp only [cntN, List.countP_cons, List.length_cons] at i1 ⊢
      omega
theorem has_of_leads {d : List (ByteArray × Int)} {s : ByteArray} (hp : ∀ p ∈ d, p.2 ≠ 0) (h : leads d s = 0) : ¬ has d s := fun ⟨p, hm, hs⟩ => by
  unfold leads at h
  cases hf : d.find? fun p => same p.1 s with
  | none => exact List.find?_eq_none.1 hf p hm hs
  | some q => rw [hf] at h; exact hp q (List.mem_of_find?_eq_some hf) h

/-! ### lists of inodes -/
def asc (l : List NodeD) : Prop := l.Pairwise fun a b => a.id < b.id
theorem asc_set {l : List NodeD} (h : asc l) (n : NodeD) : asc (set l n) := by
  unfold asc set
  rw [List.pairwise_map]
  refine h.imp fun {a b} hab => ?_
  by_cases ha : a.id = n.id <;> by_cases hb : b.id = n.id <;> simp [ha, hb] <;> omega
theorem asc_del {l : List NodeD} (h : asc l) (id : Int) : asc (del l id) := List.Pairwise.filter _ h
theorem find_some {l : List NodeD} {id : Int} {n : NodeD} (h : find l id = some n) : n ∈ l ∧ n.id = id := by
  refine ⟨List.mem_of_find?_eq_some h, ?_⟩
  simpa using List.find?_some h
theorem find_asc {l : List NodeD} (hs : asc l) {n : NodeD} (hn : n ∈ l) : find l n.id = some n := by
  induction l with
  | nil => cases hn
  | cons y r ih =>
    obtain ⟨h1, h2⟩ := List.pairwise_cons.1 hs
    unfold find
    rw [List.find?_cons]
    rcases List.mem_cons.1 hn with rfl | hn
    · simp
    · have : (y.id == n.id) = false := by rw [beq_eq_false_iff_ne]; have := h1 n hn; omega
      rw [this]
      exact ih h2 hn
theorem mem_set_iff {l : List NodeD} (hs : asc l) {n o : NodeD} (ho : find l n.id = some o) {m : NodeD} : m ∈ set l n ↔ m = n ∨ (m ∈ l ∧ m.id ≠ n.id) := by
  unfold set
  rw [List.mem_map]
  constructor
  · rintro ⟨x, hx, rfl⟩
    split
    · exact .inl rfl
    · rename_i hne
      exact .inr ⟨hx, by simpa using hne⟩
  · rintro (rfl | ⟨hm, hne⟩)
    · obtain ⟨h1, h2⟩ := find_some ho
      exact ⟨o, h1, by rw [if_pos (by simpa using h2)]⟩
    · exact ⟨m, hm, by rw [if_neg (by simpa using hne)]⟩
/-- A sum over inodes, when one of them turns. -/
theorem sum_set {f : NodeD → Nat} {l : List NodeD} (hs : asc l) {n o : NodeD} (ho : find l n.id = some o) : ((set l n).map f).sum + f o = (l.map f).sum + f n := by
  induction l with
  | nil => cases ho
  | cons y r ih =>
    obtain ⟨h1, h2⟩ := List.pairwise_cons.1 hs
    unfold find at ho
    rw [List.find?_cons] at ho
    unfold set
    rw [List.map_cons, List.map_cons, List.sum_cons, List.map_cons, List.sum_cons]
    cases hy : y.id == n.id with
    | true =>
      rw [hy] at ho
      have : y = o := by simpa using ho
      subst this
      have hyn : y.id = n.id := by simpa using hy
      have e : List.map (fun m => if m.id == n.id then n else m) r = r := by
        rw [List.map_congr_left (g := id)]
        · simp
        · intro m hm
          have := h1 m hm
          rw [if_neg]
          · rfl
          · simp; omega
      rw [e]
      simp only [if_true]
      omega
    | false =>
      rw [hy] at ho
      have := ih h2 ho
      unfold set at this
      simp only [Bool.false_eq_true, if_false]
      omega
theorem sum_del {f : NodeD → Nat} {l : List NodeD} (hs : asc l) {id : Int} {o : NodeD} (ho : find l id = some o) : ((del l id).map f).sum + f o = (l.map f).sum := by
  induction l with
  | nil => cases ho
  | cons y r ih =>
    obtain ⟨h1, h2⟩ := List.pairwise_cons.1 hs
    unfold find at ho
    rw [List.find?_cons] at ho
    unfold del
    rw [List.filter_cons]
    cases hy : y.id == id with
    | true =>
      rw [hy] at ho
      have : y = o := by simpa using ho
      subst this
      have hyn : y.id = id := by simpa using hy
      have e : List.filter (fun m => !(m.id == id)) r = r := by
        rw [List.filter_eq_self]
        intro m hm
        have := h1 m hm
        simp; omega
      simp only [Bool.not_true, Bool.false_eq_true, if_false]
      rw [e, List.map_cons, List.sum_cons]
      omega
    | false =>
      rw [hy] at ho
      have := ih h2 ho
      unfold del at this
      simp only [Bool.not_false, if_true]
      rw [List.map_cons, List.sum_cons, List.map_cons, List.sum_cons]
      omega
theorem le_sum {f : NodeD → Nat} {l : List NodeD} {n : NodeD} (h : n ∈ l) : f n ≤ (l.map f).sum := by
  induction l with
  | nil => cases h
  | cons y r ih =>
    rw [List.map_cons, List.sum_cons]
    rcases List.mem_cons.1 h with rfl | h
    · omega
    · have := ih h; omega
theorem cntN_le (d : List (ByteArray × Int)) (id : Int) : cntN d id ≤ d.length := List.countP_le_length
theorem cnt_le (l : List NodeD) (id : Int) : cnt l id ≤ tot l := by
  unfold cnt tot
  induction l with
  | nil => simp
  | cons y r ih =>
    rw [List.map_cons, List.sum_cons, List.map_cons, List.sum_cons]
    have := cntN_le y.names id
    omega

/-! ### the invariant -/
/-- An inode that stays. -/
def Alive (n : NodeD) : Prop := (0 < n.links ∨ 0 < n.holds) ∧ (n.dir = true → n.links = 1)
def rootI (id : Int) : Int := if id = 1 then 1 else 0
/-- A table as it is between calls (δ = 0, x = 0), or between two steps of one: 'δ' names too few lead to each inode; inode 'x' may be one that goes. -/
structure InvD (δ : Int → Int) (x : Int) (N : Nat) (t : TabD) : Prop where
  q0 : 64 ≤ t.quota
  q1 : t.quota ≤ 1099511627776
  asc : asc t.nodes
  root : ∃ r, find t.nodes 1 = some r ∧ r.dir = true
  pos : ∀ n ∈ t.nodes, 1 ≤ n.id ∧ n.id ≤ t.last
  last : 1 ≤ t.last ∧ t.last ≤ N
  links : ∀ n ∈ t.nodes, n.links = cnt t.nodes n.id + rootI n.id + δ n.id
  alive : ∀ n ∈ t.nodes, n.id ≠ x → Alive n
  holds : ∀ n ∈ t.nodes, 0 ≤ n.holds ∧ n.holds ≤ 1048576
  dirs : ∀ n ∈ t.nodes, n.dir = true → n.holds = 0 ∧ n.data.size = 0
  files : ∀ n ∈ t.nodes, n.dir = false → n.names = []
  leads : ∀ d ∈ t.nodes, ∀ p ∈ d.names, ∃ n, find t.nodes p.2 = some n
  sorted : ∀ d ∈ t.nodes, nameSorted d.names
  short : ∀ d ∈ t.nodes, ∀ p ∈ d.names, p.1.size ≤ 32
  used : t.used = sum t.nodes
  cap : t.used ≤ t.quota
  data : ∀ n ∈ t.nodes, n.data.size ≤ 1048576
  tot : tot t.nodes ≤ N
abbrev Inv (N : Nat) (t : TabD) : Prop := InvD (fun _ => 0) 0 N t
theorem InvD.more {δ : Int → Int} {x : Int} {N M : Nat} {t : TabD} (h : InvD δ x N t) (hM : N ≤ M) : InvD δ x M t :=
  { h with last := ⟨h.last.1, by have := h.last.2; omega⟩, tot := Nat.le_trans h.tot hM }
theorem inv_new {q : Int} (h0 : 64 ≤ q) (h1 : q ≤ 1099511627776) : Inv 1 (new q) where
  q0 := h0
  q1 := h1
  asc := List.pairwise_singleton _ _
  root := ⟨_, rfl, rfl⟩
  pos := fun n hn => by have : n = ⟨1, true, 1, 0, ByteArray.empty, []⟩ := by simpa [new] using hn
                        subst this; exact ⟨by decide, show (1 : Int) ≤ 1 by decide⟩
  last := ⟨show (1 : Int) ≤ 1 by decide, show (1 : Int) ≤ ((1 : Nat) : Int) by decide⟩
  links := fun n hn => by have : n = ⟨1, true, 1, 0, ByteArray.empty, []⟩ := by simpa [new] using hn
                          subst this; rfl
  alive := fun n hn _ => by have : n = ⟨1, true, 1, 0, ByteArray.empty, []⟩ := by simpa [new] using hn
                            subst this; exact ⟨.inl (by decide), fun _ => rfl⟩
  holds := fun n hn => by have : n = ⟨1, true, 1, 0, ByteArray.empty, []⟩ := by simpa [new] using hn
                          subst this; exact ⟨by decide, by decide⟩
  dirs := fun n hn _ => by have : n = ⟨1, true, 1, 0, ByteArray.empty, []⟩ := by simpa [new] using hn
                           subst this; exact ⟨rfl, rfl⟩
  files := fun n hn hd => by have : n = ⟨1, true, 1, 0, ByteArray.empty, []⟩ := by simpa [new] using hn
                             subst this; rfl
  leads := fun n hn p hp => by have : n = ⟨1, true, 1, 0, ByteArray.empty, []⟩ := by simpa [new] using hn
                               subst this; cases hp
  sorted := fun n hn => by have : n = ⟨1, true, 1, 0, ByteArray.empty, []⟩ := by simpa [new] using hn
                           subst this; exact List.Pairwise.nil
  short := fun n hn p hp => by have : n = ⟨1, true, 1, 0, ByteArray.empty, []⟩ := by simpa [new] using hn
                               subst this; cases hp
  used := rfl
  cap := h0
  data := fun n hn => by have : n = ⟨1, true, 1, 0, ByteArray.empty, []⟩ := by simpa [new] using hn
                         subst this; exact Nat.zero_le _
  tot := show 0 ≤ 1 by decide
theorem find_set {l : List NodeD} {n o : NodeD} (ho : find l n.id = some o) (id : Int) : find (set l n) id = if id = n.id then some n else find l id := by
  unfold set find at *
  induction l with
  | nil => cases ho
  | cons y r ih =>
    rw [List.map_cons, List.find?_cons, List.find?_cons]
    rw [List.find?_cons] at ho
    cases hy : y.id == n.id with
    | true =>
      have hyn : y.id = n.id := by simpa using hy
      simp only [if_true]
      by_cases hi : id = n.id
      · subst hi; simp
      · rw [if_neg hi]
        have e2 : (n.id == id) = false := by rw [beq_eq_false_iff_ne]; exact fun e => hi e.symm
        have e3 : (y.id == id) = false := by rw [hyn]; exact e2
        rw [e2, e3]
        simp only
        rw [List.find?_map]
        have : ((fun m : NodeD => m.id == id) ∘ fun m => if m.id == n.id then n else m) = fun m => m.id == id := by
          funext m
          simp only [Function.comp]
          split
          · rename_i hm
            rw [show m.id = n.id by simpa using hm]
          · rfl
        rw [this]
        cases hf : r.find? fun m => m.id == id with
        | none => rfl
        | some x =>
          have hx := List.find?_some hf
          simp only [Option.map_some]
          rw [if_neg]
          intro hc
          have h1 : x.id = id := by simpa using hx
          have h2 : x.id = n.id := by simpa using hc
          exact hi (h1 ▸ h2)
    | false =>
      rw [hy] at ho
      simp only at ho
      simp only [Bool.false_eq_true, if_false]
      have hne : y.id ≠ n.id := by simpa using hy
      by_cases hyi : y.id = id
      · have e2 : (y.id == id) = true := by simpa using hyi
        rw [e2]
        simp only
        rw [if_neg (fun e => hne (hyi.trans e))]
      · have e2 : (y.id == id) = false := by rw [beq_eq_false_iff_ne]; exact hyi
        rw [e2]
        exact ih ho
theorem find_del_ne {l : List NodeD} {id x : Int} (hx : x ≠ id) : find (del l id) x = find l x := by
  unfold find del
  rw [List.find?_filter]
  congr 1
  funext m
  by_cases h : m.id = x
  · subst h
    simp [hx]
  · simp [h]
theorem cnt_set {l : List NodeD} (hs : In.asc l) {n o : NodeD} (ho : find l n.id = some o) (id : Int) : cnt (set l n) id + cntN o.names id = cnt l id + cntN n.names id := sum_set (f := fun n => cntN n.names id) hs ho
/-- One inode turns, its number and kind stay: what is to be shown. -/
theorem InvD.turn {δ δ' : Int → Int} {x y : Int} {N M : Nat} {t : TabD} (h : InvD δ x N t) {n o : NodeD} (ho : find t.nodes n.id = some o) (hd : n.dir = o.dir)
    (hl : ∀ id, (n.id = id → n.links = cnt (set t.nodes n) id + rootI id + δ' id) ∧ (n.id ≠ id → (cnt t.nodes id : Int) + δ id = cnt (set t.nodes n) id + δ' id)) (ha : ∀ m ∈ t.nodes, m.id ≠ n.id → m.id ≠ y → m.id ≠ x) (hn : n.id ≠ y → Alive n)
    (hh : 0 ≤ n.holds ∧ n.holds ≤ 1048576) (hdir : n.dir = true → n.holds = 0 ∧ n.data.size = 0) (hfile : n.dir = false → n.names = []) (hle : ∀ p ∈ n.names, ∃ m, find t.nodes p.2 = some m) (hso : nameSorted n.names) (hsh : ∀ p ∈ n.names, p.1.size ≤ 32)
    {u : Int} (hu : u = t.used - cost o + cost n) (hc : u ≤ t.quota) (hda : n.data.size ≤ 1048576) (hto : In.tot t.nodes + n.names.length ≤ M + o.names.length) (hM : N ≤ M) :
    InvD δ' y M ⟨t.quota, u, t.last, set t.nodes n⟩ := by
  obtain ⟨om, oi⟩ := find_some ho
  have hm := fun m => mem_set_iff h.asc ho (m := m)
  refine { q0 := h.q0, q1 := h.q1, asc := asc_set h.asc n, root := ?_, pos := ?_, last := ⟨h.last.1, by have := h.last.2; show t.last ≤ (M : Int); omega⟩, links := ?_, alive := ?_, holds := ?_, dirs := ?_, files := ?_, leads := ?_, sorted := ?_, short := ?_, used := ?_, cap := hc, data := ?_, tot := ?_ }
  · obtain ⟨r, hr, hrd⟩ := h.root
    show ∃ r, find (set t.nodes n) 1 = some r ∧ r.dir = true
    rw [find_set ho]
    split
    · rename_i e
      rw [e, ho] at hr
      cases hr
      exact ⟨n, rfl, hd.trans hrd⟩
    · exact ⟨r, hr, hrd⟩
  · intro m hm'
    rcases (hm m).1 hm' with rfl | ⟨h1, _⟩
    · have := h.pos o om; rw [oi] at this; exact this
    · exact h.pos m h1
  · intro m hm'
    show m.links = cnt (set t.nodes n) m.id + rootI m.id + δ' m.id
    rcases (hm m).1 hm' with rfl | ⟨h1, h2⟩
    · exact (hl m.id).1 rfl
    · have := h.links m h1
      have := (hl m.id).2 (fun e => h2 e.symm)
      omega
  · intro m hm' hy
    rcases (hm m).1 hm' with rfl | ⟨h1, h2⟩
    · exact hn hy
    · exact h.alive m h1 (ha m h1 h2 hy)
  · intro m hm'
    rcases (hm m).1 hm' with rfl | ⟨h1, _⟩
    · exact hh
    · exact h.holds m h1
  · intro m hm'
    rcases (hm m).1 hm' with rfl | ⟨h1, _⟩
    · exact hdir
    · exact h.dirs m h1
  · intro m hm'
    rcases (hm m).1 hm' with rfl | ⟨h1, _⟩
    · exact hfile
    · exact h.files m h1
  · intro m hm' p hp
    show ∃ k, find (set t.nodes n) p.2 = some k
    have key : ∃ k, find t.nodes p.2 = some k := by
      rcases (hm m).1 hm' with rfl | ⟨h1, _⟩
      · exact hle p hp
      · exact h.leads m h1 p hp
    obtain ⟨k, hk⟩ := key
    rw [find_set ho]
    split
    · exact ⟨n, rfl⟩
    · exact ⟨k, hk⟩
  · intro m hm'
    rcases (hm m).1 hm' with rfl | ⟨h1, _⟩
    · exact hso
    · exact h.sorted m h1
  · intro m hm'
    rcases (hm m).1 hm' with rfl | ⟨h1, _⟩
    · exact hsh
    · exact h.short m h1
  · show u = ((In.sum (set t.nodes n) : Nat) : Int)
    have := sum_set (f := cost) h.asc ho
    have hus := h.used
    unfold In.sum at hus ⊢
    omega
  · intro m hm'
    rcases (hm m).1 hm' with rfl | ⟨h1, _⟩
    · exact hda
    · exact h.data m h1
  · show In.tot (set t.nodes n) ≤ M
    have := sum_set (f := fun n => n.names.length) h.asc ho
    unfold In.tot at hto ⊢
    omega
end In
end Go.Proofs.YtcicjklhbnipcaaGreat
namespace Go.Proofs.YtcicjklhbnipcaaGreat
set_option linter.unusedVariables false
set_option linter.unusedSimpArgs false
namespace In

theorem InvD.congr {δ δ' : Int → Int} {x : Int} {N : Nat} {t : TabD} (h : InvD δ x N t) (e : ∀ id, δ id = δ' id) : InvD δ' x N t := by
  have : δ = δ' := funext e
  subst this
  exact h
/-- An inode that stays is no exception. -/
theorem InvD.whole {δ : Int → Int} {x : Int} {N : Nat} {t : TabD} (h : InvD δ x N t) (ha : ∀ n, find t.nodes x = some n → Alive n) : InvD δ 0 N t := by
  have key : ∀ n ∈ t.nodes, n.id ≠ 0 → Alive n := fun n hn _ => by
    by_cases e : n.id = x
    · exact ha n (by rw [← e]; exact find_asc h.asc hn)
    · exact h.alive n hn e
  exact { h with alive := key }
theorem InvD.none {δ : Int → Int} {x : Int} {N : Nat} {t : TabD} (h : InvD δ 0 N t) : InvD δ x N t :=
  { h with alive := fun n hn _ => h.alive n hn (by have := (h.pos n hn).1; omega) }
theorem at_some {t : TabD} {id : Int} {n : NodeD} (h : find t.nodes id = some n) : at_ t id = n := by unfold at_; rw [h]
theorem setN_mk (t : TabD) (n : NodeD) : setN t n = ⟨t.quota, t.used, t.last, set t.nodes n⟩ := rfl
theorem one_cases (b : Bool) : (b = true ∧ one b = 1) ∨ (b = false ∧ one b = 0) := by cases b <;> simp [one]
section
variable {δ : Int → Int} {N : Nat} {t : TabD}
theorem pos_names {x : Int} (h : InvD δ x N t) {d : NodeD} (hd : d ∈ t.nodes) : ∀ p ∈ d.names, p.2 ≠ 0 := fun p hp => by
  obtain ⟨n, hn⟩ := h.leads d hd p hp
  obtain ⟨h1, h2⟩ := find_some hn
  have := (h.pos n h1).1
  omega
theorem inv_nameIn {x : Int} (h : InvD δ x N t) {dir : Int} {d : NodeD} (hd : find t.nodes dir = some d) (hdd : d.dir = true) {s : ByteArray} (hn : ¬ has d.names s) {k : Int} {m : NodeD} (hk : find t.nodes k = some m) (hsz : s.size ≤ 32) (hx : d.id ≠ x) :
    InvD (fun id => δ id - one (k == id)) x (N + 1) (nameIn t dir s k) := by
  obtain ⟨dm, di⟩ := find_some hd
  have e : nameIn t dir s k = ⟨t.quota, t.used, t.last, set t.nodes { d with names := with_ d.names s k }⟩ := by unfold nameIn; rw [at_some hd]; rfl
  rw [e]
  have ho : find t.nodes ({ d with names := with_ d.names s k } : NodeD).id = some d := by show find t.nodes d.id = _; rw [di]; exact hd
  have hc := cnt_set h.asc ho
  have hw : ∀ id, cntN (with_ d.names s k) id = cntN d.names id + one (k == id) := fun id => by
    unfold with_; rw [cntN_put, without_none hn]
  have hal := h.alive d dm hx
  refine h.turn ho rfl (fun id => ⟨fun hi => ?_, fun hi => ?_⟩) (fun _ _ _ h => h) (fun _ => hal) (h.holds d dm) (h.dirs d dm) (fun hf => by rw [show d.dir = false from hf] at hdd; cases hdd) (fun p hp => ?_) (sorted_with (h.sorted d dm) s k) (fun p hp => by
      rcases mem_put.1 hp with rfl | hp
      · exact hsz
      · exact h.short d dm p (mem_without.1 hp).1) (u := t.used) (by show t.used = t.used - cost d + cost d; omega) h.cap (h.data d dm) ?_ (Nat.le_succ N)
  · have h1 := h.links d dm
    have h2 := hc id
    have h3 := hw id
    have hi' : d.id = id := hi
    subst hi'
    show d.links = _
    have e2 : cntN ({ d with names := with_ d.names s k } : NodeD).names d.id = cntN (with_ d.names s k) d.id := rfl
    omega
  · have h2 := hc id
    have h3 := hw id
    have e2 : cntN ({ d with names := with_ d.names s k } : NodeD).names id = cntN (with_ d.names s k) id := rfl
    omega
  · rcases mem_put.1 hp with rfl | hp
    · exact ⟨m, hk⟩
    · exact h.leads d dm p (mem_without.1 hp).1
  · have : (with_ d.names s k).length = d.names.length + 1 := by unfold with_; rw [len_put, without_none hn]
    have e2 : ({ d with names := with_ d.names s k } : NodeD).names.length = (with_ d.names s k).length := rfl
    have := h.tot
    omega
theorem inv_nameOut {x : Int} (h : InvD δ x N t) {dir : Int} {d : NodeD} (hd : find t.nodes dir = some d) (hdd : d.dir = true) {s : ByteArray} (hn : leads d.names s ≠ 0) (hx : d.id ≠ x) :
    InvD (fun id => δ id + one (leads d.names s == id)) x N (nameOut t dir s) := by
  obtain ⟨dm, di⟩ := find_some hd
  have e : nameOut t dir s = ⟨t.quota, t.used, t.last, set t.nodes { d with names := without d.names s }⟩ := by unfold nameOut; rw [at_some hd]; rfl
  rw [e]
  have ho : find t.nodes ({ d with names := without d.names s } : NodeD).id = some d := by show find t.nodes d.id = _; rw [di]; exact hd
  have hc := cnt_set h.asc ho
  have hw := fun id => (cntN_without (h.sorted d dm) hn id).1
  have hal := h.alive d dm hx
  refine h.turn ho rfl (fun id => ⟨fun hi => ?_, fun hi => ?_⟩) (fun _ _ _ h => h) (fun _ => hal) (h.holds d dm) (h.dirs d dm) (fun hf => by rw [show d.dir = false from hf] at hdd; cases hdd) (fun p hp => h.leads d dm p (mem_without.1 hp).1) (sorted_without (h.sorted d dm) s) (fun p hp => h.short d dm p (mem_without.1 hp).1) (u := t.used) (by show t.used = t.used - cost d + cost d; omega) h.cap (h.data d dm) ?_ (Nat.le_refl N)
  · have h1 := h.links d dm
    have h2 := hc id
    have h3 := hw id
    have hi' : d.id = id := hi
    subst hi'
    show d.links = _
    have e2 : cntN ({ d with names := without d.names s } : NodeD).names d.id = cntN (without d.names s) d.id := rfl
    omega
  · have h2 := hc id
    have h3 := hw id
    have e2 : cntN ({ d with names := without d.names s } : NodeD).names id = cntN (without d.names s) id := rfl
    omega
  · have := (cntN_without (h.sorted d dm) hn 0).2
    have e2 : ({ d with names := without d.names s } : NodeD).names.length = (without d.names s).length := rfl
    have := h.tot
    omega
/-- An inode's links or holds turn. -/
theorem inv_numbers {x : Int} (h : InvD δ x N t) {k : Int} {o : NodeD} (ho : find t.nodes k = some o) (hx : x = 0 ∨ x = k) (l v : Int) (hv : 0 ≤ v ∧ v ≤ 1048576) (hdir : o.dir = true → v = 0) :
    InvD (fun id => δ id + (if k = id then l - o.links else 0)) k N (setN t { o with links := l, holds := v }) := by
  obtain ⟨om, oi⟩ := find_some ho
  rw [setN_mk]
  have ho' : find t.nodes ({ o with links := l, holds := v } : NodeD).id = some o := by show find t.nodes o.id = _; rw [oi]; exact ho
  have hc := cnt_set h.asc ho'
  refine h.turn ho' rfl (fun id => ⟨fun hi => ?_, fun hi => ?_⟩) (fun m hm h1 h2 => ?_) (fun hne => absurd oi hne) hv (fun hd => ⟨hdir hd, (h.dirs o om hd).2⟩) (h.files o om) (h.leads o om) (h.sorted o om) (h.short o om) (u := t.used) (by show t.used = t.used - cost o + cost o; omega) h.cap (h.data o om) ?_ (Nat.le_refl N)
  · have h1 := h.links o om
    have h2 := hc id
    have hi' : o.id = id := hi
    have e2 : cntN ({ o with links := l, holds := v } : NodeD).names id = cntN o.names id := rfl
    show l = _ + _ + (δ id + if k = id then l - o.links else 0)
    rw [if_pos (oi.symm.trans hi')]
    rw [hi'] at h1
    omega
  · have h2 := hc id
    have hi' : o.id ≠ id := hi
    have e2 : cntN ({ o with links := l, holds := v } : NodeD).names id = cntN o.names id := rfl
    show _ = _ + (δ id + if k = id then l - o.links else 0)
    rw [if_neg (fun e => hi' (oi.trans e))]
    omega
  · rcases hx with rfl | rfl
    · have := (h.pos m hm).1; omega
    · exact h2
  · have e2 : ({ o with links := l, holds := v } : NodeD).names.length = o.names.length := rfl
    have := h.tot
    omega
theorem inv_linksUp {x : Int} (h : InvD δ x N t) {k : Int} {o : NodeD} (ho : find t.nodes k = some o) (hx : x = 0 ∨ x = k) : InvD (fun id => δ id + one (k == id)) k N (linksUp t k) := by
  obtain ⟨om, oi⟩ := find_some ho
  have e : linksUp t k = setN t { o with links := o.links + 1, holds := o.holds } := by unfold linksUp; rw [at_some ho]; rfl
  rw [e]
  refine (inv_numbers h ho hx (o.links + 1) o.holds (h.holds o om) (fun hd => (h.dirs o om hd).1)).congr fun id => ?_
  rcases one_cases (k == id) with ⟨h1, h2⟩ | ⟨h1, h2⟩
  · rw [h2, if_pos (by simpa using h1)]; omega
  · rw [h2, if_neg (by simpa using h1)]; omega
theorem inv_linksDown {x : Int} (h : InvD δ x N t) {k : Int} {o : NodeD} (ho : find t.nodes k = some o) (hx : x = 0 ∨ x = k) : InvD (fun id => δ id - one (k == id)) k N (linksDown t k) := by
  obtain ⟨om, oi⟩ := find_some ho
  have e : linksDown t k = setN t { o with links := o.links - 1, holds := o.holds } := by unfold linksDown; rw [at_some ho]; rfl
  rw [e]
  refine (inv_numbers h ho hx (o.links - 1) o.holds (h.holds o om) (fun hd => (h.dirs o om hd).1)).congr fun id => ?_
  rcases one_cases (k == id) with ⟨h1, h2⟩ | ⟨h1, h2⟩
  · rw [h2, if_pos (by simpa using h1)]; omega
  · rw [h2, if_neg (by simpa using h1)]; omega
/-- What may go, goes. -/
theorem inv_gone {k : Int} (h : InvD (fun _ => 0) k N t) {o : NodeD} (ho : find t.nodes k = some o) (hl : 0 ≤ o.links) (hd : o.dir = true → o.links = 0 ∧ o.names = []) : Inv N (gone t k) := by
  obtain ⟨om, oi⟩ := find_some ho
  unfold gone
  rw [at_some ho]
  by_cases hg : (o.links == 0 && o.holds == 0) = true
  · rw [if_pos hg]
    rw [Bool.and_eq_true, beq_iff_eq, beq_iff_eq] at hg
    have hlk := h.links o om
    rw [hg.1, oi] at hlk
    have hk1 : k ≠ 1 := fun e => by rw [e] at hlk; simp [rootI] at hlk; omega
    have hz : cnt t.nodes k = 0 := by simp [rootI, hk1] at hlk; omega
    have hnm : o.names = [] := by
      cases hod : o.dir with
      | true => exact (hd hod).2
      | false => exact h.files o om hod
    have hcd : ∀ id, cnt (del t.nodes k) id = cnt t.nodes id := fun id => by
      have := sum_del (f := fun n => cntN n.names id) h.asc ho
      unfold cnt
      have e : cntN o.names id = 0 := by rw [hnm]; rfl
      omega
    have hmem : ∀ m, m ∈ del t.nodes k → m ∈ t.nodes ∧ m.id ≠ k := fun m hm => by
      obtain ⟨h1, h2⟩ := List.mem_filter.1 hm
      exact ⟨h1, by simpa using h2⟩
    have hnl : ∀ d ∈ t.nodes, ∀ p ∈ d.names, p.2 ≠ k := fun d hdm p hp e => by
      have h1 : cntN d.names k ≤ cnt t.nodes k := le_sum (f := fun n => cntN n.names k) hdm
      have h2 : 0 < cntN d.names k := List.countP_pos_iff.2 ⟨p, hp, by simpa using e⟩
      omega
    refine { q0 := h.q0, q1 := h.q1, asc := asc_del h.asc k, root := ?_, pos := fun m hm => h.pos m (hmem m hm).1, last := h.last, links := fun m hm => ?_, alive := fun m hm _ => h.alive m (hmem m hm).1 (hmem m hm).2, holds := fun m hm => h.holds m (hmem m hm).1, dirs := fun m hm => h.dirs m (hmem m hm).1, files := fun m hm => h.files m (hmem m hm).1, leads := fun d hdm p hp => ?_, sorted := fun m hm => h.sorted m (hmem m hm).1, short := fun m hm => h.short m (hmem m hm).1, used := ?_, cap := ?_, data := fun m hm => h.data m (hmem m hm).1, tot := ?_ }
    · obtain ⟨r, hr, hrd⟩ := h.root
      exact ⟨r, by show find (del t.nodes k) 1 = _; rw [find_del_ne (fun e => hk1 e.symm)]; exact hr, hrd⟩
    · have := h.links m (hmem m hm).1
      show m.links = (cnt (del t.nodes k) m.id : Int) + rootI m.id + 0
      rw [hcd]; exact this
    · obtain ⟨n, hn⟩ := h.leads d (hmem d hdm).1 p hp
      exact ⟨n, by show find (del t.nodes k) p.2 = _; rw [find_del_ne (hnl d (hmem d hdm).1 p hp)]; exact hn⟩
    · have := sum_del (f := cost) h.asc ho
      have hu := h.used
      unfold In.sum at hu ⊢
      have e : cost o = 64 + o.data.size := rfl
      show t.used - (64 + (o.data.size : Int)) = _
      show _ = (((del t.nodes k).map cost).sum : Int)
      omega
    · have := h.cap
      show t.used - (64 + (o.data.size : Int)) ≤ t.quota
      omega
    · have := sum_del (f := fun n => n.names.length) h.asc ho
      have ht := h.tot
      unfold In.tot at ht ⊢
      show ((del t.nodes k).map fun n => n.names.length).sum ≤ N
      omega
  · rw [if_neg hg]
    refine h.whole fun n hn => ?_
    rw [ho] at hn
    cases hn
    have hh := (h.holds o om).1
    rw [Bool.and_eq_true, beq_iff_eq, beq_iff_eq] at hg
    refine ⟨by omega, fun hod => ?_⟩
    exfalso
    exact hg ⟨(hd hod).1, (h.dirs o om hod).1⟩
end
end In
end Go.Proofs.YtcicjklhbnipcaaGreat
namespace Go.Proofs.YtcicjklhbnipcaaGreat
set_option linter.unusedVariables false
set_option linter.unusedSimpArgs false
namespace In

section
variable {N : Nat} {t : TabD}
theorem getE_ok {id : Int} {dir : Bool} (h : getE t id dir = 0) : ∃ n, find t.nodes id = some n ∧ n.dir = dir := by
  unfold getE at h
  cases hn : find t.nodes id with
  | none => rw [hn] at h; cases h
  | some n =>
    rw [hn] at h
    cases hd : n.dir == dir with
    | true => exact ⟨n, rfl, by simpa using hd⟩
    | false => simp [hd] at h
theorem placeE_ok {dir : Int} {s : ByteArray} (h : placeE t dir s = 0) : ∃ d, find t.nodes dir = some d ∧ d.dir = true ∧ isName s = true := by
  unfold placeE at h
  cases h1 : getE t dir true == 0 with
  | true =>
    obtain ⟨d, hd, hdd⟩ := getE_ok (by simpa using h1)
    rw [h1] at h
    cases hn : isName s with
    | true => exact ⟨d, hd, hdd, rfl⟩
    | false => rw [hn] at h; simp at h
  | false => rw [h1] at h; simp at h h1; exact absurd h h1
theorem emptyE_ok {dir : Int} {s : ByteArray} (h : emptyE t dir s = 0) : ∃ d, find t.nodes dir = some d ∧ d.dir = true ∧ isName s = true ∧ leads d.names s = 0 := by
  unfold emptyE at h
  cases h1 : placeE t dir s == 0 with
  | true =>
    obtain ⟨d, hd, hdd, hn⟩ := placeE_ok (by simpa using h1)
    rw [h1, at_some hd] at h
    cases hl : leads d.names s == 0 with
    | true => exact ⟨d, hd, hdd, hn, by simpa using hl⟩
    | false => rw [hl] at h; simp at h
  | false => rw [h1] at h; simp at h h1; exact absurd h h1
theorem findE_ok {dir : Int} {s : ByteArray} (h : findE t dir s = 0) : ∃ d, find t.nodes dir = some d ∧ d.dir = true ∧ leads d.names s ≠ 0 ∧ findN t dir s = leads d.names s := by
  have hN : findN t dir s = leads (at_ t dir).names s := by unfold findN; rw [h]; rfl
  unfold findE at h
  cases h1 : placeE t dir s == 0 with
  | true =>
    obtain ⟨d, hd, hdd, hn⟩ := placeE_ok (by simpa using h1)
    rw [h1, at_some hd] at h
    rw [at_some hd] at hN
    cases hl : leads d.names s == 0 with
    | true => rw [hl] at h; simp at h
    | false => exact ⟨d, hd, hdd, by simpa using hl, hN⟩
  | false => rw [h1] at h; simp at h h1; exact absurd h h1
theorem unlinkE_ok {dir : Int} {s : ByteArray} (h : unlinkE t dir s = 0) : findE t dir s = 0 ∧ ∃ d n, find t.nodes dir = some d ∧ d.dir = true ∧ leads d.names s ≠ 0 ∧ findN t dir s = leads d.names s ∧ find t.nodes (leads d.names s) = some n ∧ n.dir = false := by
  unfold unlinkE at h
  cases h1 : findE t dir s == 0 with
  | true =>
    have h1' : findE t dir s = 0 := by simpa using h1
    obtain ⟨d, hd, hdd, hl, hN⟩ := findE_ok h1'
    rw [h1] at h
    have h : getE t (findN t dir s) false = 0 := h
    obtain ⟨n, hn, hnd⟩ := getE_ok h
    rw [hN] at hn
    exact ⟨h1', d, n, hd, hdd, hl, hN, hn, hnd⟩
  | false => rw [h1] at h; simp at h h1; exact absurd h h1

theorem find_turn {k : Int} {n o : NodeD} (ho : find t.nodes k = some o) (hi : n.id = k) (x : Int) : find (setN t n).nodes x = if x = k then some n else find t.nodes x := by
  subst hi; exact find_set ho x
theorem find_nameIn {k : Int} {o : NodeD} (ho : find t.nodes k = some o) (s : ByteArray) (i x : Int) : find (nameIn t k s i).nodes x = if x = k then some (o.setNames (with_ o.names s i)) else find t.nodes x := by
  unfold nameIn; rw [at_some ho]; exact find_turn (n := o.setNames (with_ o.names s i)) ho (find_some ho).2 x
theorem find_nameOut {k : Int} {o : NodeD} (ho : find t.nodes k = some o) (s : ByteArray) (x : Int) : find (nameOut t k s).nodes x = if x = k then some (o.setNames (without o.names s)) else find t.nodes x := by
  unfold nameOut; rw [at_some ho]; exact find_turn (n := o.setNames (without o.names s)) ho (find_some ho).2 x
theorem find_linksUp {k : Int} {o : NodeD} (ho : find t.nodes k = some o) (x : Int) : find (linksUp t k).nodes x = if x = k then some (o.setLinks (o.links + 1)) else find t.nodes x := by
  unfold linksUp; rw [at_some ho]; exact find_turn (n := o.setLinks (o.links + 1)) ho (find_some ho).2 x
theorem find_linksDown {k : Int} {o : NodeD} (ho : find t.nodes k = some o) (x : Int) : find (linksDown t k).nodes x = if x = k then some (o.setLinks (o.links - 1)) else find t.nodes x := by
  unfold linksDown; rw [at_some ho]; exact find_turn (n := o.setLinks (o.links - 1)) ho (find_some ho).2 x
theorem find_holdsUp {k : Int} {o : NodeD} (ho : find t.nodes k = some o) (x : Int) : find (holdsUp t k).nodes x = if x = k then some (o.setHolds (o.holds + 1)) else find t.nodes x := by
  unfold holdsUp; rw [at_some ho]; exact find_turn (n := o.setHolds (o.holds + 1)) ho (find_some ho).2 x
theorem find_holdsDown {k : Int} {o : NodeD} (ho : find t.nodes k = some o) (x : Int) : find (holdsDown t k).nodes x = if x = k then some (o.setHolds (o.holds - 1)) else find t.nodes x := by
  unfold holdsDown; rw [at_some ho]; exact find_turn (n := o.setHolds (o.holds - 1)) ho (find_some ho).2 x
theorem find_dataOf {k : Int} {o : NodeD} (ho : find t.nodes k = some o) (v : ByteArray) (x : Int) : find (dataOf t k v).nodes x = if x = k then some (o.setData v) else find t.nodes x := by
  unfold dataOf; rw [at_some ho]; exact find_turn (n := o.setData v) ho (find_some ho).2 x
theorem find_gone_ne {k x : Int} (hx : x ≠ k) : find (gone t k).nodes x = find t.nodes x := by
  unfold gone
  split
  · exact find_del_ne hx
  · rfl
theorem name_short {s : ByteArray} (h : isName s = true) : s.size ≤ 32 := by
  unfold isName at h
  simp only [Bool.and_eq_true, decide_eq_true_eq] at h
  exact h.1.1.1.2
theorem inv_loses (h : Inv N t) {dir : Int} {d : NodeD} (hd : find t.nodes dir = some d) (hdd : d.dir = true) {s : ByteArray} (hl : leads d.names s ≠ 0) {o : NodeD} (ho : find t.nodes (leads d.names s) = some o) (hod : o.dir = true → o.names = []) : Inv N (loses t dir s) := by
  obtain ⟨dm, di⟩ := find_some hd
  obtain ⟨om, oi⟩ := find_some ho
  have hne : leads d.names s ≠ dir := fun e => by
    rw [e, hd] at ho
    cases ho
    have := leads_some hl
    rw [hod hdd] at this
    cases this
  have h1 := inv_nameOut h hd hdd hl (by have := (h.pos d dm).1; omega)
  have hf1 : find (nameOut t dir s).nodes (leads d.names s) = some o := by rw [find_nameOut hd, if_neg hne]; exact ho
  have h2 := (inv_linksDown h1 hf1 (.inl rfl)).congr (δ' := fun _ => 0) fun id => by omega
  have hf2 : find (linksDown (nameOut t dir s) (leads d.names s)).nodes (leads d.names s) = some (o.setLinks (o.links - 1)) := by rw [find_linksDown hf1, if_pos rfl]
  have hlk := h2.links _ (find_some hf2).1
  unfold loses
  rw [at_some hd]
  refine inv_gone h2 hf2 ?_ fun hod' => ⟨?_, hod hod'⟩
  · rw [hlk]
    unfold rootI
    split <;> omega
  · have := (h.alive o om (by have := (h.pos o om).1; omega)).2 hod'
    show o.links - 1 = 0
    omega
theorem inv_unlink (h : Inv N t) (dir : Int) (s : ByteArray) : Inv N (unlink t dir s).2 := by
  unfold unlink
  cases he : unlinkE t dir s == 0 with
  | true =>
    obtain ⟨_, d, n, hd, hdd, hl, hN, hn, hnd⟩ := unlinkE_ok (t := t) (dir := dir) (s := s) (by simpa using he)
    exact inv_loses h hd hdd hl hn fun e => by rw [hnd] at e; cases e
  | false => exact h
theorem inv_remove (h : Inv N t) (dir : Int) (s : ByteArray) : Inv N (remove t dir s).2 := by
  unfold remove
  cases he : removeE t dir s == 0 with
  | true =>
    have he' : removeE t dir s = 0 := by simpa using he
    unfold removeE at he'
    cases h1 : findE t dir s == 0 with
    | true =>
      obtain ⟨d, hd, hdd, hl, hN⟩ := findE_ok (t := t) (dir := dir) (s := s) (by simpa using h1)
      rw [h1] at he'
      cases h2 : getE t (findN t dir s) true == 0 with
      | true =>
        obtain ⟨n, hn, hnd⟩ := getE_ok (t := t) (id := findN t dir s) (dir := true) (by simpa using h2)
        rw [h2, at_some hn] at he'
        cases h3 : decide (0 < n.names.length) with
        | true => rw [h3] at he'; simp at he'
        | false =>
          rw [hN] at hn
          exact inv_loses h hd hdd hl hn fun _ => List.eq_nil_of_length_eq_zero (by have := of_decide_eq_false h3; omega)
      | false => rw [h2] at he'; simp at he' h2; exact absurd he' h2
    | false => rw [h1] at he'; simp at he' h1; exact absurd he' h1
  | false => exact h
theorem inv_link (h : Inv N t) (id dir : Int) (s : ByteArray) : Inv (N + 1) (link t id dir s).2 := by
  unfold link
  cases he : linkE t id dir s == 0 with
  | true =>
    have he' : linkE t id dir s = 0 := by simpa using he
    unfold linkE at he'
    cases h1 : getE t id false == 0 with
    | true =>
      obtain ⟨n, hn, hnd⟩ := getE_ok (t := t) (id := id) (dir := false) (by simpa using h1)
      rw [h1] at he'
      obtain ⟨d, hd, hdd, hN, hl⟩ := emptyE_ok (t := t) (dir := dir) (s := s) he'
      obtain ⟨dm, di⟩ := find_some hd
      obtain ⟨nm, ni⟩ := find_some hn
      have hne : id ≠ dir := fun e => by rw [e, hd] at hn; cases hn; rw [hdd] at hnd; cases hnd
      have k1 := inv_nameIn h hd hdd (has_of_leads (pos_names h dm) hl) hn (name_short hN) (by have := (h.pos d dm).1; omega)
      have hf1 : find (nameIn t dir s id).nodes id = some n := by rw [find_nameIn hd, if_neg hne]; exact hn
      have k2 := (inv_linksUp k1 hf1 (.inl rfl)).congr (δ' := fun _ => 0) fun i => by omega
      refine k2.whole fun m hm => ?_
      have hf2 : find (linksUp (nameIn t dir s id) id).nodes id = some (n.setLinks (n.links + 1)) := by rw [find_linksUp hf1, if_pos rfl]
      rw [hf2] at hm
      cases hm
      have hlk := h.links n nm
      refine ⟨.inl ?_, fun e => by rw [show n.dir = true from e] at hnd; cases hnd⟩
      show 0 < n.links + 1
      rw [hlk]
      unfold rootI
      split <;> omega
    | false => rw [h1] at he'; simp at he' h1; exact absurd he' h1
  | false => exact h.more (Nat.le_succ N)
/-- A name goes out of one directory, and into another one, in which it was not. -/
theorem inv_renameIn (h : Inv N t) {dir tod : Int} {s as_ : ByteArray} {d e n : NodeD} (hd : find t.nodes dir = some d) (hdd : d.dir = true) (he : find t.nodes tod = some e) (hed : e.dir = true) (hl : leads d.names s ≠ 0) (hn : find t.nodes (leads d.names s) = some n) (hw : leads e.names as_ = 0) (hsz : as_.size ≤ 32) :
    Inv (N + 1) (renameIn t dir s tod as_ (leads d.names s)) := by
  obtain ⟨dm, di⟩ := find_some hd
  obtain ⟨em, ei⟩ := find_some he
  have h1 := inv_nameOut h hd hdd hl (by have := (h.pos d dm).1; omega)
  have hno : ¬ has e.names as_ := has_of_leads (pos_names h em) hw
  have hf : ∃ e', find (nameOut t dir s).nodes tod = some e' ∧ e'.dir = true ∧ ¬ has e'.names as_ := by
    rw [find_nameOut hd]
    split
    · rename_i hh
      rw [hh, hd] at he
      cases he
      exact ⟨_, rfl, hdd, fun ⟨p, hp, hs⟩ => hno ⟨p, (mem_without.1 hp).1, hs⟩⟩
    · exact ⟨e, he, hed, hno⟩
  obtain ⟨e', he', hed', hno'⟩ := hf
  have hk : ∃ m, find (nameOut t dir s).nodes (leads d.names s) = some m := by
    rw [find_nameOut hd]
    split
    · exact ⟨_, rfl⟩
    · exact ⟨n, hn⟩
  obtain ⟨m, hm⟩ := hk
  exact (inv_nameIn h1 he' hed' hno' hm hsz (by have := (h1.pos e' (find_some he').1).1; omega)).congr fun id => by omega
theorem renameE_ok {dir tod : Int} {s as_ : ByteArray} (h : renameE t dir s tod as_ = 0) : unlinkE t dir s = 0 ∧ placeE t tod as_ = 0 ∧ (leads (at_ t tod).names as_ = findN t dir s ∨ leads (at_ t tod).names as_ = 0 ∨ (at_ t (leads (at_ t tod).names as_)).dir = false) := by
  unfold renameE at h
  cases h1 : unlinkE t dir s == 0 with
  | true =>
    rw [h1] at h
    cases h2 : placeE t tod as_ == 0 with
    | true =>
      rw [h2] at h
      refine ⟨by simpa using h1, by simpa using h2, ?_⟩
      cases h3 : leads (at_ t tod).names as_ == findN t dir s with
      | true => exact .inl (by simpa using h3)
      | false =>
        rw [h3] at h
        cases h4 : leads (at_ t tod).names as_ == 0 with
        | true => exact .inr (.inl (by simpa using h4))
        | false =>
          rw [h4] at h
          cases h5 : (at_ t (leads (at_ t tod).names as_)).dir with
          | true => rw [h5] at h; simp at h
          | false => exact .inr (.inr rfl)
    | false => rw [h2] at h; simp at h h2; exact absurd h h2
  | false => rw [h1] at h; simp at h h1; exact absurd h h1
theorem leads_without_ne {d : List (ByteArray × Int)} {s r : ByteArray} (h : s ≠ r) : leads (without d r) s = leads d s := by
  unfold leads without
  rw [List.find?_filter]
  have e : (fun p : ByteArray × Int => decide ((!same p.1 r) = true ∧ same p.1 s = true)) = fun p => same p.1 s := by
    funext p
    cases hs : same p.1 s with
    | false => simp
    | true =>
      have : same p.1 r = false := by
        cases hr : same p.1 r
        · rfl
        · exact absurd ((same_iff.1 hs).symm.trans (same_iff.1 hr)) h
      simp [this]
  rw [e]
/-- What a file that loses a name leaves of the others. -/
theorem find_loses {dir x : Int} {s : ByteArray} {d n : NodeD} (hd : find t.nodes dir = some d) (hn : find t.nodes (leads d.names s) = some n) (hx : x ≠ leads d.names s) : find (loses t dir s).nodes x = if x = dir then some (d.setNames (without d.names s)) else find t.nodes x := by
  unfold loses
  rw [at_some hd, find_gone_ne hx]
  have hk : ∃ m, find (nameOut t dir s).nodes (leads d.names s) = some m := by
    rw [find_nameOut hd]
    split
    · exact ⟨_, rfl⟩
    · exact ⟨n, hn⟩
  obtain ⟨m, hm⟩ := hk
  rw [find_linksDown hm, if_neg hx, find_nameOut hd]
theorem inv_rename (h : Inv N t) (dir : Int) (s : ByteArray) (tod : Int) (as_ : ByteArray) : Inv (N + 1) (rename t dir s tod as_).2 := by
  unfold rename
  cases he : renameE t dir s tod as_ == 0 with
  | false => exact h.more (Nat.le_succ N)
  | true =>
    obtain ⟨h1, h2, h3⟩ := renameE_ok (t := t) (dir := dir) (s := s) (tod := tod) (as_ := as_) (by simpa using he)
    obtain ⟨_, d, n, hd, hdd, hl, hN, hn, hnd⟩ := unlinkE_ok h1
    obtain ⟨e, hee, hed, hasN⟩ := placeE_ok h2
    rw [at_some hee, hN] at h3
    show Inv (N + 1) (renameT t dir s tod as_)
    unfold renameT
    rw [at_some hee, hN]
    cases c1 : leads e.names as_ == leads d.names s with
    | true => exact h.more (Nat.le_succ N)
    | false =>
      cases c2 : leads e.names as_ == 0 with
      | true => exact inv_renameIn h hd hdd hee hed hl hn (by simpa using c2) (name_short hasN)
      | false =>
        have c1' : leads e.names as_ ≠ leads d.names s := by simpa using c1
        have c2' : leads e.names as_ ≠ 0 := by simpa using c2
        obtain ⟨w, hw⟩ := h.leads e (find_some hee).1 _ (leads_some c2')
        simp only at hw
        have hwd : w.dir = false := by
          rcases h3 with h3 | h3 | h3
          · exact absurd h3 c1'
          · exact absurd h3 c2'
          · rw [at_some hw] at h3; exact h3
        have hi := inv_loses h hee hed c2' hw fun e => by rw [hwd] at e; cases e
        have ndw : ∀ {x : Int} {m : NodeD}, find t.nodes x = some m → m.dir = true → x ≠ leads e.names as_ := fun {x m} hm hmd hx => by
          rw [hx, hw] at hm; cases hm; rw [hwd] at hmd; cases hmd
        have fd := find_loses hee hw (ndw hd hdd)
        have fe := find_loses hee hw (ndw hee hed)
        have fn := find_loses hee hw (x := leads d.names s) (fun hx => c1' hx.symm)
        rw [if_pos rfl] at fe
        have hne : leads d.names s ≠ tod := fun hx => by rw [hx, hee] at hn; cases hn; rw [hnd] at hed; cases hed
        rw [if_neg hne] at fn
        have hwz : leads (e.setNames (without e.names as_)).names as_ = 0 := leads_none (has_without _ _)
        by_cases hdt : dir = tod
        · subst hdt
          rw [hd] at hee
          cases hee
          have hsr : s ≠ as_ := fun e => c1' (by rw [e])
          have el : leads (d.setNames (without d.names as_)).names s = leads d.names s := leads_without_ne hsr
          have := inv_renameIn hi fe hdd fe hdd (s := s) (as_ := as_) (by rw [el]; exact hl) (by rw [el, fn]; exact hn) hwz (name_short hasN)
          rw [el] at this
          exact this
        · rw [if_neg hdt] at fd
          exact inv_renameIn hi (fd.trans hd) hdd fe hed hl (fn.trans hn) hwz (name_short hasN)
theorem inv_hold (h : Inv N t) (id : Int) : Inv N (hold t id).2 := by
  unfold hold
  cases he : holdE t id == 0 with
  | false => exact h
  | true =>
    have he' : holdE t id = 0 := by simpa using he
    unfold holdE at he'
    cases h1 : getE t id false == 0 with
    | false => rw [h1] at he'; simp at he' h1; exact absurd he' h1
    | true =>
      obtain ⟨n, hn, hnd⟩ := getE_ok (t := t) (id := id) (dir := false) (by simpa using h1)
      rw [h1, at_some hn] at he'
      obtain ⟨nm, ni⟩ := find_some hn
      have hh := h.holds n nm
      have hlt : n.holds < 1048576 := by
        by_cases c : 1048576 ≤ n.holds
        · rw [decide_eq_true c] at he'; simp at he'
        · omega
      have e : holdsUp t id = setN t { n with links := n.links, holds := n.holds + 1 } := by unfold holdsUp; rw [at_some hn]; rfl
      show Inv N (holdsUp t id)
      have k := (inv_numbers h hn (.inl rfl) n.links (n.holds + 1) ⟨by omega, by omega⟩ (fun e => by rw [hnd] at e; cases e)).congr (δ' := fun _ => 0) fun i => by split <;> omega
      rw [← e] at k
      refine k.whole fun m hm => ?_
      rw [find_holdsUp hn, if_pos rfl] at hm
      cases hm
      exact ⟨.inr (by show 0 < n.holds + 1; omega), fun e => by rw [show n.dir = true from e] at hnd; cases hnd⟩
theorem inv_drop (h : Inv N t) (id : Int) : Inv N (drop t id).2 := by
  unfold drop
  cases he : dropE t id == 0 with
  | false => exact h
  | true =>
    have he' : dropE t id = 0 := by simpa using he
    unfold dropE at he'
    cases hn : find t.nodes id with
    | none => rw [hn] at he'; cases he'
    | some n =>
      rw [hn] at he'
      obtain ⟨nm, ni⟩ := find_some hn
      have hh := h.holds n nm
      have he' : (if n.holds == 0 then 1 else 0) = (0 : Int) := he'
      have hnz : n.holds ≠ 0 := fun e => by rw [e] at he'; simp at he'
      have hnd : n.dir = false := by
        cases hd : n.dir with
        | false => rfl
        | true => exact absurd (h.dirs n nm hd).1 hnz
      have e : holdsDown t id = setN t { n with links := n.links, holds := n.holds - 1 } := by unfold holdsDown; rw [at_some hn]; rfl
      have k := (inv_numbers h hn (.inl rfl) n.links (n.holds - 1) ⟨by omega, by omega⟩ (fun e => by rw [hnd] at e; cases e)).congr (δ' := fun _ => 0) fun i => by split <;> omega
      rw [← e] at k
      show Inv N (gone (holdsDown t id) id)
      have hlk := h.links n nm
      refine inv_gone k (by rw [find_holdsDown hn, if_pos rfl]) ?_ fun e => by rw [show n.dir = true from e] at hnd; cases hnd
      show 0 ≤ n.links
      rw [hlk]
      unfold rootI
      split <;> omega
/-- A file's bytes turn. -/
theorem inv_data (h : Inv N t) {id : Int} {n : NodeD} (hn : find t.nodes id = some n) (hnd : n.dir = false) {v : ByteArray} (hv : v.size ≤ 1048576) {u : Int} (hu : u = t.used - n.data.size + v.size) (hc : u ≤ t.quota) : Inv N ⟨t.quota, u, t.last, (dataOf t id v).nodes⟩ := by
  obtain ⟨nm, ni⟩ := find_some hn
  have e : dataOf t id v = setN t { n with data := v } := by unfold dataOf; rw [at_some hn]; rfl
  have ho : find t.nodes ({ n with data := v } : NodeD).id = some n := by show find t.nodes n.id = _; rw [ni]; exact hn
  have hcn := cnt_set h.asc ho
  have hal := h.alive n nm (by have := (h.pos n nm).1; omega)
  rw [e]
  refine h.turn (n := { n with data := v }) (y := 0) (δ' := fun _ => 0) ho rfl (fun i => ⟨fun hi => ?_, fun hi => ?_⟩) (fun _ _ _ h => h) (fun _ => hal) (h.holds n nm) (fun e => by rw [show n.dir = true from e] at hnd; cases hnd) (h.files n nm) (h.leads n nm) (h.sorted n nm) (h.short n nm) (by show u = t.used - cost n + cost { n with data := v }; unfold cost; show u = t.used - ((64 + n.data.size : Nat) : Int) + ((64 + v.size : Nat) : Int); omega) hc hv (Nat.add_le_add_right h.tot _) (Nat.le_refl N)
  · have h1 := h.links n nm
    have h2 := hcn i
    have hi' : n.id = i := hi
    subst hi'
    have e2 : cntN ({ n with data := v } : NodeD).names n.id = cntN n.names n.id := rfl
    show n.links = _
    omega
  · have h2 := hcn i
    have e2 : cntN ({ n with data := v } : NodeD).names i = cntN n.names i := rfl
    omega
theorem noughts_len (c : Nat) : (noughts c).size = c := by
  show ((List.replicate c (0 : UInt8)).toArray).size = c
  simp
theorem resized_len (d : ByteArray) (n : Nat) : (resized d n).size = n := by
  unfold resized
  rw [ByteArray.size_extract, ByteArray.size_append, noughts_len]
  omega
theorem sizedE_ok {x : NodeD} {n : Int} (h : sizedE t x n = 0) : n ≤ 1048576 ∧ n - x.data.size ≤ t.quota - t.used := by
  unfold sizedE at h
  constructor
  · by_cases c : 1048576 < n
    · rw [decide_eq_true c] at h; simp at h
    · omega
  · by_cases c : t.quota - t.used < n - x.data.size
    · by_cases c2 : 1048576 < n
      · rw [decide_eq_true c2] at h; simp at h
      · rw [decide_eq_false c2, decide_eq_true c] at h; simp at h
    · omega
theorem fileE_ok {id n : Int} (h : fileE t id n = 0) : ∃ x, find t.nodes id = some x ∧ x.dir = false ∧ 0 ≤ n := by
  unfold fileE at h
  cases h1 : getE t id false == 0 with
  | false => rw [h1] at h; simp at h h1; exact absurd h h1
  | true =>
    obtain ⟨x, hx, hxd⟩ := getE_ok (t := t) (id := id) (dir := false) (by simpa using h1)
    rw [h1] at h
    refine ⟨x, hx, hxd, ?_⟩
    by_cases c : n < 0
    · rw [decide_eq_true c] at h; simp at h
    · omega
theorem inv_sized (h : Inv N t) {id : Int} {x : NodeD} (hx : find t.nodes id = some x) (hxd : x.dir = false) {n : Int} (h0 : 0 ≤ n) (hE : sizedE t x n = 0) : Inv N (sizedT t id n) := by
  obtain ⟨h1, h2⟩ := sizedE_ok hE
  unfold sizedT
  rw [at_some hx]
  exact inv_data h hx hxd (v := resized x.data n.toNat) (by rw [resized_len]; omega) (by rw [resized_len]; omega) (by omega)
theorem inv_trunc (h : Inv N t) (id n : Int) : Inv N (trunc t id n).2 := by
  unfold trunc
  cases he : truncE t id n == 0 with
  | false => exact h
  | true =>
    have he' : truncE t id n = 0 := by simpa using he
    unfold truncE at he'
    cases h1 : fileE t id n == 0 with
    | false => rw [h1] at he'; simp at he' h1; exact absurd he' h1
    | true =>
      obtain ⟨x, hx, hxd, h0⟩ := fileE_ok (t := t) (id := id) (n := n) (by simpa using h1)
      rw [h1, at_some hx] at he'
      exact inv_sized h hx hxd h0 he'
theorem writeE_ok {id a : Int} {s : ByteArray} (h : writeE t id a s = 0) : ∃ x, find t.nodes id = some x ∧ x.dir = false ∧ 0 ≤ a ∧ (s.size ≠ 0 → sizedE t x (max (a + s.size) x.data.size) = 0) := by
  unfold writeE at h
  cases h1 : fileE t id a == 0 with
  | false => rw [h1] at h; simp at h h1; exact absurd h h1
  | true =>
    obtain ⟨x, hx, hxd, h0⟩ := fileE_ok (t := t) (id := id) (n := a) (by simpa using h1)
    rw [h1, at_some hx] at h
    refine ⟨x, hx, hxd, h0, fun hz => ?_⟩
    have hz' : (s.size == 0) = false := by simpa using hz
    rw [hz'] at h
    cases c : (decide (1048576 < a) || decide (1048576 - a < s.size)) with
    | true => rw [c] at h; simp at h
    | false => rw [c] at h; exact h
theorem over_size {d : ByteArray} {a : Nat} {s : ByteArray} (h : a + s.size ≤ d.size) : (over d a s).size = d.size := by
  unfold over
  rw [ByteArray.size_append, ByteArray.size_append, ByteArray.size_extract, ByteArray.size_extract]
  omega
theorem inv_write (h : Inv N t) (id a : Int) (s : ByteArray) : Inv N (write t id a s).2 := by
  unfold write
  cases he : writeE t id a s == 0 with
  | false => exact h
  | true =>
    obtain ⟨x, hx, hxd, h0, hz⟩ := writeE_ok (t := t) (id := id) (a := a) (s := s) (by simpa using he)
    show Inv N (writeT t id a s)
    unfold writeT
    cases hs : s.size == 0 with
    | true => exact h
    | false =>
      have hE := hz (by simpa using hs)
      rw [at_some hx]
      have hi := inv_sized h hx hxd (n := max (a + s.size) x.data.size) (by omega) hE
      have hf : find (sizedT t id (max (a + s.size) x.data.size)).nodes id = some (x.setData (resized x.data (max (a + s.size) x.data.size).toNat)) := by
        unfold sizedT
        show find (dataOf t id _).nodes id = _
        rw [at_some hx, find_dataOf hx, if_pos rfl]
      obtain ⟨h1, _⟩ := sizedE_ok hE
      have hlen : (x.setData (resized x.data (max (a + s.size) x.data.size).toNat)).data.size = (max (a + s.size) (x.data.size : Int)).toNat := resized_len _ _
      have hov := over_size (d := (x.setData (resized x.data (max (a + s.size) x.data.size).toNat)).data) (a := a.toNat) (s := s) (by rw [hlen]; omega)
      show Inv N (overT _ id a s)
      unfold overT
      rw [at_some hf]
      exact inv_data hi hf hxd (v := over (x.setData (resized x.data (max (a + s.size) x.data.size).toNat)).data a.toNat s) (by rw [hov, hlen]; omega) (by rw [hov]; omega) hi.cap
theorem makeE_ok {dir : Int} {s : ByteArray} (h : makeE t dir s = 0) : emptyE t dir s = 0 ∧ t.nodes.length < 4096 ∧ 64 ≤ t.quota - t.used := by
  unfold makeE at h
  cases h1 : emptyE t dir s == 0 with
  | false => rw [h1] at h; simp at h h1; exact absurd h h1
  | true =>
    rw [h1] at h
    refine ⟨by simpa using h1, ?_, ?_⟩
    · by_cases c : 4096 ≤ (t.nodes.length : Int)
      · rw [decide_eq_true c] at h; simp at h
      · omega
    · by_cases c : 4096 ≤ (t.nodes.length : Int)
      · rw [decide_eq_true c] at h; simp at h
      · by_cases c2 : t.quota - t.used < 64
        · rw [decide_eq_false c, decide_eq_true c2] at h; simp at h
        · omega
theorem find_snoc {l : List NodeD} {n : NodeD} (hn : ∀ m ∈ l, m.id ≠ n.id) (x : Int) : find (l ++ [n]) x = if x = n.id then some n else find l x := by
  unfold find
  rw [List.find?_append]
  split
  · rename_i hx
    subst hx
    rw [List.find?_eq_none.2 fun m hm => by simpa using hn m hm]
    simp
  · rename_i hx
    have : (n.id == x) = false := beq_eq_false_iff_ne.2 fun e => hx e.symm
    simp [this]
theorem inv_make (h : Inv N t) (dir : Int) (s : ByteArray) (isDir : Bool) : Inv (N + 2) (make t dir s isDir).2.2 := by
  unfold make
  cases he : makeE t dir s == 0 with
  | false => exact h.more (by omega)
  | true =>
    obtain ⟨h1, h2, h3⟩ := makeE_ok (t := t) (dir := dir) (s := s) (by simpa using he)
    obtain ⟨d, hd, hdd, hN, hl⟩ := emptyE_ok h1
    obtain ⟨dm, di⟩ := find_some hd
    show Inv (N + 2) (makeT t dir s isDir)
    -- ahead of the name's coming in: the table with the new inode, tod which one name too few leads
    obtain ⟨nn, hnn⟩ : ∃ nn : NodeD, nn = ⟨t.last + 1, isDir, 1, 0, ByteArray.empty, []⟩ := ⟨_, rfl⟩
    have hid : nn.id = t.last + 1 := by rw [hnn]
    have hnm : nn.names = [] := by rw [hnn]
    have hlk : nn.links = 1 := by rw [hnn]
    have hda : nn.data.size = 0 := by rw [hnn]; rfl
    have hho : nn.holds = 0 := by rw [hnn]
    have hne : ∀ m ∈ t.nodes, m.id ≠ nn.id := fun m hm => by have := (h.pos m hm).2; rw [hid]; omega
    have hcnt : ∀ i, cnt (t.nodes ++ [nn]) i = cnt t.nodes i := fun i => by
      unfold cnt
      rw [List.map_append, List.sum_append, List.map_singleton, hnm]
      simp [cntN]
    have hz : cnt t.nodes (t.last + 1) = 0 := by
      unfold cnt
      rw [List.sum_eq_zero_iff_forall_eq_nat] <;> skip
      intro k hk
      obtain ⟨m, hm, rfl⟩ := List.mem_map.1 hk
      unfold cntN
      rw [List.countP_eq_zero]
      intro p hp e
      obtain ⟨q, hq⟩ := h.leads m hm p hp
      have := (h.pos q (find_some hq).1).2
      rw [(find_some hq).2] at this
      have e' : p.2 = t.last + 1 := by simpa using e
      omega
    have hmem : ∀ m ∈ t.nodes ++ [nn], m ∈ t.nodes ∨ m = nn := fun m hm => by simpa using hm
    have k0 : InvD (fun i => one (nn.id == i)) 0 (N + 1) ⟨t.quota, t.used + 64, t.last + 1, t.nodes ++ [nn]⟩ := by
      refine { q0 := h.q0, q1 := h.q1, asc := ?_, root := ?_, pos := ?_, last := ⟨by have := h.last.1; show 1 ≤ t.last + 1; omega, by have := h.last.2; show t.last + 1 ≤ ((N + 1 : Nat) : Int); omega⟩, links := ?_, alive := ?_, holds := ?_, dirs := ?_, files := ?_, leads := ?_, sorted := ?_, short := ?_, used := ?_, cap := ?_, data := ?_, tot := ?_ }
      · refine List.pairwise_append.2 ⟨h.asc, List.pairwise_singleton _ _, fun a ha b hb => ?_⟩
        have : b = nn := by simpa using hb
        subst this
        have := (h.pos a ha).2
        omega
      · obtain ⟨r, hr, hrd⟩ := h.root
        refine ⟨r, ?_, hrd⟩
        show find (t.nodes ++ [nn]) 1 = _
        rw [find_snoc hne, if_neg (by have := h.last.1; omega)]
        exact hr
      · intro m hm
        rcases hmem m hm with hm | rfl
        · have := h.pos m hm; exact ⟨this.1, by show m.id ≤ t.last + 1; omega⟩
        · exact ⟨by have := h.last.1; omega, by show m.id ≤ t.last + 1; omega⟩
      · intro m hm
        show m.links = (cnt (t.nodes ++ [nn]) m.id : Int) + rootI m.id + one (nn.id == m.id)
        rw [hcnt]
        rcases hmem m hm with hm | rfl
        · have := h.links m hm
          have e : (nn.id == m.id) = false := beq_eq_false_iff_ne.2 fun e => hne m hm e.symm
          rw [e, this]; rfl
        · rw [hlk, hid, hz]
          have : rootI (t.last + 1) = 0 := by unfold rootI; rw [if_neg (by have := h.last.1; omega)]
          rw [this]
          simp [one]
      · intro m hm _
        rcases hmem m hm with hm | rfl
        · exact h.alive m hm (by have := (h.pos m hm).1; omega)
        · exact ⟨.inl (by omega), fun _ => hlk⟩
      · intro m hm
        rcases hmem m hm with hm | rfl
        · exact h.holds m hm
        · omega
      · intro m hm hmd
        rcases hmem m hm with hm | rfl
        · exact h.dirs m hm hmd
        · exact ⟨hho, hda⟩
      · intro m hm hmd
        rcases hmem m hm with hm | rfl
        · exact h.files m hm hmd
        · exact hnm
      · intro m hm p hp
        rcases hmem m hm with hm | rfl
        · obtain ⟨q, hq⟩ := h.leads m hm p hp
          show ∃ q, find (t.nodes ++ [nn]) p.2 = some q
          rw [find_snoc hne]
          split
          · exact ⟨_, rfl⟩
          · exact ⟨q, hq⟩
        · rw [hnm] at hp; cases hp
      · intro m hm
        rcases hmem m hm with hm | rfl
        · exact h.sorted m hm
        · rw [hnm]; exact List.Pairwise.nil
      · intro m hm p hp
        rcases hmem m hm with hm | rfl
        · exact h.short m hm p hp
        · rw [hnm] at hp; cases hp
      · have hu := h.used
        show t.used + 64 = ((In.sum (t.nodes ++ [nn]) : Nat) : Int)
        unfold In.sum at hu ⊢
        rw [List.map_append, List.sum_append]
        have e : ([nn].map cost).sum = 64 := by simp [cost, hda]
        rw [e]
        omega
      · show t.used + 64 ≤ t.quota
        omega
      · intro m hm
        rcases hmem m hm with hm | rfl
        · exact h.data m hm
        · omega
      · have ht := h.tot
        show In.tot (t.nodes ++ [nn]) ≤ N + 1
        unfold In.tot at ht ⊢
        rw [List.map_append, List.sum_append]
        simp [hnm]
        omega
    have hd' : find (t.nodes ++ [nn]) dir = some d := by
      rw [find_snoc hne, if_neg (by have := hne d dm; rw [di] at this; exact this)]
      exact hd
    have hk' : find (t.nodes ++ [nn]) nn.id = some nn := by rw [find_snoc hne, if_pos rfl]
    have k1 := (inv_nameIn k0 hd' hdd (has_of_leads (pos_names h dm) hl) hk' (name_short hN) (by have := (h.pos d dm).1; omega)).congr (δ' := fun _ => 0) fun i => by omega
    have e : nameIn ⟨t.quota, t.used + 64, t.last + 1, t.nodes ++ [nn]⟩ dir s nn.id = makeT t dir s isDir := by
      unfold nameIn makeT
      rw [at_some (t := ⟨t.quota, t.used + 64, t.last + 1, t.nodes ++ [nn]⟩) hd', hid]
      unfold nameIn
      rw [at_some hd, ← hnn]
      unfold setN
      simp only [TabD.mk.injEq, true_and]
      show set (t.nodes ++ [nn]) _ = set t.nodes _ ++ [nn]
      unfold set
      rw [List.map_append]
      congr 1
      have e2 : (nn.id == (d.setNames (with_ d.names s (t.last + 1))).id) = false := beq_eq_false_iff_ne.2 fun e => hne d dm e.symm
      simp only [List.map_cons, List.map_nil, e2, Bool.false_eq_true, if_false]
    rw [e] at k1
    exact k1
end
end In
end Go.Proofs.YtcicjklhbnipcaaGreat
namespace Go.Proofs.YtcicjklhbnipcaaGreat
set_option linter.unusedVariables false
set_option linter.unusedSimpArgs false
open Go.RowKit Go.Maps

theorem fit_inv {N : Nat} {t : TabD} (h : In.Inv N t) (hN : N ≤ 1000000000) : Fit t where
  q0 := by have := h.q0; omega
  q1 := h.q1
  u0 := by rw [h.used]; omega
  u1 := by have := h.cap; have := h.q1; omega
  node := fun n hn => by
    have h1 := h.links n hn
    have h2 := In.cnt_le t.nodes n.id
    have h3 := h.tot
    have h4 : n.names.length ≤ In.tot t.nodes := In.le_sum (f := fun n => n.names.length) hn
    have h5 : In.rootI n.id = 0 ∨ In.rootI n.id = 1 := by unfold In.rootI; split <;> simp
    omega
  holds := fun n hn => by have := h.holds n hn; omega
  data := h.data
  ids := fun n hn => by have h1 := h.pos n hn; have h2 := h.last; exact fits_of (by omega) (by omega)
  leads := h.leads
theorem names_inv {N : Nat} {t : TabD} (h : In.Inv N t) (hN : N ≤ 1000000000) : ∀ n ∈ t.nodes, n.names.length ≤ 4611686018427 := fun n hn => by
  have h3 := h.tot
  have h4 : n.names.length ≤ In.tot t.nodes := In.le_sum (f := fun n => n.names.length) hn
  omega
section
variable {w : World} {g mb : Nat} {β : Int → Nat × Nat} {t : TabD} {N : Nat}
theorem Goes.pre {w1 w' : World} {t' : TabD} (hb : Below w.heap.size w w1) (h : Goes w1 g mb β t w' t') : Goes w g mb β t w' t' := by
  obtain ⟨β', h1, h2, h3⟩ := h
  exact ⟨β', h1, (Only.of_below hb).trans h2, fun k hk => by rcases h3 k hk with h | h; exact .inl h; exact .inr (Nat.le_trans hb.size h)⟩
theorem Make_any (h : TblAt w g mb β t) (I : In.Inv N t) (hN : N ≤ 1000000000) {dir : Int} (hdir : Fits dir) {s : ByteArray} (hs : s.size ≤ maxLen) (isDir : Bool) :
    Calls Tryz.prog 15 #[.pointer (some ⟨g, 0, none⟩), .int .i64 dir, .string s, .bool isDir] w fun e w' => e = .returned (.tuple #[.int .i64 (In.make t dir s isDir).1, .int .i64 (In.make t dir s isDir).2.1]) ∧ Goes w g mb β t w' (In.make t dir s isDir).2.2 := by
  have F := fit_inv I hN
  have hl := I.last
  by_cases h0 : In.makeE t dir s = 0
  · have e : In.make t dir s isDir = (t.last + 1, 0, In.makeT t dir s isDir) := by unfold In.make; rw [h0]; rfl
    rw [e]
    exact Make_yes h F hdir hs isDir h0 (fun n hn => (I.pos n hn).2) (by omega) (by omega)
  · have e : In.make t dir s isDir = (0, In.makeE t dir s, t) := by unfold In.make; rw [beq0_false h0]; rfl
    rw [e]
    have hsum : t.nodes.length ≤ In.sum t.nodes := by
      unfold In.sum
      generalize t.nodes = l
      induction l with
      | nil => simp
      | cons y r ih => rw [List.map_cons, List.sum_cons, List.length_cons]; unfold In.cost; unfold In.cost at ih; omega
    have hu := I.used
    have hu1 := F.u1
    exact (Make_no h F hdir hs isDir rfl h0 (by omega)).mono fun e w' ⟨h1, h2⟩ => ⟨h1, (Step.below h h2).goes⟩
end
end Go.Proofs.YtcicjklhbnipcaaGreat
namespace Go.Proofs.YtcicjklhbnipcaaGreat
set_option linter.unusedVariables false
set_option linter.unusedSimpArgs false
open Go.RowKit Go.Maps

structure ActD where
  kind : Int
  id : Int
  dir : Int
  at_ : Int
  n : Int
  name : ByteArray
  as_ : ByteArray
  flag : Bool
def ActD.cells (a : ActD) : List Value := [.int .i64 a.kind, .int .i64 a.id, .int .i64 a.dir, .int .i64 a.at_, .int .i64 a.n, .string a.name, .string a.as_, .bool a.flag]
structure ActD.Ok (a : ActD) : Prop where
  kind : Fits a.kind
  id : Fits a.id
  dir : Fits a.dir
  at_ : Fits a.at_
  n : Fits a.n
  name : a.name.size ≤ maxLen
  as_ : a.as_.size ≤ maxLen
namespace In
def textL (l : List ByteArray) : ByteArray := l.foldl (fun s x => s ++ x ++ ⟨#[47]⟩) ByteArray.empty
def do_ (t : TabD) (a : ActD) : Int × ByteArray × Int × TabD :=
  if a.kind = 1 then ((make t a.dir a.name a.flag).1, ByteArray.empty, (make t a.dir a.name a.flag).2.1, (make t a.dir a.name a.flag).2.2)
  else if a.kind = 2 then (findN t a.dir a.name, ByteArray.empty, findE t a.dir a.name, t)
  else if a.kind = 3 then (0, ByteArray.empty, link t a.id a.dir a.name)
  else if a.kind = 4 then (0, ByteArray.empty, unlink t a.dir a.name)
  else if a.kind = 5 then (0, ByteArray.empty, remove t a.dir a.name)
  else if a.kind = 6 then (0, ByteArray.empty, rename t a.dir a.name a.n a.as_)
  else if a.kind = 7 then (0, read t a.id a.at_ a.n, readE t a.id a.at_ a.n, t)
  else if a.kind = 8 then (0, ByteArray.empty, write t a.id a.at_ a.as_)
  else if a.kind = 9 then (0, ByteArray.empty, trunc t a.id a.n)
  else if a.kind = 10 then (0, ByteArray.empty, hold t a.id)
  else if a.kind = 11 then (0, ByteArray.empty, drop t a.id)
  else ((list t a.dir).length, textL (list t a.dir), listE t a.dir, t)
theorem inv_do {N : Nat} {t : TabD} (h : Inv N t) (a : ActD) : Inv (N + 2) (do_ t a).2.2.2 := by
  unfold do_
  repeat' split
  · exact inv_make h _ _ _
  · exact h.more (by omega)
  · exact (inv_link h _ _ _).more (by omega)
  · exact (inv_unlink h _ _).more (by omega)
  · exact (inv_remove h _ _).more (by omega)
  · exact (inv_rename h _ _ _ _).more (by omega)
  · exact h.more (by omega)
  · exact (inv_write h _ _ _).more (by omega)
  · exact (inv_trunc h _ _).more (by omega)
  · exact (inv_hold h _).more (by omega)
  · exact (inv_drop h _).more (by omega)
  · exact h.more (by omega)
end In

section
variable {w : World} {g mb : Nat} {β : Int → Nat × Nat} {t : TabD} {N : Nat}
def RDo (w : World) (g mb : Nat) (β : Int → Nat × Nat) (t : TabD) (r : Int × ByteArray × Int × TabD) (e : Ending) (w' : World) : Prop := e = .returned (.tuple #[.int .i64 r.1, .string r.2.1, .int .i64 r.2.2.1]) ∧ Goes w g mb β t w' r.2.2.2
set_option maxRecDepth 100000 in
theorem do_1 (h : TblAt w g mb β t) (I : In.Inv N t) (hN : N ≤ 1000000000) (a : ActD) (ha : a.Ok) (hk : a.kind = 1) : Calls Tryz.prog 9 #[.pointer (some ⟨g, 0, none⟩), .agg a.cells.toArray] w (RDo w g mb β t (In.do_ t a)) := by
  have F := fit_inv I hN
  have hb := (Below.refl w.heap.size w).alloc (Nat.le_refl _) (.cells a.cells.toArray 36)
  have HT := Lib.hid (h.below hb)
  have HB := Lib.hid hb
  have C := Make_any (HT.out) I hN ha.dir ha.name a.flag
  obtain ⟨R, hR⟩ : ∃ R, In.do_ t a = R := ⟨_, rfl⟩
  rw [hR]
  have HR := Lib.hid hR
  unfold ActD.cells at C hb HT HB ⊢
  obtain ⟨kind, id, dir, at_, n, name, as_, flag⟩ := a
  simp only at hk C HT HB ⊢
  subst hk
  clear h hb hR I ha F
  go_enter Tryz.func9, Tryz.ntmps9
  go_wp2_with (go_at_call 15; refine C.mono ?_; rintro e w2 ⟨rfl, hgo⟩; have HG := Lib.hid hgo; clear hgo)
  go_ret3
  rw [← HR.out]
  exact ⟨rfl, Goes.pre HB.out HG.out⟩
set_option maxRecDepth 100000 in
theorem do_2 (h : TblAt w g mb β t) (I : In.Inv N t) (hN : N ≤ 1000000000) (a : ActD) (ha : a.Ok) (hk : a.kind = 2) : Calls Tryz.prog 9 #[.pointer (some ⟨g, 0, none⟩), .agg a.cells.toArray] w (RDo w g mb β t (In.do_ t a)) := by
  have F := fit_inv I hN
  have hb := (Below.refl w.heap.size w).alloc (Nat.le_refl _) (.cells a.cells.toArray 36)
  have HT := Lib.hid (h.below hb)
  have HB := Lib.hid hb
  have C := Find_any (HT.out) F.q0 ha.dir ha.name
  obtain ⟨R, hR⟩ : ∃ R, In.do_ t a = R := ⟨_, rfl⟩
  rw [hR]
  have HR := Lib.hid hR
  unfold ActD.cells at C hb HT HB ⊢
  obtain ⟨kind, id, dir, at_, n, name, as_, flag⟩ := a
  simp only at hk C HT HB ⊢
  subst hk
  clear h hb hR I ha F
  go_enter Tryz.func9, Tryz.ntmps9
  go_wp2_with (go_at_call 23; refine C.mono ?_; rintro e w2 ⟨rfl, hb2⟩; have hgo := (Step.below HT.out hb2).goes; clear hb2; have HG := Lib.hid hgo; clear hgo)
  go_ret3
  rw [← HR.out]
  exact ⟨rfl, Goes.pre HB.out HG.out⟩
set_option maxRecDepth 100000 in
theorem do_3 (h : TblAt w g mb β t) (I : In.Inv N t) (hN : N ≤ 1000000000) (a : ActD) (ha : a.Ok) (hk : a.kind = 3) : Calls Tryz.prog 9 #[.pointer (some ⟨g, 0, none⟩), .agg a.cells.toArray] w (RDo w g mb β t (In.do_ t a)) := by
  have F := fit_inv I hN
  have hb := (Below.refl w.heap.size w).alloc (Nat.le_refl _) (.cells a.cells.toArray 36)
  have HT := Lib.hid (h.below hb)
  have HB := Lib.hid hb
  have C := Link_any (HT.out) F.q0 ha.id ha.dir ha.name F.node
  obtain ⟨R, hR⟩ : ∃ R, In.do_ t a = R := ⟨_, rfl⟩
  rw [hR]
  have HR := Lib.hid hR
  unfold ActD.cells at C hb HT HB ⊢
  obtain ⟨kind, id, dir, at_, n, name, as_, flag⟩ := a
  simp only at hk C HT HB ⊢
  subst hk
  clear h hb hR I ha F
  go_enter Tryz.func9, Tryz.ntmps9
  go_wp2_with (go_at_call 17; refine C.mono ?_; rintro e w2 ⟨rfl, hs2⟩; have hgo := hs2.goes; clear hs2; have HG := Lib.hid hgo; clear hgo)
  go_ret3
  rw [← HR.out]
  exact ⟨rfl, Goes.pre HB.out HG.out⟩
set_option maxRecDepth 100000 in
theorem do_4 (h : TblAt w g mb β t) (I : In.Inv N t) (hN : N ≤ 1000000000) (a : ActD) (ha : a.Ok) (hk : a.kind = 4) : Calls Tryz.prog 9 #[.pointer (some ⟨g, 0, none⟩), .agg a.cells.toArray] w (RDo w g mb β t (In.do_ t a)) := by
  have F := fit_inv I hN
  have hb := (Below.refl w.heap.size w).alloc (Nat.le_refl _) (.cells a.cells.toArray 36)
  have HT := Lib.hid (h.below hb)
  have HB := Lib.hid hb
  have C := Unlink_any (HT.out) F ha.dir ha.name
  obtain ⟨R, hR⟩ : ∃ R, In.do_ t a = R := ⟨_, rfl⟩
  rw [hR]
  have HR := Lib.hid hR
  unfold ActD.cells at C hb HT HB ⊢
  obtain ⟨kind, id, dir, at_, n, name, as_, flag⟩ := a
  simp only at hk C HT HB ⊢
  subst hk
  clear h hb hR I ha F
  go_enter Tryz.func9, Tryz.ntmps9
  go_wp2_with (go_at_call 18; refine C.mono ?_; rintro e w2 ⟨rfl, hs2⟩; have hgo := hs2.goes; clear hs2; have HG := Lib.hid hgo; clear hgo)
  go_ret3
  rw [← HR.out]
  exact ⟨rfl, Goes.pre HB.out HG.out⟩
set_option maxRecDepth 100000 in
theorem do_5 (h : TblAt w g mb β t) (I : In.Inv N t) (hN : N ≤ 1000000000) (a : ActD) (ha : a.Ok) (hk : a.kind = 5) : Calls Tryz.prog 9 #[.pointer (some ⟨g, 0, none⟩), .agg a.cells.toArray] w (RDo w g mb β t (In.do_ t a)) := by
  have F := fit_inv I hN
  have hb := (Below.refl w.heap.size w).alloc (Nat.le_refl _) (.cells a.cells.toArray 36)
  have HT := Lib.hid (h.below hb)
  have HB := Lib.hid hb
  have C := Remove_any (HT.out) F ha.dir ha.name
  obtain ⟨R, hR⟩ : ∃ R, In.do_ t a = R := ⟨_, rfl⟩
  rw [hR]
  have HR := Lib.hid hR
  unfold ActD.cells at C hb HT HB ⊢
  obtain ⟨kind, id, dir, at_, n, name, as_, flag⟩ := a
  simp only at hk C HT HB ⊢
  subst hk
  clear h hb hR I ha F
  go_enter Tryz.func9, Tryz.ntmps9
  go_wp2_with (go_at_call 24; refine C.mono ?_; rintro e w2 ⟨rfl, hs2⟩; have hgo := hs2.goes; clear hs2; have HG := Lib.hid hgo; clear hgo)
  go_ret3
  rw [← HR.out]
  exact ⟨rfl, Goes.pre HB.out HG.out⟩
set_option maxRecDepth 100000 in
theorem do_6 (h : TblAt w g mb β t) (I : In.Inv N t) (hN : N ≤ 1000000000) (a : ActD) (ha : a.Ok) (hk : a.kind = 6) : Calls Tryz.prog 9 #[.pointer (some ⟨g, 0, none⟩), .agg a.cells.toArray] w (RDo w g mb β t (In.do_ t a)) := by
  have F := fit_inv I hN
  have hb := (Below.refl w.heap.size w).alloc (Nat.le_refl _) (.cells a.cells.toArray 36)
  have HT := Lib.hid (h.below hb)
  have HB := Lib.hid hb
  have C := Rename_any (HT.out) F ha.dir ha.n ha.name ha.as_
  obtain ⟨R, hR⟩ : ∃ R, In.do_ t a = R := ⟨_, rfl⟩
  rw [hR]
  have HR := Lib.hid hR
  unfold ActD.cells at C hb HT HB ⊢
  obtain ⟨kind, id, dir, at_, n, name, as_, flag⟩ := a
  simp only at hk C HT HB ⊢
  subst hk
  clear h hb hR I ha F
  go_enter Tryz.func9, Tryz.ntmps9
  go_wp2_with (go_at_call 25; refine C.mono ?_; rintro e w2 ⟨rfl, hs2⟩; have hgo := hs2.goes; clear hs2; have HG := Lib.hid hgo; clear hgo)
  go_ret3
  rw [← HR.out]
  exact ⟨rfl, Goes.pre HB.out HG.out⟩
set_option maxRecDepth 100000 in
theorem do_7 (h : TblAt w g mb β t) (I : In.Inv N t) (hN : N ≤ 1000000000) (a : ActD) (ha : a.Ok) (hk : a.kind = 7) : Calls Tryz.prog 9 #[.pointer (some ⟨g, 0, none⟩), .agg a.cells.toArray] w (RDo w g mb β t (In.do_ t a)) := by
  have F := fit_inv I hN
  have hb := (Below.refl w.heap.size w).alloc (Nat.le_refl _) (.cells a.cells.toArray 36)
  have HT := Lib.hid (h.below hb)
  have HB := Lib.hid hb
  have C := Read_any (HT.out) F ha.id a.at_ a.n
  obtain ⟨R, hR⟩ : ∃ R, In.do_ t a = R := ⟨_, rfl⟩
  rw [hR]
  have HR := Lib.hid hR
  unfold ActD.cells at C hb HT HB ⊢
  obtain ⟨kind, id, dir, at_, n, name, as_, flag⟩ := a
  simp only at hk C HT HB ⊢
  subst hk
  clear h hb hR I ha F
  go_enter Tryz.func9, Tryz.ntmps9
  go_wp2_with (go_at_call 19; refine C.mono ?_; rintro e w2 ⟨rfl, hb2⟩; have hgo := (Step.below HT.out hb2).goes; clear hb2; have HG := Lib.hid hgo; clear hgo)
  go_ret3
  rw [← HR.out]
  exact ⟨rfl, Goes.pre HB.out HG.out⟩
set_option maxRecDepth 100000 in
theorem do_8 (h : TblAt w g mb β t) (I : In.Inv N t) (hN : N ≤ 1000000000) (a : ActD) (ha : a.Ok) (hk : a.kind = 8) : Calls Tryz.prog 9 #[.pointer (some ⟨g, 0, none⟩), .agg a.cells.toArray] w (RDo w g mb β t (In.do_ t a)) := by
  have F := fit_inv I hN
  have hb := (Below.refl w.heap.size w).alloc (Nat.le_refl _) (.cells a.cells.toArray 36)
  have HT := Lib.hid (h.below hb)
  have HB := Lib.hid hb
  have C := Write_any (HT.out) F ha.id (fits_to ha.at_).2 ha.as_
  obtain ⟨R, hR⟩ : ∃ R, In.do_ t a = R := ⟨_, rfl⟩
  rw [hR]
  have HR := Lib.hid hR
  unfold ActD.cells at C hb HT HB ⊢
  obtain ⟨kind, id, dir, at_, n, name, as_, flag⟩ := a
  simp only at hk C HT HB ⊢
  subst hk
  clear h hb hR I ha F
  go_enter Tryz.func9, Tryz.ntmps9
  go_wp2_with (go_at_call 16; refine C.mono ?_; rintro e w2 ⟨rfl, hs2⟩; have hgo := hs2.goes; clear hs2; have HG := Lib.hid hgo; clear hgo)
  go_ret3
  rw [← HR.out]
  exact ⟨rfl, Goes.pre HB.out HG.out⟩
set_option maxRecDepth 100000 in
theorem do_9 (h : TblAt w g mb β t) (I : In.Inv N t) (hN : N ≤ 1000000000) (a : ActD) (ha : a.Ok) (hk : a.kind = 9) : Calls Tryz.prog 9 #[.pointer (some ⟨g, 0, none⟩), .agg a.cells.toArray] w (RDo w g mb β t (In.do_ t a)) := by
  have F := fit_inv I hN
  have hb := (Below.refl w.heap.size w).alloc (Nat.le_refl _) (.cells a.cells.toArray 36)
  have HT := Lib.hid (h.below hb)
  have HB := Lib.hid hb
  have C := Truncate_any (HT.out) F ha.id (fits_to ha.n).2
  obtain ⟨R, hR⟩ : ∃ R, In.do_ t a = R := ⟨_, rfl⟩
  rw [hR]
  have HR := Lib.hid hR
  unfold ActD.cells at C hb HT HB ⊢
  obtain ⟨kind, id, dir, at_, n, name, as_, flag⟩ := a
  simp only at hk C HT HB ⊢
  subst hk
  clear h hb hR I ha F
  go_enter Tryz.func9, Tryz.ntmps9
  go_wp2_with (go_at_call 26; refine C.mono ?_; rintro e w2 ⟨rfl, hs2⟩; have hgo := hs2.goes; clear hs2; have HG := Lib.hid hgo; clear hgo)
  go_ret3
  rw [← HR.out]
  exact ⟨rfl, Goes.pre HB.out HG.out⟩
set_option maxRecDepth 100000 in
theorem do_10 (h : TblAt w g mb β t) (I : In.Inv N t) (hN : N ≤ 1000000000) (a : ActD) (ha : a.Ok) (hk : a.kind = 10) : Calls Tryz.prog 9 #[.pointer (some ⟨g, 0, none⟩), .agg a.cells.toArray] w (RDo w g mb β t (In.do_ t a)) := by
  have F := fit_inv I hN
  have hb := (Below.refl w.heap.size w).alloc (Nat.le_refl _) (.cells a.cells.toArray 36)
  have HT := Lib.hid (h.below hb)
  have HB := Lib.hid hb
  have C := Hold_any (HT.out) F ha.id
  obtain ⟨R, hR⟩ : ∃ R, In.do_ t a = R := ⟨_, rfl⟩
  rw [hR]
  have HR := Lib.hid hR
  unfold ActD.cells at C hb HT HB ⊢
  obtain ⟨kind, id, dir, at_, n, name, as_, flag⟩ := a
  simp only at hk C HT HB ⊢
  subst hk
  clear h hb hR I ha F
  go_enter Tryz.func9, Tryz.ntmps9
  go_wp2_with (go_at_call 27; refine C.mono ?_; rintro e w2 ⟨rfl, hs2⟩; have hgo := hs2.goes; clear hs2; have HG := Lib.hid hgo; clear hgo)
  go_ret3
  rw [← HR.out]
  exact ⟨rfl, Goes.pre HB.out HG.out⟩
set_option maxRecDepth 100000 in
theorem do_11 (h : TblAt w g mb β t) (I : In.Inv N t) (hN : N ≤ 1000000000) (a : ActD) (ha : a.Ok) (hk : a.kind = 11) : Calls Tryz.prog 9 #[.pointer (some ⟨g, 0, none⟩), .agg a.cells.toArray] w (RDo w g mb β t (In.do_ t a)) := by
  have F := fit_inv I hN
  have hb := (Below.refl w.heap.size w).alloc (Nat.le_refl _) (.cells a.cells.toArray 36)
  have HT := Lib.hid (h.below hb)
  have HB := Lib.hid hb
  have C := Drop_any (HT.out) F ha.id
  obtain ⟨R, hR⟩ : ∃ R, In.do_ t a = R := ⟨_, rfl⟩
  rw [hR]
  have HR := Lib.hid hR
  unfold ActD.cells at C hb HT HB ⊢
  obtain ⟨kind, id, dir, at_, n, name, as_, flag⟩ := a
  simp only at hk C HT HB ⊢
  subst hk
  clear h hb hR I ha F
  go_enter Tryz.func9, Tryz.ntmps9
  go_wp2_with (go_at_call 28; refine C.mono ?_; rintro e w2 ⟨rfl, hs2⟩; have hgo := hs2.goes; clear hs2; have HG := Lib.hid hgo; clear hgo)
  go_ret3
  rw [← HR.out]
  exact ⟨rfl, Goes.pre HB.out HG.out⟩
end
end Go.Proofs.YtcicjklhbnipcaaGreat
namespace Go.Proofs.YtcicjklhbnipcaaGreat
set_option linter.unusedVariables false
set_option linter.unusedSimpArgs false
open Go.ChangeShapes Go.WideShapes Go.RowKit

theorem len8 {cs : List Value} (h : cs.length = 8) : ∃ c0 c1 c2 c3 c4 c5 c6 c7, cs = [c0, c1, c2, c3, c4, c5, c6, c7] := by
  match cs, h with
  | [c0, c1, c2, c3, c4, c5, c6, c7], _ => exact ⟨c0, c1, c2, c3, c4, c5, c6, c7, rfl⟩
def RAct : Rep ActD := fun _ _ cs x => cs = x.cells ∧ x.Ok
theorem kept_act : Kept RAct := ⟨fun _ _ h => h⟩
def RActs : Rep (List ActD) := RSlice 8 RAct
theorem kept_acts : Kept RActs := kept_slice kept_act
theorem opens_named_str : Opens Tryz.prog 9 RStr := opens_str Tryz.underlying9
theorem opens_named_int : Opens Tryz.prog 3 (RInt .i64) := opens_int Tryz.underlying3
theorem opens_named_bool : Opens Tryz.prog 4 RBool := opens_bool Tryz.underlying4
theorem cells_act : Tryz.prog.cellsOf 36 = 8 := by kernel_rfl
theorem opens_act : Opens Tryz.prog 36 RAct := ⟨by
  intro H enc w sp held k B cs y h hp
  obtain ⟨hl, hf⟩ := opens_fields Tryz.underlying36 h hp
  rw [cells_act] at hl
  obtain ⟨c0, c1, c2, c3, c4, c5, c6, c7, rfl⟩ := len8 hl
  obtain ⟨x0, h0⟩ := hf 0 _ rfl opens_named_int
  replace h0 : (RInt .i64) w B (([c0, c1, c2, c3, c4, c5, c6, c7].drop 0).take (Tryz.prog.cellsOf 3)) x0 := h0
  rw [show Tryz.prog.cellsOf 3 = 1 from by kernel_rfl] at h0
  replace h0 : (RInt .i64) w B [c0] x0 := h0
  obtain ⟨x1, h1⟩ := hf 1 _ rfl opens_named_int
  replace h1 : (RInt .i64) w B (([c0, c1, c2, c3, c4, c5, c6, c7].drop 1).take (Tryz.prog.cellsOf 3)) x1 := h1
  rw [show Tryz.prog.cellsOf 3 = 1 from by kernel_rfl] at h1
  replace h1 : (RInt .i64) w B [c1] x1 := h1
  obtain ⟨x2, h2⟩ := hf 2 _ rfl opens_named_int
  replace h2 : (RInt .i64) w B (([c0, c1, c2, c3, c4, c5, c6, c7].drop 2).take (Tryz.prog.cellsOf 3)) x2 := h2
  rw [show Tryz.prog.cellsOf 3 = 1 from by kernel_rfl] at h2
  replace h2 : (RInt .i64) w B [c2] x2 := h2
  obtain ⟨x3, h3⟩ := hf 3 _ rfl opens_named_int
  replace h3 : (RInt .i64) w B (([c0, c1, c2, c3, c4, c5, c6, c7].drop 3).take (Tryz.prog.cellsOf 3)) x3 := h3
  rw [show Tryz.prog.cellsOf 3 = 1 from by kernel_rfl] at h3
  replace h3 : (RInt .i64) w B [c3] x3 := h3
  obtain ⟨x4, h4⟩ := hf 4 _ rfl opens_named_int
  replace h4 : (RInt .i64) w B (([c0, c1, c2, c3, c4, c5, c6, c7].drop 4).take (Tryz.prog.cellsOf 3)) x4 := h4
  rw [show Tryz.prog.cellsOf 3 = 1 from by kernel_rfl] at h4
  replace h4 : (RInt .i64) w B [c4] x4 := h4
  obtain ⟨x5, h5⟩ := hf 5 _ rfl opens_named_str
  replace h5 : RStr w B (([c0, c1, c2, c3, c4, c5, c6, c7].drop 5).take (Tryz.prog.cellsOf 9)) x5 := h5
  rw [show Tryz.prog.cellsOf 9 = 1 from by kernel_rfl] at h5
  replace h5 : RStr w B [c5] x5 := h5
  obtain ⟨x6, h6⟩ := hf 6 _ rfl opens_named_str
  replace h6 : RStr w B (([c0, c1, c2, c3, c4, c5, c6, c7].drop 6).take (Tryz.prog.cellsOf 9)) x6 := h6
  rw [show Tryz.prog.cellsOf 9 = 1 from by kernel_rfl] at h6
  replace h6 : RStr w B [c6] x6 := h6
  obtain ⟨x7, h7⟩ := hf 7 _ rfl opens_named_bool
  replace h7 : RBool w B (([c0, c1, c2, c3, c4, c5, c6, c7].drop 7).take (Tryz.prog.cellsOf 4)) x7 := h7
  rw [show Tryz.prog.cellsOf 4 = 1 from by kernel_rfl] at h7
  replace h7 : RBool w B [c7] x7 := h7
  obtain ⟨e0, b0⟩ := h0
  obtain ⟨e1, b1⟩ := h1
  obtain ⟨e2, b2⟩ := h2
  obtain ⟨e3, b3⟩ := h3
  obtain ⟨e4, b4⟩ := h4
  obtain ⟨e5, b5⟩ := h5
  obtain ⟨e6, b6⟩ := h6
  have e7 : [c7] = [Value.bool x7] := h7
  simp only [List.cons.injEq, and_true] at e0 e1 e2 e3 e4 e5 e6 e7
  subst e0 e1 e2 e3 e4 e5 e6 e7
  exact ⟨⟨x0, x1, x2, x3, x4, x5, x6, x7⟩, rfl, ⟨b0, b1, b2, b3, b4, b5, b6⟩⟩⟩
theorem opens_acts : Opens Tryz.prog 22 RActs := opens_slice Tryz.underlying22 cells_act (by omega) opens_act
/-- Acts: at an index. -/
theorem acts_open {w : World} {B : Nat} {a : Option Addr} {n cap : Nat} {xs : List ActD} (h : RActs w B [.slice a n cap] xs) :
    n = xs.length ∧ n ≤ cap ∧ cap ≤ maxLen ∧ (0 < n → ∃ b off, a = some ⟨b, off, none⟩ ∧ b < B ∧ ∀ k x, xs[k]? = some x → x.Ok ∧ ∀ j, j < 8 → w.cell? ⟨b, off + k * 8 + j, none⟩ = x.cells[j]?) := by
  obtain ⟨a', cap', h1, h2, h3, h5, h4⟩ := h
  simp only [List.cons.injEq, Value.slice.injEq, and_true] at h1
  obtain ⟨rfl, rfl, rfl⟩ := h1
  refine ⟨rfl, h2, h3, fun hp => ?_⟩
  obtain ⟨b, off, rfl, hb, hx⟩ := h4 hp
  refine ⟨b, off, rfl, hb, fun k s hk => ?_⟩
  obtain ⟨es, hl, hc, rfl, hs⟩ := hx k s hk
  exact ⟨hs, hc⟩
theorem act_cells {w : World} {b q : Nat} {x : ActD} (h : ∀ j, j < 8 → w.cell? ⟨b, q + j, none⟩ = x.cells[j]?) : w.cell? ⟨b, q, none⟩ = some (.int .i64 x.kind) ∧ w.cell? ⟨b, q + 1, none⟩ = some (.int .i64 x.id) ∧ w.cell? ⟨b, q + 2, none⟩ = some (.int .i64 x.dir) ∧ w.cell? ⟨b, q + 3, none⟩ = some (.int .i64 x.at_) ∧ w.cell? ⟨b, q + 4, none⟩ = some (.int .i64 x.n) ∧ w.cell? ⟨b, q + 5, none⟩ = some (.string x.name) ∧ w.cell? ⟨b, q + 6, none⟩ = some (.string x.as_) ∧ w.cell? ⟨b, q + 7, none⟩ = some (.bool x.flag) :=
  ⟨h 0 (by omega), h 1 (by omega), h 2 (by omega), h 3 (by omega), h 4 (by omega), h 5 (by omega), h 6 (by omega), h 7 (by omega)⟩
end Go.Proofs.YtcicjklhbnipcaaGreat
namespace Go.Proofs.YtcicjklhbnipcaaGreat
set_option linter.unusedVariables false
set_option linter.unusedSimpArgs false
open Go.ChangeShapes Go.WideShapes Go.ChangeAt Go.RowKit

theorem topOwn : ownKnob Tryz.prog.godebug = none := by kernel_rfl
theorem topLaid : laidOutB Tryz.prog = true := by kernel_rfl
theorem trod_lt_of {H : Type} {enc : TypeId × Value → H} {W : World} {t : TypeId} {v : Value} {d : DataW H} {ps : List MemPlace} (h : DataW.Trod enc Tryz.prog W 0 (fun _ => true) true t v d ps) : ∀ x ∈ ps, x.block < W.heap.size := by
  obtain ⟨m, hm⟩ := h; exact DataW.trod_lt m _ _ _ hm
/-- A one-cell argument, read. -/
theorem opened {H : Type} {enc : TypeId × Value → H} {W : World} {t : TypeId} {v : Value} {d : DataW H} {ps : List MemPlace} {α : Type} {R : Rep α} (hR : Opens Tryz.prog t R)
    (h : DataW.Trod enc Tryz.prog W 0 (fun _ => true) true t v d ps) (hc : v.cells.toList = [v]) : ∃ x, R W W.heap.size [v] x := by
  have lt := trod_lt_of h
  obtain ⟨fuel, hf⟩ := h
  rw [hc] at hf
  exact hR.out hf lt
end Go.Proofs.YtcicjklhbnipcaaGreat
namespace Go.Proofs.YtcicjklhbnipcaaGreat
set_option linter.unusedVariables false
set_option linter.unusedSimpArgs false

/-- Does operation 'j' wait for operation 'i', by an edge of its own? -/
def waitsFor (md : Region.Mode) (ops : Array Oper) (j i : Nat) : Bool := ((ops[j]?).map fun o => o.after.any fun e => Region.binds md e && e.on == i).getD false
/-- May the operations be walked in this order? 'fl': the loads that are taken first; 'on': S still holds. -/
def schOK (md : Region.Mode) (ops : Array Oper) (fl : List Nat) : List (Nat × Nat) → Array Bool → Bool → Bool
  | [], listed, _ => Region.ready md ops listed == []
  | (k, 4) :: (k', _) :: l, listed, on =>
    Region.ready md ops listed == [k, k'] && Region.ready md ops (listed.setIfInBounds k true) == [k'] && Region.ready md ops (listed.setIfInBounds k' true) == [k] && (listed.setIfInBounds k true).setIfInBounds k' true == (listed.setIfInBounds k' true).setIfInBounds k true && schOK md ops fl l ((listed.setIfInBounds k true).setIfInBounds k' true) on
  | (k, c) :: l, listed, on =>
    (match c with
     | 0 => (Region.ready md ops listed).contains k && Region.free md ops listed k
     | 1 => on && fl.contains k && (Region.ready md ops listed).contains k && Region.free md ops listed k
     | 2 => Region.ready md ops listed == [k]
     | 3 => Region.ready md ops listed == [k] && fl.all fun i => waitsFor md ops k i
     | _ => false) && schOK md ops fl l (listed.setIfInBounds k true) (on && decide (c < 3))
/-- Must operation 'j' keep S? -/
def mustKeep (md : Region.Mode) (ops : Array Oper) (fl : List Nat) (j : Nat) : Bool := !(fl.all fun i => waitsFor md ops j i)
/-- The walk in this order. -/
def wpSch (P : Program) (ops : Array Oper) (Q : Exit → Act → World → Prop) (S : World → Prop) : List (Nat × Nat) → Act → World → Prop
  | [], a, w => Q .normal a w
  | (k, 0) :: l, a, w => ∃ o v, ops[k]? = some o ∧ YieldsIf P ops (fun _ => True) o v a ∧ wpSch P ops Q S l (a.put o.dst v) w
  | (k, 1) :: l, a, w => ∃ o v, ops[k]? = some o ∧ YieldsIf P ops S o v a ∧ wpSch P ops Q S l (a.put o.dst v) w
  | (k, 2) :: l, a, w => ∃ o, ops[k]? = some o ∧ if Region.wanted o (yielded ops a.tmps) = true then o.wp P a w (fun a' w' => (S w → S w') ∧ wpSch P ops Q S l a' w') Q else wpSch P ops Q S l (a.put o.dst undef) w
  | (k, 3) :: l, a, w => ∃ o, ops[k]? = some o ∧ if Region.wanted o (yielded ops a.tmps) = true then o.wp P a w (wpSch P ops Q S l) Q else wpSch P ops Q S l (a.put o.dst undef) w
  | (k, 4) :: (k', _) :: l, a, w => ∃ o o', ops[k]? = some o ∧ ops[k']? = some o' ∧ o.guard = none ∧ o'.guard = none ∧
      o.wp P a w (fun a1 w1 => (S w → S w1) ∧ o'.wp P a1 w1 (fun a2 w2 => (S w1 → S w2) ∧ wpSch P ops Q S l a2 w2) Q) Q ∧
      o'.wp P a w (fun a1 w1 => (S w → S w1) ∧ o.wp P a1 w1 (fun a2 w2 => (S w1 → S w2) ∧ wpSch P ops Q S l a2 w2) Q) Q
  | _, _, _ => False

section
variable {P : Program} {ops : Array Oper} {Q : Exit → Act → World → Prop} {S : World → Prop} {md : Region.Mode}
/-- Whatever order is picked from here on, and S is kept by what must. -/
def wpAnyG (P : Program) (md : Region.Mode) (ops : Array Oper) (Q : Exit → Act → World → Prop) (S : World → Prop) (N : Nat → Bool) : Nat → Array Bool → Act → World → Prop
  | 0, listed, a, w => Region.ready md ops listed = [] ∧ Q .normal a w
  | fuel + 1, listed, a, w =>
    (Region.ready md ops listed = [] → Q .normal a w) ∧
    ∀ i ∈ Region.ready md ops listed, wpOp P ops Q i (fun a' w' => (N i = true → S w → S w') ∧ wpAnyG P md ops Q S N fuel (listed.setIfInBounds i true) a' w') a w
theorem wpAny_of_G {N : Nat → Bool} : ∀ (fuel : Nat) (listed : Array Bool) (a : Act) (w : World), wpAnyG P md ops Q S N fuel listed a w → wpAny P md ops Q fuel listed a w
  | 0, _, _, _, h => h
  | fuel + 1, _, _, _, h => ⟨h.1, fun i hi => wpOp_mono (fun a' w' h' => wpAny_of_G fuel _ a' w' h'.2) (h.2 i hi)⟩
theorem wpAnyG_first {N : Nat → Bool} {S' : World → Prop} {i : Nat} {oi : Oper} {v : Value} (hi : ops[i]? = some oi) (hsel : ∀ (j : Nat) (o : Oper) cs b, ops[j]? = some o → o.op ≠ .select cs b)
    (hQ : ∀ c a w, Q (.panic c) (a.put oi.dst v) w → Q (.panic c) a w)
    (hN : ∀ j oj, ops[j]? = some oj → j ≠ i → (∀ e ∈ oj.after, Region.binds md e = true → e.on ≠ i) → ∀ w w', (N j = true → S w → S w') → S' w → S w → S' w' ∧ S w' ∨ S' w' ∧ S' = fun _ => True)
    (hT : (S' = fun _ => True) ∨ S' = S) :
    ∀ (fuel : Nat) (listed : Array Bool) (a : Act) (w : World),
      (∀ j oj, ops[j]? = some oj → j ≠ i → listed.getD j true = false → (∀ e ∈ oj.after, Region.binds md e = true → e.on ≠ i) → oi.apart ops oj = true) →
      i ∈ Region.ready md ops listed → YieldsIf P ops S' oi v a → S' w →
      wpAnyG P md ops Q S N fuel (listed.setIfInBounds i true) (a.put oi.dst v) w → wpAnyG P md ops Q S N (fuel + 1) listed a w := by
  intro fuel
  induction fuel with
  | zero =>
    intro listed a w _ hr hy hS H
    refine ⟨fun h => (by rw [h] at hr; cases hr), fun j hj => ?_⟩
    by_cases hji : j = i
    · subst hji; exact hy.wpOp hi hS ⟨fun _ h => h, H⟩
    · have := ready_mono hj hji
      rw [H.1] at this
      cases this
  | succ fuel ih =>
    intro listed a w hfree hr hy hS H
    refine ⟨fun h => (by rw [h] at hr; cases hr), fun j hj => ?_⟩
    by_cases hji : j = i
    · subst hji; exact hy.wpOp hi hS ⟨fun _ h => h, H⟩
    · have h1 := H.2 j (ready_mono hj hji)
      obtain ⟨hjun, oj, hoj, hall⟩ := mem_ready.1 hj
      have hnot : ∀ e ∈ oj.after, Region.binds md e = true → e.on ≠ i := fun e he hb heq => by
        have h1 := hall e he hb
        have h0 := (mem_ready.1 hr).1
        rw [heq] at h1
        rcases Nat.lt_or_ge i listed.size with h' | h'
        · simp [h'] at h0 h1; rw [h0] at h1; cases h1
        · simp [Array.getElem?_eq_none h'] at h1
      have h2 := wpOp_putIf hoj (hfree j oj hoj hji hjun hnot) (fun cs b => hsel i oi cs b hi) (fun cs b => hsel j oj cs b hoj) hQ hy h1
      have hfree' : ∀ k ok, ops[k]? = some ok → k ≠ i → (listed.setIfInBounds j true).getD k true = false →
          (∀ e ∈ ok.after, Region.binds md e = true → e.on ≠ i) → oi.apart ops ok = true := fun k ok hk hki hun hno => by
        refine hfree k ok hk hki ?_ hno
        by_cases hjk : j = k
        · subst hjk; exact hjun
        · rw [getD_set_ne true hjk] at hun; exact hun
      refine wpOp_mono (fun a' w' h3 => ⟨h3.2.1, ih (listed.setIfInBounds j true) a' w' hfree' (ready_mono hr (Ne.symm hji)) h3.1 ?_ ?_⟩) h2
      · rcases hT with rfl | rfl
        · trivial
        · rcases hN j oj hoj hji hnot w w' h3.2.1 hS hS with h | h
          · exact h.1
          · exact h.1
      · rw [Array.setIfInBounds_comm _ _ hji]
        exact h3.2.2
theorem waitsFor_spec {j i : Nat} {oj : Oper} (hj : ops[j]? = some oj) (h : waitsFor md ops j i = true) : ∃ e ∈ oj.after, Region.binds md e = true ∧ e.on = i := by
  unfold waitsFor at h
  rw [hj] at h
  simp only [Option.map_some, Option.getD_some, Array.any_eq_true, Bool.and_eq_true, beq_iff_eq] at h
  obtain ⟨n, hn, h1, h2⟩ := h
  exact ⟨_, Array.getElem_mem hn, h1, h2⟩
theorem wpAnyG_of_sch (hs : Region.noSelect ops = true) (hQ : ∀ d v c a w, Q (.panic c) (Act.put a d v) w → Q (.panic c) a w) (fl : List Nat) : ∀ (l : List (Nat × Nat)) (listed : Array Bool) (a : Act) (w : World) (on : Bool),
    schOK md ops fl l listed on = true → (on = true → S w) → wpSch P ops Q S l a w → wpAnyG P md ops Q S (mustKeep md ops fl) l.length listed a w
  | [], _, _, _, _, hB, _, h => ⟨by simpa [schOK] using hB, h⟩
  | (k, 0) :: l, listed, a, w, on, hB, hS, h => by
    simp only [schOK, Bool.and_eq_true] at hB
    obtain ⟨o, v, ho, hy, hK⟩ := h
    exact wpAnyG_first (S' := fun _ => True) ho (Region.noSelect_spec hs) (hQ _ _) (fun _ _ _ _ _ _ _ _ _ _ => .inr ⟨trivial, rfl⟩) (.inl rfl) l.length listed a w (Region.free_spec ho hB.1.2) (by simpa using hB.1.1) hy trivial
      (wpAnyG_of_sch hs hQ fl l _ _ _ _ hB.2 (fun h => hS (by simp only [Bool.and_eq_true] at h; exact h.1)) hK)
  | (k, 1) :: l, listed, a, w, on, hB, hS, h => by
    simp only [schOK, Bool.and_eq_true] at hB
    obtain ⟨⟨⟨⟨hon, hfl⟩, hr⟩, hf⟩, hB2⟩ := hB
    obtain ⟨o, v, ho, hy, hK⟩ := h
    refine wpAnyG_first (S' := S) ho (Region.noSelect_spec hs) (hQ _ _) (fun j oj hj hji hno w w' hk hS1 _ => .inl ?_) (.inr rfl) l.length listed a w (Region.free_spec ho hf) (by simpa using hr) hy (hS hon)
      (wpAnyG_of_sch hs hQ fl l _ _ _ _ hB2 (fun h => hS hon) hK)
    have hm : mustKeep md ops fl j = true := by
      unfold mustKeep
      rw [Bool.not_eq_true', Bool.eq_false_iff]
      intro hall
      have hw := (List.all_eq_true.1 hall) k (by simpa using hfl)
      obtain ⟨e, he, hb, hek⟩ := waitsFor_spec hj hw
      exact hno e he hb hek
    exact ⟨hk hm hS1, hk hm hS1⟩
  | (k, 2) :: l, listed, a, w, on, hB, hS, h => by
    simp only [schOK, Bool.and_eq_true] at hB
    obtain ⟨o, ho, h⟩ := h
    have hr : Region.ready md ops listed = [k] := by simpa using hB.1
    refine ⟨fun h0 => (by rw [hr] at h0; cases h0), fun i hi => ?_⟩
    rw [hr] at hi
    obtain rfl : i = k := by simpa using hi
    unfold wpOp
    simp only [ho]
    split
    · rename_i hw
      rw [if_pos hw] at h
      exact .inl (Oper.wp_mono (fun a' w' h' => ⟨fun _ hs' => h'.1 hs', wpAnyG_of_sch hs hQ fl l _ _ _ _ hB.2 (fun h => h'.1 (hS (by simp only [Bool.and_eq_true] at h; exact h.1))) h'.2⟩) h)
    · rename_i hw
      rw [if_neg hw] at h
      exact ⟨fun _ h => h, wpAnyG_of_sch hs hQ fl l _ _ _ _ hB.2 (fun h => hS (by simp only [Bool.and_eq_true] at h; exact h.1)) h⟩
  | (k, 3) :: l, listed, a, w, on, hB, hS, h => by
    simp only [schOK, Bool.and_eq_true] at hB
    obtain ⟨o, ho, h⟩ := h
    have hr : Region.ready md ops listed = [k] := by simpa using hB.1.1
    have hoff : ∀ b : Bool, (b && decide (3 < 3)) = false := fun b => by simp
    have hB2 := hB.2
    rw [hoff] at hB2
    have hk : mustKeep md ops fl k = false := by unfold mustKeep; rw [hB.1.2]; rfl
    refine ⟨fun h0 => (by rw [hr] at h0; cases h0), fun i hi => ?_⟩
    rw [hr] at hi
    obtain rfl : i = k := by simpa using hi
    unfold wpOp
    simp only [ho]
    split
    · rename_i hw
      rw [if_pos hw] at h
      exact .inl (Oper.wp_mono (fun a' w' h' => ⟨fun h _ => (by rw [hk] at h; cases h), wpAnyG_of_sch hs hQ fl l _ _ _ _ hB2 (fun h => by cases h) h'⟩) h)
    · rename_i hw
      rw [if_neg hw] at h
      exact ⟨fun _ h => h, wpAnyG_of_sch hs hQ fl l _ _ _ _ hB2 (fun h => by cases h) h⟩
  | (k, 4) :: (k', c') :: l, listed, a, w, on, hB, hS, h => by
    simp only [schOK, Bool.and_eq_true] at hB
    obtain ⟨⟨⟨⟨h1, h2⟩, h3⟩, h4⟩, hB2⟩ := hB
    obtain ⟨o, o', ho, ho', hg, hg', ha, hb⟩ := h
    have r1 : Region.ready md ops listed = [k, k'] := by simpa using h1
    have r2 : Region.ready md ops (listed.setIfInBounds k true) = [k'] := by simpa using h2
    have r3 : Region.ready md ops (listed.setIfInBounds k' true) = [k] := by simpa using h3
    have r4 : (listed.setIfInBounds k true).setIfInBounds k' true = (listed.setIfInBounds k' true).setIfInBounds k true := by simpa using h4
    have wn : ∀ (o : Oper) (y : Nat → Option Bool), o.guard = none → Region.wanted o y = true := fun o y h => by unfold Region.wanted; rw [h]
    have fin : ∀ a' w', (on = true → S w') → wpSch P ops Q S l a' w' → wpAnyG P md ops Q S (mustKeep md ops fl) l.length ((listed.setIfInBounds k true).setIfInBounds k' true) a' w' := fun a' w' hs' h' => wpAnyG_of_sch hs hQ fl l _ _ _ _ hB2 hs' h'
    refine ⟨fun h0 => (by rw [r1] at h0; cases h0), fun i hi => ?_⟩
    rw [r1] at hi
    rcases List.mem_cons.1 hi with rfl | hi
    · unfold wpOp
      simp only [ho, wn o _ hg, if_true]
      refine .inl (Oper.wp_mono (fun a1 w1 h' => ⟨fun _ => h'.1, fun h0 => (by rw [r2] at h0; cases h0), fun j hj => ?_⟩) ha)
      rw [r2] at hj
      obtain rfl : j = k' := by simpa using hj
      unfold wpOp
      simp only [ho', wn o' _ hg', if_true]
      exact .inl (Oper.wp_mono (fun a2 w2 h'' => ⟨fun _ => h''.1, fin a2 w2 (fun hon => h''.1 (h'.1 (hS hon))) h''.2⟩) h'.2)
    · obtain rfl : i = k' := by simpa using hi
      unfold wpOp
      simp only [ho', wn o' _ hg', if_true]
      refine .inl (Oper.wp_mono (fun a1 w1 h' => ⟨fun _ => h'.1, fun h0 => (by rw [r3] at h0; cases h0), fun j hj => ?_⟩) hb)
      rw [r3] at hj
      obtain rfl : j = k := by simpa using hj
      unfold wpOp
      simp only [ho, wn o _ hg, if_true]
      rw [← r4]
      exact .inl (Oper.wp_mono (fun a2 w2 h'' => ⟨fun _ => h''.1, fin a2 w2 (fun hon => h''.1 (h'.1 (hS hon))) h''.2⟩) h'.2)
  | [(k, 4)], _, _, _, _, _, _, h => h.elim
  | (k, c + 5) :: l, _, _, _, _, _, _, h => h.elim
end
section
variable {P : Program} {Q : Exit → Act → World → Prop} {K : Act → World → Prop} {S : World → Prop} {a : Act} {w : World} {ops : Array Oper} {l : List (Nat × Nat)} {k : Nat} {o : Oper}
/-- What must hold at the end, and only there. -/
def OnlyThen (K : Act → World → Prop) : Exit → Act → World → Prop
  | .normal, a, w => K a w
  | _, _, _ => False
theorem OnlyThen.put (d : Option Tmp) (v : Value) (c : List PanicEntry) (a : Act) (w : World) (h : OnlyThen K (.panic c) (Act.put a d v) w) : OnlyThen K (.panic c) a w := h
theorem OnlyThen.imp (h : ∀ a w, K a w → Q .normal a w) : ∀ (e : Exit) (a : Act) (w : World), OnlyThen K e a w → Q e a w := fun e a w hk => by
  cases e <;> first | exact h _ _ hk | exact (hk : False).elim
/-- A region that draws. -/
theorem wp_region_sch {id : Nat} (S : World → Prop) (fl : List Nat) (l : List (Nat × Nat)) (hm : P.follows .mixedOrders = true) (hB : (Region.noSelect ops && (l.length == ops.size && schOK .any ops fl l (Array.replicate ops.size false) true)) = true) (hS : S w.drew)
    (h : ∀ K : Act → World → Prop, Shut (∀ a w, Q .normal a w → K a w) → wpSch P ops (OnlyThen K) S l a w.drew) : (Code.region id ops true).wp P Q a w := by
  simp only [Bool.and_eq_true] at hB
  refine Code.wp_mono (OnlyThen.imp (K := fun a w => Q .normal a w) fun _ _ h => h) (wp_region_any hm ?_)
  have hl : l.length = ops.size := by simpa using hB.2.1
  rw [← hl]
  exact wpAny_of_G _ _ _ _ (wpAnyG_of_sch (S := S) (md := .any) hB.1 OnlyThen.put fl l _ a w.drew true (by rw [hl]; exact hB.2.2) (fun _ => hS) (h _ fun _ _ h => h))
/-! ### The operations themselves in their order -/
def wpSeq (P : Program) (ops : Array Oper) (K : Act → World → Prop) (S : World → Prop) : List (Oper × Nat) → Act → World → Prop
  | [], a, w => K a w
  | (o, 0) :: l, a, w => ∃ v, YieldsIf P ops (fun _ => True) o v a ∧ wpSeq P ops K S l (a.put o.dst v) w
  | (o, 1) :: l, a, w => ∃ v, YieldsIf P ops S o v a ∧ wpSeq P ops K S l (a.put o.dst v) w
  | (o, 2) :: l, a, w => if Region.wanted o (yielded ops a.tmps) = true then o.wp P a w (fun a' w' => (S w → S w') ∧ wpSeq P ops K S l a' w') (OnlyThen K) else wpSeq P ops K S l (a.put o.dst undef) w
  | (o, 3) :: l, a, w => if Region.wanted o (yielded ops a.tmps) = true then o.wp P a w (wpSeq P ops K S l) (OnlyThen K) else wpSeq P ops K S l (a.put o.dst undef) w
  | (o, 4) :: (o', _) :: l, a, w => o.guard = none ∧ o'.guard = none ∧
      o.wp P a w (fun a1 w1 => (S w → S w1) ∧ o'.wp P a1 w1 (fun a2 w2 => (S w1 → S w2) ∧ wpSeq P ops K S l a2 w2) (OnlyThen K)) (OnlyThen K) ∧
      o'.wp P a w (fun a1 w1 => (S w → S w1) ∧ o.wp P a1 w1 (fun a2 w2 => (S w1 → S w2) ∧ wpSeq P ops K S l a2 w2) (OnlyThen K)) (OnlyThen K)
  | _, _, _ => False
/-- The operations of an order. -/
def opsOf (l : List Oper) : List (Nat × Nat) → List (Oper × Nat)
  | [] => []
  | (k, c) :: r => (l.getD k default, c) :: opsOf l r
theorem wpSch_of_seq {os : List Oper} : ∀ (l : List (Nat × Nat)) (a : Act) (w : World), (l.all fun x => decide (x.1 < os.length)) = true → wpSeq P os.toArray K S (opsOf os l) a w → wpSch P os.toArray (OnlyThen K) S l a w
  | [], _, _, _, h => h
  | (k, 0) :: l, a, w, hB, h => by
    simp only [List.all_cons, Bool.and_eq_true, decide_eq_true_eq] at hB
    obtain ⟨v, h1, h2⟩ := h
    exact ⟨_, v, by simp [List.getElem?_eq_getElem hB.1, List.getD], h1, wpSch_of_seq l _ _ hB.2 h2⟩
  | (k, 1) :: l, a, w, hB, h => by
    simp only [List.all_cons, Bool.and_eq_true, decide_eq_true_eq] at hB
    obtain ⟨v, h1, h2⟩ := h
    exact ⟨_, v, by simp [List.getElem?_eq_getElem hB.1, List.getD], h1, wpSch_of_seq l _ _ hB.2 h2⟩
  | (k, 2) :: l, a, w, hB, h => by
    simp only [List.all_cons, Bool.and_eq_true, decide_eq_true_eq] at hB
    refine ⟨os.getD k default, by simp [List.getElem?_eq_getElem hB.1, List.getD], ?_⟩
    have h : if Region.wanted (os.getD k default) (yielded os.toArray a.tmps) = true then (os.getD k default).wp P a w (fun a' w' => (S w → S w') ∧ wpSeq P os.toArray K S (opsOf os l) a' w') (OnlyThen K) else wpSeq P os.toArray K S (opsOf os l) (a.put (os.getD k default).dst undef) w := h
    split
    · rename_i hw
      rw [if_pos hw] at h
      exact Oper.wp_mono (fun a' w' h' => ⟨h'.1, wpSch_of_seq l _ _ hB.2 h'.2⟩) h
    · rename_i hw
      rw [if_neg hw] at h
      exact wpSch_of_seq l _ _ hB.2 h
  | (k, 3) :: l, a, w, hB, h => by
    simp only [List.all_cons, Bool.and_eq_true, decide_eq_true_eq] at hB
    refine ⟨os.getD k default, by simp [List.getElem?_eq_getElem hB.1, List.getD], ?_⟩
    have h : if Region.wanted (os.getD k default) (yielded os.toArray a.tmps) = true then (os.getD k default).wp P a w (wpSeq P os.toArray K S (opsOf os l)) (OnlyThen K) else wpSeq P os.toArray K S (opsOf os l) (a.put (os.getD k default).dst undef) w := h
    split
    · rename_i hw
      rw [if_pos hw] at h
      exact Oper.wp_mono (fun a' w' h' => wpSch_of_seq l _ _ hB.2 h') h
    · rename_i hw
      rw [if_neg hw] at h
      exact wpSch_of_seq l _ _ hB.2 h
  | (k, 4) :: (k', c') :: l, a, w, hB, h => by
    simp only [List.all_cons, Bool.and_eq_true, decide_eq_true_eq] at hB
    obtain ⟨g1, g2, g3, g4⟩ := h
    refine ⟨os.getD k default, os.getD k' default, by simp [List.getElem?_eq_getElem hB.1, List.getD], by simp [List.getElem?_eq_getElem hB.2.1, List.getD], g1, g2, ?_, ?_⟩
    · exact Oper.wp_mono (fun a1 w1 h1 => ⟨h1.1, Oper.wp_mono (fun a2 w2 h2 => ⟨h2.1, wpSch_of_seq l _ _ hB.2.2 h2.2⟩) h1.2⟩) g3
    · exact Oper.wp_mono (fun a1 w1 h1 => ⟨h1.1, Oper.wp_mono (fun a2 w2 h2 => ⟨h2.1, wpSch_of_seq l _ _ hB.2.2 h2.2⟩) h1.2⟩) g4
  | [(k, 4)], _, _, _, h => h.elim
  | (k, c + 5) :: l, _, _, _, h => h.elim
/-- The operations in the order of the text. -/
def inText : List Oper → List (Oper × Nat)
  | [] => []
  | o :: l => (o, 3) :: inText l
theorem wpOps_of_text {os : Array Oper} : ∀ (l : List Oper) (n : Nat) (a : Act) (w : World), (∀ j, l[j]? = os[n + j]?) → wpSeq P os K S (inText l) a w → wpOps P os (OnlyThen K) (List.range' n l.length) a w
  | [], _, _, _, _, h => h
  | o :: l, n, a, w, hl, h => by
    have h0 : os[n]? = some o := by simpa using (hl 0).symm
    have hl' : ∀ j, l[j]? = os[n + 1 + j]? := fun j => by have := hl (j + 1); simpa [Nat.add_assoc, Nat.add_comm 1 j] using this
    rw [List.length_cons, List.range'_succ]
    unfold wpOps
    simp only [h0]
    have h : if Region.wanted o (yielded os a.tmps) = true then o.wp P a w (wpSeq P os K S (inText l)) (OnlyThen K) else wpSeq P os K S (inText l) (a.put o.dst undef) w := h
    split
    · rename_i hw
      rw [if_pos hw] at h
      exact .inl (Oper.wp_mono (fun a' w' h' => wpOps_of_text l (n + 1) _ _ hl' h') h)
    · rename_i hw
      rw [if_neg hw] at h
      exact wpOps_of_text l (n + 1) _ _ hl' h
/-- A region in the order of the text. -/
theorem wp_region_text {id : Nat} {os : List Oper} (S : World → Prop) (h : ∀ K : Act → World → Prop, Shut (∀ a w, Q .normal a w → K a w) → wpSeq P os.toArray K S (inText os) a w) : (Code.region id os.toArray false).wp P Q a w := by
  refine Code.wp_mono (OnlyThen.imp (K := fun a w => Q .normal a w) fun _ _ h => h) (wp_region ?_)
  rw [List.range_eq_range', List.size_toArray]
  exact wpOps_of_text os 0 a w (fun j => by simp) (h _ fun _ _ h => h)
/-- A region that draws. -/
theorem wp_region_order {id : Nat} {os : List Oper} (S : World → Prop) (fl : List Nat) (l : List (Nat × Nat)) (hm : P.follows .mixedOrders = true) (hB : ((Region.noSelect os.toArray && (l.length == os.toArray.size && schOK .any os.toArray fl l (Array.replicate os.toArray.size false) true)) && l.all fun x => decide (x.1 < os.length)) = true) (hS : S w.drew)
    (h : ∀ K : Act → World → Prop, Shut (∀ a w, Q .normal a w → K a w) → wpSeq P os.toArray K S (opsOf os l) a w.drew) : (Code.region id os.toArray true).wp P Q a w := by
  simp only [Bool.and_eq_true] at hB
  exact wp_region_sch S fl l hm (by simp only [Bool.and_eq_true]; exact hB.1) hS (fun K hK => wpSch_of_seq l a w.drew hB.2 (h K hK))
/-! ### Steps -/
section
variable {l : List (Oper × Nat)}
theorem wpSeq_nil (h : K a w) : wpSeq P ops K S [] a w := h
theorem wpSeq_at0 {v : Value} (hw : Region.wanted o (yielded ops a.tmps) = true) (hy : ∀ w, (execOp a.eval o).run P w = .ok (.value v) w) (h : wpSeq P ops K S l (a.put o.dst v) w) : wpSeq P ops K S ((o, 0) :: l) a w :=
  ⟨v, .inl ⟨hw, fun w _ => hy w⟩, h⟩
theorem wpSeq_at1 {v : Value} (hw : Region.wanted o (yielded ops a.tmps) = true) (hy : ∀ w, S w → (execOp a.eval o).run P w = .ok (.value v) w) (h : wpSeq P ops K S l (a.put o.dst v) w) : wpSeq P ops K S ((o, 1) :: l) a w :=
  ⟨v, .inl ⟨hw, hy⟩, h⟩
theorem wpSeq_at2 (hw : Region.wanted o (yielded ops a.tmps) = true) (h : ∀ K' : Act → World → Prop, Shut (∀ a w', (S w → S w') → wpSeq P ops K S l a w' → K' a w') → o.wp P a w K' (OnlyThen K)) : wpSeq P ops K S ((o, 2) :: l) a w := by
  show if _ then _ else _
  rw [if_pos hw]; exact h _ (fun a w hS hl => ⟨hS, hl⟩)
theorem wpSeq_at3 (hw : Region.wanted o (yielded ops a.tmps) = true) (h : ∀ K' : Act → World → Prop, Shut (∀ a w', wpSeq P ops K S l a w' → K' a w') → o.wp P a w K' (OnlyThen K)) : wpSeq P ops K S ((o, 3) :: l) a w := by
  show if _ then _ else _
  rw [if_pos hw]; exact h _ (fun a w hl => hl)
/-- An operation whose guard is not met. -/
theorem wpSeq_off {c : Nat} (hc : (c == 0 || c == 1 || c == 2 || c == 3) = true) (hw : Region.wanted o (yielded ops a.tmps) = false) (h : wpSeq P ops K S l (a.put o.dst undef) w) : wpSeq P ops K S ((o, c) :: l) a w := by
  match c with
  | 0 => exact ⟨undef, .inr ⟨hw, rfl⟩, h⟩
  | 1 => exact ⟨undef, .inr ⟨hw, rfl⟩, h⟩
  | 2 => show if _ then _ else _; rw [if_neg (by simp [hw])]; exact h
  | 3 => show if _ then _ else _; rw [if_neg (by simp [hw])]; exact h
  | c + 4 => cases hc
/-- An operation that only yields a value, from the world alone that it meets. -/
theorem wpSeq_yields {c : Nat} (hc : (c == 2 || c == 3) = true) {v : Value} (hw : Region.wanted o (yielded ops a.tmps) = true) (hy : (execOp a.eval o).run P w = .ok (.value v) w) (h : wpSeq P ops K S l (a.put o.dst v) w) : wpSeq P ops K S ((o, c) :: l) a w := by
  match c with
  | 0 => cases hc
  | 1 => cases hc
  | 2 => exact wpSeq_at2 hw fun K' hK => by unfold Oper.wp; rw [hy]; exact hK.out _ _ id h
  | 3 => exact wpSeq_at3 hw fun K' hK => by unfold Oper.wp; rw [hy]; exact hK.out _ _ h
  | c + 4 => simp at hc
/-- An operation that turns the world. -/
theorem wpSeq_turns {c : Nat} (hc : (c == 2 || c == 3) = true) {w' : World} {n : Next} (hw : Region.wanted o (yielded ops a.tmps) = true) (hy : (execOp a.eval o).run P w = .ok n w') {v : Value} (hn : n = .value v ∨ n = .skip ∧ v = undef) (hS : c = 2 → S w → S w') (h : wpSeq P ops K S l (a.put o.dst v) w') : wpSeq P ops K S ((o, c) :: l) a w := by
  match c with
  | 0 => cases hc
  | 1 => cases hc
  | 2 =>
    refine wpSeq_at2 hw fun K' hK => ?_
    unfold Oper.wp
    rw [hy]
    rcases hn with rfl | ⟨rfl, rfl⟩
    · exact hK.out _ _ (hS rfl) h
    · exact hK.out _ _ (hS rfl) h
  | 3 =>
    refine wpSeq_at3 hw fun K' hK => ?_
    unfold Oper.wp
    rw [hy]
    rcases hn with rfl | ⟨rfl, rfl⟩
    · exact hK.out _ _ h
    · exact hK.out _ _ h
  | c + 4 => simp at hc
/-- A call. -/
theorem wpSeq_calls {c : Nat} (hc : (c == 2 || c == 3) = true) {f : FuncId} {args : Array Value} (hw : Region.wanted o (yielded ops a.tmps) = true) (hy : (execOp a.eval o).run P w = .ok (.enter f args) w) {R : Ending → World → Prop} (hC : Calls P f args w R)
    (h : ∀ e w', R e w' → ∃ v, e = .returned v ∧ (c = 2 → S w → S w') ∧ wpSeq P ops K S l (a.put o.dst v) w') : wpSeq P ops K S ((o, c) :: l) a w := by
  match c with
  | 0 => cases hc
  | 1 => cases hc
  | 2 =>
    refine wpSeq_at2 hw fun K' hK => ?_
    unfold Oper.wp
    rw [hy]
    refine hC.mono fun e w' he => ?_
    obtain ⟨v, rfl, hS, hn⟩ := h e w' he
    exact hK.out _ _ (hS rfl) hn
  | 3 =>
    refine wpSeq_at3 hw fun K' hK => ?_
    unfold Oper.wp
    rw [hy]
    refine hC.mono fun e w' he => ?_
    obtain ⟨v, rfl, hS, hn⟩ := h e w' he
    exact hK.out _ _ hn
  | c + 4 => simp at hc
end
end
attribute [irreducible] wpSeq
end Go.Proofs.YtcicjklhbnipcaaGreat
namespace Go.Proofs.YtcicjklhbnipcaaGreat
set_option linter.unusedVariables false
set_option linter.unusedSimpArgs false

/-- The type has 'n' cells, and is a struct or an array. -/
def rowB (P : Program) (t : TypeId) (n : Nat) : Bool :=
  (match P.underlying t with | some d => d.isRow | none => false) && ((P.info? t).map (·.size) == some n)
section
variable {P : Program} {ops : Array Oper} {Q : Exit → Act → World → Prop} {a : Act} {w : World} {op : Oper}
theorem rowB_spec {t : TypeId} {n : Nat} (h : rowB P t n = true) : ∃ d, P.underlying t = some d ∧ d.isRow = true ∧ (P.info? t).map (·.size) = some n := by
  unfold rowB at h
  simp only [Bool.and_eq_true] at h
  obtain ⟨h1, h2⟩ := h
  cases hu : P.underlying t with
  | none => rw [hu] at h1; cases h1
  | some d => rw [hu] at h1; exact ⟨d, rfl, h1, by simpa using h2⟩
end
/-! ### Blocks that are known whole -/
/-- Block 'b' holds just these cells, and none of them is frozen. -/
def Blk (w : World) (b : Nat) (cs : List Value) (t : TypeId) : Prop := w.heap[b]? = some (.cells cs.toArray t (0, 0))
section
variable {w w' : World} {b : Nat} {cs : List Value} {t : TypeId}
theorem Blk.lt (h : Blk w b cs t) : b < w.heap.size := (Array.getElem?_eq_some_iff.1 h).1
theorem Blk.cell (h : Blk w b cs t) (o : Nat) : w.cell? ⟨b, o, none⟩ = cs[o]? := by
  unfold Blk at h
  unfold World.cell?
  simp only [h]
  simp
theorem Blk.free (h : Blk w b cs t) (o : Nat) : w.frozen? ⟨b, o, none⟩ = false := by
  unfold World.frozen?
  unfold Blk at h
  simp only [h]
  simp
theorem Blk.range (h : Blk w b cs t) : w.rangeAt b 0 cs := fun j v hv => by rw [h.cell, Nat.zero_add]; exact hv
theorem Blk.part (h : Blk w b cs t) (o : Nat) (vs : List Value) (hv : (cs.drop o).take vs.length = vs) : w.rangeAt b o vs := fun j v hj => by
  have hl : j < vs.length := (List.getElem?_eq_some_iff.1 hj).1
  have e : vs[j]? = cs[o + j]? := by
    have : ((cs.drop o).take vs.length)[j]? = cs[o + j]? := by rw [List.getElem?_take, if_pos hl, List.getElem?_drop]
    rw [hv] at this
    exact this
  rw [h.cell, ← e, hj]
theorem Blk.there (h : Blk w b cs t) (o n : Nat) (hn : o + n ≤ cs.length) : w.there b o n := fun j hj =>
  ⟨by rw [h.cell, List.getElem?_eq_getElem (by omega)]; rfl, h.free _⟩
/-- A list whose part from 'o' on is written over. -/
def over (cs : List Value) (o : Nat) : List Value → List Value
  | [] => cs
  | v :: r => over (cs.set o v) (o + 1) r
theorem Blk.setCell (h : Blk w b cs t) (o : Nat) (v : Value) : Blk (w.setCell ⟨b, o, none⟩ v) b (cs.set o v) t := by
  unfold Blk at *
  have hb := (Array.getElem?_eq_some_iff.1 h).1
  simp only [World.setCell, Array.getElem?_modify, h]
  simp
theorem Blk.setCells (h : Blk w b cs t) : ∀ (vs : List Value) (o : Nat), Blk (w.setCells b o vs) b (over cs o vs) t := by
  intro vs
  induction vs generalizing w cs with
  | nil => intro o; exact h
  | cons v r ih => intro o; exact ih (h.setCell o v) (o + 1)
theorem Blk.drew (h : Blk w b cs t) : Blk w.drew b cs t := h
theorem Blk.drewN (h : Blk w b cs t) (n : Nat) : Blk (w.drewN n) b cs t := h
end
end Go.Proofs.YtcicjklhbnipcaaGreat
namespace Go.Proofs.YtcicjklhbnipcaaGreat
set_option linter.unusedVariables false
set_option linter.unusedSimpArgs false
open Go.RowKit

/-- What a block is known to hold. -/
inductive Res where
  /-- just these cells -/
  | cells (cs : List Value) (t : TypeId)
  /-- 'n' cells, of which the first are these -/
  | pre (cs : List Value) (t : TypeId) (n : Nat)
  /-- these cells from 'off' on -/
  | part (off : Nat) (cs : List Value)
  | obj (p : Obj → Prop)
def Res.holds : Res → Option Obj → Prop
  | .cells cs t, o => o = some (.cells cs.toArray t (0, 0))
  | .pre cs t n, o => ∃ rest : List Value, o = some (.cells (cs ++ rest).toArray t (0, 0)) ∧ (cs ++ rest).length = n
  | .part off cs, o => ∃ cur t fr, o = some (.cells cur t fr) ∧ ∀ j, j < cs.length → cur[off + j]? = cs[j]?
  | .obj p, o => ∃ x, o = some x ∧ p x
/-- The cells that are known from the block's beginning on, and may be written. -/
def Res.known : Res → List Value
  | .cells cs _ => cs
  | .pre cs _ _ => cs
  | _ => []
def Res.put : Res → List Value → Res
  | .cells _ t, cs => .cells cs t
  | .pre _ t n, cs => .pre cs t n
  | r, _ => r
/-- A block, whether the call may write it, and what it holds. -/
abbrev Ent := Nat × Bool × Res
/-- Since 'w0' just the blocks of 'F' have turned; 'w' holds what 'L' says. -/
structure St (w0 : World) (F : List Nat) (w : World) (L : List Ent) : Prop where
  only : Only F w0 w
  holds : ∀ x ∈ L, x.2.2.holds w.heap[x.1]?
  nd : (L.map (·.1)).Nodup
  own : ∀ x ∈ L, x.2.1 = true → x.1 ∈ F ∨ w0.heap.size ≤ x.1
/-- A world holds what 'L' says. -/
def Has (L : List Ent) (w : World) : Prop := ∀ x ∈ L, x.2.2.holds w.heap[x.1]?
/-- Since 'w0' just the blocks of 'F' have turned, and it holds what 'L' says: what is kept while a region's order is open. -/
structure Held (w0 : World) (F : List Nat) (L : List Ent) (w : World) : Prop where
  only : Only F w0 w
  has : Has L w
/-- One entry of a list is turned. -/
inductive Upd : List Ent → Ent → Ent → List Ent → Prop where
  | head {x y : Ent} {L : List Ent} : Upd (x :: L) x y (y :: L)
  | tail {x y z : Ent} {L L' : List Ent} (h : Upd L x y L') : Upd (z :: L) x y (z :: L')
theorem Res.lt {r : Res} {w : World} {b : Nat} (h : r.holds w.heap[b]?) : b < w.heap.size := by
  cases r with
  | cells cs t => exact (Array.getElem?_eq_some_iff.1 (show w.heap[b]? = some _ from h)).1
  | pre cs t n => obtain ⟨rest, hx, -⟩ := h; exact (Array.getElem?_eq_some_iff.1 hx).1
  | part off cs => obtain ⟨cur, t, fr, hx, -⟩ := h; exact (Array.getElem?_eq_some_iff.1 hx).1
  | obj p => obtain ⟨x, hx, -⟩ := h; exact (Array.getElem?_eq_some_iff.1 hx).1
theorem Upd.mem {L L' : List Ent} {x y : Ent} (h : Upd L x y L') : x ∈ L := by
  induction h with
  | head => exact .head _
  | tail _ ih => exact .tail _ ih
theorem Upd.of_mem {L L' : List Ent} {x y z : Ent} (h : Upd L x y L') (hz : z ∈ L') : z = y ∨ z ∈ L := by
  induction h with
  | head => rcases List.mem_cons.1 hz with rfl | h; exact .inl rfl; exact .inr (.tail _ h)
  | tail _ ih =>
    rcases List.mem_cons.1 hz with rfl | h
    · exact .inr (.head _)
    · rcases ih h with h | h
      · exact .inl h
      · exact .inr (.tail _ h)
theorem Upd.keys {L L' : List Ent} {x y : Ent} (h : Upd L x y L') (hk : x.1 = y.1) : L'.map (·.1) = L.map (·.1) := by
  induction h with
  | head => simp [hk]
  | tail _ ih => simp [ih hk]
/-- An entry of the turned list that is not the turned one stood in the list, at another block. -/
theorem Upd.other {L L' : List Ent} {x y z : Ent} (h : Upd L x y L') (hnd : (L.map (·.1)).Nodup) (hz : z ∈ L') : z = y ∨ (z ∈ L ∧ z.1 ≠ x.1) := by
  induction h with
  | @head x y L =>
    rcases List.mem_cons.1 hz with rfl | h1
    · exact .inl rfl
    · refine .inr ⟨.tail _ h1, fun e => ?_⟩
      simp only [List.map_cons, List.nodup_cons] at hnd
      exact hnd.1 (e ▸ List.mem_map_of_mem h1)
  | @tail x y u L L' h ih =>
    simp only [List.map_cons, List.nodup_cons] at hnd
    rcases List.mem_cons.1 hz with rfl | h1
    · refine .inr ⟨.head _, fun e => ?_⟩
      exact hnd.1 (e ▸ List.mem_map_of_mem h.mem)
    · rcases ih hnd.2 h1 with h2 | h2
      · exact .inl h2
      · exact .inr ⟨.tail _ h2.1, h2.2⟩
/-- Some entries of a list, in their order. -/
inductive Sub : List Ent → List Ent → Prop where
  | nil {L : List Ent} : Sub [] L
  | skip {x : Ent} {M L : List Ent} (h : Sub M L) : Sub M (x :: L)
  | take {x : Ent} {M L : List Ent} (h : Sub M L) : Sub (x :: M) (x :: L)
theorem Sub.all : ∀ (L : List Ent), Sub L L
  | [] => .nil
  | _ :: L => .take (Sub.all L)
theorem Sub.mem {M L : List Ent} (h : Sub M L) : ∀ x ∈ M, x ∈ L := by
  induction h with
  | nil => exact nofun
  | skip _ ih => exact fun x hx => .tail _ (ih x hx)
  | take _ ih =>
    intro x hx
    rcases List.mem_cons.1 hx with rfl | hx
    · exact .head _
    · exact .tail _ (ih x hx)
/-- Some entries of a list, without that one. -/
inductive Rest : List Ent → Ent → List Ent → Prop where
  | here {x : Ent} {M L : List Ent} (h : Sub M L) : Rest (x :: L) x M
  | skip {x z : Ent} {M L : List Ent} (h : Rest L x M) : Rest (z :: L) x M
  | take {x z : Ent} {M L : List Ent} (h : Rest L x M) : Rest (z :: L) x (z :: M)
theorem Rest.mem {M L : List Ent} {x : Ent} (h : Rest L x M) : x ∈ L := by
  induction h with
  | here _ => exact .head _
  | skip _ ih => exact .tail _ ih
  | take _ ih => exact .tail _ ih
theorem Rest.apart {M L : List Ent} {x : Ent} (h : Rest L x M) (hnd : (L.map (·.1)).Nodup) : ∀ z ∈ M, z.1 ≠ x.1 := by
  induction h with
  | here hs =>
    simp only [List.map_cons, List.nodup_cons] at hnd
    exact fun z hz e => hnd.1 (e ▸ List.mem_map_of_mem (hs.mem z hz))
  | skip _ ih =>
    simp only [List.map_cons, List.nodup_cons] at hnd
    exact ih hnd.2
  | take h ih =>
    simp only [List.map_cons, List.nodup_cons] at hnd
    intro u hu
    rcases List.mem_cons.1 hu with rfl | hu
    · exact fun e => hnd.1 (e ▸ List.mem_map_of_mem h.mem)
    · exact ih hnd.2 u hu
section
variable {w0 w w' : World} {F : List Nat} {L L' : List Ent} {b : Nat} {r : Res}
theorem St.lt (h : St w0 F w L) {x : Ent} (hx : x ∈ L) : x.1 < w.heap.size := Res.lt (h.holds x hx)
theorem St.fresh (h : St w0 [] w L) (hx : (b, true, r) ∈ L) : w0.heap.size ≤ b := (h.own _ hx rfl).resolve_left (by simp)
theorem St.blk (h : St w0 F w L) {o : Bool} {cs : List Value} {t : TypeId} (hx : (b, o, .cells cs t) ∈ L) : Blk w b cs t := h.holds _ hx
theorem Has.lt (h : Has L w) {x : Ent} (hx : x ∈ L) : x.1 < w.heap.size := Res.lt (h x hx)
theorem St.start (w : World) (F : List Nat) : St w F w [] := ⟨Only.refl F w, nofun, List.nodup_nil, nofun⟩
theorem St.drew (h : St w0 F w L) : St w0 F w.drew L := ⟨h.only.drew, h.holds, h.nd, h.own⟩
theorem Has.drew (h : Has L w) : Has L w.drew := h
theorem St.held (h : St w0 F w L) {Lr : List Ent} (hs : ∀ x ∈ Lr, x ∈ L) : Held w0 F Lr w := ⟨h.only, fun x hx => h.holds x (hs x hx)⟩
theorem Held.drew (h : Held w0 F L w) : Held w0 F L w.drew := ⟨h.only.drew, h.has⟩
/-- What was there stands as it was. -/
theorem Has.below (h : Has L w) (hb : Below w.heap.size w w') : Has L w' := fun x hx => by rw [hb.block x.1 (h.lt hx)]; exact h x hx
theorem St.below (h : St w0 F w L) (hb : Below w.heap.size w w') : St w0 F w' L :=
  ⟨h.only.below (hb.mono h.only.size), Has.below h.holds hb, h.nd, h.own⟩
theorem Held.below (h : Held w0 F L w) (hb : Below w.heap.size w w') : Held w0 F L w' := ⟨h.only.below (hb.mono h.only.size), h.has.below hb⟩
/-- What was there at the beginning, and may not be written, stands. -/
theorem only_cell (h : Only F w0 w) {ad : Addr} {v : Value} (hc : w0.cell? ad = some v) (hF : ad.block ∉ F) : w.cell? ad = some v := by
  have hlt := World.block_lt_of_cell? w0 ad hc
  unfold World.cell? at hc ⊢
  rw [h.block ad.block hlt hF]
  exact hc
theorem St.old (h : St w0 [] w L) {ad : Addr} {v : Value} (hc : w0.cell? ad = some v) : w.cell? ad = some v := only_cell h.only hc (by simp)
theorem Held.old (h : Held w0 [] L w) {ad : Addr} {v : Value} (hc : w0.cell? ad = some v) : w.cell? ad = some v := only_cell h.only hc (by simp)
theorem St.oldRow (h : St w0 [] w L) {b q : Nat} {vs : List Value} (hc : w0.rangeAt b q vs) : w.rangeAt b q vs := fun j v hj => h.old (hc j v hj)
theorem Held.oldRow (h : Held w0 [] L w) {b q : Nat} {vs : List Value} (hc : w0.rangeAt b q vs) : w.rangeAt b q vs := fun j v hj => h.old (hc j v hj)
/-- A new block. -/
theorem Has.push (h : Has L w) (o : Obj) : Has L (w.alloc o) := h.below ((Below.refl _ w).alloc (Nat.le_refl _) o)
theorem St.push (h : St w0 F w L) (o : Obj) (hr : r.holds (some o)) : St w0 F (w.alloc o) ((w.heap.size, true, r) :: L) := by
  have h1 := h.below ((Below.refl _ w).alloc (Nat.le_refl _) o)
  refine ⟨h1.only, fun x hx => ?_, ?_, fun x hx => ?_⟩
  · rcases List.mem_cons.1 hx with rfl | hx
    · have : (w.alloc o).heap[w.heap.size]? = some o := heap_alloc_new w o
      simp only [this]
      exact hr
    · exact h1.holds x hx
  · simp only [List.map_cons, List.nodup_cons]
    refine ⟨fun hm => ?_, h.nd⟩
    obtain ⟨x, hx, e⟩ := List.mem_map.1 hm
    have := h.lt hx
    omega
  · rcases List.mem_cons.1 hx with rfl | hx
    · exact fun _ => .inr h.only.size
    · exact h.own x hx
/-- A block that was there all the time is known too. -/
theorem St.learn (h : St w0 F w L) {o : Bool} (hr : r.holds w.heap[b]?) (hn : ∀ x ∈ L, x.1 ≠ b) (ho : o = true → b ∈ F ∨ w0.heap.size ≤ b) : St w0 F w ((b, o, r) :: L) := by
  refine ⟨h.only, fun x hx => ?_, ?_, fun x hx => ?_⟩
  · rcases List.mem_cons.1 hx with rfl | hx
    · exact hr
    · exact h.holds x hx
  · simp only [List.map_cons, List.nodup_cons]
    exact ⟨fun hm => by obtain ⟨x, hx, e⟩ := List.mem_map.1 hm; exact hn x hx e, h.nd⟩
  · rcases List.mem_cons.1 hx with rfl | hx
    · exact ho
    · exact h.own x hx
/-- One block that may be written is turned. -/
theorem St.turn {o : Bool} {r' : Res} (h : St w0 F w L) (hu : Upd L (b, true, r) (b, o, r') L') (hO : Only [b] w w') (hr : r'.holds w'.heap[b]?) : St w0 F w' L' := by
  have hown : b ∈ F ∨ w0.heap.size ≤ b := h.own _ hu.mem rfl
  have hF : ∀ x ∈ [b], x ∈ F ∨ w0.heap.size ≤ x := fun x hx => by
    have e : x = b := by simpa using hx
    rw [e]; exact hown
  refine ⟨h.only.then hO hF, fun x hx => ?_, ?_, fun x hx hx1 => ?_⟩
  · rcases hu.other h.nd hx with rfl | ⟨hx, hne⟩
    · exact hr
    · rw [hO.block x.1 (h.lt hx) (by simpa using hne)]
      exact h.holds x hx
  · rw [hu.keys rfl]; exact h.nd
  · rcases hu.other h.nd hx with rfl | ⟨hx, hne⟩
    · exact hown
    · exact h.own x hx hx1
theorem Has.turn {b : Nat} (h : Has L w) (hO : Only [b] w w') (hb : ∀ x ∈ L, x.1 ≠ b) : Has L w' := fun x hx => by
  rw [hO.block x.1 (h.lt hx) (by simpa using hb x hx)]; exact h x hx
theorem only_setCell (b o : Nat) (v : Value) : Only [b] w (w.setCell ⟨b, o, none⟩ v) := (Only.refl [b] w).setCell (p := ⟨b, o, none⟩) (.inl (by simp)) v
theorem only_setCells (b : Nat) : ∀ (vs : List Value) (o : Nat) (w : World), Only [b] w (w.setCells b o vs)
  | [], _, w => Only.refl _ w
  | v :: r, o, w => (only_setCell b o v).trans (only_setCells b r (o + 1) _)
/-- What is no longer of use is forgotten. -/
theorem St.drop (h : St w0 F w L) (hs : ∀ x ∈ L', x ∈ L) (hnd : (L'.map (·.1)).Nodup) : St w0 F w L' := ⟨h.only, fun x hx => h.holds x (hs x hx), hnd, fun x hx => h.own x (hs x hx)⟩
theorem St.forget {x : Ent} (h : St w0 F w (x :: L)) : St w0 F w L := h.drop (fun _ h => .tail _ h) (by have := h.nd; simp only [List.map_cons, List.nodup_cons] at this; exact this.2)
end
theorem over_append : ∀ (vs cs rest : List Value) (q : Nat), q + vs.length ≤ cs.length → over (cs ++ rest) q vs = over cs q vs ++ rest
  | [], _, _, _, _ => rfl
  | v :: r, cs, rest, q, h => by
    simp only [List.length_cons] at h
    unfold over
    rw [List.set_append_left _ _ (by omega)]
    exact over_append r (cs.set q v) rest (q + 1) (by rw [List.length_set]; omega)
theorem over_length : ∀ (vs cs : List Value) (q : Nat), (over cs q vs).length = cs.length
  | [], _, _ => rfl
  | v :: r, cs, q => by unfold over; rw [over_length r]; simp
section
variable {w : World} {b q : Nat} {r : Res}
/-- A block of which cells are known from its beginning on. -/
theorem Res.whole (h : r.holds w.heap[b]?) (hk : q < r.known.length) : ∃ rest t, Blk w b (r.known ++ rest) t ∧ (∀ cs, cs.length = r.known.length → ∀ w' : World, Blk w' b (cs ++ rest) t → (r.put cs).holds w'.heap[b]?) := by
  cases r with
  | cells cs t =>
    refine ⟨[], t, ?_, fun cs' _ w' hw' => ?_⟩
    · unfold Blk; rw [List.append_nil]; exact h
    · rw [List.append_nil] at hw'; exact hw'
  | pre cs t n =>
    obtain ⟨rest, hx, hn⟩ := h
    refine ⟨rest, t, hx, fun cs' hl w' hw' => ⟨rest, hw', ?_⟩⟩
    simp only [Res.known] at hl
    rw [List.length_append] at hn ⊢
    omega
  | part off cs => exact absurd hk (by simp [Res.known])
  | obj p => exact absurd hk (by simp [Res.known])
theorem Res.cell (h : r.holds w.heap[b]?) {v : Value} (hv : r.known[q]? = some v) : w.cell? ⟨b, q, none⟩ = some v := by
  have hq : q < r.known.length := (List.getElem?_eq_some_iff.1 hv).1
  obtain ⟨rest, t, hb, -⟩ := Res.whole h hq
  rw [hb.cell, List.getElem?_append_left hq, hv]
theorem Res.range (h : r.holds w.heap[b]?) {n : Nat} (hl : q + n ≤ r.known.length) : w.rangeAt b q ((r.known.drop q).take n) := fun j v hv => by
  rw [List.getElem?_take] at hv
  split at hv
  · rw [List.getElem?_drop] at hv
    exact Res.cell h hv
  · cases hv
end
/-- A type whose variable is one cell. -/
def oneB (P : Program) (t : TypeId) : Bool := (match P.underlying t with | some d => !d.isRow | none => false) && ((P.info? t).map (·.size) == some 1)
/-- A function with a body. -/
def bodyB (P : Program) (f : FuncId) : Bool := match P.funcs[f]? with | some fn => fn.body.isSome && fn.name != "runtime.NumGoroutine" | none => false
section
variable {P : Program} {t : TypeId} {w : World}
theorem oneB_spec (h : oneB P t = true) : ∃ d, P.underlying t = some d ∧ d.isRow = false ∧ (P.info? t).map (·.size) = some 1 := by
  unfold oneB at h
  simp only [Bool.and_eq_true] at h
  obtain ⟨h1, h2⟩ := h
  cases hu : P.underlying t with
  | none => rw [hu] at h1; cases h1
  | some d => rw [hu] at h1; exact ⟨d, rfl, by simpa using h1, by simpa using h2⟩
theorem run_loadVar_one (h : oneB P t = true) {a : Addr} {v : Value} (hv : w.cell? a = some v) : (loadVar t a).run P w = .ok v w := by
  obtain ⟨d, h1, h2, -⟩ := oneB_spec h
  have hagg : (isAgg t).run P w = .ok false w := by
    unfold isAgg
    rw [Sem.run_bind, run_underlying h1 w]
    cases d <;> simp_all
  unfold loadVar
  rw [Sem.run_bind, hagg]
  simp [load, Sem.run, hv]
theorem run_storeVar_one (h : oneB P t = true) {a : Addr} {v u : Value} (hv : w.cell? a = some u) (hf : w.frozen? a = false) (h1 : v.oneCell' = true) : (storeVar t a v).run P w = .ok () (w.setCell a v) := by
  obtain ⟨d, -, -, h2⟩ := oneB_spec h
  cases hq : P.info? t with
  | none => simp [hq] at h2
  | some i =>
    have hs : i.size = 1 := by simpa [hq] using h2
    unfold storeVar
    cases v <;> simp_all [Value.oneCell', sizeOf, typeInfo, Value.cells, storeCells, store, Sem.run, Addr.add]
end
section
variable {P : Program} {K : Act → World → Prop} {a : Act} {w w0 : World} {ops : Array Oper} {l : List (Oper × Nat)} {c : Nat} {o : Oper} {F : List Nat} {L L' Lr : List Ent} {b q : Nat} {ty t : TypeId} {x y : Operand} {cs : List Value} {ow : Bool} {S : World → Prop}
/-- Operations that look at no memory. -/
def softOp : Op → Bool
  | .move _ | .assign _ | .pick .. | .nilCheck _ | .binOp .. | .unOp .. | .convert .. | .fieldAddr .. | .field .. | .index .. | .indexAddr .. | .extract .. | .slice .. | .build .. | .makeInterface .. | .makeFunc .. => true
  | .call { callee := .builtin .len, .. } | .call { callee := .builtin .min, .. } | .call { callee := .builtin .max, .. } | .call { callee := .builtin .cap, .. } => true
  | _ => false
/-- The types of this program that are structs, or arrays, and how many cells they have: looked up while a walk is made. -/
def rowTab : List (Nat × Nat) := [(7, 4), (8, 4), (13, 2), (14, 2), (18, 1), (19, 1), (35, 8), (36, 8), (42, 3), (43, 3), (55, 4), (56, 4), (59, 5), (60, 5), (62, 6), (63, 6), (69, 2), (70, 2), (114, 2), (115, 2), (157, 256), (158, 256), (170, 4), (171, 4), (172, 0), (173, 0), (174, 0), (180, 11), (181, 11)]
def sizeIn : List (Nat × Nat) → Nat → Option Nat
  | [], _ => none
  | (x, s) :: r, n => bif Nat.beq x n then some s else sizeIn r n
/-- The types of this program that are slices: their elements' types, cells and bytes. -/
def elemTab : List (Nat × Nat × Nat × Nat) := [(22, 36, 8, 80), (40, 63, 6, 72), (51, 9, 1, 16), (61, 70, 2, 24), (71, 3, 1, 8), (103, 5, 1, 1)]
def elemIn : List (Nat × Nat × Nat × Nat) → Nat → Option (Nat × Nat × Nat)
  | [], _ => none
  | (x, s) :: r, n => bif Nat.beq x n then some s else elemIn r n
/-- A value alone. -/
theorem St.pure (hk : softOp o.op = true) (hc : (c == 0 || c == 2 || c == 3) = true) {v : Value} (hw : Region.wanted o (yielded ops a.tmps) = true) (hy : ∀ w, (execOp a.eval o).run P w = .ok (.value v) w) (h : wpSeq P ops K S l (a.put o.dst v) w) : wpSeq P ops K S ((o, c) :: l) a w := by
  match c with
  | 0 => exact wpSeq_at0 hw hy h
  | 1 => cases hc
  | 2 => exact wpSeq_yields rfl hw (hy w) h
  | 3 => exact wpSeq_yields rfl hw (hy w) h
  | c + 4 => simp at hc
theorem run_load_one (hx : o.op = .load ty x) {ad : Addr} (hev : a.eval x = .pointer (some ad)) {w : World} {v : Value} (hv : w.cell? ad = some v) (h1 : oneB P ty = true) : (execOp a.eval o).run P w = .ok (.value v) w := by
  unfold execOp
  simp only [hx, hev, Instr.loadAt, Instr.sureAddr, Sem.run_bind, Sem.run_pure, Result.andThen_ok, run_loadVar_one h1 hv]
theorem run_load_row (hx : o.op = .load ty x) (hev : a.eval x = .pointer (some ⟨b, q, none⟩)) {w : World} (vs : List Value) (hv : w.rangeAt b q vs) (h1 : rowB P ty vs.length = true) : (execOp a.eval o).run P w = .ok (.value (.agg vs.toArray)) w := by
  obtain ⟨d, e1, e2, e3⟩ := rowB_spec h1
  unfold execOp
  simp only [hx, hev, Instr.loadAt, Instr.sureAddr, Sem.run_bind, Sem.run_pure, Result.andThen_ok, run_loadVar_mid w b q ty vs d hv e1 e2 e3]
/-- A cell is read. -/
theorem St.load (hx : o.op = .load ty x) (hM : St w0 F w L) (hc : (c == 2 || c == 3) = true) (hw : Region.wanted o (yielded ops a.tmps) = true) (hT : sizeIn rowTab ty = none) (hev : a.eval x = .pointer (some ⟨b, q, none⟩)) {r : Res} (hm : (b, ow, r) ∈ L) {v : Value} (hv : r.known[q]? = some v) (h1 : oneB P ty = true)
    (h : wpSeq P ops K S l (a.put o.dst v) w) : wpSeq P ops K S ((o, c) :: l) a w :=
  wpSeq_yields hc hw (run_load_one hx hev (Res.cell (hM.holds _ hm) hv) h1) h
theorem St.load1 (hx : o.op = .load ty x) (hw : Region.wanted o (yielded ops a.tmps) = true) (hT : sizeIn rowTab ty = none) (hev : a.eval x = .pointer (some ⟨b, q, none⟩)) {r : Res} (hm : (b, ow, r) ∈ Lr) {v : Value} (hv : r.known[q]? = some v) (h1 : oneB P ty = true)
    (h : wpSeq P ops K (Held w0 F Lr) l (a.put o.dst v) w) : wpSeq P ops K (Held w0 F Lr) ((o, 1) :: l) a w :=
  wpSeq_at1 hw (fun w hS => run_load_one hx hev (Res.cell (hS.has _ hm) hv) h1) h
/-- A cell of which a fact tells. -/
theorem St.loadF (hx : o.op = .load ty x) (hc : (c == 2 || c == 3) = true) (hw : Region.wanted o (yielded ops a.tmps) = true) (hT : sizeIn rowTab ty = none) {ad : Addr} (hev : a.eval x = .pointer (some ad)) {v : Value} (hv : w.cell? ad = some v) (h1 : oneB P ty = true)
    (h : wpSeq P ops K S l (a.put o.dst v) w) : wpSeq P ops K S ((o, c) :: l) a w :=
  wpSeq_yields hc hw (run_load_one hx hev hv h1) h
theorem St.loadF1 (hx : o.op = .load ty x) (hw : Region.wanted o (yielded ops a.tmps) = true) (hT : sizeIn rowTab ty = none) {ad : Addr} (hev : a.eval x = .pointer (some ad)) {v : Value} (hv : ∀ w, S w → w.cell? ad = some v) (h1 : oneB P ty = true)
    (h : wpSeq P ops K S l (a.put o.dst v) w) : wpSeq P ops K S ((o, 1) :: l) a w :=
  wpSeq_at1 hw (fun w hS => run_load_one hx hev (hv w hS) h1) h
/-- A struct, or an array, is read. -/
theorem St.loadRow (hx : o.op = .load ty x) (hM : St w0 F w L) (hc : (c == 2 || c == 3) = true) (hw : Region.wanted o (yielded ops a.tmps) = true) {n : Nat} (hT : sizeIn rowTab ty = some n) (hev : a.eval x = .pointer (some ⟨b, q, none⟩)) {r : Res} (hm : (b, ow, r) ∈ L) (hl : q + n ≤ r.known.length) (h1 : rowB P ty n = true)
    (h : wpSeq P ops K S l (a.put o.dst (.agg ((r.known.drop q).take n).toArray)) w) : wpSeq P ops K S ((o, c) :: l) a w := by
  have hn : ((r.known.drop q).take n).length = n := by rw [List.length_take, List.length_drop]; omega
  exact wpSeq_yields hc hw (run_load_row hx hev _ (Res.range (hM.holds _ hm) hl) (by rw [hn]; exact h1)) h
theorem St.loadRow1 (hx : o.op = .load ty x) (hw : Region.wanted o (yielded ops a.tmps) = true) {n : Nat} (hT : sizeIn rowTab ty = some n) (hev : a.eval x = .pointer (some ⟨b, q, none⟩)) {r : Res} (hm : (b, ow, r) ∈ Lr) (hl : q + n ≤ r.known.length) (h1 : rowB P ty n = true)
    (h : wpSeq P ops K (Held w0 F Lr) l (a.put o.dst (.agg ((r.known.drop q).take n).toArray)) w) : wpSeq P ops K (Held w0 F Lr) ((o, 1) :: l) a w := by
  have hn : ((r.known.drop q).take n).length = n := by rw [List.length_take, List.length_drop]; omega
  exact wpSeq_at1 hw (fun w hS => run_load_row hx hev _ (Res.range (hS.has _ hm) hl) (by rw [hn]; exact h1)) h
/-- A struct of which a fact tells. -/
theorem St.loadRowF (hx : o.op = .load ty x) (hc : (c == 2 || c == 3) = true) (hw : Region.wanted o (yielded ops a.tmps) = true) {n : Nat} (hT : sizeIn rowTab ty = some n) (hev : a.eval x = .pointer (some ⟨b, q, none⟩)) {vs : List Value} (hv : w.rangeAt b q vs) (h1 : rowB P ty vs.length = true)
    (h : wpSeq P ops K S l (a.put o.dst (.agg vs.toArray)) w) : wpSeq P ops K S ((o, c) :: l) a w :=
  wpSeq_yields hc hw (run_load_row hx hev vs hv h1) h
theorem St.loadRowF1 (hx : o.op = .load ty x) (hw : Region.wanted o (yielded ops a.tmps) = true) {n : Nat} (hT : sizeIn rowTab ty = some n) (hev : a.eval x = .pointer (some ⟨b, q, none⟩)) {vs : List Value} (hv : ∀ w, S w → w.rangeAt b q vs) (h1 : rowB P ty vs.length = true)
    (h : wpSeq P ops K S l (a.put o.dst (.agg vs.toArray)) w) : wpSeq P ops K S ((o, 1) :: l) a w :=
  wpSeq_at1 hw (fun w hS => run_load_row hx hev vs (hv w hS) h1) h
/-- A cell is written. -/
theorem St.store (hx : o.op = .store ty x y) (hM : St w0 F w L) (hc : (c == 2 || c == 3) = true) (hw : Region.wanted o (yielded ops a.tmps) = true) (hT : sizeIn rowTab ty = none) (hev : a.eval x = .pointer (some ⟨b, q, none⟩)) {v : Value} (hy : a.eval y = v) {r : Res} (hu : Upd L (b, true, r) (b, true, r.put (r.known.set q v)) L') (hq : q < r.known.length) (h1 : oneB P ty = true) (hv : v.oneCell' = true)
    (hS : c = 2 → Rest L (b, true, r) Lr) (h : ∀ w', St w0 F w' L' → wpSeq P ops K (Held w0 F Lr) l (a.put o.dst undef) w') : wpSeq P ops K (Held w0 F Lr) ((o, c) :: l) a w := by
  have hr : r.holds w.heap[b]? := hM.holds _ hu.mem
  have hown : ∀ x ∈ [b], x ∈ F ∨ w0.heap.size ≤ x := fun x hx => by
    have e : x = b := by simpa using hx
    rw [e]; exact hM.own _ hu.mem rfl
  obtain ⟨rest, t, hb, hput⟩ := Res.whole hr hq
  have hrun : (execOp a.eval o).run P w = .ok .skip (w.setCell ⟨b, q, none⟩ v) := by
    unfold execOp
    simp only [hx, hev, hy, Instr.storeAt, Instr.sureAddr, Sem.run_bind, Sem.run_pure, Result.andThen_ok, run_storeVar_one h1 (Res.cell hr (List.getElem?_eq_getElem hq)) (hb.free q) hv]
  have hres := hput (r.known.set q v) (by simp) (w.setCell ⟨b, q, none⟩ v) (by have := hb.setCell q v; rwa [List.set_append_left _ _ hq] at this)
  exact wpSeq_turns hc hw hrun (.inr ⟨rfl, rfl⟩) (fun h2 hh => ⟨hh.only.then (only_setCell b q v) hown, hh.has.turn (only_setCell b q v) ((hS h2).apart hM.nd)⟩) (h _ (hM.turn hu (only_setCell b q v) hres))
/-- A struct, or an array, is written. -/
theorem St.storeRow (hx : o.op = .store ty x y) (hM : St w0 F w L) (hc : (c == 2 || c == 3) = true) (hw : Region.wanted o (yielded ops a.tmps) = true) {n : Nat} (hT : sizeIn rowTab ty = some n) (hev : a.eval x = .pointer (some ⟨b, q, none⟩)) {vs : Array Value} (hy : a.eval y = .agg vs) {r : Res} (hu : Upd L (b, true, r) (b, true, r.put (over r.known q vs.toList)) L') (hq : q + vs.size ≤ r.known.length) (h0 : 0 < vs.size) (h1 : rowB P ty vs.size = true) (hv0 : vs.toList.all (·.oneCell') = true)
    (hS : c = 2 → Rest L (b, true, r) Lr) (h : ∀ w', St w0 F w' L' → wpSeq P ops K (Held w0 F Lr) l (a.put o.dst undef) w') : wpSeq P ops K (Held w0 F Lr) ((o, c) :: l) a w := by
  have hr : r.holds w.heap[b]? := hM.holds _ hu.mem
  have hown : ∀ x ∈ [b], x ∈ F ∨ w0.heap.size ≤ x := fun x hx => by
    have e : x = b := by simpa using hx
    rw [e]; exact hM.own _ hu.mem rfl
  obtain ⟨rest, t, hb, hput⟩ := Res.whole (q := q) hr (by omega)
  have hv : vs.all (·.oneCell') = true := by simpa using hv0
  obtain ⟨d, -, -, e3⟩ := rowB_spec h1
  have hrun : (execOp a.eval o).run P w = .ok .skip (w.setCells b q vs.toList) := by
    unfold execOp
    simp only [hx, hev, hy, Instr.storeAt, Instr.sureAddr, Sem.run_bind, Sem.run_pure, Result.andThen_ok, run_storeVar_mid w b q ty vs (hb.there q vs.size (by rw [List.length_append]; omega)) e3 hv]
  have hres := hput (over r.known q vs.toList) (over_length _ _ _) (w.setCells b q vs.toList) (by have := hb.setCells vs.toList q; rwa [over_append _ _ _ _ (by simpa using hq)] at this)
  exact wpSeq_turns hc hw hrun (.inr ⟨rfl, rfl⟩) (fun h2 hh => ⟨hh.only.then (only_setCells b vs.toList q w) hown, hh.has.turn (only_setCells b vs.toList q w) ((hS h2).apart hM.nd)⟩) (h _ (hM.turn hu (only_setCells b vs.toList q w) hres))
/-- A new block: what is handed back is told of its number. -/
theorem St.make (hM : St w0 F w L) (hc : (c == 2 || c == 3) = true) (hw : Region.wanted o (yielded ops a.tmps) = true) (v : Nat → Value) {ob : Obj} (hy : ∀ w, (execOp a.eval o).run P w = .ok (.value (v w.heap.size)) (w.alloc ob)) {r : Res} (hr : r.holds (some ob))
    (h : ∀ w' b, St w0 F w' ((b, true, r) :: L) → wpSeq P ops K (Held w0 F Lr) l (a.put o.dst (v b)) w') : wpSeq P ops K (Held w0 F Lr) ((o, c) :: l) a w :=
  wpSeq_turns hc hw (hy w) (.inl rfl) (fun _ hh => ⟨hh.only.alloc ob, hh.has.push ob⟩) (h _ _ (hM.push ob hr))
/-- A new struct. -/
theorem St.box (hx : o.op = .box ty x) (hM : St w0 F w L) (hc : (c == 2 || c == 3) = true) (hw : Region.wanted o (yielded ops a.tmps) = true) {v : Value} (hev : a.eval x = v)
    (h : ∀ w' b, St w0 F w' ((b, true, .cells v.cells.toList ty) :: L) → wpSeq P ops K (Held w0 F Lr) l (a.put o.dst (.pointer (some ⟨b, 0, none⟩))) w') : wpSeq P ops K (Held w0 F Lr) ((o, c) :: l) a w := by
  refine St.make hM hc hw (fun b => .pointer (some ⟨b, 0, none⟩)) (ob := .cells v.cells ty) (fun w => ?_) (by simp [Res.holds]) h
  unfold execOp
  simp only [hx, hev, Instr.box, newVar, newRow, newObj, Sem.run_bind, Sem.run_pure]
  simp [Sem.run]
theorem St.alloc (hx : o.op = .alloc ty) (hM : St w0 F w L) (hc : (c == 2 || c == 3) = true) (hw : Region.wanted o (yielded ops a.tmps) = true) {z : Value} (hz : ((P.info? ty).bind (·.zero)) = some z)
    (h : ∀ w' b, St w0 F w' ((b, true, .cells z.cells.toList ty) :: L) → wpSeq P ops K (Held w0 F Lr) l (a.put o.dst (.pointer (some ⟨b, 0, none⟩))) w') : wpSeq P ops K (Held w0 F Lr) ((o, c) :: l) a w := by
  refine St.make hM hc hw (fun b => .pointer (some ⟨b, 0, none⟩)) (ob := .cells z.cells ty) (fun w => ?_) (by simp [Res.holds]) h
  cases hq : P.info? ty with
  | none => rw [hq] at hz; cases hz
  | some i =>
    rw [hq] at hz
    simp only [Option.bind_some] at hz
    unfold execOp
    simp only [hx, Instr.alloc, zeroValue, typeInfo, Sem.run_bind, Sem.run_pure, Result.andThen_ok, run_program, hq, hz, newVar, newRow, newObj]
    simp [Sem.run]
theorem St.perm (h : St w0 F w L) (hp : L.Perm L') : St w0 F w L' :=
  ⟨h.only, fun x hx => h.holds x (hp.mem_iff.2 hx), (hp.map (·.1)).nodup_iff.1 h.nd, fun x hx => h.own x (hp.mem_iff.2 hx)⟩
/-- A function is called by its name. -/
theorem run_call (w : World) {f : FuncId} {ags : Array Operand} {ts : Array TypeId} (hx : o.op = .call { callee := .value (.func f), args := ags, argTypes := ts }) (hf : bodyB P f = true) {args : Array Value} (hargs : ags.map a.eval = args) : (execOp a.eval o).run P w = .ok (.enter f args) w := by
  unfold bodyB at hf
  cases hq : P.funcs[f]? with
  | none => rw [hq] at hf; cases hf
  | some fn =>
    rw [hq] at hf
    simp only [Bool.and_eq_true, bne_iff_ne] at hf
    obtain ⟨g1, g2⟩ := hf
    have g3 : (fn.name == "runtime.NumGoroutine") = false := by simpa using g2
    have g4 : fn.body.isNone = false := by cases hb : fn.body <;> simp_all
    unfold execOp
    simp only [hx, resolve, Act.eval, Deferred.ofValue, Sem.run_bind, Sem.run_pure, Result.andThen_ok, invoke, callFunc, run_program, hq, g3, g4, Array.append_empty, hargs]
    simp
theorem St.call {f : FuncId} {ags : Array Operand} {ts : Array TypeId} (hx : o.op = .call { callee := .value (.func f), args := ags, argTypes := ts }) (hc : (c == 2 || c == 3) = true) (hw : Region.wanted o (yielded ops a.tmps) = true)  (hf : bodyB P f = true)
    (h : ∀ R : Ending → World → Prop, Shut (∀ v w', (S w → S w') → wpSeq P ops K S l (a.put o.dst v) w' → R (.returned v) w') → Calls P f (ags.map a.eval) w R) : wpSeq P ops K S ((o, c) :: l) a w :=
  wpSeq_calls hc hw (run_call w hx hf rfl) (h (fun e w' => ∃ v, e = .returned v ∧ (S w → S w') ∧ wpSeq P ops K S l (a.put o.dst v) w') fun v w' h1 h2 => ⟨v, rfl, h1, h2⟩)
    fun _ _ ⟨v, h1, h2, h3⟩ => ⟨v, h1, fun _ => h2, h3⟩
end
theorem getD_lit {α : Type} (l : List α) (n : Nat) (d : α) : l.toArray.getD n d = l.getD n d := by
  simp only [Array.getD, List.size_toArray, List.getD, List.getElem_toArray]
  split
  · rename_i h; rw [List.getElem?_eq_getElem h]; rfl
  · rename_i h; rw [List.getElem?_eq_none (by omega)]; rfl
section
variable {P : Program} {K : Act → World → Prop} {a : Act} {w w0 : World} {ops : Array Oper} {l : List (Oper × Nat)} {c : Nat} {o : Oper} {F : List Nat} {L Lr : List Ent} {ty t : TypeId} {x y : Operand} {S : World → Prop}
theorem ba_size (x : Array UInt8) : (ByteArray.mk x).size = x.size := rfl
theorem run_cat (w : World) (hx : o.op = .binOp .add ty x y t) {s u : ByteArray} (e1 : a.eval x = .string s) (e2 : a.eval y = .string u) (h : s.size + u.size ≤ 9223372036854775807) : (execOp a.eval o).run P w = .ok (.value (.string (s ++ u))) w := by
  have h1 : ¬ ((s.size + u.size : Nat) : Int) > IntKind.i64.max := by
    have : IntKind.i64.max = 9223372036854775807 := by decide
    omega
  unfold execOp
  simp only [hx, e1, e2, eqGuard, binOp, Op.stringOp, h1, Bool.not_false, if_true, if_false, Sem.run_bind, Sem.run_pure, Result.andThen_ok]
/-- Texts put together. -/
theorem St.cat (hx : o.op = .binOp .add ty x y t) (hc : (c == 0 || c == 2 || c == 3) = true) (hw : Region.wanted o (yielded ops a.tmps) = true) {s u : ByteArray} (e1 : a.eval x = .string s) (e2 : a.eval y = .string u) (hl : s.size + u.size ≤ 9223372036854775807) (h : wpSeq P ops K S l (a.put o.dst (.string (s ++ u))) w) : wpSeq P ops K S ((o, c) :: l) a w := by
  match c with
  | 0 => exact wpSeq_at0 hw (fun w => run_cat w hx e1 e2 hl) h
  | 1 => cases hc
  | 2 => exact wpSeq_yields rfl hw (run_cat w hx e1 e2 hl) h
  | 3 => exact wpSeq_yields rfl hw (run_cat w hx e1 e2 hl) h
  | c + 4 => simp at hc
theorem wrap_in (n : Int) (h : -9223372036854775808 ≤ n ∧ n ≤ 9223372036854775807) : IntKind.i64.wrap n = n := by rw [IntKind.wrap_i64]; omega
theorem run_addI (w : World) (hx : o.op = .binOp .add ty x y t) {n m : Int} (e1 : a.eval x = .int .i64 n) (e2 : a.eval y = .int .i64 m) (h : -9223372036854775808 ≤ n + m ∧ n + m ≤ 9223372036854775807) : (execOp a.eval o).run P w = .ok (.value (.int .i64 (n + m))) w := by
  unfold execOp
  simp only [hx, e1, e2, eqGuard, binOp, Op.intArith, wrap_in _ h, ne_eq, not_true_eq_false, Bool.not_false, if_true, if_false, Sem.run_bind, Sem.run_pure, Result.andThen_ok]
/-- One more. -/
theorem St.inc (hx : o.op = .binOp .add ty x y t) (hc : (c == 0 || c == 2 || c == 3) = true) (hw : Region.wanted o (yielded ops a.tmps) = true) {k : Nat} (e2 : a.eval y = .int .i64 1) (e1 : a.eval x = .int .i64 (k : Int)) (hl : k + 1 ≤ 9223372036854775807) (h : wpSeq P ops K S l (a.put o.dst (.int .i64 ((k + 1 : Nat) : Int))) w) : wpSeq P ops K S ((o, c) :: l) a w := by
  have hr : ∀ w, (execOp a.eval o).run P w = .ok (.value (.int .i64 ((k + 1 : Nat) : Int))) w := fun w => by
    have := run_addI (P := P) (a := a) (o := o) w hx e1 e2 (by omega)
    rw [this]
    simp
  match c with
  | 0 => exact wpSeq_at0 hw hr h
  | 1 => cases hc
  | 2 => exact wpSeq_yields rfl hw (hr w) h
  | 3 => exact wpSeq_yields rfl hw (hr w) h
  | c + 4 => simp at hc
theorem run_move (w : World) (hx : o.op = .move x) {v : Value} (e : a.eval x = v) : (execOp a.eval o).run P w = .ok (.value v) w := by
  unfold execOp
  simp only [hx, e, Sem.run_pure]
theorem run_assign (w : World) (hx : o.op = .assign x) {v : Value} (e : a.eval x = v) : (execOp a.eval o).run P w = .ok (.value v) w := by
  unfold execOp
  simp only [hx, e, Sem.run_pure]
theorem St.soft (hc : (c == 0 || c == 2 || c == 3) = true) (hw : Region.wanted o (yielded ops a.tmps) = true) {v : Value} (hr : ∀ w, (execOp a.eval o).run P w = .ok (.value v) w) (h : wpSeq P ops K S l (a.put o.dst v) w) : wpSeq P ops K S ((o, c) :: l) a w := by
  match c with
  | 0 => exact wpSeq_at0 hw hr h
  | 1 => cases hc
  | 2 => exact wpSeq_yields rfl hw (hr w) h
  | 3 => exact wpSeq_yields rfl hw (hr w) h
  | c + 4 => simp at hc
/-- A copy. -/
theorem St.move (hx : o.op = .move x) (hc : (c == 0 || c == 2 || c == 3) = true) (hw : Region.wanted o (yielded ops a.tmps) = true) {v : Value} (e : a.eval x = v) (h : wpSeq P ops K S l (a.put o.dst v) w) : wpSeq P ops K S ((o, c) :: l) a w := St.soft hc hw (fun w => run_move w hx e) h
/-- A copy, by either word. -/
theorem St.copy (hx : o.op = .move x ∨ o.op = .assign x) (hc : (c == 0 || c == 2 || c == 3) = true) (hw : Region.wanted o (yielded ops a.tmps) = true) {v : Value} (e : a.eval x = v) (h : wpSeq P ops K S l (a.put o.dst v) w) : wpSeq P ops K S ((o, c) :: l) a w := St.soft hc hw (fun w => hx.elim (fun hx => run_move w hx e) (fun hx => run_assign w hx e)) h
theorem St.assign (hx : o.op = .assign x) (hc : (c == 0 || c == 2 || c == 3) = true) (hw : Region.wanted o (yielded ops a.tmps) = true) {v : Value} (e : a.eval x = v) (h : wpSeq P ops K S l (a.put o.dst v) w) : wpSeq P ops K S ((o, c) :: l) a w := St.soft hc hw (fun w => run_assign w hx e) h
/-- A slice of parts that are told. -/
theorem St.buildSlice {n : Nat} {ps : Array (Nat × Operand)} (hx : o.op = .buildSlice ty n ps) (hM : St w0 F w L) (hc : (c == 2 || c == 3) = true) (hw : Region.wanted o (yielded ops a.tmps) = true) {cells : Array Value} {e : TypeId} (hy : ∀ w : World, (execOp a.eval o).run P w = .ok (.value (.slice (some ⟨w.heap.size, 0, none⟩) n n)) (w.alloc (.cells cells e)))
    (h : ∀ w' b, St w0 F w' ((b, true, .cells cells.toList e) :: L) → wpSeq P ops K (Held w0 F Lr) l (a.put o.dst (.slice (some ⟨b, 0, none⟩) n n)) w') : wpSeq P ops K (Held w0 F Lr) ((o, c) :: l) a w :=
  St.make hM hc hw (fun b => .slice (some ⟨b, 0, none⟩) n n) hy (by simp [Res.holds]) h
end
/-! ### Slices of the call's own, that grow -/
/-- A slice of the call's own: nil, or block 'g' with room for 'cap' elements. -/
def slV : Option (Nat × Nat) → Nat → Value
  | none, _ => .slice none 0 0
  | some (g, cap), n => .slice (some ⟨g, 0, none⟩) n cap
def slL : Option (Nat × Nat) → List Value → TypeId → Nat → List Ent
  | none, _, _, _ => []
  | some (g, cap), xs, e, size => [(g, true, .pre xs e (cap * size))]
/-- 'n' elements, of 'size' cells each: no block is none of them. -/
def SlOK (s : Option (Nat × Nat)) (n : Nat) (xs : List Value) (size : Nat) : Prop :=
  xs.length = n * size ∧ match s with
    | none => n = 0
    | some (_, cap) => n ≤ cap ∧ cap ≤ maxLen
/-- One part of a list is turned. -/
inductive Swap : List Ent → List Ent → List Ent → List Ent → Prop where
  | all {M M' : List Ent} : Swap M M M' M'
  | here {M M' R : List Ent} : Swap (M ++ R) M M' (M' ++ R)
  | skip {x : Ent} {L M M' L' : List Ent} (h : Swap L M M' L') : Swap (x :: L) M M' (x :: L')
  | past {N L M M' L' : List Ent} (h : Swap L M M' L') : Swap (N ++ L) M M' (N ++ L')
theorem Swap.one {x : Ent} {M' R : List Ent} : Swap (x :: R) [x] M' (M' ++ R) := Swap.here (M := [x])
theorem Swap.split {L M M' L' : List Ent} (h : Swap L M M' L') : ∃ A B, L = A ++ (M ++ B) ∧ L' = A ++ (M' ++ B) := by
  induction h with
  | all => exact ⟨[], [], by simp, by simp⟩
  | here => exact ⟨[], _, rfl, rfl⟩
  | @skip x _ _ _ _ _ ih => obtain ⟨A, B, h1, h2⟩ := ih; exact ⟨x :: A, B, by rw [h1]; rfl, by rw [h2]; rfl⟩
  | @past N _ _ _ _ _ ih => obtain ⟨A, B, h1, h2⟩ := ih; exact ⟨N ++ A, B, by rw [h1, List.append_assoc], by rw [h2, List.append_assoc]⟩
/-- What append asks of a slice's type: its elements' type, cells and bytes. -/
def appB (P : Program) (t e : TypeId) (size bytes : Nat) : Bool :=
  (match P.underlying t with | some (.slice e') => e' == e | _ => false) &&
  (match P.info? e with | some i => i.size == size && i.bytes == bytes && (match i.zero with | some z => z.cells.size == size | none => false) | none => false) && decide (0 < size)
section
variable {P : Program} {K : Act → World → Prop} {a : Act} {w w0 : World} {ops : Array Oper} {l : List (Oper × Nat)} {c : Nat} {o : Oper} {F : List Nat} {L Lr : List Ent} {t e : TypeId} {x y : Operand}
theorem appB_spec {size bytes : Nat} (h : appB P t e size bytes = true) : ∃ i z, P.underlying t = some (.slice e) ∧ P.info? e = some i ∧ i.zero = some z ∧ i.size = size ∧ i.bytes = bytes ∧ z.cells.size = size ∧ 0 < size := by
  unfold appB at h
  simp only [Bool.and_eq_true, decide_eq_true_eq] at h
  obtain ⟨⟨h1, h2⟩, h3⟩ := h
  split at h1
  · rename_i e' hu
    have he : e' = e := by simpa using h1
    subst he
    split at h2
    · rename_i i hi
      simp only [Bool.and_eq_true, beq_iff_eq] at h2
      obtain ⟨⟨g1, g2⟩, g3⟩ := h2
      split at g3
      · rename_i z hz
        exact ⟨i, z, hu, hi, hz, g1, g2, by simpa using g3, h3⟩
      · cases g3
    · cases h2
  · cases h1
theorem ownsRow_of {s : Option (Nat × Nat)} {n size : Nat} {xs : List Value} (h : ∀ z ∈ slL s xs e size, z.2.2.holds w.heap[z.1]?) (hk : SlOK s n xs size) : w.ownsRow 0 e size (slV s n) n xs := by
  obtain ⟨hl, hk⟩ := hk
  refine ⟨hl, ?_⟩
  match s with
  | none => exact .inl ⟨rfl, hk⟩
  | some (g, cap) =>
    obtain ⟨rest, hb, hn⟩ := h _ (List.mem_singleton.2 rfl)
    refine .inr ⟨g, cap, (xs ++ rest).toArray, rfl, Nat.zero_le _, hb, hk.1, hk.2, by simpa using hn, ?_⟩
    rw [← hl]
    simp
theorem of_ownsRow {v : Value} {n size : Nat} {xs : List Value} (h : w.ownsRow 0 e size v n xs) : ∃ s, v = slV s n ∧ SlOK s n xs size ∧ (∀ z ∈ slL s xs e size, z.2.2.holds w.heap[z.1]?) ∧ v.ownBlock = s.map (·.1) := by
  obtain ⟨hl, h⟩ := h
  rcases h with ⟨rfl, rfl⟩ | ⟨g, cap, cur, rfl, -, hb, h1, h2, h3, h4⟩
  · exact ⟨none, rfl, ⟨hl, rfl⟩, nofun, rfl⟩
  · refine ⟨some (g, cap), rfl, ⟨hl, h1, h2⟩, fun z hz => ?_, rfl⟩
    obtain rfl := List.mem_singleton.1 hz
    refine ⟨cur.toList.drop (n * size), ?_, ?_⟩
    · rw [← h4, List.take_append_drop]; simpa using hb
    · rw [← h4, List.take_append_drop]; simpa using h3
theorem St.news (hM : St w0 F w L) {b : Nat} {ow : Bool} {r : Res} (hm : (b, ow, r) ∈ L) : ∀ j u, r.known[j]? = some u → w.cell? ((⟨b, 0, none⟩ : Addr).add j) = some u := fun j u hu => by
  rw [Addr.add_mid, Nat.zero_add]
  exact Res.cell (hM.holds _ hm) hu
/-- What an append makes of what is known. -/
theorem St.appendCore (hM : St w0 F w L) (hc : (c == 2 || c == 3) = true) (hw : Region.wanted o (yielded ops a.tmps) = true) {s : Option (Nat × Nat)} {n m size : Nat} {xs news : List Value} {L' : Option (Nat × Nat) → List Ent} (hL : ∀ s', Swap L (slL s xs e size) (slL s' (xs ++ news) e size) (L' s')) {v' : Value} {w' : World}
    (hrun0 : (execOp a.eval o).run P w = .ok (.value v') w') (ho' : w'.ownsRow 0 e size v' (n + m) (xs ++ news)) (hg : w.grownBy w' (slV s n).ownBlock) (hat : v'.ownBlock = (slV s n).ownBlock ∨ v'.ownBlock = some w.heap.size)
    (hS : c = 2 → Lr = [] ∨ s = none) (h : ∀ w' s', St w0 F w' (L' s') → SlOK s' (n + m) (xs ++ news) size → (0 < n + m → s' ≠ none) → (s ≠ none → s' ≠ none) → wpSeq P ops K (Held w0 F Lr) l (a.put o.dst (slV s' (n + m))) w') : wpSeq P ops K (Held w0 F Lr) ((o, c) :: l) a w := by
  obtain ⟨s', rfl, hk', hh', hb'⟩ := of_ownsRow ho'
  have hrun : (execOp a.eval o).run P w = .ok (.value (slV s' (n + m))) w' := hrun0
  have hob : (slV s n).ownBlock = s.map (·.1) := by cases s <;> rfl
  have hO : Only ((s.map (·.1)).toList) w w' := ⟨hg.os, hg.tape, hg.output, hg.size, fun k hk hn => hg.block k hk (fun e => by rw [hob] at e; exact hn (by rw [← e]; simp))⟩
  obtain ⟨A', B', hA', hL'⟩ := (hL s').split
  have hM' : St w0 F w' (L' s') := by
    have hnd := hM.nd
    rw [hA'] at hnd
    have hsown : ∀ k, s.map (·.1) = some k → (k ∈ F ∨ w0.heap.size ≤ k) ∧ k < w.heap.size := fun k hk => by
      match s with
      | none => cases hk
      | some (g, cp) =>
        obtain rfl : g = k := by simpa using hk
        have hm : (g, true, Res.pre xs e (cp * size)) ∈ L := by rw [hA']; simp [slL]
        exact ⟨hM.own _ hm rfl, hM.lt hm⟩
    have hsnew : ∀ k, s'.map (·.1) = some k → (k ∈ F ∨ w0.heap.size ≤ k) ∧ (s.map (·.1) = some k ∨ k = w.heap.size) := fun k hk => by
      rw [hb', hob] at hat
      rcases hat with h1 | h1
      · rw [h1] at hk; exact ⟨(hsown k hk).1, .inl hk⟩
      · rw [h1] at hk; obtain rfl : w.heap.size = k := by simpa using hk
        exact ⟨.inr hM.only.size, .inr rfl⟩
    have hrestne : ∀ z, z ∈ A' ∨ z ∈ B' → (∀ k, s.map (·.1) = some k → z.1 ≠ k) ∧ z ∈ L := fun z hz => by
      refine ⟨fun k hk => ?_, by rw [hA']; rcases hz with h | h <;> simp [h]⟩
      match s with
      | none => cases hk
      | some (g, cp) =>
        obtain rfl : g = k := by simpa using hk
        simp only [slL, List.map_append, List.map_cons, List.map_nil, List.nodup_append, List.mem_append, List.mem_cons, List.mem_map] at hnd
        obtain ⟨-, ⟨-, -, h2⟩, h3⟩ := hnd
        rcases hz with h | h
        · exact fun e => h3 z.1 ⟨z, h, rfl⟩ g (.inl (.inl rfl)) e
        · exact fun e => h2 g (.inl rfl) z.1 ⟨z, h, rfl⟩ e.symm
    refine ⟨hM.only.then hO (fun k hk => (hsown k (by simpa using hk)).1), fun z hz => ?_, ?_, fun z hz h1 => ?_⟩
    · rw [hL'] at hz
      rcases List.mem_append.1 hz with hz | hz
      · obtain ⟨hne, hzL⟩ := hrestne z (.inl hz)
        rw [hO.block z.1 (hM.lt hzL) (fun hm => hne z.1 (by simpa using hm) rfl)]
        exact hM.holds z hzL
      · rcases List.mem_append.1 hz with hz | hz
        · exact hh' z hz
        · obtain ⟨hne, hzL⟩ := hrestne z (.inr hz)
          rw [hO.block z.1 (hM.lt hzL) (fun hm => hne z.1 (by simpa using hm) rfl)]
          exact hM.holds z hzL
    · rw [hL']
      cases hse : s' with
      | none =>
        simp only [slL, List.nil_append]
        have : (A' ++ B').Sublist (A' ++ (slL s xs e size ++ B')) := List.Sublist.append_left (List.sublist_append_right _ _) _
        exact List.Sublist.nodup (this.map _) hnd
      | some gc =>
        obtain ⟨g', cp'⟩ := gc
        have hn := hsnew g' (by rw [hse]; rfl)
        have hfree : ∀ z, z ∈ A' ∨ z ∈ B' → z.1 ≠ g' := fun z hz e => by
          obtain ⟨hne, hzL⟩ := hrestne z hz
          rcases hn.2 with h2 | h2
          · exact hne g' h2 e
          · have := hM.lt hzL
            omega
        have hAB : ((A' ++ B').map (·.1)).Nodup := by
          have : (A' ++ B').Sublist (A' ++ (slL s xs e size ++ B')) := List.Sublist.append_left (List.sublist_append_right _ _) _
          exact List.Sublist.nodup (this.map _) hnd
        simp only [List.map_append, List.nodup_append, List.mem_map] at hAB
        simp only [slL, List.map_append, List.map_cons, List.map_nil, List.nodup_append, List.mem_append, List.mem_cons, List.mem_map, List.cons_append, List.nil_append, List.nodup_cons]
        refine ⟨hAB.1, ⟨fun ⟨z, hz, e⟩ => hfree z (.inr hz) e, hAB.2.1⟩, fun k hk u hu => ?_⟩
        obtain ⟨z, hz, rfl⟩ := hk
        rcases hu with rfl | hu
        · exact hfree z (.inl hz)
        · exact hAB.2.2 z.1 ⟨z, hz, rfl⟩ u hu
    · rw [hL'] at hz
      rcases List.mem_append.1 hz with hz | hz
      · exact hM.own z (hrestne z (.inl hz)).2 h1
      · rcases List.mem_append.1 hz with hz | hz
        · cases hse : s' with
          | none => rw [hse] at hz; cases hz
          | some gc =>
            obtain ⟨g', cp'⟩ := gc
            rw [hse] at hz
            obtain rfl := List.mem_singleton.1 hz
            exact (hsnew g' (by rw [hse]; rfl)).1
        · exact hM.own z (hrestne z (.inr hz)).2 h1
  refine wpSeq_turns hc hw hrun (.inl rfl) (fun h2 hh => ?_) (h w' s' hM' hk' (fun hp e => ?_) fun hs0 e => ?_)
  · refine ⟨hM'.only, ?_⟩
    rcases hS h2 with rfl | rfl
    · exact nofun
    · exact hh.has.below (hO.to_below (Nat.le_refl _) (by simp))
  · subst e
    have := hk'.2
    simp only at this
    omega
  · subst e
    rw [hb', hob] at hat
    rcases hat with h1 | h1
    · cases s with
      | none => exact hs0 rfl
      | some _ => cases h1
    · cases h1
/-- Elements are appended to a slice of the call's own. -/
theorem St.append (hx : o.op = .call { callee := .builtin .append, args := #[x, y], argTypes := #[t, t] }) (hM : St w0 F w L) (hc : (c == 2 || c == 3) = true) (hw : Region.wanted o (yielded ops a.tmps) = true) {s : Option (Nat × Nat)} {n : Nat} (hs : a.eval x = slV s n) {ad : Addr} {m cap : Nat} (hy : a.eval y = .slice (some ad) m cap) {size bytes : Nat} (hE : elemIn elemTab t = some (e, size, bytes)) (hB : appB P t e size bytes = true)
    {xs news : List Value} {L' : Option (Nat × Nat) → List Ent} (hL : ∀ s', Swap L (slL s xs e size) (slL s' (xs ++ news) e size) (L' s')) (hk : SlOK s n xs size) (hl : news.length = m * size) (hnews : ∀ j u, news[j]? = some u → w.cell? (ad.add j) = some u) (h1 : news.all (·.oneCell') = true) (h63 : n + m ≤ maxLen) (hby : (n + m) * bytes ≤ 140737488355328)
    (hS : c = 2 → Lr = [] ∨ s = none) (h : ∀ w' s', St w0 F w' (L' s') → SlOK s' (n + m) (xs ++ news) size → (0 < n + m → s' ≠ none) → wpSeq P ops K (Held w0 F Lr) l (a.put o.dst (slV s' (n + m))) w') : wpSeq P ops K (Held w0 F Lr) ((o, c) :: l) a w := by
  obtain ⟨i, z, e1, e2, e3, e4, e5, e6, e7⟩ := appB_spec hB
  obtain ⟨A, B, hA, -⟩ := (hL none).split
  have hown : w.ownsRow 0 e size (slV s n) n xs := ownsRow_of (fun z hz => hM.holds z (by rw [hA]; simp [hz])) hk
  obtain ⟨v', w', hr, ho', hg, -, hat⟩ := run_append_own_at (P := P) w 0 t o.type e i z size bytes e1 e2 e3 e4 e5 e6 e7 (slV s n) n xs hown ad m cap news hl hnews (by simpa using h1) h63 hby (Nat.zero_le _)
  refine St.appendCore (v' := v') (w' := w') hM hc hw hL ?_ ho' hg hat hS fun w' s' a1 a2 a3 _ => h w' s' a1 a2 a3
  unfold execOp
  simp only [hx, resolve, invoke, builtin, Sem.run_bind, Sem.run_pure, Result.andThen_ok, List.map_toArray, List.map_cons, List.map_nil, hs, hy, hr]
/-- Elements that are read are appended, or none. -/
theorem St.appendAny (hx : o.op = .call { callee := .builtin .append, args := #[x, y], argTypes := #[t, t] }) (hM : St w0 F w L) (hc : (c == 2 || c == 3) = true) (hw : Region.wanted o (yielded ops a.tmps) = true) {s : Option (Nat × Nat)} {n : Nat} (hs : a.eval x = slV s n) {na : Option Addr} {m cap : Nat} (hy : a.eval y = .slice na m cap) {size bytes : Nat} (hE : elemIn elemTab t = some (e, size, bytes)) (hB : appB P t e size bytes = true)
    {xs news : List Value} {L' : Option (Nat × Nat) → List Ent} (hL : ∀ s', Swap L (slL s xs e size) (slL s' (xs ++ news) e size) (L' s')) (hk : SlOK s n xs size) (hnone : na = none → m = 0 ∧ cap = 0) (hl : news.length = m * size) (hnews : ∀ ad, na = some ad → ∀ j u, news[j]? = some u → w.cell? (ad.add j) = some u) (h1 : news.all (·.oneCell') = true) (h63 : n + m ≤ maxLen) (hby : (n + m) * bytes ≤ 140737488355328)
    (hS : c = 2 → Lr = [] ∨ s = none) (h : ∀ w' s', St w0 F w' (L' s') → SlOK s' (n + m) (xs ++ news) size → (0 < n + m → s' ≠ none) → (s ≠ none → s' ≠ none) → wpSeq P ops K (Held w0 F Lr) l (a.put o.dst (slV s' (n + m))) w') : wpSeq P ops K (Held w0 F Lr) ((o, c) :: l) a w := by
  obtain ⟨i, z, e1, e2, e3, e4, e5, e6, e7⟩ := appB_spec hB
  obtain ⟨A, B, hA, -⟩ := (hL none).split
  have hown : w.ownsRow 0 e size (slV s n) n xs := ownsRow_of (fun z hz => hM.holds z (by rw [hA]; simp [hz])) hk
  cases na with
  | some ad =>
    obtain ⟨v', w', hr, ho', hg, -, hat⟩ := run_append_own_at (P := P) w 0 t o.type e i z size bytes e1 e2 e3 e4 e5 e6 e7 (slV s n) n xs hown ad m cap news hl (hnews ad rfl) (by simpa using h1) h63 hby (Nat.zero_le _)
    refine St.appendCore (v' := v') (w' := w') hM hc hw hL ?_ ho' hg hat hS h
    unfold execOp
    simp only [hx, resolve, invoke, builtin, Sem.run_bind, Sem.run_pure, Result.andThen_ok, List.map_toArray, List.map_cons, List.map_nil, hs, hy, hr]
  | none =>
    obtain ⟨rfl, rfl⟩ := hnone rfl
    obtain rfl : news = [] := List.length_eq_zero_iff.1 (by omega)
    have hr := run_append_owned_none (P := P) (w := w) 0 t o.type e i size e1 e2 (slV s n) n xs hown
    refine St.appendCore (v' := slV s n) (w' := w) hM hc hw hL ?_ (by simpa using hown) ⟨rfl, rfl, rfl, Nat.le_refl _, fun _ _ _ => rfl⟩ (.inl rfl) hS h
    unfold execOp
    simp only [hx, resolve, invoke, builtin, Sem.run_bind, Sem.run_pure, Result.andThen_ok, List.map_toArray, List.map_cons, List.map_nil, hs, hy, hr]
/-- What is known of a block is told otherwise. -/
theorem St.weaken {b : Nat} {ow : Bool} {r r' : Res} (hM : St w0 F w L) {L' : List Ent} (hu : Upd L (b, ow, r) (b, ow, r') L') (hr : r.holds w.heap[b]? → r'.holds w.heap[b]?) : St w0 F w L' := by
  refine ⟨hM.only, fun x hx => ?_, ?_, fun x hx hx1 => ?_⟩
  · rcases hu.of_mem hx with rfl | hx
    · exact hr (hM.holds _ hu.mem)
    · exact hM.holds x hx
  · rw [hu.keys rfl]; exact hM.nd
  · rcases hu.of_mem hx with rfl | hx
    · exact hM.own (b, ow, r) hu.mem hx1
    · exact hM.own x hx hx1
theorem Res.toPre {b : Nat} {cs : List Value} {ty : TypeId} {n : Nat} (hn : n = cs.length) (h : (Res.cells cs ty).holds w.heap[b]?) : (Res.pre cs ty n).holds w.heap[b]? := ⟨[], by simpa [Res.holds] using h, by simp [hn]⟩
end
/-! ### Code -/
section
variable {P : Program} {Q : Exit → Act → World → Prop} {a : Act} {w w0 : World} {x y : Code} {F : List Nat} {L : List Ent}
theorem wp_seq_shut (h : ∀ K : Act → World → Prop, Shut (∀ a w, y.wp P Q a w → K a w) → x.wp P (Exit.then K Q) a w) : (Code.seq x y).wp P Q a w := wp_seq (h _ fun _ _ h => h)
/-- A region in the order of the text. -/
theorem wp_text {id : Nat} {os : List Oper} (hM : St w0 F w L) (h : ∀ K : Act → World → Prop, Shut (∀ a w, Q .normal a w → K a w) → wpSeq P os.toArray K (Held w0 F []) (inText os) a w) : (Code.region id os.toArray false).wp P Q a w := wp_region_text _ h
/-- A region that draws: what of all that is known is read by what may come up whenever. -/
theorem wp_drawn {id : Nat} {os : List Oper} {Lr : List Ent} (hM : St w0 F w L) (hs : Sub Lr L) (fl : List Nat) (l : List (Nat × Nat)) (hm : P.follows .mixedOrders = true) (hB : ((Region.noSelect os.toArray && (l.length == os.toArray.size && schOK .any os.toArray fl l (Array.replicate os.toArray.size false) true)) && l.all fun x => decide (x.1 < os.length)) = true)
    (h : ∀ w, St w0 F w L → ∀ K : Act → World → Prop, Shut (∀ a w, Q .normal a w → K a w) → wpSeq P os.toArray K (Held w0 F Lr) (opsOf os l) a w) : (Code.region id os.toArray true).wp P Q a w :=
  wp_region_order (Held w0 F Lr) fl l hm hB (hM.held hs.mem).drew (h _ hM.drew)
end
/-! ### What is handed back -/
inductive Outs (P : Program) (L : List Ent) (tmps : Array Value) : List ResultVar → List Value → Prop where
  | nil : Outs P L tmps [] []
  | tmp {t : Tmp} {v : Value} {rs : List ResultVar} {vs : List Value} (h : tmps.getD t undef = v) (r : Outs P L tmps rs vs) : Outs P L tmps (.tmp t :: rs) (v :: vs)
  | one {t : Tmp} {ty : TypeId} {b q : Nat} {ow : Bool} {x : Res} {v : Value} {rs : List ResultVar} {vs : List Value} (hT : sizeIn rowTab ty = none) (h : tmps.getD t undef = .pointer (some ⟨b, q, none⟩)) (hm : (b, ow, x) ∈ L) (hv : x.known[q]? = some v) (h1 : oneB P ty = true) (r : Outs P L tmps rs vs) : Outs P L tmps (.cell t ty :: rs) (v :: vs)
  | row {t : Tmp} {ty ty' : TypeId} {b : Nat} {ow : Bool} {cs : List Value} {rs : List ResultVar} {vs : List Value} {n : Nat} (hT : sizeIn rowTab ty = some n) (h : tmps.getD t undef = .pointer (some ⟨b, 0, none⟩)) (hm : (b, ow, .cells cs ty') ∈ L) (h1 : rowB P ty cs.length = true) (r : Outs P L tmps rs vs) : Outs P L tmps (.cell t ty :: rs) (.agg cs.toArray :: vs)
def tup : List Value → Value
  | [v] => v
  | vs => .tuple vs.toArray
section
variable {P : Program} {w w0 : World} {F : List Nat} {L : List Ent} {a : Act} {fn : Func} {R : Ending → World → Prop} {rs : List ResultVar} {vs : List Value}
def outOf (tmps : Array Value) : ResultVar → Sem Value
  | .tmp t => Pure.pure (tmps.getD t undef)
  | .cell a t => do loadVar t (← asAddr (tmps.getD a undef))
theorem results_eq (fn : Func) (tmps : Array Value) : results fn tmps = (do
    let vs ← fn.results.mapM (outOf tmps)
    Pure.pure (if h : vs.size = 1 then vs[0] else .tuple vs)) := by
  unfold results
  congr 2
theorem run_outs {tmps : Array Value} (hM : St w0 F w L) (h : Outs P L tmps rs vs) : (rs.mapM (m := Sem) (outOf tmps)).run P w = .ok vs w := by
  induction h with
  | nil => rfl
  | @tmp t v rs vs h r ih =>
    rw [List.mapM_cons, Sem.run_bind]
    simp only [outOf, h, Sem.run_pure, Result.andThen_ok, Sem.run_bind, ih]
  | @one t ty b q ow x v rs vs hT h hm hv h1 r ih =>
    have hA : (asAddr (tmps.getD t undef)).run P w = .ok ⟨b, q, none⟩ w := by rw [h]; rfl
    rw [List.mapM_cons, Sem.run_bind]
    simp only [outOf, hA, Sem.run_pure, Result.andThen_ok, Sem.run_bind, ih, run_loadVar_one h1 (Res.cell (hM.holds _ hm) hv)]
  | @row t ty ty' b ow cs rs vs n hT h hm h1 r ih =>
    obtain ⟨d, e1, e2, e3⟩ := rowB_spec h1
    have hA : (asAddr (tmps.getD t undef)).run P w = .ok ⟨b, 0, none⟩ w := by rw [h]; rfl
    rw [List.mapM_cons, Sem.run_bind]
    simp only [outOf, hA, Sem.run_pure, Result.andThen_ok, Sem.run_bind, ih, run_loadVar_mid w b 0 ty cs d (hM.blk hm).range e1 e2 e3]
theorem run_results (hM : St w0 F w L) (hr : fn.results = rs.toArray) (h : Outs P L a.tmps rs vs) : (results fn a.tmps).run P w = .ok (tup vs) w := by
  rw [results_eq, hr, Sem.run_bind, List.mapM_toArray, Sem.run_map, run_outs hM h]
  match vs with
  | [] => rfl
  | [v] => rfl
  | v :: u :: r => rfl
theorem St.ret (hM : St w0 F w L) (hr : fn.results = rs.toArray) (h : Outs P L a.tmps rs vs) (hd : a.defers = []) (hR : R (.returned (tup vs)) w) : bodyPost P fn R .ret a w := ⟨hd, _, run_results hM hr h, hR⟩
theorem St.fin (hM : St w0 F w L) (hr : fn.results = rs.toArray) (h : Outs P L a.tmps rs vs) (hd : a.defers = []) (hR : R (.returned (tup vs)) w) : bodyPost P fn R .normal a w := ⟨hd, _, run_results hM hr h, hR⟩
end
/-! ### Calls that turn what is known -/
section
variable {w0 w w' : World} {F G : List Nat} {L L' M : List Ent} {b : Nat}
/-- An entry is taken out. -/
inductive Del : List Ent → Ent → List Ent → Prop where
  | head {x : Ent} {L : List Ent} : Del (x :: L) x L
  | tail {x y : Ent} {L L' : List Ent} (h : Del L x L') : Del (y :: L) x (y :: L')
/-- Some entries, to be read. -/
inductive View : List Ent → List Ent → Prop where
  | nil {L : List Ent} : View [] L
  | cons {b : Nat} {o : Bool} {r : Res} {L L' M : List Ent} (h : Del L (b, o, r) L') (t : View M L') : View ((b, false, r) :: M) L
theorem Del.mem {L L' : List Ent} {x : Ent} (h : Del L x L') : x ∈ L ∧ (∀ y ∈ L', y ∈ L) ∧ ((L.map (·.1)).Nodup → (L'.map (·.1)).Nodup ∧ ∀ y ∈ L', y.1 ≠ x.1) := by
  induction h with
  | @head x L =>
    refine ⟨.head _, fun y h => .tail _ h, fun hnd => ?_⟩
    simp only [List.map_cons, List.nodup_cons] at hnd
    exact ⟨hnd.2, fun y hy e => hnd.1 (e ▸ List.mem_map_of_mem hy)⟩
  | @tail x y L L' h ih =>
    obtain ⟨h1, h2, h3⟩ := ih
    refine ⟨.tail _ h1, fun z hz => ?_, fun hnd => ?_⟩
    · rcases List.mem_cons.1 hz with rfl | hz
      · exact .head _
      · exact .tail _ (h2 z hz)
    · simp only [List.map_cons, List.nodup_cons] at hnd
      obtain ⟨g1, g2⟩ := h3 hnd.2
      refine ⟨?_, fun z hz => ?_⟩
      · simp only [List.map_cons, List.nodup_cons]
        refine ⟨fun hm => ?_, g1⟩
        obtain ⟨u, hu, e⟩ := List.mem_map.1 hm
        exact hnd.1 (e ▸ List.mem_map_of_mem (h2 u hu))
      · rcases List.mem_cons.1 hz with rfl | hz
        · exact fun e => hnd.1 (e ▸ List.mem_map_of_mem h1)
        · exact g2 z hz
theorem St.to_below (h : St w0 [] w L) : Below w0.heap.size w0 w := h.only.to_below (Nat.le_refl _) (by simp)
end
end Go.Proofs.YtcicjklhbnipcaaGreat
namespace Go.Proofs.YtcicjklhbnipcaaGreat
set_option linter.unusedVariables false
set_option linter.unusedSimpArgs false
open Go.RowKit Go.Maps

def keysOf (L : List Ent) : List Nat := L.map (·.1)
def unflag (x : Ent) : Ent := (x.1, false, x.2.2)
def flagged (L : List Ent) : Prop := ∀ x ∈ L, x.2.1 = true
/-- A chunk stands in this world, all apart. -/
structure At (M : List Ent) (w : World) : Prop where
  has : Has M w
  nd : (keysOf M).Nodup
section
variable {w0 w w' : World} {F : List Nat} {L L' M M' : List Ent}
theorem At.below (h : At M w) (hb : Below w.heap.size w w') : At M w' := ⟨h.has.below hb, h.nd⟩
theorem At.lt (h : At M w) : ∀ k ∈ keysOf M, k < w.heap.size := fun k hk => by
  obtain ⟨x, hx, rfl⟩ := List.mem_map.1 hk
  exact h.has.lt hx
/-- One part of a list. -/
inductive Part : List Ent → List Ent → Prop where
  | all {M : List Ent} : Part M M
  | here {M R : List Ent} : Part (M ++ R) M
  | skip {x : Ent} {L M : List Ent} (h : Part L M) : Part (x :: L) M
  | past {N L M : List Ent} (h : Part L M) : Part (N ++ L) M
theorem Part.split {L M : List Ent} (h : Part L M) : ∃ A B, L = A ++ (M ++ B) := by
  induction h with
  | all => exact ⟨[], [], by simp⟩
  | here => exact ⟨[], _, rfl⟩
  | @skip x _ _ _ ih => obtain ⟨A, B, h1⟩ := ih; exact ⟨x :: A, B, by rw [h1]; rfl⟩
  | @past N _ _ _ ih => obtain ⟨A, B, h1⟩ := ih; exact ⟨N ++ A, B, by rw [h1, List.append_assoc]⟩
theorem St.part (h : St w0 F w L) (hs : Part L M) : At M w := by
  obtain ⟨A, B, rfl⟩ := hs.split
  refine ⟨fun x hx => h.holds x (by simp [hx]), ?_⟩
  have := h.nd
  simp only [List.map_append, List.nodup_append] at this
  exact this.2.1.1
theorem St.whole (h : St w0 F w L) : At L w := ⟨h.holds, h.nd⟩
/-- A call that writes a chunk begins. -/
theorem At.st (h : At M w) : St w (keysOf M) w M := ⟨Only.refl _ w, h.has, h.nd, fun _ hx _ => .inl (List.mem_map_of_mem hx)⟩
/-- What is put in a chunk's place is handed back. -/
theorem St.backM (h : St w0 F w L) (hs : Swap L M M' L') (hw : flagged M) (h' : St w (keysOf M) w' M') (hw' : flagged M') : St w0 F w' L' := by
  obtain ⟨A, B, rfl, rfl⟩ := hs.split
  have hnd := h.nd
  simp only [List.map_append, List.nodup_append] at hnd
  obtain ⟨n1, ⟨n2, n3, n4⟩, n5⟩ := hnd
  have hkeep : ∀ x, x ∈ A ∨ x ∈ B → x.1 < w.heap.size ∧ x.1 ∉ keysOf M := fun x hx => by
    refine ⟨h.lt (by rcases hx with h | h <;> simp [h]), fun hm => ?_⟩
    rcases hx with hx | hx
    · exact n5 x.1 (List.mem_map_of_mem hx) x.1 (by rw [List.mem_append]; exact .inl hm) rfl
    · exact n4 x.1 hm x.1 (List.mem_map_of_mem hx) rfl
  have hown : ∀ x ∈ M', x.1 ∈ keysOf M ∨ w.heap.size ≤ x.1 := fun x hx => h'.own x hx (hw' x hx)
  refine ⟨h.only.then h'.only (fun k hk => ?_), fun x hx => ?_, ?_, fun x hx hx1 => ?_⟩
  · obtain ⟨x, hx, rfl⟩ := List.mem_map.1 hk
    exact h.own x (by simp [hx]) (hw x hx)
  · simp only [List.mem_append] at hx
    rcases hx with hx | hx | hx
    · rw [h'.only.block x.1 (hkeep x (.inl hx)).1 (hkeep x (.inl hx)).2]
      exact h.holds x (by simp [hx])
    · exact h'.holds x hx
    · rw [h'.only.block x.1 (hkeep x (.inr hx)).1 (hkeep x (.inr hx)).2]
      exact h.holds x (by simp [hx])
  · simp only [List.map_append, List.nodup_append]
    have hne : ∀ x, x ∈ A ∨ x ∈ B → ∀ y ∈ M', x.1 ≠ y.1 := fun x hx y hy e => by
      rcases hown y hy with h1 | h1
      · exact (hkeep x hx).2 (e ▸ h1)
      · have := (hkeep x hx).1
        omega
    refine ⟨n1, ⟨h'.nd, n3, fun a ha b hb => ?_⟩, fun a ha b hb => ?_⟩
    · obtain ⟨y, hy, rfl⟩ := List.mem_map.1 ha
      obtain ⟨x, hx, rfl⟩ := List.mem_map.1 hb
      exact (hne x (.inr hx) y hy).symm
    · obtain ⟨x, hx, rfl⟩ := List.mem_map.1 ha
      rcases List.mem_append.1 hb with hb | hb
      · obtain ⟨y, hy, rfl⟩ := List.mem_map.1 hb
        exact hne x (.inl hx) y hy
      · exact n5 x.1 (List.mem_map_of_mem hx) b (by rw [List.mem_append]; exact .inr hb)
  · simp only [List.mem_append] at hx
    rcases hx with hx | hx | hx
    · exact h.own x (by simp [hx]) hx1
    · rcases hown x hx with h1 | h1
      · obtain ⟨y, hy, e⟩ := List.mem_map.1 h1
        rw [← e]
        exact h.own y (by simp [hy]) (hw y hy)
      · exact .inr (Nat.le_trans h.only.size h1)
    · exact h.own x (by simp [hx]) hx1
/-- A callee made a chunk. -/
theorem St.madeM (h : St w0 F w L) (h' : St w [] w' M) (hw : flagged M) : St w0 F w' (M ++ L) := by
  have hbl : Below w.heap.size w w' := h'.only.to_below (Nat.le_refl _) (by simp)
  have h1 := h.below hbl
  refine ⟨h1.only, fun x hx => ?_, ?_, fun x hx hx1 => ?_⟩
  · rcases List.mem_append.1 hx with hx | hx
    · exact h'.holds x hx
    · exact h1.holds x hx
  · simp only [List.map_append, List.nodup_append]
    refine ⟨h'.nd, h.nd, fun a ha b hb e => ?_⟩
    obtain ⟨x, hx, rfl⟩ := List.mem_map.1 ha
    obtain ⟨y, hy, rfl⟩ := List.mem_map.1 hb
    have := h'.fresh (b := x.1) (r := x.2.2) (by have := hw x hx; rw [← this]; exact hx)
    have := h.lt hy
    omega
  · rcases List.mem_append.1 hx with hx | hx
    · have := h'.fresh (b := x.1) (r := x.2.2) (by have := hw x hx; rw [← this]; exact hx)
      exact .inr (Nat.le_trans h.only.size this)
    · exact h1.own x hx hx1
end
/-! ### maps -/
/-- An object that is a map of just these keys and values. -/
def MapObj (P : Program) (k : TypeId) (l : List (Lit × Value)) (o : Obj) : Prop := ∃ (w : World) (b : Nat), w.heap[b]? = some o ∧ MapAt P k w b l
abbrev mapR (P : Program) (k : TypeId) (l : List (Lit × Value)) : Res := .obj (MapObj P k l)
section
variable {P : Program} {k : TypeId} {w w' : World} {b : Nat} {l : List (Lit × Value)}
theorem mapR_at (h : (mapR P k l).holds w.heap[b]?) : MapAt P k w b l := by
  obtain ⟨o, ho, w1, b1, hb, hm⟩ := h
  obtain ⟨es, clock, h1, F, hs, hD⟩ := hm
  rw [hb] at h1
  exact ⟨es, clock, ho.trans h1, F, hs, hD⟩
theorem mapR_of (h : MapAt P k w b l) : (mapR P k l).holds w.heap[b]? := by
  have h0 := h
  obtain ⟨es, clock, h1, -⟩ := h0
  exact ⟨_, h1, w, b, h1, h⟩
end
section
variable {P : Program} {K : Act → World → Prop} {a : Act} {w w0 : World} {ops : Array Oper} {l : List (Oper × Nat)} {c : Nat} {o : Oper} {F : List Nat} {L L' Lr : List Ent} {b : Nat} {ty kt et : TypeId} {x y z : Operand} {ow : Bool} {S : World → Prop} {m : List (Lit × Value)} {kl : Lit} {key : Value}
theorem run_lookupM (hx : o.op = .lookup ty x y false) (hev : a.eval x = .map (some b)) (hy : a.eval y = key) (hr : (mapR P kt m).holds w.heap[b]?) (hK : Keyed P kt) (ht : P.underlying ty = some (.map kt et)) {zv : Value} (hz : ∀ w, (zeroValue et).run P w = .ok zv w) (hkey : keyOf P kt key = some kl) :
    (execOp a.eval o).run P w = .ok (.value (lookL m kl zv)) w := by
  have h := MapAt.look (mapR_at hr) hK ht (hz w) hkey
  unfold execOp
  simp only [hx, hev, hy, Sem.run_bind, h, Result.andThen_ok, Sem.run_pure]
/-- A map is looked into. -/
theorem St.lookup (hx : o.op = .lookup ty x y false) (hM : St w0 F w L) (hc : (c == 2 || c == 3) = true) (hw : Region.wanted o (yielded ops a.tmps) = true) (hev : a.eval x = .map (some b)) (hy : a.eval y = key) (hm : (b, ow, mapR P kt m) ∈ L) (hK : Keyed P kt) (ht : P.underlying ty = some (.map kt et)) {zv : Value} (hz : ∀ w, (zeroValue et).run P w = .ok zv w) (hkey : keyOf P kt key = some kl) {v : Value} (hv : lookL m kl zv = v)
    (h : wpSeq P ops K S l (a.put o.dst v) w) : wpSeq P ops K S ((o, c) :: l) a w :=
  wpSeq_yields hc hw (by rw [← hv]; exact run_lookupM hx hev hy (hM.holds _ hm) hK ht hz hkey) h
theorem only_turned {w w' : World} {b : Nat} (h : w.mapTurned w' b) : Only [b] w w' := by
  have g := h.grown
  exact ⟨g.os, g.tape, g.output, g.size, fun k hk hn => g.block k hk (fun e => by cases e; exact hn (by simp))⟩
/-- A map is written. -/
theorem St.mapUpdate (hx : o.op = .mapUpdate ty x y z) (hM : St w0 F w L) (hc : (c == 2 || c == 3) = true) (hw : Region.wanted o (yielded ops a.tmps) = true) (hev : a.eval x = .map (some b)) (hy : a.eval y = key) {val : Value} (hz : a.eval z = val) {m' : List (Lit × Value)} (hu : Upd L (b, true, mapR P kt m) (b, true, mapR P kt m') L') (hm' : putL kl val m = m') (hK : Keyed P kt) (ht : P.underlying ty = some (.map kt et)) (hn : m.length < maxLen) (hkey : keyOf P kt key = some kl)
    (hS : c = 2 → Rest L (b, true, mapR P kt m) Lr) (h : ∀ w', St w0 F w' L' → wpSeq P ops K (Held w0 F Lr) l (a.put o.dst undef) w') : wpSeq P ops K (Held w0 F Lr) ((o, c) :: l) a w := by
  subst hm'
  obtain ⟨w', hrun, hat, htn⟩ := MapAt.store (mapR_at (hM.holds _ hu.mem)) hK ht hn (val := val) hkey
  have hO := only_turned htn
  have hown : ∀ x ∈ [b], x ∈ F ∨ w0.heap.size ≤ x := fun x hx => by
    have e : x = b := by simpa using hx
    rw [e]; exact hM.own _ hu.mem rfl
  have hr : (execOp a.eval o).run P w = .ok .skip w' := by
    unfold execOp
    simp only [hx, hev, hy, hz, Sem.run_bind, hrun, Result.andThen_ok, Sem.run_pure]
  exact wpSeq_turns hc hw hr (.inr ⟨rfl, rfl⟩) (fun h2 hh => ⟨hh.only.then hO hown, hh.has.turn hO ((hS h2).apart hM.nd)⟩) (h _ (hM.turn hu hO (mapR_of hat)))
/-- A new map. -/
theorem St.makeMap (hx : o.op = .makeMap ty none) (hM : St w0 F w L) (hc : (c == 2 || c == 3) = true) (hw : Region.wanted o (yielded ops a.tmps) = true) (hy : ∀ w : World, (execOp a.eval o).run P w = .ok (.value (.map (some w.heap.size))) (w.alloc (.map #[] 0)))
    (h : ∀ w' b, St w0 F w' ((b, true, mapR P kt []) :: L) → wpSeq P ops K (Held w0 F Lr) l (a.put o.dst (.map (some b))) w') : wpSeq P ops K (Held w0 F Lr) ((o, c) :: l) a w := by
  refine St.make hM hc hw (fun b => .map (some b)) (ob := .map #[] 0) hy ?_ h
  have := mapR_of (MapAt.made (P := P) (k := kt) w)
  rwa [heap_alloc_new] at this
end
section
variable {P : Program} {a : Act} {w : World} {ops : Array Oper} {l : List (Oper × Nat)} {o : Oper} {S : World → Prop} {K : Act → World → Prop}
/-- A function is called where nothing that is read whenever is left. -/
theorem St.call3 {f : FuncId} {ags : Array Operand} {ts : Array TypeId} (hx : o.op = .call { callee := .value (.func f), args := ags, argTypes := ts }) (hw : Region.wanted o (yielded ops a.tmps) = true) (hf : bodyB P f = true)
    (h : ∀ R : Ending → World → Prop, Shut (∀ v w', wpSeq P ops K S l (a.put o.dst v) w' → R (.returned v) w') → Calls P f (ags.map a.eval) w R) : wpSeq P ops K S ((o, 3) :: l) a w :=
  wpSeq_calls rfl hw (run_call w hx hf rfl) (h (fun e w' => ∃ v, e = .returned v ∧ wpSeq P ops K S l (a.put o.dst v) w') fun v w' h1 => ⟨v, rfl, h1⟩)
    fun _ _ ⟨v, h1, h2⟩ => ⟨v, h1, (fun e => by cases e), h2⟩
end
/-- An array whose elements are one cell each: how many. -/
def arrB (P : Program) (t : TypeId) (n : Nat) : Bool := match P.underlying t with | some (.array m e) => m == n && oneB P e | _ => false
section
variable {P : Program} {K : Act → World → Prop} {a : Act} {w : World} {ops : Array Oper} {l : List (Oper × Nat)} {c : Nat} {o : Oper} {ty : TypeId} {x y : Operand} {S : World → Prop}
theorem run_index1 (w : World) (hx : o.op = .index ty x y) {cs : Array Value} {k : Nat} (e1 : a.eval x = .agg cs) (e2 : a.eval y = .int .i64 (k : Int)) (hB : arrB P ty cs.size = true) {v : Value} (hv : cs[k]? = some v) : (execOp a.eval o).run P w = .ok (.value v) w := by
  have hk : k < cs.size := (Array.getElem?_eq_some_iff.1 hv).1
  unfold arrB at hB
  split at hB
  · rename_i m e hu
    simp only [Bool.and_eq_true, beq_iff_eq] at hB
    obtain ⟨rfl, hB⟩ := hB
    obtain ⟨d, u1, u2, u3⟩ := oneB_spec hB
    have hagg : (isAgg e).run P w = .ok false w := by
      unfold isAgg
      rw [Sem.run_bind, run_underlying u1 w]
      cases d <;> simp_all
    have hsz : (sizeOf e).run P w = .ok 1 w := by
      cases hq : P.info? e with
      | none => simp [hq] at u3
      | some i =>
        have hs : i.size = 1 := by simpa [hq] using u3
        simp [sizeOf, typeInfo, hq, hs]
    have hin : (0 : Int) ≤ (k : Int) ∧ (k : Int) < (cs.size : Int) := ⟨Int.natCast_nonneg k, by omega⟩
    have hr : (Instr.index ty (.agg cs) (.int .i64 (k : Int))).run P w = .ok v w := by
      unfold Instr.index
      simp only [asIntOf, Sem.run_bind, Sem.run_pure, Result.andThen_ok, run_underlying hu w, hin, and_self, if_true, hsz, part, hagg, Bool.false_eq_true, if_false, Int.toNat_natCast, Nat.mul_one, hv]
    unfold execOp
    simp only [hx, e1, e2, Sem.run_bind, hr, Result.andThen_ok, Sem.run_pure]
  · cases hB
/-- An array's element. -/
theorem St.index (hx : o.op = .index ty x y) (hc : (c == 0 || c == 2 || c == 3) = true) (hw : Region.wanted o (yielded ops a.tmps) = true) {cs : Array Value} (e1 : a.eval x = .agg cs) {k : Nat} (e2 : a.eval y = .int .i64 (k : Int)) (hB : arrB P ty cs.size = true) {v : Value} (hv : cs[k]? = some v) (h : wpSeq P ops K S l (a.put o.dst v) w) : wpSeq P ops K S ((o, c) :: l) a w :=
  St.soft hc hw (fun w => run_index1 w hx e1 e2 hB hv) h
theorem St.index0 (hx : o.op = .index ty x y) (hc : (c == 0 || c == 2 || c == 3) = true) (hw : Region.wanted o (yielded ops a.tmps) = true) {cs : Array Value} (e1 : a.eval x = .agg cs) {i : Int} (e2 : a.eval y = .int .i64 i) {k : Nat} (hi : i = (k : Int)) (hB : arrB P ty cs.size = true) {v : Value} (hv : cs[k]? = some v) (h : wpSeq P ops K S l (a.put o.dst v) w) : wpSeq P ops K S ((o, c) :: l) a w := by
  subst hi
  exact St.index hx hc hw e1 e2 hB hv h
end
end Go.Proofs.YtcicjklhbnipcaaGreat
namespace Go.Proofs.YtcicjklhbnipcaaGreat
set_option linter.unusedVariables false
set_option linter.unusedSimpArgs false
open Go.RowKit Go.Maps
/-- An inode, and where its names lie. -/
abbrev NodV := NodeD × Option (Nat × Nat)
def entC (d : List (ByteArray × Int)) : List Value := d.flatMap fun p => [.string p.1, .int .i64 p.2]
def NodV.cells (z : NodV) : List Value := [.int .i64 z.1.id, .bool z.1.dir, .int .i64 z.1.links, .int .i64 z.1.holds, .string z.1.data, slV z.2 z.1.names.length]
def NodV.ents (z : NodV) : List Ent := slL z.2 (entC z.1.names) 70 2
end Go.Proofs.YtcicjklhbnipcaaGreat
namespace Go.Proofs.YtcicjklhbnipcaaGreat
set_option linter.unusedVariables false
set_option linter.unusedSimpArgs false
open Go.RowKit
theorem ent_at {d : List (ByteArray × Int)} {j : Nat} {nm : ByteArray} {idv : Int} (h : d[j]? = some (nm, idv)) : ((entC d).drop (j * 2)).take 2 = [.string nm, .int .i64 idv] := by
  induction d generalizing j with
  | nil => simp at h
  | cons p r ih =>
    cases j with
    | zero =>
      rw [List.getElem?_cons_zero] at h
      cases h
      rfl
    | succ j =>
      rw [List.getElem?_cons_succ] at h
      have := ih h
      rw [show (j + 1) * 2 = j * 2 + 2 by omega]
      exact this
theorem entC_len (d : List (ByteArray × Int)) : (entC d).length = d.length * 2 := by
  unfold entC
  induction d with
  | nil => rfl
  | cons p r ih => rw [List.flatMap_cons, List.length_append, ih, List.length_cons]; simp; omega
end Go.Proofs.YtcicjklhbnipcaaGreat
namespace Go.Proofs.YtcicjklhbnipcaaGreat
set_option linter.unusedVariables false
set_option linter.unusedSimpArgs false
open Go.RowKit
theorem slV_open {s : Option (Nat × Nat)} {n size : Nat} {xs : List Value} (hk : SlOK s n xs size) : ∃ a c, slV s n = .slice a n c ∧ ∀ g cap, s = some (g, cap) → a = some ⟨g, 0, none⟩ ∧ c = cap := by
  cases s with
  | none =>
    obtain rfl : n = 0 := hk.2
    exact ⟨none, 0, rfl, nofun⟩
  | some gc => exact ⟨_, _, rfl, fun g cap h => by cases h; exact ⟨rfl, rfl⟩⟩
theorem slL_flag (s : Option (Nat × Nat)) (xs : List Value) (e : TypeId) (size : Nat) : flagged (slL s xs e size) := fun x hx => by
  cases s with
  | none => cases hx
  | some gc =>
    rcases List.mem_singleton.1 hx with rfl
    rfl
section
variable {w : World} {L M : List Ent}
theorem At.sub (h : At L w) (hs : M.Sublist L) : At M w := ⟨fun x hx => h.has x (hs.subset hx), (hs.map _).nodup h.nd⟩
end
theorem beqs_yes {s : ByteArray} {l : List UInt8} (h : s.data.toList = l) : (s.toList == l) = true := by rw [ByteArray.toList_eq, h]; simp
theorem beqs_no {s : ByteArray} {l : List UInt8} (h : ¬ s.data.toList = l) : (s.toList == l) = false := by rw [ByteArray.toList_eq]; exact beq_eq_false_iff_ne.2 h
theorem Pt.ba_ext {a b : ByteArray} (h : a.data.toList = b.data.toList) : a = b := by
  cases a
  cases b
  congr 1
  exact Array.toList_inj.1 h
abbrev txL (s : Option (Nat × Nat)) (xs : List ByteArray) : List Ent := slL s (xs.map Value.string) 9 1
abbrev TxOK (s : Option (Nat × Nat)) (xs : List ByteArray) : Prop := SlOK s xs.length (xs.map Value.string) 1
theorem txL_flag (s : Option (Nat × Nat)) (xs : List ByteArray) : flagged (txL s xs) := fun x hx => by
  cases s with
  | none => cases hx
  | some gc =>
    rcases List.mem_singleton.1 hx with rfl
    rfl
end Go.Proofs.YtcicjklhbnipcaaGreat
namespace Go.Proofs.YtcicjklhbnipcaaGreat
set_option linter.unusedVariables false
set_option linter.unusedSimpArgs false
open Go.RowKit
section
variable {P : Program} {K : Act → World → Prop} {a : Act} {w : World} {ops : Array Oper} {l : List (Oper × Nat)} {c : Nat} {o : Oper} {ty : TypeId} {x y z : Operand} {S : World → Prop} {s : ByteArray}
theorem run_strSub (w : World) (hx : o.op = .slice ty x (some y) (some z) none) (e1 : a.eval x = .string s) {i j : Nat} (e2 : a.eval y = .int .i64 (i : Int)) (e3 : a.eval z = .int .i64 (j : Int)) (ht : P.underlying ty = some .string) (hij : i ≤ j) (hj : j ≤ s.size) : (execOp a.eval o).run P w = .ok (.value (.string (s.extract i j))) w := by
  have h0 : (0 : Int) ≤ (i : Int) := Int.natCast_nonneg i
  have h1 : (0 : Int) ≤ (j : Int) := Int.natCast_nonneg j
  have h2 : (i : Int) ≤ (j : Int) := by omega
  have h3 : (j : Int) ≤ (s.size : Int) := by omega
  unfold execOp
  simp [hx, e1, e2, e3, Instr.sliceAt, Instr.slice, Instr.sliceBounds, Instr.sliceBound, asIntOf, Sem.run_bind, Sem.run_pure, run_underlying ht, h0, h1, hij, hj, Option.map]
/-- A part of a string. -/
theorem St.strSub (hx : o.op = .slice ty x (some y) (some z) none) (hc : (c == 0 || c == 2 || c == 3) = true) (hw : Region.wanted o (yielded ops a.tmps) = true) (e1 : a.eval x = .string s) {i j : Nat} (e2 : a.eval y = .int .i64 (i : Int)) (e3 : a.eval z = .int .i64 (j : Int)) (ht : P.underlying ty = some .string) (hij : i ≤ j) (hj : j ≤ s.size) (h : wpSeq P ops K S l (a.put o.dst (.string (s.extract i j))) w) : wpSeq P ops K S ((o, c) :: l) a w :=
  St.soft hc hw (fun w => run_strSub w hx e1 e2 e3 ht hij hj) h
end
end Go.Proofs.YtcicjklhbnipcaaGreat
namespace Go.Proofs.YtcicjklhbnipcaaGreat
set_option linter.unusedVariables false
set_option linter.unusedSimpArgs false
open Go.RowKit Go.Maps
theorem only_row {w0 w : World} {F : List Nat} {b q : Nat} {vs : List Value} (h : Only F w0 w) (hc : w0.rangeAt b q vs) (hF : b ∉ F) : w.rangeAt b q vs := fun j v hj => only_cell h (hc j v hj) hF
/-- Where the document's table lies. -/
structure RX where
  g : Nat
  s : Option (Nat × Nat)
def rE (x : RX) (q nx : Int) (n : Nat) : Ent := (x.g, true, .cells [.int .i64 q, .int .i64 nx, slV x.s n] 43)
abbrev nodL (s : Option (Nat × Nat)) (zs : List NodV) : List Ent := slL s (zs.flatMap NodV.cells) 63 6
abbrev NodOK (s : Option (Nat × Nat)) (zs : List NodV) : Prop := SlOK s zs.length (zs.flatMap NodV.cells) 6
/-- The table, and what it reads but never writes. -/
def rL (x : RX) (q nx : Int) (zs : List NodV) : List Ent := rE x q nx zs.length :: (nodL x.s zs ++ zs.flatMap NodV.ents).map unflag
theorem At.flag {L : List Ent} {w : World} (h : At (L.map unflag) w) : At L w := ⟨fun x hx => h.has (unflag x) (List.mem_map_of_mem hx), by have := h.nd; unfold keysOf at this ⊢; rw [List.map_map] at this; exact this⟩
theorem keys_unflag (L : List Ent) : keysOf (L.map unflag) = keysOf L := by unfold keysOf; rw [List.map_map]; rfl
theorem NodV.len (z : NodV) : z.cells.length = 6 := rfl
theorem nodC_len : ∀ zs : List NodV, (zs.flatMap NodV.cells).length = zs.length * 6
  | [] => rfl
  | z :: r => by rw [List.flatMap_cons, List.length_append, nodC_len r, List.length_cons, NodV.len]; omega
theorem node_at {zs : List NodV} {k : Nat} {z : NodV} (h : zs[k]? = some z) : ((zs.flatMap NodV.cells).drop (k * 6)).take 6 = z.cells := by
  induction zs generalizing k with
  | nil => simp at h
  | cons y r ih =>
    rw [List.flatMap_cons]
    cases k with
    | zero =>
      simp only [List.getElem?_cons_zero, Option.some.injEq] at h
      subst h
      rw [Nat.zero_mul, List.drop_zero, List.take_append_of_le_length (by rw [NodV.len]; omega)]
      rfl
    | succ k =>
      rw [List.getElem?_cons_succ] at h
      rw [show (k + 1) * 6 = y.cells.length + k * 6 by rw [NodV.len]; omega, List.drop_append, List.drop_of_length_le (by omega), Nat.add_sub_cancel_left, List.nil_append]
      exact ih h
section
variable {w w' w0 : World} {F : List Nat} {L : List Ent} {s : Option (Nat × Nat)} {zs : List NodV} {x : RX} {t : TabD} {N : Nat} {q nx : Int}
theorem node_row {g cap : Nat} (hA : At (nodL (some (g, cap)) zs) w) {k : Nat} {z : NodV} (hz : zs[k]? = some z) : w.rangeAt g (k * 6) z.cells := by
  have hk := (List.getElem?_eq_some_iff.1 hz).1
  have := Res.range (q := k * 6) (n := 6) (hA.has (g, true, .pre (zs.flatMap NodV.cells) 63 (cap * 6)) (.head _)) (by show k * 6 + 6 ≤ (zs.flatMap NodV.cells).length; rw [nodC_len]; omega)
  rw [show (Res.pre (zs.flatMap NodV.cells) 63 (cap * 6)).known = zs.flatMap NodV.cells from rfl, node_at hz] at this
  exact this
/-- The document's table stands here. -/
structure RRaw (x : RX) (q nx : Int) (zs : List NodV) (w : World) : Prop where
  at_ : At (rL x q nx zs) w
  sl : NodOK x.s zs
  names : ∀ z ∈ zs, SlOK z.2 z.1.names.length (entC z.1.names) 2
  len : zs.length ≤ 1000000
theorem RRaw.below (h : RRaw x q nx zs w) (hb : Below w.heap.size w w') : RRaw x q nx zs w' := ⟨h.at_.below hb, h.sl, h.names, h.len⟩
theorem RRaw.row (h : RRaw x q nx zs w) : w.rangeAt x.g 0 [.int .i64 q, .int .i64 nx, slV x.s zs.length] := Res.range (q := 0) (n := 3) (h.at_.has (rE x q nx zs.length) (by unfold rL; exact .head _)) (Nat.le_refl _)
theorem RRaw.both (h : RRaw x q nx zs w) : At (nodL x.s zs ++ zs.flatMap NodV.ents) w := At.flag (h.at_.sub (by unfold rL; exact List.sublist_cons_self _ _))
theorem RRaw.nod (h : RRaw x q nx zs w) : At (nodL x.s zs) w := h.both.sub (List.sublist_append_left _ _)
theorem RRaw.ents (h : RRaw x q nx zs w) : At (zs.flatMap NodV.ents) w := h.both.sub (List.sublist_append_right _ _)
theorem RRaw.apart (h : RRaw x q nx zs w) : x.g ∉ keysOf (nodL x.s zs ++ zs.flatMap NodV.ents) := by
  have := h.at_.nd
  unfold rL at this
  rw [show keysOf (rE x q nx zs.length :: (nodL x.s zs ++ zs.flatMap NodV.ents).map unflag) = x.g :: keysOf ((nodL x.s zs ++ zs.flatMap NodV.ents).map unflag) from rfl, keys_unflag] at this
  exact (List.nodup_cons.1 this).1
theorem RRaw.set0 (h : RRaw x q nx zs w) : At (rE x q nx zs.length :: nodL x.s zs) w := by
  refine ⟨fun y hy => ?_, ?_⟩
  · rcases List.mem_cons.1 hy with rfl | hy
    · exact h.at_.has _ (by unfold rL; exact .head _)
    · exact h.nod.has y hy
  · show (x.g :: keysOf (nodL x.s zs)).Nodup
    refine List.nodup_cons.2 ⟨fun hm => h.apart ?_, h.nod.nd⟩
    unfold keysOf at hm ⊢
    rw [List.map_append]
    exact List.mem_append_left _ hm
/-- Where the nodes' array lies. -/
theorem NodOK.some {k : Nat} (h : NodOK s zs) (hk : k < zs.length) : ∃ g cap, s = some (g, cap) ∧ ∃ c, slV s zs.length = .slice (some ⟨g, 0, none⟩) zs.length c := by
  rcases s with _ | ⟨g, cap⟩
  · have := h.2
    simp only at this
    omega
  · exact ⟨g, cap, rfl, _, rfl⟩
def nodZ : Value := .agg #[.int .i64 0, .bool false, .int .i64 0, .int .i64 0, .string ⟨#[]⟩, .slice none 0 0]
set_option maxHeartbeats 8000000 in
set_option maxRecDepth 100000 in
/-- An inode, by its number. -/
theorem rget_any (h : RRaw x q nx zs w0) (id : Int) : Calls Tryz.prog 57 #[.pointer (some ⟨x.g, 0, none⟩), .int .i64 id] w0 fun e w' => e = .returned (match zs.find? (fun z => z.1.id == id) with | some z => .tuple #[.agg z.cells.toArray, .bool true] | none => .tuple #[nodZ, .bool false]) ∧ Below w0.heap.size w0 w' := by
  have hM := St.start w0 []
  have HR := Lib.hid h
  have hrow := h.row
  have hln := h.len
  have hsl := h.sl
  have hnd := h.nod
  have HNM := Lib.hid h.names
  clear h
  obtain ⟨xg, xs⟩ := x
  simp only at hrow hsl hnd ⊢
  obtain ⟨v0, hv0⟩ : ∃ v, v = (match zs.find? (fun z => z.1.id == id) with | some z => Value.tuple #[.agg z.cells.toArray, .bool true] | none => .tuple #[nodZ, .bool false]) := ⟨_, rfl⟩
  rw [← hv0]
  have HV := Lib.hid hv0
  clear hv0
  obtain ⟨va, vc, hv, hva⟩ := slV_open hsl
  rw [hv] at hrow
  have c2 : w0.cell? ⟨xg, 2, none⟩ = some (.slice va zs.length vc) := hrow 2 _ rfl
  have HN := Lib.hid hnd
  have HS := Lib.hid hsl
  clear hrow hnd hsl hv
  go_enter Tryz.func57, Tryz.ntmps57
  (repeat (first | ((with_reducible show wpSeq _ _ _ _ _ _ _); first | ((with_reducible refine wpSeq_nil ?_); refine hKr.out _ _ ?_; clear hKr Kr) | (((refine St.copy (v := ?_) (by exact .inr rfl) rfl rfl ?_ ?_; rotate_left; (focus ((try simp only [Act.eval, getD_lit, qGz, qGs]); with_reducible rfl)))); (try simp only [Act.put, qSa, qSz, qSs])) | (((refine St.alloc (ty := 63) (z := .agg #[.int .i64 0, .bool false, .int .i64 0, .int .i64 0, .string ⟨#[]⟩, .slice none 0 0]) rfl hM rfl rfl (by kernel_rfl) ?_); clear hM; intro w bk hM); (try simp only [Res.put, Res.known, Act.eval, Value.cells, getD_lit, qGz, qGs, List.toList_toArray, qSz, qSs, over, Nat.reduceAdd] at hM); (try simp only [Act.put, qSa, qSz, qSs]))) | (first | (refine wp_seq_shut (fun K hK => ?_)) | (refine wp_text hM (fun Kr hKr => ?_); simp only [List.append_eq, List.cons_append, List.nil_append, inText]) | refine wp_block ?_ | ((refine hK.out _ _ ?_); clear hK K))))
  go_loopw [6] (fun i wr => ∃ k : Nat, k ≤ zs.length ∧ i = .int .i64 k ∧ Hid (zs.find? (fun z => z.1.id == id) = (zs.drop k).find? (fun z => z.1.id == id)) ∧ St w0 [] wr [(bk, true, Res.cells [.int .i64 0, .bool false, .int .i64 0, .int .i64 0, .string ⟨#[]⟩, .slice none 0 0] 63)]) (fun i _ => zs.length - (intOf i).toNat)
  case atStart => exact ⟨0, by omega, rfl, Lib.hid rfl, hM⟩
  case round =>
    clear hM
    obtain ⟨k, hk, rfl, HF, hM⟩ := hrel
    by_cases hlt : k < zs.length
    · obtain ⟨z, hz⟩ := get_at hlt
      have k1 : (k : Int) < (zs.length : Int) := by omega
      rcases xs with _ | ⟨g1, cap1⟩
      · exact absurd HS.out.2 (by omega)
      obtain ⟨rfl, rfl⟩ := hva g1 cap1 rfl
      have r1 := node_row HN.out hz
      have hd : zs.drop k = z :: zs.drop (k + 1) := by rw [List.drop_eq_getElem_cons hlt, (List.getElem?_eq_some_iff.1 hz).2]
      have HF' := HF.out
      rw [hd, List.find?_cons] at HF'
      have c0 : w0.cell? ⟨g1, k * 6, none⟩ = some (.int .i64 z.1.id) := r1 0 _ rfl
      obtain ⟨za, zc, hzv, -⟩ := slV_open (HNM.out z (List.mem_of_getElem? hz))
      unfold NodV.cells at r1
      rw [hzv] at r1
      have HZV := Lib.hid hzv
      clear hz hd HF hzv
      by_cases he : z.1.id = id
      · have q1 : (z.1.id == id) = true := beq_iff_eq.2 he
        rw [q1] at HF'
        have HFF := Lib.hid HF'
        clear HF' he
        (repeat (first | ((with_reducible show wpSeq _ _ _ _ _ _ _); first | ((with_reducible refine wpSeq_nil ?_); refine hKr.out _ _ ?_; clear hKr Kr) | ((first | (refine St.copy (v := ?_) (by first | exact .inl rfl | exact .inr rfl) rfl rfl ?_ ?_; rotate_left; (focus ((try simp only [Act.eval, getD_lit, qGz, qGs]); with_reducible rfl))) | (refine St.pure (v := ?_) rfl rfl rfl (fun w => ?_) ?_; rotate_left; (focus (go_simp; all_goals with_reducible rfl))) | refine St.loadF rfl rfl rfl rfl rfl (only_cell hM.only (by assumption) (by exact List.not_mem_nil)) (by kernel_rfl) ?_ | refine St.loadRowF rfl rfl rfl rfl rfl (only_row hM.only (by assumption) (by exact List.not_mem_nil)) (by kernel_rfl) ?_ | ((((refine St.storeRow rfl hM rfl rfl rfl rfl rfl (by repeat constructor) (Nat.le_of_ble_eq_true rfl) (Nat.le_of_ble_eq_true rfl) (by kernel_rfl) rfl ?_ ?_); (focus ((intro h; cases h; done))); clear hM; intro w hM)); (try simp only [Res.put, Res.known, Act.eval, Value.cells, getD_lit, qGz, qGs, List.toList_toArray, qSz, qSs, over, Nat.reduceAdd] at hM))); (try simp only [Act.put, qSa, qSz, qSs]))) | (first | (refine wp_seq_shut (fun K hK => ?_)) | (refine wp_text hM (fun Kr hKr => ?_); simp only [List.append_eq, List.cons_append, List.nil_append, inText]) | refine wp_block ?_ | refine wp_skip ?_ | (refine wp_cond_true rfl ?_) | ((refine hK.out _ _ ?_); clear hK K))))
        ((refine wp_ret ?_; (try simp only [Exit.then, Exit.inBlock]); refine St.ret hM rfl (by repeat (first | exact Outs.nil | apply Outs.tmp rfl | (apply Outs.row rfl rfl (by repeat constructor) (by kernel_rfl)))) rfl ?_))
        refine ⟨?_, hM.to_below⟩
        rw [HV.out, HFF.out]
        show _ = Ending.returned (.tuple #[.agg z.cells.toArray, .bool true])
        unfold NodV.cells
        rw [HZV.out]
        rfl
      · have q1 : (z.1.id == id) = false := beq_eq_false_iff_ne.2 he
        rw [q1] at HF'
        have HFF := Lib.hid HF'
        clear HF' he
        (repeat (first | ((with_reducible show wpSeq _ _ _ _ _ _ _); first | ((with_reducible refine wpSeq_nil ?_); refine hKr.out _ _ ?_; clear hKr Kr) | ((first | (refine St.copy (v := ?_) (by first | exact .inl rfl | exact .inr rfl) rfl rfl ?_ ?_; rotate_left; (focus ((try simp only [Act.eval, getD_lit, qGz, qGs]); with_reducible rfl))) | refine St.inc rfl rfl rfl rfl rfl (by omega) ?_ | (refine St.pure (v := ?_) rfl rfl rfl (fun w => ?_) ?_; rotate_left; (focus (go_simp; all_goals with_reducible rfl))) | refine St.loadF rfl rfl rfl rfl rfl (only_cell hM.only (by assumption) (by exact List.not_mem_nil)) (by kernel_rfl) ?_); (try simp only [Act.put, qSa, qSz, qSs]))) | (first | (refine wp_seq_shut (fun K hK => ?_)) | (refine wp_text hM (fun Kr hKr => ?_); simp only [List.append_eq, List.cons_append, List.nil_append, inText]) | refine wp_block ?_ | refine wp_skip ?_ | (first | refine wp_cond_true rfl ?_ | refine wp_cond_false rfl ?_) | ((refine hK.out _ _ ?_); clear hK K))))
        (try simp only [Exit.then])
        (refine ⟨?_, ?_⟩; (focus (repeat (first | exact ⟨⟨k + 1, by omega, rfl, HFF, hM⟩, rfl⟩ | apply Exists.intro))); (simp only [getD_lit, qGz, qGs, intOf]; omega))
    · have k0 : ¬ ((k : Int) < (zs.length : Int)) := by omega
      obtain rfl : k = zs.length := by omega
      have HF' := HF.out
      rw [List.drop_length, List.find?_nil] at HF'
      have HFF := Lib.hid HF'
      clear hlt hk HF HF'
      (repeat (first | ((with_reducible show wpSeq _ _ _ _ _ _ _); first | ((with_reducible refine wpSeq_nil ?_); refine hKr.out _ _ ?_; clear hKr Kr) | ((first | (refine St.copy (v := ?_) (by first | exact .inl rfl | exact .inr rfl) rfl rfl ?_ ?_; rotate_left; (focus ((try simp only [Act.eval, getD_lit, qGz, qGs]); with_reducible rfl))) | (refine St.pure (v := ?_) rfl rfl rfl (fun w => ?_) ?_; rotate_left; (focus (go_simp; all_goals with_reducible rfl))) | refine St.loadF rfl rfl rfl rfl rfl (only_cell hM.only (by assumption) (by exact List.not_mem_nil)) (by kernel_rfl) ?_ | ((((refine St.storeRow rfl hM rfl rfl rfl rfl rfl (by repeat constructor) (Nat.le_of_ble_eq_true rfl) (Nat.le_of_ble_eq_true rfl) (by kernel_rfl) rfl ?_ ?_); (focus ((intro h; cases h; done))); clear hM; intro w hM)); (try simp only [Res.put, Res.known, Act.eval, Value.cells, getD_lit, qGz, qGs, List.toList_toArray, qSz, qSs, over, Nat.reduceAdd] at hM))); (try simp only [Act.put, qSa, qSz, qSs]))) | (first | (refine wp_seq_shut (fun K hK => ?_)) | (refine wp_text hM (fun Kr hKr => ?_); simp only [List.append_eq, List.cons_append, List.nil_append, inText]) | (refine wp_cond_false rfl ?_) | (refine wp_exit ?_; simp only [Exit.then, Exit.inBlock, if_true, if_false, reduceCtorEq, Nat.reduceEqDiff, Nat.succ_ne_zero]) | ((first | refine hK.out _ _ ?_ | (clear hK K; refine hK.out _ _ ?_)); clear hK K))))
      ((refine wp_ret ?_; (try simp only [Exit.then, Exit.inBlock]); refine St.ret hM rfl (by repeat (first | exact Outs.nil | apply Outs.tmp rfl | (apply Outs.row rfl rfl (by repeat constructor) (by kernel_rfl)))) rfl ?_))
      refine ⟨?_, hM.to_below⟩
      rw [HV.out, HFF.out]
      rfl
/-- An inode is put in the place of what has its number. -/
def rset (zs : List NodV) (z0 : NodV) : List NodV := zs.flatMap fun z => if z.1.id = z0.1.id then (if 0 < z0.1.links ∨ 0 < z0.1.holds then [z0] else []) else [z]
theorem rset_step {zs : List NodV} {z0 z : NodV} {k : Nat} (h : zs[k]? = some z) : rset (zs.take (k + 1)) z0 = rset (zs.take k) z0 ++ (if z.1.id = z0.1.id then (if 0 < z0.1.links ∨ 0 < z0.1.holds then [z0] else []) else [z]) := by
  unfold rset
  rw [List.take_add_one, h, Option.toList_some, List.flatMap_append, List.flatMap_singleton]
theorem nodC_snoc (ys : List NodV) (z : NodV) : ys.flatMap NodV.cells ++ z.cells = (ys ++ [z]).flatMap NodV.cells := by rw [List.flatMap_append, List.flatMap_singleton]
set_option maxHeartbeats 16000000 in
set_option maxRecDepth 100000 in
theorem rset_any {xg : Nat} {xs : Option (Nat × Nat)} (hA : At (rE ⟨xg, xs⟩ q nx zs.length :: nodL xs zs) w0) (hsl : NodOK xs zs) (hnm : ∀ z ∈ zs, SlOK z.2 z.1.names.length (entC z.1.names) 2) (hl : zs.length ≤ 1000000) (z0 : NodV) (hz0 : SlOK z0.2 z0.1.names.length (entC z0.1.names) 2) :
    Calls Tryz.prog 55 #[.pointer (some ⟨xg, 0, none⟩), .agg z0.cells.toArray] w0 fun e w' => e = .returned (.tuple #[]) ∧ ∃ s', NodOK s' (rset zs z0) ∧ St w0 [xg] w' (rE ⟨xg, s'⟩ q nx (rset zs z0).length :: nodL s' (rset zs z0)) := by
  have hM : St w0 [xg] w0 [rE ⟨xg, xs⟩ q nx zs.length] := (hA.sub (M := [rE ⟨xg, xs⟩ q nx zs.length]) (by simp)).st
  have HN := Lib.hid (hA.sub (M := nodL xs zs) (by simp))
  have HS := Lib.hid hsl
  have HNM := Lib.hid hnm
  have HG := Lib.hid (fun (g cap : Nat) (h : xs = some (g, cap)) => (show g ∉ [xg] from fun hm => by
    rcases List.mem_singleton.1 hm with rfl
    subst h
    have := hA.nd
    simp [keysOf, rE, slL] at this))
  obtain ⟨va, vc, hv, hva⟩ := slV_open hsl
  obtain ⟨wa, wc, hwv, -⟩ := slV_open hz0
  unfold rE at hM
  simp only at hM
  rw [hv] at hM
  clear hA hsl hnm hv hz0
  obtain ⟨⟨zi, zd, zl, zh, zb, zn⟩, zp⟩ := z0
  unfold NodV.cells
  simp only at hwv ⊢
  rw [hwv]
  go_enter Tryz.func55, Tryz.ntmps55
  (repeat (first | ((with_reducible show wpSeq _ _ _ _ _ _ _); first | ((with_reducible refine wpSeq_nil ?_); refine hKr.out _ _ ?_; clear hKr Kr) | ((first | (refine St.copy (v := ?_) (by exact .inr rfl) rfl rfl ?_ ?_; rotate_left; (focus ((try simp only [Act.eval, getD_lit, qGz, qGs]); with_reducible rfl))) | ((((refine St.box rfl hM rfl rfl rfl ?_); clear hM; intro w bk hM)); (try simp only [Res.put, Res.known, Act.eval, Value.cells, getD_lit, qGz, qGs, List.toList_toArray, qSz, qSs, over, Nat.reduceAdd] at hM))); (try simp only [Act.put, qSa, qSz, qSs]))) | (first | (refine wp_seq_shut (fun K hK => ?_)) | (refine wp_text hM (fun Kr hKr => ?_); simp only [List.append_eq, List.cons_append, List.nil_append, inText]) | refine wp_block ?_ | ((refine hK.out _ _ ?_); clear hK K))))
  go_loopw [4, 5] (fun o i wr => ∃ (k : Nat) (s' : Option (Nat × Nat)) (ys : List NodV), k ≤ zs.length ∧ o = slV s' ys.length ∧ i = .int .i64 k ∧ ys.length ≤ k ∧ Hid (ys = rset (zs.take k) (⟨zi, zd, zl, zh, zb, zn⟩, zp)) ∧ NodOK s' ys ∧ St w0 [xg] wr ((bk, true, Res.cells [.int .i64 zi, .bool zd, .int .i64 zl, .int .i64 zh, .string zb, .slice wa zn.length wc] 63) :: (xg, true, Res.cells [.int .i64 q, .int .i64 nx, .slice va zs.length vc] 43) :: nodL s' ys)) (fun _ i _ => zs.length - (intOf i).toNat)
  case atStart => exact ⟨0, none, [], by omega, rfl, rfl, Nat.le_refl _, Lib.hid rfl, ⟨rfl, rfl⟩, hM⟩
  case round =>
    clear hM
    obtain ⟨k, s', ys, hk, rfl, rfl, hyk, HY, hok, hM⟩ := hrel
    have HOK := Lib.hid hok
    clear hok
    obtain ⟨ua, uc, hu, -⟩ := slV_open HOK.out
    by_cases hlt : k < zs.length
    · obtain ⟨z, hz⟩ := get_at hlt
      have k1 : (k : Int) < (zs.length : Int) := by omega
      rcases xs with _ | ⟨g1, cap1⟩
      · exact absurd HS.out.2 (by omega)
      have hgn : g1 ∉ [xg] := HG.out g1 cap1 rfl
      obtain ⟨rfl, rfl⟩ := hva g1 cap1 rfl
      have r1 := node_row HN.out hz
      obtain ⟨za, zc, hzv, -⟩ := slV_open (HNM.out z (List.mem_of_getElem? hz))
      have HSt := Lib.hid (rset_step (z0 := (⟨zi, zd, zl, zh, zb, zn⟩, zp)) hz)
      unfold NodV.cells at r1
      rw [hzv] at r1
      have c0 : w0.cell? ⟨g1, k * 6, none⟩ = some (.int .i64 z.1.id) := r1 0 _ rfl
      have HZV := Lib.hid hzv
      clear hz hzv
      have HS' := HSt.out
      simp only at HS'
      by_cases he : z.1.id = zi
      · have q1 : (z.1.id != zi) = false := by rw [he]; simp
        rw [if_pos he] at HS'
        by_cases hz1 : 0 < zl ∨ 0 < zh
        · rw [if_pos hz1] at HS'
          have HN' := Lib.hid (show ys ++ [((⟨zi, zd, zl, zh, zb, zn⟩, zp) : NodV)] = rset (zs.take (k + 1)) (⟨zi, zd, zl, zh, zb, zn⟩, zp) from by rw [HS', HY.out])
          clear HS' HSt he HY HZV
          rw [hu]
          by_cases hz2 : 0 < zl
          · clear hz1
            (repeat (first | ((with_reducible show wpSeq _ _ _ _ _ _ _); first | ((with_reducible refine wpSeq_nil ?_); refine hKr.out _ _ ?_; clear hKr Kr) | ((first | (refine St.copy (v := ?_) (by exact .inl rfl) rfl rfl ?_ ?_; rotate_left; (focus ((try simp only [Act.eval, getD_lit, qGz, qGs]); with_reducible rfl))) | (refine St.pure (v := ?_) rfl rfl rfl (fun w => ?_) ?_; rotate_left; (focus (go_simp; all_goals with_reducible rfl))) | refine St.load rfl hM rfl rfl rfl rfl (by repeat constructor) (by rfl) (by kernel_rfl) ?_ | refine St.load1 rfl rfl rfl rfl (by repeat constructor) (by rfl) (by kernel_rfl) ?_ | ((refine St.loadRow rfl hM rfl rfl rfl rfl (by repeat constructor) (Nat.le_of_ble_eq_true rfl) (by kernel_rfl) ?_); (try simp only [Res.known, List.drop_succ_cons, List.drop_zero, List.take_succ_cons, List.take_zero])) | refine St.loadF1 rfl rfl rfl rfl (fun w' hS => only_cell hS.only (by assumption) (by first | assumption | exact List.not_mem_nil)) (by kernel_rfl) ?_ | refine wpSeq_off rfl rfl ?_ | (((((refine St.buildSlice (cells := ?_) (e := ?_) rfl hM rfl rfl (fun w => ?_) ?_; rotate_left 2; (focus (go_simp; all_goals with_reducible rfl)))); clear hM; intro w bk hM)); (try simp only [Res.put, Res.known, Act.eval, Value.cells, getD_lit, qGz, qGs, List.toList_toArray, qSz, qSs, over, Nat.reduceAdd] at hM))); (try simp only [Act.put, qSa, qSz, qSs]))) | (first | (refine wp_seq_shut (fun K hK => ?_)) | (refine wp_text hM (fun Kr hKr => ?_); simp only [List.append_eq, List.cons_append, List.nil_append, inText]) | refine wp_block ?_ | refine wp_skip ?_ | (first | refine wp_cond_true rfl ?_ | refine wp_cond_false rfl ?_) | ((refine hK.out _ _ ?_); clear hK K)) | ((refine wp_drawn (id := 5) hM (Sub.all _) [3, 7] [(0, 0), (1, 0), (2, 0), (3, 1), (4, 0), (5, 0), (6, 0), (7, 1), (8, 2), (9, 2), (10, 2)] (by kernel_rfl) (by kernel_rfl) ?_); (clear hM; intro w hM Kr hKr); simp only [opsOf, qGz, qGs])))
            rw [← hu]
            refine St.append (s := s') (n := ys.length) (xs := ys.flatMap NodV.cells) rfl hM rfl rfl rfl rfl rfl (by kernel_rfl) (by intro s'; repeat (first | exact Swap.all | apply Swap.skip)) HOK.out rfl (hM.news (by repeat constructor)) rfl (by rw [maxLen_val]; omega) (by omega) (fun h => by cases h) ?_
            clear hM; intro w s2 hM hk' hs'
            have e1 : ys.flatMap NodV.cells ++ [.int .i64 zi, .bool zd, .int .i64 zl, .int .i64 zh, .string zb, .slice wa zn.length wc] = (ys ++ [((⟨zi, zd, zl, zh, zb, zn⟩, zp) : NodV)]).flatMap NodV.cells := by
              rw [← nodC_snoc]
              rw [← hwv]; rfl
            have e2 : ys.length + 1 = (ys ++ [((⟨zi, zd, zl, zh, zb, zn⟩, zp) : NodV)]).length := by simp
            simp only [Res.known] at hM hk'
            rw [e1] at hM hk'
            rw [e2] at hk'
            rw [e2]
            have HK' := Lib.hid hk'
            clear hk' hs' HOK
            have hyl : (ys ++ [((⟨zi, zd, zl, zh, zb, zn⟩, zp) : NodV)]).length ≤ k + 1 := by rw [List.length_append, List.length_singleton]; omega
            obtain ⟨ub, ud, hu2, -⟩ := slV_open HK'.out
            rw [hu2]
            (try simp only [Act.put, qSa, qSz, qSs])
            (repeat (first | ((with_reducible show wpSeq _ _ _ _ _ _ _); first | ((with_reducible refine wpSeq_nil ?_); refine hKr.out _ _ ?_; clear hKr Kr) | ((first | (refine St.copy (v := ?_) (by first | exact .inl rfl | exact .inr rfl) rfl rfl ?_ ?_; rotate_left; (focus ((try simp only [Act.eval, getD_lit, qGz, qGs]); with_reducible rfl))) | refine St.inc rfl rfl rfl rfl rfl (by omega) ?_); (try simp only [Act.put, qSa, qSz, qSs]))) | (first | (refine wp_text hM (fun Kr hKr => ?_); simp only [List.append_eq, List.cons_append, List.nil_append, inText]) | ((refine hK.out _ _ ?_); clear hK K))))
            replace hM := hM.forget
            (try simp only [Exit.then])
            rw [← hu2]
            (refine ⟨?_, ?_⟩; (focus (repeat (first | exact ⟨⟨k + 1, s2, ys ++ [((⟨zi, zd, zl, zh, zb, zn⟩, zp) : NodV)], by omega, rfl, rfl, hyl, HN', HK'.out, hM⟩, rfl⟩ | apply Exists.intro))); (simp only [getD_lit, qGz, qGs, intOf]; omega))
          · have hz3 : 0 < zh := hz1.resolve_left hz2
            clear hz1
            (repeat (first | ((with_reducible show wpSeq _ _ _ _ _ _ _); first | ((with_reducible refine wpSeq_nil ?_); refine hKr.out _ _ ?_; clear hKr Kr) | ((first | (refine St.copy (v := ?_) (by exact .inl rfl) rfl rfl ?_ ?_; rotate_left; (focus ((try simp only [Act.eval, getD_lit, qGz, qGs]); with_reducible rfl))) | (refine St.pure (v := ?_) rfl rfl rfl (fun w => ?_) ?_; rotate_left; (focus (go_simp; all_goals with_reducible rfl))) | refine St.load rfl hM rfl rfl rfl rfl (by repeat constructor) (by rfl) (by kernel_rfl) ?_ | refine St.load1 rfl rfl rfl rfl (by repeat constructor) (by rfl) (by kernel_rfl) ?_ | ((refine St.loadRow rfl hM rfl rfl rfl rfl (by repeat constructor) (Nat.le_of_ble_eq_true rfl) (by kernel_rfl) ?_); (try simp only [Res.known, List.drop_succ_cons, List.drop_zero, List.take_succ_cons, List.take_zero])) | refine St.loadF1 rfl rfl rfl rfl (fun w' hS => only_cell hS.only (by assumption) (by first | assumption | exact List.not_mem_nil)) (by kernel_rfl) ?_ | (((((refine St.buildSlice (cells := ?_) (e := ?_) rfl hM rfl rfl (fun w => ?_) ?_; rotate_left 2; (focus (go_simp; all_goals with_reducible rfl)))); clear hM; intro w bk hM)); (try simp only [Res.put, Res.known, Act.eval, Value.cells, getD_lit, qGz, qGs, List.toList_toArray, qSz, qSs, over, Nat.reduceAdd] at hM))); (try simp only [Act.put, qSa, qSz, qSs]))) | (first | (refine wp_seq_shut (fun K hK => ?_)) | (refine wp_text hM (fun Kr hKr => ?_); simp only [List.append_eq, List.cons_append, List.nil_append, inText]) | refine wp_block ?_ | refine wp_skip ?_ | (first | refine wp_cond_true rfl ?_ | refine wp_cond_false rfl ?_) | ((refine hK.out _ _ ?_); clear hK K)) | ((refine wp_drawn (id := 5) hM (Sub.all _) [3, 7] [(0, 0), (1, 0), (2, 0), (3, 1), (4, 0), (5, 0), (6, 0), (7, 1), (8, 2), (9, 2), (10, 2)] (by kernel_rfl) (by kernel_rfl) ?_); (clear hM; intro w hM Kr hKr); simp only [opsOf, qGz, qGs])))
            rw [← hu]
            refine St.append (s := s') (n := ys.length) (xs := ys.flatMap NodV.cells) rfl hM rfl rfl rfl rfl rfl (by kernel_rfl) (by intro s'; repeat (first | exact Swap.all | apply Swap.skip)) HOK.out rfl (hM.news (by repeat constructor)) rfl (by rw [maxLen_val]; omega) (by omega) (fun h => by cases h) ?_
            clear hM; intro w s2 hM hk' hs'
            have e1 : ys.flatMap NodV.cells ++ [.int .i64 zi, .bool zd, .int .i64 zl, .int .i64 zh, .string zb, .slice wa zn.length wc] = (ys ++ [((⟨zi, zd, zl, zh, zb, zn⟩, zp) : NodV)]).flatMap NodV.cells := by
              rw [← nodC_snoc]
              rw [← hwv]; rfl
            have e2 : ys.length + 1 = (ys ++ [((⟨zi, zd, zl, zh, zb, zn⟩, zp) : NodV)]).length := by simp
            simp only [Res.known] at hM hk'
            rw [e1] at hM hk'
            rw [e2] at hk'
            rw [e2]
            have HK' := Lib.hid hk'
            clear hk' hs' HOK
            have hyl : (ys ++ [((⟨zi, zd, zl, zh, zb, zn⟩, zp) : NodV)]).length ≤ k + 1 := by rw [List.length_append, List.length_singleton]; omega
            obtain ⟨ub, ud, hu2, -⟩ := slV_open HK'.out
            rw [hu2]
            (try simp only [Act.put, qSa, qSz, qSs])
            (repeat (first | ((with_reducible show wpSeq _ _ _ _ _ _ _); first | ((with_reducible refine wpSeq_nil ?_); refine hKr.out _ _ ?_; clear hKr Kr) | ((first | (refine St.copy (v := ?_) (by first | exact .inl rfl | exact .inr rfl) rfl rfl ?_ ?_; rotate_left; (focus ((try simp only [Act.eval, getD_lit, qGz, qGs]); with_reducible rfl))) | refine St.inc rfl rfl rfl rfl rfl (by omega) ?_); (try simp only [Act.put, qSa, qSz, qSs]))) | (first | (refine wp_text hM (fun Kr hKr => ?_); simp only [List.append_eq, List.cons_append, List.nil_append, inText]) | ((refine hK.out _ _ ?_); clear hK K))))
            replace hM := hM.forget
            (try simp only [Exit.then])
            rw [← hu2]
            (refine ⟨?_, ?_⟩; (focus (repeat (first | exact ⟨⟨k + 1, s2, ys ++ [((⟨zi, zd, zl, zh, zb, zn⟩, zp) : NodV)], by omega, rfl, rfl, hyl, HN', HK'.out, hM⟩, rfl⟩ | apply Exists.intro))); (simp only [getD_lit, qGz, qGs, intOf]; omega))
        · rw [if_neg hz1] at HS'
          have hz2 : ¬ 0 < zl := fun h => hz1 (.inl h)
          have hz3 : ¬ 0 < zh := fun h => hz1 (.inr h)
          have HN' := Lib.hid (show ys = rset (zs.take (k + 1)) (⟨zi, zd, zl, zh, zb, zn⟩, zp) from by rw [HS', List.append_nil, HY.out])
          clear HS' HSt he HY HZV hz1
          rw [hu]
          (repeat (first | ((with_reducible show wpSeq _ _ _ _ _ _ _); first | ((with_reducible refine wpSeq_nil ?_); refine hKr.out _ _ ?_; clear hKr Kr) | ((first | (refine St.copy (v := ?_) (by first | exact .inl rfl | exact .inr rfl) rfl rfl ?_ ?_; rotate_left; (focus ((try simp only [Act.eval, getD_lit, qGz, qGs]); with_reducible rfl))) | refine St.inc rfl rfl rfl rfl rfl (by omega) ?_ | (refine St.pure (v := ?_) rfl rfl rfl (fun w => ?_) ?_; rotate_left; (focus (go_simp; all_goals with_reducible rfl))) | refine St.load rfl hM rfl rfl rfl rfl (by repeat constructor) (by rfl) (by kernel_rfl) ?_ | refine St.load1 rfl rfl rfl rfl (by repeat constructor) (by rfl) (by kernel_rfl) ?_ | refine St.loadF1 rfl rfl rfl rfl (fun w' hS => only_cell hS.only (by assumption) (by assumption)) (by kernel_rfl) ?_); (try simp only [Act.put, qSa, qSz, qSs]))) | (first | (refine wp_seq_shut (fun K hK => ?_)) | (refine wp_text hM (fun Kr hKr => ?_); simp only [List.append_eq, List.cons_append, List.nil_append, inText]) | refine wp_block ?_ | refine wp_skip ?_ | (first | refine wp_cond_true rfl ?_ | refine wp_cond_false rfl ?_) | ((refine hK.out _ _ ?_); clear hK K)) | ((refine wp_drawn (id := 5) hM (Sub.all _) [3, 7] [(0, 0), (1, 0), (2, 0), (3, 1), (4, 0), (5, 0), (6, 0), (7, 1), (8, 2), (9, 2), (10, 2)] (by kernel_rfl) (by kernel_rfl) ?_); (clear hM; intro w hM Kr hKr); simp only [opsOf, qGz, qGs])))
          (try simp only [Exit.then])
          rw [← hu]
          (refine ⟨?_, ?_⟩; (focus (repeat (first | exact ⟨⟨k + 1, s', ys, by omega, rfl, rfl, by omega, HN', HOK.out, hM⟩, rfl⟩ | apply Exists.intro))); (simp only [getD_lit, qGz, qGs, intOf]; omega))
      · have q1 : (z.1.id != zi) = true := bne_iff_ne.2 he
        rw [if_neg he] at HS'
        have HN' := Lib.hid (show ys ++ [z] = rset (zs.take (k + 1)) (⟨zi, zd, zl, zh, zb, zn⟩, zp) from by rw [HS', HY.out])
        clear HS' HSt he HY
        rw [hu]
        (repeat (first | ((with_reducible show wpSeq _ _ _ _ _ _ _); first | ((with_reducible refine wpSeq_nil ?_); refine hKr.out _ _ ?_; clear hKr Kr) | ((first | (refine St.copy (v := ?_) (by exact .inl rfl) rfl rfl ?_ ?_; rotate_left; (focus ((try simp only [Act.eval, getD_lit, qGz, qGs]); with_reducible rfl))) | (refine St.pure (v := ?_) rfl rfl rfl (fun w => ?_) ?_; rotate_left; (focus (go_simp; all_goals with_reducible rfl))) | refine St.load rfl hM rfl rfl rfl rfl (by repeat constructor) (by rfl) (by kernel_rfl) ?_ | refine St.load1 rfl rfl rfl rfl (by repeat constructor) (by rfl) (by kernel_rfl) ?_ | refine St.loadF1 rfl rfl rfl rfl (fun w' hS => only_cell hS.only (by assumption) (by first | assumption | exact List.not_mem_nil)) (by kernel_rfl) ?_ | refine St.loadRowF rfl rfl rfl rfl rfl (only_row hM.only (by assumption) (by assumption)) (by kernel_rfl) ?_ | (((((refine St.buildSlice (cells := ?_) (e := ?_) rfl hM rfl rfl (fun w => ?_) ?_; rotate_left 2; (focus (go_simp; all_goals with_reducible rfl)))); clear hM; intro w bk hM)); (try simp only [Res.put, Res.known, Act.eval, Value.cells, getD_lit, qGz, qGs, List.toList_toArray, qSz, qSs, over, Nat.reduceAdd] at hM))); (try simp only [Act.put, qSa, qSz, qSs]))) | (first | (refine wp_seq_shut (fun K hK => ?_)) | (refine wp_text hM (fun Kr hKr => ?_); simp only [List.append_eq, List.cons_append, List.nil_append, inText]) | refine wp_block ?_ | refine wp_skip ?_ | (refine wp_cond_true rfl ?_) | ((refine hK.out _ _ ?_); clear hK K)) | ((refine wp_drawn (id := 5) hM (Sub.all _) [3, 7] [(0, 0), (1, 0), (2, 0), (3, 1), (4, 0), (5, 0), (6, 0), (7, 1), (8, 2), (9, 2), (10, 2)] (by kernel_rfl) (by kernel_rfl) ?_); (clear hM; intro w hM Kr hKr); simp only [opsOf, qGz, qGs])))
        rw [← hu]
        refine St.append (s := s') (n := ys.length) (xs := ys.flatMap NodV.cells) rfl hM rfl rfl rfl rfl rfl (by kernel_rfl) (by intro s'; repeat (first | exact Swap.all | apply Swap.skip)) HOK.out rfl (hM.news (by repeat constructor)) rfl (by rw [maxLen_val]; omega) (by omega) (fun h => by cases h) ?_
        clear hM; intro w s2 hM hk' hs'
        have e1 : ys.flatMap NodV.cells ++ [.int .i64 z.1.id, .bool z.1.dir, .int .i64 z.1.links, .int .i64 z.1.holds, .string z.1.data, .slice za z.1.names.length zc] = (ys ++ [z]).flatMap NodV.cells := by
          rw [← nodC_snoc]
          unfold NodV.cells; rw [HZV.out]
        have e2 : ys.length + 1 = (ys ++ [z]).length := by simp
        simp only [Res.known] at hM hk'
        rw [e1] at hM hk'
        rw [e2] at hk'
        rw [e2]
        have HK' := Lib.hid hk'
        clear hk' hs' HOK
        have hyl : (ys ++ [z]).length ≤ k + 1 := by rw [List.length_append, List.length_singleton]; omega
        obtain ⟨ub, ud, hu2, -⟩ := slV_open HK'.out
        rw [hu2]
        (try simp only [Act.put, qSa, qSz, qSs])
        (repeat (first | ((with_reducible show wpSeq _ _ _ _ _ _ _); first | ((with_reducible refine wpSeq_nil ?_); refine hKr.out _ _ ?_; clear hKr Kr) | ((first | (refine St.copy (v := ?_) (by first | exact .inl rfl | exact .inr rfl) rfl rfl ?_ ?_; rotate_left; (focus ((try simp only [Act.eval, getD_lit, qGz, qGs]); with_reducible rfl))) | refine St.inc rfl rfl rfl rfl rfl (by omega) ?_); (try simp only [Act.put, qSa, qSz, qSs]))) | (first | (refine wp_text hM (fun Kr hKr => ?_); simp only [List.append_eq, List.cons_append, List.nil_append, inText]) | ((refine hK.out _ _ ?_); clear hK K))))
        replace hM := hM.forget
        (try simp only [Exit.then])
        rw [← hu2]
        (refine ⟨?_, ?_⟩; (focus (repeat (first | exact ⟨⟨k + 1, s2, ys ++ [z], by omega, rfl, rfl, hyl, HN', HK'.out, hM⟩, rfl⟩ | apply Exists.intro))); (simp only [getD_lit, qGz, qGs, intOf]; omega))
    · have k0 : ¬ ((k : Int) < (zs.length : Int)) := by omega
      obtain rfl : k = zs.length := by omega
      have HY2 := HY.out
      rw [List.take_length] at HY2
      have HZ := Lib.hid HY2
      clear hlt hk HY HY2
      rw [hu]
      (repeat (first | ((with_reducible show wpSeq _ _ _ _ _ _ _); first | ((with_reducible refine wpSeq_nil ?_); refine hKr.out _ _ ?_; clear hKr Kr) | ((first | (refine St.copy (v := ?_) (by exact .inl rfl) rfl rfl ?_ ?_; rotate_left; (focus ((try simp only [Act.eval, getD_lit, qGz, qGs]); with_reducible rfl))) | (refine St.pure (v := ?_) rfl rfl rfl (fun w => ?_) ?_; rotate_left; (focus (go_simp; all_goals with_reducible rfl))) | refine St.load rfl hM rfl rfl rfl rfl (by repeat constructor) (by rfl) (by kernel_rfl) ?_ | ((((refine St.store rfl hM rfl rfl rfl rfl rfl (by repeat constructor) (Nat.le_of_ble_eq_true rfl) (by kernel_rfl) rfl ?_ ?_); (focus ((intro h; cases h; done))); clear hM; intro w hM)); (try simp only [Res.put, Res.known, Act.eval, Value.cells, getD_lit, qGz, qGs, List.toList_toArray, qSz, qSs, over, Nat.reduceAdd] at hM))); (try simp only [Act.put, qSa, qSz, qSs]))) | (first | (refine wp_seq_shut (fun K hK => ?_)) | (refine wp_text hM (fun Kr hKr => ?_); simp only [List.append_eq, List.cons_append, List.nil_append, inText]) | (refine wp_cond_false rfl ?_) | (refine wp_exit ?_; simp only [Exit.then, Exit.inBlock, if_true, if_false, reduceCtorEq, Nat.reduceEqDiff, Nat.succ_ne_zero]) | ((first | refine hK.out _ _ ?_ | (clear hK K; refine hK.out _ _ ?_)); clear hK K))))
      ((refine St.fin hM rfl (by repeat (exact Outs.nil)) rfl ?_))
      rw [← HZ.out]
      rw [← hu] at hM
      exact ⟨rfl, s', HOK.out, hM.forget⟩
end
end Go.Proofs.YtcicjklhbnipcaaGreat
namespace Go.Proofs.YtcicjklhbnipcaaGreat
set_option linter.unusedVariables false
set_option linter.unusedSimpArgs false
open Go.RowKit Go.Maps
theorem Only.has {w0 w : World} {F : List Nat} {L : List Ent} (h : Only F w0 w) (hL : Has L w0) (hF : ∀ k ∈ keysOf L, k ∉ F) : Has L w := fun x hx => by
  rw [h.block x.1 (hL.lt hx) (hF _ (List.mem_map_of_mem hx))]
  exact hL x hx
theorem keys_app (A B : List Ent) : keysOf (A ++ B) = keysOf A ++ keysOf B := by unfold keysOf; rw [List.map_append]
/-- What is read and never written stands beside. -/
theorem St.join {w0 w : World} {F : List Nat} {L E : List Ent} (h : St w0 F w L) (hE : At E w0) (hF : ∀ k ∈ keysOf E, k ∉ F) (hL : flagged L) : St w0 F w (L ++ E.map unflag) := by
  have hh := h.only.has hE.has hF
  refine ⟨h.only, fun y hy => ?_, ?_, fun y hy h1 => ?_⟩
  · rcases List.mem_append.1 hy with hy | hy
    · exact h.holds y hy
    · obtain ⟨z, hz, rfl⟩ := List.mem_map.1 hy
      exact hh z hz
  · show (keysOf (L ++ E.map unflag)).Nodup
    rw [keys_app, keys_unflag]
    refine List.nodup_append.2 ⟨h.nd, hE.nd, fun a ha b hb hab => ?_⟩
    subst hab
    obtain ⟨y, hy, rfl⟩ := List.mem_map.1 ha
    rcases h.own y hy (hL y hy) with h1 | h1
    · exact hF _ hb h1
    · have := hE.lt _ hb
      omega
  · rcases List.mem_append.1 hy with hy | hy
    · exact h.own y hy h1
    · obtain ⟨z, -, rfl⟩ := List.mem_map.1 hy
      cases h1
/-- Blocks that stand behind: of those before, or new. -/
def Grow (w : World) (K K' : List Nat) : Prop := ∀ k ∈ K', k ∈ K ∨ w.heap.size ≤ k
theorem Grow.trans {w w' : World} {K K' K2 : List Nat} (h : Grow w K K') (h' : Grow w' K' K2) (hs : w.heap.size ≤ w'.heap.size) : Grow w K K2 := fun k hk => by
  rcases h' k hk with h1 | h1
  · exact h k h1
  · exact .inr (Nat.le_trans hs h1)
theorem Grow.refl (w : World) (K : List Nat) : Grow w K K := fun _ h => .inl h
abbrev Ids (zs : List NodV) : Prop := zs.Pairwise fun a b => a.1.id ≠ b.1.id
theorem mem_rset {zs : List NodV} {z0 y : NodV} (h : y ∈ rset zs z0) : y = z0 ∨ (y ∈ zs ∧ y.1.id ≠ z0.1.id) := by
  unfold rset at h
  obtain ⟨z, hz, hy⟩ := List.mem_flatMap.1 h
  by_cases he : z.1.id = z0.1.id
  · rw [if_pos he] at hy
    split at hy
    · exact .inl (List.mem_singleton.1 hy)
    · cases hy
  · rw [if_neg he] at hy
    rcases List.mem_singleton.1 hy with rfl
    exact .inr ⟨hz, he⟩
theorem rset_one (z0 z : NodV) : (if z.1.id = z0.1.id then (if 0 < z0.1.links ∨ 0 < z0.1.holds then [z0] else []) else [z]).length ≤ 1 := by
  split
  · split
    · exact Nat.le_refl _
    · exact Nat.zero_le _
  · exact Nat.le_refl _
theorem rset_len (z0 : NodV) : ∀ zs : List NodV, (rset zs z0).length ≤ zs.length
  | [] => Nat.le_refl _
  | z :: r => by
    have := rset_len z0 r
    have h1 := rset_one z0 z
    unfold rset at this ⊢
    rw [List.flatMap_cons, List.length_append, List.length_cons]
    omega
theorem rset_far {z0 : NodV} : ∀ {zs : List NodV}, (∀ z ∈ zs, z.1.id ≠ z0.1.id) → rset zs z0 = zs
  | [], _ => rfl
  | z :: r, h => by
    have := rset_far (zs := r) fun y hy => h y (.tail _ hy)
    unfold rset at this ⊢
    rw [List.flatMap_cons, if_neg (h z (.head _)), this]
    rfl
theorem slL_nd (s : Option (Nat × Nat)) (xs : List Value) (e : TypeId) (size : Nat) : (keysOf (slL s xs e size)).Nodup := by
  rcases s with _ | ⟨g, c⟩
  · exact List.nodup_nil
  · exact List.nodup_cons.2 ⟨nofun, List.nodup_nil⟩
theorem keys_mem {zs : List NodV} {k : Nat} (h : k ∈ keysOf (zs.flatMap NodV.ents)) : ∃ z ∈ zs, k ∈ keysOf z.ents := by
  obtain ⟨y, hy, rfl⟩ := List.mem_map.1 h
  obtain ⟨z, hz, hy⟩ := List.mem_flatMap.1 hy
  exact ⟨z, hz, List.mem_map_of_mem hy⟩
theorem mem_keys {zs : List NodV} {k : Nat} {z : NodV} (hz : z ∈ zs) (h : k ∈ keysOf z.ents) : k ∈ keysOf (zs.flatMap NodV.ents) := by
  obtain ⟨y, hy, rfl⟩ := List.mem_map.1 h
  exact List.mem_map_of_mem (List.mem_flatMap.2 ⟨z, hz, hy⟩)
theorem rset_nd {z0 : NodV} : ∀ {zs : List NodV}, (keysOf (zs.flatMap NodV.ents)).Nodup → Ids zs → (∀ z ∈ zs, z.1.id ≠ z0.1.id → ∀ k ∈ keysOf z.ents, k ∉ keysOf z0.ents) → (keysOf ((rset zs z0).flatMap NodV.ents)).Nodup
  | [], _, _, _ => List.nodup_nil
  | z :: r, h1, h2, h3 => by
    rw [List.flatMap_cons, keys_app] at h1
    obtain ⟨a1, a2, a3⟩ := List.nodup_append.1 h1
    obtain ⟨b1, b2⟩ := List.pairwise_cons.1 h2
    have ih := rset_nd (z0 := z0) a2 b2 fun y hy => h3 y (.tail _ hy)
    by_cases he : z.1.id = z0.1.id
    · have hr : rset (z :: r) z0 = (if 0 < z0.1.links ∨ 0 < z0.1.holds then [z0] else []) ++ r := by
        have := rset_far (z0 := z0) (zs := r) fun y hy e => b1 y hy (he.trans e.symm)
        unfold rset at this ⊢
        rw [List.flatMap_cons, this, if_pos he]
      rw [hr]
      split
      · rw [List.cons_append, List.nil_append, List.flatMap_cons, keys_app]
        refine List.nodup_append.2 ⟨slL_nd _ _ _ _, a2, fun a ha b hb hab => ?_⟩
        subst hab
        obtain ⟨y, hy, hk⟩ := keys_mem hb
        exact h3 y (.tail _ hy) (fun e => b1 y hy (he.trans e.symm)) _ hk ha
      · exact a2
    · have hr : rset (z :: r) z0 = z :: rset r z0 := by
        unfold rset
        rw [List.flatMap_cons, if_neg he]
        rfl
      rw [hr, List.flatMap_cons, keys_app]
      refine List.nodup_append.2 ⟨a1, ih, fun a ha b hb hab => ?_⟩
      subst hab
      obtain ⟨y, hy, hk⟩ := keys_mem hb
      rcases mem_rset hy with rfl | ⟨hy, -⟩
      · exact h3 z (.head _) he _ ha hk
      · exact a3 _ ha _ (mem_keys hy hk) rfl
theorem rset_nodes (z0 : NodV) : ∀ zs : List NodV, (rset zs z0).map (·.1) = if 0 < z0.1.links ∨ 0 < z0.1.holds then In.set (zs.map (·.1)) z0.1 else In.del (zs.map (·.1)) z0.1.id
  | [] => by split <;> rfl
  | z :: r => by
    have ih := rset_nodes z0 r
    unfold rset In.set In.del at ih ⊢
    rw [List.flatMap_cons, List.map_append, ih]
    by_cases he : z.1.id = z0.1.id
    · have q : (z.1.id == z0.1.id) = true := beq_iff_eq.2 he
      rw [if_pos he]
      by_cases ha : 0 < z0.1.links ∨ 0 < z0.1.holds
      · rw [if_pos ha, if_pos ha, if_pos ha]
        simp [he]
      · rw [if_neg ha, if_neg ha, if_neg ha]
        simp [q]
    · have q : (z.1.id == z0.1.id) = false := beq_eq_false_iff_ne.2 he
      rw [if_neg he]
      by_cases ha : 0 < z0.1.links ∨ 0 < z0.1.holds
      · rw [if_pos ha, if_pos ha]
        simp [he]
      · rw [if_neg ha, if_neg ha]
        simp [q]
section
variable {w w' w0 : World} {zs : List NodV} {x : RX} {q nx : Int}
/-- The document's table stands behind, and just its own block was written. -/
structure RTo (g : Nat) (s : Option (Nat × Nat)) (q nx : Int) (zs : List NodV) (K : List Nat) (w0 w' : World) : Prop where
  raw : RRaw ⟨g, s⟩ q nx zs w'
  st : St w0 [g] w' (rL ⟨g, s⟩ q nx zs)
  grow : Grow w0 K (keysOf (rL ⟨g, s⟩ q nx zs))
end
end Go.Proofs.YtcicjklhbnipcaaGreat
