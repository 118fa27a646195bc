/-
  Layer 35: reports, plain: before, whether a report may be, which calls are ahead, how often the power failed.
-/
import Derived.Test.YtlniiaopindjnaaDoorHisR
namespace Go.Proofs.YtlniiaopindjnaaDoor
set_option linter.unusedVariables false
open Go.RowKit
namespace Hi
def before (a b : EventD) : Bool := decide (a.state ≠ 3) && decide (a.end_ < b.begin_)
def ans0 (x : AnswerD) : Bool := decide (x.err = 0) && decide (x.id.toList = []) && decide (x.n = 0) && decide (x.text.toList = [])
def isEvent (e : EventD) : Bool := if e.state = 1 then decide (e.begin_ < e.end_) else if e.state = 2 then decide (e.begin_ < e.end_) && ans0 e.answer else if e.state = 3 then decide (e.end_ = 0) && ans0 e.answer else false
def cut (e : EventD) (at_ : Int) : Bool := decide (at_ ≠ e.begin_) && decide (at_ ≠ e.end_) && (decide (at_ < e.begin_) || (decide (e.state ≠ 3) && decide (e.end_ < at_)))
def clash (e f : EventD) : Bool := decide (f.pid = e.pid) && (decide (f.state = 3) || decide (e.begin_ ≤ f.end_))
/-- May a call be seen so, behind these, while the power failed at those times? -/
def fine (pw : List Int) (last : Int) (prev : List EventD) (e : EventD) : Bool := decide (last < e.begin_) && isEvent e && !prev.any (clash e) && pw.all (cut e)
def go (pw : List Int) : Int → List EventD → List EventD → Bool
  | _, _, [] => true
  | last, prev, e :: r => fine pw last prev e && go pw e.begin_ (prev ++ [e]) r
def rise : List Int → Bool
  | [] => true
  | [_] => true
  | a :: b :: r => decide (a < b) && rise (b :: r)
def check (r : ReportD) : Bool := go r.powers 0 [] r.events && rise r.powers
/-- The places from i on of the calls that ended ahead of a call. -/
def ahead (c : EventD) : Nat → List EventD → List Int
  | _, [] => []
  | i, e :: r => if before e c then (i : Int) :: ahead c (i + 1) r else ahead c (i + 1) r
def aheadD (r : ReportD) (k : Int) : List Int := if k < 0 then [] else match r.events[k.toNat]? with | none => [] | some c => ahead c 0 r.events
def powersD (r : ReportD) (k : Int) : Nat := if k < 0 then 0 else match r.events[k.toNat]? with | none => 0 | some c => r.powers.countP (fun p => decide (p < c.begin_))

/-! ### what a report that may be is -/
theorem fine_out {pw : List Int} {last : Int} {prev : List EventD} {e : EventD} (h : fine pw last prev e = true) : last < e.begin_ ∧ isEvent e = true ∧ (∀ f ∈ prev, clash e f = false) ∧ ∀ p ∈ pw, cut e p = true := by
  simp only [fine, Bool.and_eq_true, decide_eq_true_eq, Bool.not_eq_true', List.any_eq_false, List.all_eq_true] at h
  obtain ⟨⟨⟨h1, h2⟩, h3⟩, h4⟩ := h
  exact ⟨h1, h2, fun f hf => by simpa using h3 f hf, h4⟩
theorem go_at {pw : List Int} : ∀ (l : List EventD) (last : Int) (prev : List EventD), go pw last prev l = true → ∀ k e, l[k]? = some e →
    last < e.begin_ ∧ isEvent e = true ∧ (∀ f ∈ prev ++ l.take k, clash e f = false) ∧ (∀ j f, j < k → l[j]? = some f → f.begin_ < e.begin_)
  | [], _, _, _, k, e, he => by simp at he
  | a :: r, last, prev, h, k, e, he => by
    rw [go, Bool.and_eq_true] at h
    obtain ⟨h1, h2⟩ := h
    obtain ⟨f1, f2, f3, f4⟩ := fine_out h1
    cases k with
    | zero =>
      simp at he
      subst he
      exact ⟨f1, f2, by simpa using f3, fun j f hj => absurd hj (by omega)⟩
    | succ k =>
      simp at he
      obtain ⟨g1, g2, g3, g4⟩ := go_at r _ _ h2 k e he
      refine ⟨by omega, g2, by simpa using g3, fun j f hj hf => ?_⟩
      cases j with
      | zero => simp at hf; subst hf; exact g1
      | succ j => exact g4 j f (by omega) (by simpa using hf)
theorem isEvent_end {e : EventD} (h : isEvent e = true) (h3 : e.state ≠ 3) : e.begin_ < e.end_ := by
  unfold isEvent at h
  split at h
  · simpa using h
  · split at h
    · simp at h; omega
    · cases h
theorem before_iff (a b : EventD) : before a b = true ↔ a.state ≠ 3 ∧ a.end_ < b.begin_ := by simp [before]
/-- In a report that may be, two calls at places i, j, k: the order's laws. -/
theorem order {r : ReportD} (h : check r = true) {i : Nat} {a : EventD} (hi : r.events[i]? = some a) : before a a = false ∧ ∀ {j : Nat} {b : EventD}, r.events[j]? = some b →
    (before a b && before b a) = false ∧ (∀ {c : EventD}, (before a b && before b c && !before a c) = false) ∧ (a.pid = b.pid → i < j → before a b = true) ∧ (before a b = true → i < j) := by
  have hg : go r.powers 0 [] r.events = true := by
    unfold check at h
    simp only [Bool.and_eq_true] at h
    exact h.1
  obtain ⟨a1, a2, a3, a4⟩ := go_at _ _ _ hg i a hi
  refine ⟨?_, fun {j b} hj => ?_⟩
  · cases hb : before a a with
    | false => rfl
    | true =>
      obtain ⟨h1, h2⟩ := (before_iff a a).1 hb
      have := isEvent_end a2 h1
      omega
  · obtain ⟨b1, b2, b3, b4⟩ := go_at _ _ _ hg j b hj
    refine ⟨?_, fun {c} => ?_, fun hp hlt => ?_, fun hb => ?_⟩
    · cases hb : before a b with
      | false => rfl
      | true =>
        cases hb' : before b a with
        | false => rfl
        | true =>
          obtain ⟨h1, h2⟩ := (before_iff a b).1 hb
          obtain ⟨h3, h4⟩ := (before_iff b a).1 hb'
          have := isEvent_end a2 h1
          have := isEvent_end b2 h3
          omega
    · cases hb : before a b with
      | false => rfl
      | true =>
        cases hb' : before b c with
        | false => rfl
        | true =>
          obtain ⟨h1, h2⟩ := (before_iff a b).1 hb
          obtain ⟨h3, h4⟩ := (before_iff b c).1 hb'
          have := isEvent_end b2 h3
          rw [(before_iff a c).2 ⟨h1, by omega⟩]
          rfl
    · have hm : a ∈ r.events.take j := by
        rw [List.mem_iff_getElem?]
        exact ⟨i, by rw [List.getElem?_take_of_lt hlt]; exact hi⟩
      have := b3 a (by simpa using hm)
      simp only [clash, hp, decide_true, Bool.true_and, Bool.or_eq_false_iff, decide_eq_false_iff_not] at this
      exact (before_iff a b).2 ⟨this.1, by omega⟩
    · obtain ⟨h1, h2⟩ := (before_iff a b).1 hb
      have := isEvent_end a2 h1
      rcases Nat.lt_trichotomy i j with hlt | heq | hgt
      · exact hlt
      · subst heq
        rw [hi] at hj
        injection hj with hj
        subst hj
        omega
      · have := a4 j b hgt hj
        omega
theorem ahead_mem (c : EventD) : ∀ (l : List EventD) (i : Nat) (x : Int), x ∈ ahead c i l → ∃ k e, x = ((i + k : Nat) : Int) ∧ l[k]? = some e ∧ before e c = true
  | [], _, _, h => by simp [ahead] at h
  | e :: r, i, x, h => by
    rw [ahead] at h
    split at h
    · rename_i hb
      rcases List.mem_cons.1 h with h | h
      · exact ⟨0, e, by rw [h]; simp, rfl, hb⟩
      · obtain ⟨k, f, h1, h2, h3⟩ := ahead_mem c r (i + 1) x h
        exact ⟨k + 1, f, by rw [h1]; congr 1; omega, by simpa using h2, h3⟩
    · obtain ⟨k, f, h1, h2, h3⟩ := ahead_mem c r (i + 1) x h
      exact ⟨k + 1, f, by rw [h1]; congr 1; omega, by simpa using h2, h3⟩
theorem ahead_length (c : EventD) : ∀ (l : List EventD) (i : Nat), (ahead c i l).length ≤ l.length
  | [], _ => by simp [ahead]
  | e :: r, i => by
    rw [ahead]
    have := ahead_length c r (i + 1)
    split <;> simp <;> omega
theorem ahead_snoc (c e : EventD) : ∀ (l : List EventD) (i : Nat), ahead c i (l ++ [e]) = ahead c i l ++ (if before e c then [((i + l.length : Nat) : Int)] else [])
  | [], i => by simp [ahead]
  | f :: r, i => by
    have e2 : ((i + 1 + r.length : Nat) : Int) = ((i + (r.length + 1) : Nat) : Int) := by congr 1; omega
    rw [List.cons_append, ahead, ahead, ahead_snoc c e r (i + 1), List.length_cons, e2]
    split <;> rfl
end Hi
end Go.Proofs.YtlniiaopindjnaaDoor
