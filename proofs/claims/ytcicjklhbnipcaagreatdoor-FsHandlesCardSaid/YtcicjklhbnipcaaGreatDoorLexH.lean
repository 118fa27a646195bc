/-
  A region that draws its order, walked once in ONE order. What could come up beside others must yield its value whatever came up ahead: a copy or arithmetic (0), or a load that reads what S tells (1). What comes up alone keeps S (2), or needs not, since it waits for each load (3). No program is named here.
-/
import Derived.Deep.RegionHeld3
namespace Go.Proofs.YtcicjklhbnipcaaGreatDoor
set_option linter.unusedVariables false
set_option linter.unusedSimpArgs false

/-- Does operation 'j' wait for operation 'i', by an edge of its own? -/
def waitsFor (md : Region.Mode) (ops : Array Oper) (j i : Nat) : Bool := ((ops[j]?).map fun o => o.after.any fun e => Region.binds md e && e.on == i).getD false
/-- May the operations be walked in this order? 'fl': the loads that are taken first; 'on': S still holds. -/
def schOK (md : Region.Mode) (ops : Array Oper) (fl : List Nat) : List (Nat × Nat) → Array Bool → Bool → Bool
  | [], listed, _ => Region.ready md ops listed == []
  | (k, 4) :: (k', _) :: l, listed, on =>
    Region.ready md ops listed == [k, k'] && Region.ready md ops (listed.setIfInBounds k true) == [k'] && Region.ready md ops (listed.setIfInBounds k' true) == [k] && (listed.setIfInBounds k true).setIfInBounds k' true == (listed.setIfInBounds k' true).setIfInBounds k true && schOK md ops fl l ((listed.setIfInBounds k true).setIfInBounds k' true) on
  | (k, c) :: l, listed, on =>
    (match c with
     | 0 => (Region.ready md ops listed).contains k && Region.free md ops listed k
     | 1 => on && fl.contains k && (Region.ready md ops listed).contains k && Region.free md ops listed k
     | 2 => Region.ready md ops listed == [k]
     | 3 => Region.ready md ops listed == [k] && fl.all fun i => waitsFor md ops k i
     | _ => false) && schOK md ops fl l (listed.setIfInBounds k true) (on && decide (c < 3))
/-- Must operation 'j' keep S? -/
def mustKeep (md : Region.Mode) (ops : Array Oper) (fl : List Nat) (j : Nat) : Bool := !(fl.all fun i => waitsFor md ops j i)
/-- The walk in this order. -/
def wpSch (P : Program) (ops : Array Oper) (Q : Exit → Act → World → Prop) (S : World → Prop) : List (Nat × Nat) → Act → World → Prop
  | [], a, w => Q .normal a w
  | (k, 0) :: l, a, w => ∃ o v, ops[k]? = some o ∧ YieldsIf P ops (fun _ => True) o v a ∧ wpSch P ops Q S l (a.put o.dst v) w
  | (k, 1) :: l, a, w => ∃ o v, ops[k]? = some o ∧ YieldsIf P ops S o v a ∧ wpSch P ops Q S l (a.put o.dst v) w
  | (k, 2) :: l, a, w => ∃ o, ops[k]? = some o ∧ if Region.wanted o (yielded ops a.tmps) = true then o.wp P a w (fun a' w' => (S w → S w') ∧ wpSch P ops Q S l a' w') Q else wpSch P ops Q S l (a.put o.dst undef) w
  | (k, 3) :: l, a, w => ∃ o, ops[k]? = some o ∧ if Region.wanted o (yielded ops a.tmps) = true then o.wp P a w (wpSch P ops Q S l) Q else wpSch P ops Q S l (a.put o.dst undef) w
  | (k, 4) :: (k', _) :: l, a, w => ∃ o o', ops[k]? = some o ∧ ops[k']? = some o' ∧ o.guard = none ∧ o'.guard = none ∧
      o.wp P a w (fun a1 w1 => (S w → S w1) ∧ o'.wp P a1 w1 (fun a2 w2 => (S w1 → S w2) ∧ wpSch P ops Q S l a2 w2) Q) Q ∧
      o'.wp P a w (fun a1 w1 => (S w → S w1) ∧ o.wp P a1 w1 (fun a2 w2 => (S w1 → S w2) ∧ wpSch P ops Q S l a2 w2) Q) Q
  | _, _, _ => False

section
variable {P : Program} {ops : Array Oper} {Q : Exit → Act → World → Prop} {S : World → Prop} {md : Region.Mode}
/-- Whatever order is picked from here on, and S is kept by what must. -/
def wpAnyG (P : Program) (md : Region.Mode) (ops : Array Oper) (Q : Exit → Act → World → Prop) (S : World → Prop) (N : Nat → Bool) : Nat → Array Bool → Act → World → Prop
  | 0, listed, a, w => Region.ready md ops listed = [] ∧ Q .normal a w
  | fuel + 1, listed, a, w =>
    (Region.ready md ops listed = [] → Q .normal a w) ∧
    ∀ i ∈ Region.ready md ops listed, wpOp P ops Q i (fun a' w' => (N i = true → S w → S w') ∧ wpAnyG P md ops Q S N fuel (listed.setIfInBounds i true) a' w') a w
theorem wpAny_of_G {N : Nat → Bool} : ∀ (fuel : Nat) (listed : Array Bool) (a : Act) (w : World), wpAnyG P md ops Q S N fuel listed a w → wpAny P md ops Q fuel listed a w
  | 0, _, _, _, h => h
  | fuel + 1, _, _, _, h => ⟨h.1, fun i hi => wpOp_mono (fun a' w' h' => wpAny_of_G fuel _ a' w' h'.2) (h.2 i hi)⟩
theorem wpAnyG_first {N : Nat → Bool} {S' : World → Prop} {i : Nat} {oi : Oper} {v : Value} (hi : ops[i]? = some oi) (hsel : ∀ (j : Nat) (o : Oper) cs b, ops[j]? = some o → o.op ≠ .select cs b)
    (hQ : ∀ c a w, Q (.panic c) (a.put oi.dst v) w → Q (.panic c) a w)
    (hN : ∀ j oj, ops[j]? = some oj → j ≠ i → (∀ e ∈ oj.after, Region.binds md e = true → e.on ≠ i) → ∀ w w', (N j = true → S w → S w') → S' w → S w → S' w' ∧ S w' ∨ S' w' ∧ S' = fun _ => True)
    (hT : (S' = fun _ => True) ∨ S' = S) :
    ∀ (fuel : Nat) (listed : Array Bool) (a : Act) (w : World),
      (∀ j oj, ops[j]? = some oj → j ≠ i → listed.getD j true = false → (∀ e ∈ oj.after, Region.binds md e = true → e.on ≠ i) → oi.apart ops oj = true) →
      i ∈ Region.ready md ops listed → YieldsIf P ops S' oi v a → S' w →
      wpAnyG P md ops Q S N fuel (listed.setIfInBounds i true) (a.put oi.dst v) w → wpAnyG P md ops Q S N (fuel + 1) listed a w := by
  intro fuel
  induction fuel with
  | zero =>
    intro listed a w _ hr hy hS H
    refine ⟨fun h => (by rw [h] at hr; cases hr), fun j hj => ?_⟩
    by_cases hji : j = i
    · subst hji; exact hy.wpOp hi hS ⟨fun _ h => h, H⟩
    · have := ready_mono hj hji
      rw [H.1] at this
      cases this
  | succ fuel ih =>
    intro listed a w hfree hr hy hS H
    refine ⟨fun h => (by rw [h] at hr; cases hr), fun j hj => ?_⟩
    by_cases hji : j = i
    · subst hji; exact hy.wpOp hi hS ⟨fun _ h => h, H⟩
    · have h1 := H.2 j (ready_mono hj hji)
      obtain ⟨hjun, oj, hoj, hall⟩ := mem_ready.1 hj
      have hnot : ∀ e ∈ oj.after, Region.binds md e = true → e.on ≠ i := fun e he hb heq => by
        have h1 := hall e he hb
        have h0 := (mem_ready.1 hr).1
        rw [heq] at h1
        rcases Nat.lt_or_ge i listed.size with h' | h'
        · simp [h'] at h0 h1; rw [h0] at h1; cases h1
        · simp [Array.getElem?_eq_none h'] at h1
      have h2 := wpOp_putIf hoj (hfree j oj hoj hji hjun hnot) (fun cs b => hsel i oi cs b hi) (fun cs b => hsel j oj cs b hoj) hQ hy h1
      have hfree' : ∀ k ok, ops[k]? = some ok → k ≠ i → (listed.setIfInBounds j true).getD k true = false →
          (∀ e ∈ ok.after, Region.binds md e = true → e.on ≠ i) → oi.apart ops ok = true := fun k ok hk hki hun hno => by
        refine hfree k ok hk hki ?_ hno
        by_cases hjk : j = k
        · subst hjk; exact hjun
        · rw [getD_set_ne true hjk] at hun; exact hun
      refine wpOp_mono (fun a' w' h3 => ⟨h3.2.1, ih (listed.setIfInBounds j true) a' w' hfree' (ready_mono hr (Ne.symm hji)) h3.1 ?_ ?_⟩) h2
      · rcases hT with rfl | rfl
        · trivial
        · rcases hN j oj hoj hji hnot w w' h3.2.1 hS hS with h | h
          · exact h.1
          · exact h.1
      · rw [Array.setIfInBounds_comm _ _ hji]
        exact h3.2.2
theorem waitsFor_spec {j i : Nat} {oj : Oper} (hj : ops[j]? = some oj) (h : waitsFor md ops j i = true) : ∃ e ∈ oj.after, Region.binds md e = true ∧ e.on = i := by
  unfold waitsFor at h
  rw [hj] at h
  simp only [Option.map_some, Option.getD_some, Array.any_eq_true, Bool.and_eq_true, beq_iff_eq] at h
  obtain ⟨n, hn, h1, h2⟩ := h
  exact ⟨_, Array.getElem_mem hn, h1, h2⟩
theorem wpAnyG_of_sch (hs : Region.noSelect ops = true) (hQ : ∀ d v c a w, Q (.panic c) (Act.put a d v) w → Q (.panic c) a w) (fl : List Nat) : ∀ (l : List (Nat × Nat)) (listed : Array Bool) (a : Act) (w : World) (on : Bool),
    schOK md ops fl l listed on = true → (on = true → S w) → wpSch P ops Q S l a w → wpAnyG P md ops Q S (mustKeep md ops fl) l.length listed a w
  | [], _, _, _, _, hB, _, h => ⟨by simpa [schOK] using hB, h⟩
  | (k, 0) :: l, listed, a, w, on, hB, hS, h => by
    simp only [schOK, Bool.and_eq_true] at hB
    obtain ⟨o, v, ho, hy, hK⟩ := h
    exact wpAnyG_first (S' := fun _ => True) ho (Region.noSelect_spec hs) (hQ _ _) (fun _ _ _ _ _ _ _ _ _ _ => .inr ⟨trivial, rfl⟩) (.inl rfl) l.length listed a w (Region.free_spec ho hB.1.2) (by simpa using hB.1.1) hy trivial
      (wpAnyG_of_sch hs hQ fl l _ _ _ _ hB.2 (fun h => hS (by simp only [Bool.and_eq_true] at h; exact h.1)) hK)
  | (k, 1) :: l, listed, a, w, on, hB, hS, h => by
    simp only [schOK, Bool.and_eq_true] at hB
    obtain ⟨⟨⟨⟨hon, hfl⟩, hr⟩, hf⟩, hB2⟩ := hB
    obtain ⟨o, v, ho, hy, hK⟩ := h
    refine wpAnyG_first (S' := S) ho (Region.noSelect_spec hs) (hQ _ _) (fun j oj hj hji hno w w' hk hS1 _ => .inl ?_) (.inr rfl) l.length listed a w (Region.free_spec ho hf) (by simpa using hr) hy (hS hon)
      (wpAnyG_of_sch hs hQ fl l _ _ _ _ hB2 (fun h => hS hon) hK)
    have hm : mustKeep md ops fl j = true := by
      unfold mustKeep
      rw [Bool.not_eq_true', Bool.eq_false_iff]
      intro hall
      have hw := (List.all_eq_true.1 hall) k (by simpa using hfl)
      obtain ⟨e, he, hb, hek⟩ := waitsFor_spec hj hw
      exact hno e he hb hek
    exact ⟨hk hm hS1, hk hm hS1⟩
  | (k, 2) :: l, listed, a, w, on, hB, hS, h => by
    simp only [schOK, Bool.and_eq_true] at hB
    obtain ⟨o, ho, h⟩ := h
    have hr : Region.ready md ops listed = [k] := by simpa using hB.1
    refine ⟨fun h0 => (by rw [hr] at h0; cases h0), fun i hi => ?_⟩
    rw [hr] at hi
    obtain rfl : i = k := by simpa using hi
    unfold wpOp
    simp only [ho]
    split
    · rename_i hw
      rw [if_pos hw] at h
      exact .inl (Oper.wp_mono (fun a' w' h' => ⟨fun _ hs' => h'.1 hs', wpAnyG_of_sch hs hQ fl l _ _ _ _ hB.2 (fun h => h'.1 (hS (by simp only [Bool.and_eq_true] at h; exact h.1))) h'.2⟩) h)
    · rename_i hw
      rw [if_neg hw] at h
      exact ⟨fun _ h => h, wpAnyG_of_sch hs hQ fl l _ _ _ _ hB.2 (fun h => hS (by simp only [Bool.and_eq_true] at h; exact h.1)) h⟩
  | (k, 3) :: l, listed, a, w, on, hB, hS, h => by
    simp only [schOK, Bool.and_eq_true] at hB
    obtain ⟨o, ho, h⟩ := h
    have hr : Region.ready md ops listed = [k] := by simpa using hB.1.1
    have hoff : ∀ b : Bool, (b && decide (3 < 3)) = false := fun b => by simp
    have hB2 := hB.2
    rw [hoff] at hB2
    have hk : mustKeep md ops fl k = false := by unfold mustKeep; rw [hB.1.2]; rfl
    refine ⟨fun h0 => (by rw [hr] at h0; cases h0), fun i hi => ?_⟩
    rw [hr] at hi
    obtain rfl : i = k := by simpa using hi
    unfold wpOp
    simp only [ho]
    split
    · rename_i hw
      rw [if_pos hw] at h
      exact .inl (Oper.wp_mono (fun a' w' h' => ⟨fun h _ => (by rw [hk] at h; cases h), wpAnyG_of_sch hs hQ fl l _ _ _ _ hB2 (fun h => by cases h) h'⟩) h)
    · rename_i hw
      rw [if_neg hw] at h
      exact ⟨fun _ h => h, wpAnyG_of_sch hs hQ fl l _ _ _ _ hB2 (fun h => by cases h) h⟩
  | (k, 4) :: (k', c') :: l, listed, a, w, on, hB, hS, h => by
    simp only [schOK, Bool.and_eq_true] at hB
    obtain ⟨⟨⟨⟨h1, h2⟩, h3⟩, h4⟩, hB2⟩ := hB
    obtain ⟨o, o', ho, ho', hg, hg', ha, hb⟩ := h
    have r1 : Region.ready md ops listed = [k, k'] := by simpa using h1
    have r2 : Region.ready md ops (listed.setIfInBounds k true) = [k'] := by simpa using h2
    have r3 : Region.ready md ops (listed.setIfInBounds k' true) = [k] := by simpa using h3
    have r4 : (listed.setIfInBounds k true).setIfInBounds k' true = (listed.setIfInBounds k' true).setIfInBounds k true := by simpa using h4
    have wn : ∀ (o : Oper) (y : Nat → Option Bool), o.guard = none → Region.wanted o y = true := fun o y h => by unfold Region.wanted; rw [h]
    have fin : ∀ a' w', (on = true → S w') → wpSch P ops Q S l a' w' → wpAnyG P md ops Q S (mustKeep md ops fl) l.length ((listed.setIfInBounds k true).setIfInBounds k' true) a' w' := fun a' w' hs' h' => wpAnyG_of_sch hs hQ fl l _ _ _ _ hB2 hs' h'
    refine ⟨fun h0 => (by rw [r1] at h0; cases h0), fun i hi => ?_⟩
    rw [r1] at hi
    rcases List.mem_cons.1 hi with rfl | hi
    · unfold wpOp
      simp only [ho, wn o _ hg, if_true]
      refine .inl (Oper.wp_mono (fun a1 w1 h' => ⟨fun _ => h'.1, fun h0 => (by rw [r2] at h0; cases h0), fun j hj => ?_⟩) ha)
      rw [r2] at hj
      obtain rfl : j = k' := by simpa using hj
      unfold wpOp
      simp only [ho', wn o' _ hg', if_true]
      exact .inl (Oper.wp_mono (fun a2 w2 h'' => ⟨fun _ => h''.1, fin a2 w2 (fun hon => h''.1 (h'.1 (hS hon))) h''.2⟩) h'.2)
    · obtain rfl : i = k' := by simpa using hi
      unfold wpOp
      simp only [ho', wn o' _ hg', if_true]
      refine .inl (Oper.wp_mono (fun a1 w1 h' => ⟨fun _ => h'.1, fun h0 => (by rw [r3] at h0; cases h0), fun j hj => ?_⟩) hb)
      rw [r3] at hj
      obtain rfl : j = k := by simpa using hj
      unfold wpOp
      simp only [ho, wn o _ hg, if_true]
      rw [← r4]
      exact .inl (Oper.wp_mono (fun a2 w2 h'' => ⟨fun _ => h''.1, fin a2 w2 (fun hon => h''.1 (h'.1 (hS hon))) h''.2⟩) h'.2)
  | [(k, 4)], _, _, _, _, _, _, h => h.elim
  | (k, c + 5) :: l, _, _, _, _, _, _, h => h.elim
end
section
variable {P : Program} {Q : Exit → Act → World → Prop} {K : Act → World → Prop} {S : World → Prop} {a : Act} {w : World} {ops : Array Oper} {l : List (Nat × Nat)} {k : Nat} {o : Oper}
/-- What must hold at the end, and only there. -/
def OnlyThen (K : Act → World → Prop) : Exit → Act → World → Prop
  | .normal, a, w => K a w
  | _, _, _ => False
theorem OnlyThen.put (d : Option Tmp) (v : Value) (c : List PanicEntry) (a : Act) (w : World) (h : OnlyThen K (.panic c) (Act.put a d v) w) : OnlyThen K (.panic c) a w := h
theorem OnlyThen.imp (h : ∀ a w, K a w → Q .normal a w) : ∀ (e : Exit) (a : Act) (w : World), OnlyThen K e a w → Q e a w := fun e a w hk => by
  cases e <;> first | exact h _ _ hk | exact (hk : False).elim
/-- A region that draws. -/
theorem wp_region_sch {id : Nat} (S : World → Prop) (fl : List Nat) (l : List (Nat × Nat)) (hm : P.follows .mixedOrders = true) (hB : (Region.noSelect ops && (l.length == ops.size && schOK .any ops fl l (Array.replicate ops.size false) true)) = true) (hS : S w.drew)
    (h : ∀ K : Act → World → Prop, Shut (∀ a w, Q .normal a w → K a w) → wpSch P ops (OnlyThen K) S l a w.drew) : (Code.region id ops true).wp P Q a w := by
  simp only [Bool.and_eq_true] at hB
  refine Code.wp_mono (OnlyThen.imp (K := fun a w => Q .normal a w) fun _ _ h => h) (wp_region_any hm ?_)
  have hl : l.length = ops.size := by simpa using hB.2.1
  rw [← hl]
  exact wpAny_of_G _ _ _ _ (wpAnyG_of_sch (S := S) (md := .any) hB.1 OnlyThen.put fl l _ a w.drew true (by rw [hl]; exact hB.2.2) (fun _ => hS) (h _ fun _ _ h => h))
/-- A region that does not draw: the order of the text. -/
def txtOK : List (Nat × Nat) → Nat → Bool
  | [], _ => true
  | (k, c) :: l, n => k == n && c == 3 && txtOK l (n + 1)
theorem wpOps_of_txt : ∀ (l : List (Nat × Nat)) (n : Nat) (a : Act) (w : World), txtOK l n = true → wpSch P ops Q S l a w → wpOps P ops Q (List.range' n l.length) a w
  | [], _, _, _, _, h => h
  | (k, c) :: l, n, a, w, hB, h => by
    simp only [txtOK, Bool.and_eq_true] at hB
    obtain ⟨⟨h1, h2⟩, h3⟩ := hB
    obtain rfl : k = n := by simpa using h1
    obtain rfl : c = 3 := by simpa using h2
    obtain ⟨o, ho, h⟩ := h
    rw [List.length_cons, List.range'_succ]
    unfold wpOps
    simp only [ho]
    split
    · rename_i hw
      rw [if_pos hw] at h
      exact .inl (Oper.wp_mono (fun a' w' h' => wpOps_of_txt l (k + 1) _ _ h3 h') h)
    · rename_i hw
      rw [if_neg hw] at h
      exact wpOps_of_txt l (k + 1) _ _ h3 h
theorem wp_region_txt {id : Nat} (l : List (Nat × Nat)) (hB : (l.length == ops.size && txtOK l 0) = true)
    (h : ∀ K : Act → World → Prop, Shut (∀ a w, Q .normal a w → K a w) → wpSch P ops (OnlyThen K) (fun _ => True) l a w) : (Code.region id ops false).wp P Q a w := by
  simp only [Bool.and_eq_true] at hB
  have hl : l.length = ops.size := by simpa using hB.1
  refine Code.wp_mono (OnlyThen.imp (K := fun a w => Q .normal a w) fun _ _ h => h) (wp_region ?_)
  rw [List.range_eq_range', ← hl]
  exact wpOps_of_txt l 0 a w hB.2 (h _ fun _ _ h => h)
/-! ### The operations themselves in their order -/
def wpSeq (P : Program) (ops : Array Oper) (K : Act → World → Prop) (S : World → Prop) : List (Oper × Nat) → Act → World → Prop
  | [], a, w => K a w
  | (o, 0) :: l, a, w => ∃ v, YieldsIf P ops (fun _ => True) o v a ∧ wpSeq P ops K S l (a.put o.dst v) w
  | (o, 1) :: l, a, w => ∃ v, YieldsIf P ops S o v a ∧ wpSeq P ops K S l (a.put o.dst v) w
  | (o, 2) :: l, a, w => if Region.wanted o (yielded ops a.tmps) = true then o.wp P a w (fun a' w' => (S w → S w') ∧ wpSeq P ops K S l a' w') (OnlyThen K) else wpSeq P ops K S l (a.put o.dst undef) w
  | (o, 3) :: l, a, w => if Region.wanted o (yielded ops a.tmps) = true then o.wp P a w (wpSeq P ops K S l) (OnlyThen K) else wpSeq P ops K S l (a.put o.dst undef) w
  | (o, 4) :: (o', _) :: l, a, w => o.guard = none ∧ o'.guard = none ∧
      o.wp P a w (fun a1 w1 => (S w → S w1) ∧ o'.wp P a1 w1 (fun a2 w2 => (S w1 → S w2) ∧ wpSeq P ops K S l a2 w2) (OnlyThen K)) (OnlyThen K) ∧
      o'.wp P a w (fun a1 w1 => (S w → S w1) ∧ o.wp P a1 w1 (fun a2 w2 => (S w1 → S w2) ∧ wpSeq P ops K S l a2 w2) (OnlyThen K)) (OnlyThen K)
  | _, _, _ => False
/-- The operations of an order. -/
def opsOf (l : List Oper) : List (Nat × Nat) → List (Oper × Nat)
  | [] => []
  | (k, c) :: r => (l.getD k default, c) :: opsOf l r
theorem wpSch_of_seq {os : List Oper} : ∀ (l : List (Nat × Nat)) (a : Act) (w : World), (l.all fun x => decide (x.1 < os.length)) = true → wpSeq P os.toArray K S (opsOf os l) a w → wpSch P os.toArray (OnlyThen K) S l a w
  | [], _, _, _, h => h
  | (k, 0) :: l, a, w, hB, h => by
    simp only [List.all_cons, Bool.and_eq_true, decide_eq_true_eq] at hB
    obtain ⟨v, h1, h2⟩ := h
    exact ⟨_, v, by simp [List.getElem?_eq_getElem hB.1, List.getD], h1, wpSch_of_seq l _ _ hB.2 h2⟩
  | (k, 1) :: l, a, w, hB, h => by
    simp only [List.all_cons, Bool.and_eq_true, decide_eq_true_eq] at hB
    obtain ⟨v, h1, h2⟩ := h
    exact ⟨_, v, by simp [List.getElem?_eq_getElem hB.1, List.getD], h1, wpSch_of_seq l _ _ hB.2 h2⟩
  | (k, 2) :: l, a, w, hB, h => by
    simp only [List.all_cons, Bool.and_eq_true, decide_eq_true_eq] at hB
    refine ⟨os.getD k default, by simp [List.getElem?_eq_getElem hB.1, List.getD], ?_⟩
    have h : if Region.wanted (os.getD k default) (yielded os.toArray a.tmps) = true then (os.getD k default).wp P a w (fun a' w' => (S w → S w') ∧ wpSeq P os.toArray K S (opsOf os l) a' w') (OnlyThen K) else wpSeq P os.toArray K S (opsOf os l) (a.put (os.getD k default).dst undef) w := h
    split
    · rename_i hw
      rw [if_pos hw] at h
      exact Oper.wp_mono (fun a' w' h' => ⟨h'.1, wpSch_of_seq l _ _ hB.2 h'.2⟩) h
    · rename_i hw
      rw [if_neg hw] at h
      exact wpSch_of_seq l _ _ hB.2 h
  | (k, 3) :: l, a, w, hB, h => by
    simp only [List.all_cons, Bool.and_eq_true, decide_eq_true_eq] at hB
    refine ⟨os.getD k default, by simp [List.getElem?_eq_getElem hB.1, List.getD], ?_⟩
    have h : if Region.wanted (os.getD k default) (yielded os.toArray a.tmps) = true then (os.getD k default).wp P a w (wpSeq P os.toArray K S (opsOf os l)) (OnlyThen K) else wpSeq P os.toArray K S (opsOf os l) (a.put (os.getD k default).dst undef) w := h
    split
    · rename_i hw
      rw [if_pos hw] at h
      exact Oper.wp_mono (fun a' w' h' => wpSch_of_seq l _ _ hB.2 h') h
    · rename_i hw
      rw [if_neg hw] at h
      exact wpSch_of_seq l _ _ hB.2 h
  | (k, 4) :: (k', c') :: l, a, w, hB, h => by
    simp only [List.all_cons, Bool.and_eq_true, decide_eq_true_eq] at hB
    obtain ⟨g1, g2, g3, g4⟩ := h
    refine ⟨os.getD k default, os.getD k' default, by simp [List.getElem?_eq_getElem hB.1, List.getD], by simp [List.getElem?_eq_getElem hB.2.1, List.getD], g1, g2, ?_, ?_⟩
    · exact Oper.wp_mono (fun a1 w1 h1 => ⟨h1.1, Oper.wp_mono (fun a2 w2 h2 => ⟨h2.1, wpSch_of_seq l _ _ hB.2.2 h2.2⟩) h1.2⟩) g3
    · exact Oper.wp_mono (fun a1 w1 h1 => ⟨h1.1, Oper.wp_mono (fun a2 w2 h2 => ⟨h2.1, wpSch_of_seq l _ _ hB.2.2 h2.2⟩) h1.2⟩) g4
  | [(k, 4)], _, _, _, h => h.elim
  | (k, c + 5) :: l, _, _, _, h => h.elim
/-- The operations in the order of the text. -/
def inText : List Oper → List (Oper × Nat)
  | [] => []
  | o :: l => (o, 3) :: inText l
theorem wpOps_of_text {os : Array Oper} : ∀ (l : List Oper) (n : Nat) (a : Act) (w : World), (∀ j, l[j]? = os[n + j]?) → wpSeq P os K S (inText l) a w → wpOps P os (OnlyThen K) (List.range' n l.length) a w
  | [], _, _, _, _, h => h
  | o :: l, n, a, w, hl, h => by
    have h0 : os[n]? = some o := by simpa using (hl 0).symm
    have hl' : ∀ j, l[j]? = os[n + 1 + j]? := fun j => by have := hl (j + 1); simpa [Nat.add_assoc, Nat.add_comm 1 j] using this
    rw [List.length_cons, List.range'_succ]
    unfold wpOps
    simp only [h0]
    have h : if Region.wanted o (yielded os a.tmps) = true then o.wp P a w (wpSeq P os K S (inText l)) (OnlyThen K) else wpSeq P os K S (inText l) (a.put o.dst undef) w := h
    split
    · rename_i hw
      rw [if_pos hw] at h
      exact .inl (Oper.wp_mono (fun a' w' h' => wpOps_of_text l (n + 1) _ _ hl' h') h)
    · rename_i hw
      rw [if_neg hw] at h
      exact wpOps_of_text l (n + 1) _ _ hl' h
/-- A region in the order of the text. -/
theorem wp_region_text {id : Nat} {os : List Oper} (S : World → Prop) (h : ∀ K : Act → World → Prop, Shut (∀ a w, Q .normal a w → K a w) → wpSeq P os.toArray K S (inText os) a w) : (Code.region id os.toArray false).wp P Q a w := by
  refine Code.wp_mono (OnlyThen.imp (K := fun a w => Q .normal a w) fun _ _ h => h) (wp_region ?_)
  rw [List.range_eq_range', List.size_toArray]
  exact wpOps_of_text os 0 a w (fun j => by simp) (h _ fun _ _ h => h)
/-- A region that draws. -/
theorem wp_region_order {id : Nat} {os : List Oper} (S : World → Prop) (fl : List Nat) (l : List (Nat × Nat)) (hm : P.follows .mixedOrders = true) (hB : ((Region.noSelect os.toArray && (l.length == os.toArray.size && schOK .any os.toArray fl l (Array.replicate os.toArray.size false) true)) && l.all fun x => decide (x.1 < os.length)) = true) (hS : S w.drew)
    (h : ∀ K : Act → World → Prop, Shut (∀ a w, Q .normal a w → K a w) → wpSeq P os.toArray K S (opsOf os l) a w.drew) : (Code.region id os.toArray true).wp P Q a w := by
  simp only [Bool.and_eq_true] at hB
  exact wp_region_sch S fl l hm (by simp only [Bool.and_eq_true]; exact hB.1) hS (fun K hK => wpSch_of_seq l a w.drew hB.2 (h K hK))
/-! ### Steps -/
section
variable {l : List (Oper × Nat)}
theorem wpSeq_nil (h : K a w) : wpSeq P ops K S [] a w := h
theorem wpSeq_at0 {v : Value} (hw : Region.wanted o (yielded ops a.tmps) = true) (hy : ∀ w, (execOp a.eval o).run P w = .ok (.value v) w) (h : wpSeq P ops K S l (a.put o.dst v) w) : wpSeq P ops K S ((o, 0) :: l) a w :=
  ⟨v, .inl ⟨hw, fun w _ => hy w⟩, h⟩
theorem wpSeq_at1 {v : Value} (hw : Region.wanted o (yielded ops a.tmps) = true) (hy : ∀ w, S w → (execOp a.eval o).run P w = .ok (.value v) w) (h : wpSeq P ops K S l (a.put o.dst v) w) : wpSeq P ops K S ((o, 1) :: l) a w :=
  ⟨v, .inl ⟨hw, hy⟩, h⟩
theorem wpSeq_at2 (hw : Region.wanted o (yielded ops a.tmps) = true) (h : ∀ K' : Act → World → Prop, Shut (∀ a w', (S w → S w') → wpSeq P ops K S l a w' → K' a w') → o.wp P a w K' (OnlyThen K)) : wpSeq P ops K S ((o, 2) :: l) a w := by
  show if _ then _ else _
  rw [if_pos hw]; exact h _ (fun a w hS hl => ⟨hS, hl⟩)
theorem wpSeq_at3 (hw : Region.wanted o (yielded ops a.tmps) = true) (h : ∀ K' : Act → World → Prop, Shut (∀ a w', wpSeq P ops K S l a w' → K' a w') → o.wp P a w K' (OnlyThen K)) : wpSeq P ops K S ((o, 3) :: l) a w := by
  show if _ then _ else _
  rw [if_pos hw]; exact h _ (fun a w hl => hl)
/-- An operation whose guard is not met. -/
theorem wpSeq_off {c : Nat} (hc : (c == 0 || c == 1 || c == 2 || c == 3) = true) (hw : Region.wanted o (yielded ops a.tmps) = false) (h : wpSeq P ops K S l (a.put o.dst undef) w) : wpSeq P ops K S ((o, c) :: l) a w := by
  match c with
  | 0 => exact ⟨undef, .inr ⟨hw, rfl⟩, h⟩
  | 1 => exact ⟨undef, .inr ⟨hw, rfl⟩, h⟩
  | 2 => show if _ then _ else _; rw [if_neg (by simp [hw])]; exact h
  | 3 => show if _ then _ else _; rw [if_neg (by simp [hw])]; exact h
  | c + 4 => cases hc
/-- Two operations that may come up in either order. -/
theorem wpSeq_pair {o' : Oper} {c : Nat} (hg : o.guard = none) (hg' : o'.guard = none)
    (ha : o.wp P a w (fun a1 w1 => (S w → S w1) ∧ o'.wp P a1 w1 (fun a2 w2 => (S w1 → S w2) ∧ wpSeq P ops K S l a2 w2) (OnlyThen K)) (OnlyThen K))
    (hb : o'.wp P a w (fun a1 w1 => (S w → S w1) ∧ o.wp P a1 w1 (fun a2 w2 => (S w1 → S w2) ∧ wpSeq P ops K S l a2 w2) (OnlyThen K)) (OnlyThen K)) : wpSeq P ops K S ((o, 4) :: (o', c) :: l) a w :=
  ⟨hg, hg', ha, hb⟩
/-- An operation that only yields a value, from the world alone that it meets. -/
theorem wpSeq_yields {c : Nat} (hc : (c == 2 || c == 3) = true) {v : Value} (hw : Region.wanted o (yielded ops a.tmps) = true) (hy : (execOp a.eval o).run P w = .ok (.value v) w) (h : wpSeq P ops K S l (a.put o.dst v) w) : wpSeq P ops K S ((o, c) :: l) a w := by
  match c with
  | 0 => cases hc
  | 1 => cases hc
  | 2 => exact wpSeq_at2 hw fun K' hK => by unfold Oper.wp; rw [hy]; exact hK.out _ _ id h
  | 3 => exact wpSeq_at3 hw fun K' hK => by unfold Oper.wp; rw [hy]; exact hK.out _ _ h
  | c + 4 => simp at hc
/-- An operation that turns the world. -/
theorem wpSeq_turns {c : Nat} (hc : (c == 2 || c == 3) = true) {w' : World} {n : Next} (hw : Region.wanted o (yielded ops a.tmps) = true) (hy : (execOp a.eval o).run P w = .ok n w') {v : Value} (hn : n = .value v ∨ n = .skip ∧ v = undef) (hS : c = 2 → S w → S w') (h : wpSeq P ops K S l (a.put o.dst v) w') : wpSeq P ops K S ((o, c) :: l) a w := by
  match c with
  | 0 => cases hc
  | 1 => cases hc
  | 2 =>
    refine wpSeq_at2 hw fun K' hK => ?_
    unfold Oper.wp
    rw [hy]
    rcases hn with rfl | ⟨rfl, rfl⟩
    · exact hK.out _ _ (hS rfl) h
    · exact hK.out _ _ (hS rfl) h
  | 3 =>
    refine wpSeq_at3 hw fun K' hK => ?_
    unfold Oper.wp
    rw [hy]
    rcases hn with rfl | ⟨rfl, rfl⟩
    · exact hK.out _ _ h
    · exact hK.out _ _ h
  | c + 4 => simp at hc
/-- A call. -/
theorem wpSeq_calls {c : Nat} (hc : (c == 2 || c == 3) = true) {f : FuncId} {args : Array Value} (hw : Region.wanted o (yielded ops a.tmps) = true) (hy : (execOp a.eval o).run P w = .ok (.enter f args) w) {R : Ending → World → Prop} (hC : Calls P f args w R)
    (h : ∀ e w', R e w' → ∃ v, e = .returned v ∧ (c = 2 → S w → S w') ∧ wpSeq P ops K S l (a.put o.dst v) w') : wpSeq P ops K S ((o, c) :: l) a w := by
  match c with
  | 0 => cases hc
  | 1 => cases hc
  | 2 =>
    refine wpSeq_at2 hw fun K' hK => ?_
    unfold Oper.wp
    rw [hy]
    refine hC.mono fun e w' he => ?_
    obtain ⟨v, rfl, hS, hn⟩ := h e w' he
    exact hK.out _ _ (hS rfl) hn
  | 3 =>
    refine wpSeq_at3 hw fun K' hK => ?_
    unfold Oper.wp
    rw [hy]
    refine hC.mono fun e w' he => ?_
    obtain ⟨v, rfl, hS, hn⟩ := h e w' he
    exact hK.out _ _ hn
  | c + 4 => simp at hc
end
end
attribute [irreducible] wpSeq
end Go.Proofs.YtcicjklhbnipcaaGreatDoor
