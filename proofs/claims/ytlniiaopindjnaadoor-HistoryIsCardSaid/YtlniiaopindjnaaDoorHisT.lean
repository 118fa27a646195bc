/-
  Layer 35: whether numbers rise, walked: rise.
-/
import Derived.Test.YtlniiaopindjnaaDoorHisS
import Derived.Test.YtlniiaopindjnaaDoorShelf
import Derived.Lib.LazyBuf
namespace Go.Proofs.YtlniiaopindjnaaDoor
set_option linter.unusedVariables false
open Go.RowKit

theorem isSorted_is (a : Option Addr) (n cap : Nat) (xs : List Int) (w : World) (h : RInts w w.heap.size [.slice a n cap] xs) (b : Bool) (hb : b = true ↔ RisesFrom xs 0) :
    Calls Tryd.prog 64 #[.slice a n cap] w fun e w' => e = .returned (.bool b) ∧ Below w.heap.size w w' :=
  (isSorted_any a n cap xs w h).mono fun e w' ⟨b', he, hbel, hq⟩ => by
    have : b' = b := by
      cases b <;> cases b' <;> simp_all
    subst this
    exact ⟨he, hbel⟩
theorem keeps_iff (xs : List Int) (j : Nat) (hj : j < xs.length) : Lib.keeps xs.toArray j = true ↔ (j = 0 ∨ xs[j]? ≠ xs[j - 1]?) := by
  unfold Lib.keeps
  rw [decide_eq_true_eq]
  have e1 : xs.toArray[j]! = xs[j] := by simp [hj]
  have e2 : xs.toArray[j - 1]! = xs[j - 1]'(by omega) := by simp [show j - 1 < xs.length by omega]
  rw [e1, e2, List.getElem?_eq_getElem hj, List.getElem?_eq_getElem (show j - 1 < xs.length by omega)]
  simp
theorem compact_full (xs : List Int) : (Lib.compact xs).length = xs.length ↔ ∀ j, j < xs.length → Lib.keeps xs.toArray j = true := by
  unfold Lib.compact Lib.compactUpTo
  rw [List.length_map]
  constructor
  · intro h j hj
    have : ((List.range xs.length).filter (Lib.keeps xs.toArray)).length = (List.range xs.length).length := by rw [h, List.length_range]
    rw [List.length_filter_eq_length_iff] at this
    exact this j (List.mem_range.2 hj)
  · intro h
    rw [List.filter_eq_self.2 (fun j hj => h j (List.mem_range.1 hj)), List.length_range]
theorem rise_iff : ∀ (xs : List Int), Hi.rise xs = true ↔ ∀ j x y, xs[j]? = some x → xs[j + 1]? = some y → x < y
  | [] => by simp [Hi.rise]
  | [a] => by simp [Hi.rise]
  | a :: b :: r => by
    rw [Hi.rise, Bool.and_eq_true, decide_eq_true_eq, rise_iff (b :: r)]
    constructor
    · rintro ⟨h1, h2⟩ j x y hx hy
      cases j with
      | zero => simp at hx hy; subst hx hy; exact h1
      | succ j => exact h2 j x y (by simpa using hx) (by simpa using hy)
    · intro h
      exact ⟨h 0 a b rfl rfl, fun j x y hx hy => h (j + 1) x y (by simpa using hx) (by simpa using hy)⟩
theorem rise_is (xs : List Int) : Hi.rise xs = true ↔ RisesFrom xs 0 ∧ (Lib.compact xs).length = xs.length := by
  rw [rise_iff, compact_full]
  constructor
  · intro h
    refine ⟨fun j x y _ hx hy => Int.le_of_lt (h j x y hx hy), fun j hj => (keeps_iff xs j hj).2 ?_⟩
    rcases Nat.eq_zero_or_pos j with h0 | h0
    · exact .inl h0
    · refine .inr fun he => ?_
      have hlt := h (j - 1) (xs[j - 1]'(by omega)) xs[j] (List.getElem?_eq_getElem (by omega)) (by rw [show j - 1 + 1 = j by omega]; exact List.getElem?_eq_getElem hj)
      rw [List.getElem?_eq_getElem hj, List.getElem?_eq_getElem (show j - 1 < xs.length by omega)] at he
      injection he with he
      omega
  · rintro ⟨h1, h2⟩ j x y hx hy
    have hle := h1 j x y (by omega) hx hy
    have hlt : j + 1 < xs.length := by
      rcases Nat.lt_or_ge (j + 1) xs.length with h | h
      · exact h
      · rw [List.getElem?_eq_none h] at hy; cases hy
    have := (keeps_iff xs (j + 1) hlt).1 (h2 (j + 1) hlt)
    rcases this with h | h
    · omega
    · rw [Nat.add_sub_cancel, hx, hy] at h
      have : x ≠ y := fun e => h (by rw [e])
      omega
theorem below_drew {B : Nat} {a w : World} (h : Below B a w) (n : Nat) : Below B a (w.drewN n) := h.trans ⟨rfl, rfl, rfl, Nat.le_refl _, fun _ _ => rfl⟩
/-- A row of numbers that the call owns, of which Compact may be asked. -/
def OwnInts (w : World) (base : Nat) (v : Value) (xs : List Int) : Prop := base ≤ w.heap.size ∧ w.ownsRow base 3 1 v xs.length (xs.map (Value.int .i64))
theorem clone_ints (a : Option Addr) (n cap : Nat) (xs : List Int) (w : World) (h : RInts w w.heap.size [.slice a n cap] xs) (hs : xs.length ≤ 1000000) :
    Calls Tryd.prog 66 #[.slice a n cap] w fun e w' => ∃ v, e = .returned v ∧ OwnInts w' w.heap.size v xs ∧ Below w.heap.size w w' := by
  obtain ⟨rfl, hm1, hm2, hnil, hev⟩ := ints_open h
  cases a with
  | none =>
    have h0 : xs = [] := List.length_eq_zero_iff.1 (by have := hnil rfl; omega)
    subst h0
    refine (Tryd.slices_Clone_int_nil _ _ w).mono ?_
    rintro e w' ⟨rfl, rfl⟩
    exact ⟨_, rfl, ⟨Nat.le_refl _, World.ownsRow_nil _ _ _ _⟩, Below.refl _ _⟩
  | some p =>
    by_cases h0 : xs.length = 0
    · have h1 : xs = [] := List.length_eq_zero_iff.1 h0
      subst h1
      refine (Tryd.slices_Clone_int_zero _ _ w).mono ?_
      rintro e w' ⟨v, rfl, ho, _, hb⟩
      exact ⟨_, rfl, ⟨hb.size, ho⟩, hb⟩
    · obtain ⟨b, off, he, hb, hc⟩ := hev (by omega)
      injection he with he
      subst he
      refine (Tryd.slices_Clone_int b off xs.length cap xs w (Nat.le_refl _) (by omega) (fun j hj => ?_)).mono ?_
      · obtain ⟨_, h2⟩ := hc j xs[j] (List.getElem?_eq_getElem hj)
        rw [h2]
        simp [hj]
      · rintro e w' ⟨v, rfl, ho, _, hb2⟩
        rw [List.take_length] at ho
        exact ⟨_, rfl, ⟨hb2.size, ho⟩, hb2⟩
theorem compact_ints (v : Value) (xs : List Int) (w : World) (base : Nat) (h : OwnInts w base v xs) (hs : xs.length ≤ 1000000) :
    Calls Tryd.prog 65 #[v] w fun e w' => ∃ b c, e = .returned (.slice b (Lib.compact xs).length c) ∧ Below base w w' := by
  obtain ⟨hbase, hl, ho⟩ := h
  rcases ho with ⟨rfl, h0⟩ | ⟨g, cap, cur, rfl, hg, hrow, hcap, hmax, hsize, htake⟩
  · have h1 : xs = [] := List.length_eq_zero_iff.1 h0
    subst h1
    refine (Tryd.slices_Compact_int_empty none 0 w).mono ?_
    rintro e w' ⟨rfl, rfl⟩
    exact ⟨none, 0, rfl, Below.refl _ _⟩
  · refine (Tryd.slices_Compact_int_cells g 0 xs.length cap xs w (Nat.le_refl _) (by omega) hcap (fun j hj => ?_) (fun j hj => ?_)).mono ?_
    · rw [Nat.zero_add, cell_of_row w g j cur _ _ hrow]
      have h1 : (cur.toList.take (xs.length * 1))[j]? = (xs.map (Value.int .i64))[j]? := by rw [htake]
      rw [List.getElem?_take_of_lt (by omega), List.getElem?_map, List.getElem?_eq_getElem hj] at h1
      rw [← Array.getElem?_toList, h1]
      simp [hj]
    · simp [World.frozen?, hrow]
    · rintro e w' ⟨rfl, q, rfl⟩
      rw [List.take_length]
      exact ⟨some ⟨g, 0, none⟩, cap, rfl, Go.below_setCells hg _ _ _ (below_drew (Below.refl _ _) q)⟩
set_option maxHeartbeats 1000000 in
theorem history_rise_any (a : Option Addr) (n cap : Nat) (xs : List Int) (w : World) (h : RInts w w.heap.size [.slice a n cap] xs) (hs : xs.length ≤ 1000000) :
    Calls Tryd.prog 48 #[.slice a n cap] w fun e w' => e = .returned (.bool (Hi.rise xs)) ∧ Below w.heap.size w w' := by
  obtain ⟨rfl, hm1, hm2, _, _⟩ := ints_open h
  have hle : (Lib.compact xs).length ≤ xs.length := Lib.compact_length_le xs
  by_cases hr : RisesFrom xs 0
  · have HI := Lib.hid (isSorted_is a _ cap xs w h true ⟨fun _ => hr, fun _ => rfl⟩)
    have H := Lib.hid h
    obtain ⟨m, hm⟩ : ∃ m, (Lib.compact xs).length = m := ⟨_, rfl⟩
    have HR := Lib.hid (show Hi.rise xs = decide (m = xs.length) by rw [Bool.eq_iff_iff, rise_is, decide_eq_true_eq, hm]; simp [hr])
    have HCC := Lib.hid (fun (W : World) (v : Value) (hv : OwnInts W w.heap.size v xs) => compact_ints v xs W w.heap.size hv hs)
    have HM := Lib.hid hm
    rw [hm] at hle
    clear h hr hm
    go_enter Tryd.func48, Tryd.ntmps48
    go_wp2_with (first
      | (go_at_call 64; refine HI.out.mono ?_; rintro e w1 ⟨rfl, hb1⟩; have HB1 := Lib.hid hb1; clear hb1)
      | (go_at_call 66; refine (clone_ints _ _ _ xs _ (kept_ints.on HB1.out H.out) hs).mono ?_; rintro e w2 ⟨v, rfl, ho, hb2⟩; have HO := Lib.hid ho; have HB2 := Lib.hid hb2; clear ho hb2)
      | (go_at_call 65; refine (compact_ints _ xs _ _ HO.out hs).mono ?_; rintro e w3 ⟨b, c, rfl, hb3⟩; have HB3 := Lib.hid hb3; clear hb3))
    all_goals
      go_ret
      exact ⟨ret_bool (by rw [HR.out]; rw [HM.out, Bool.eq_iff_iff, beq_iff_eq, decide_eq_true_eq]; omega), (HB1.out.trans (HB2.out.mono HB1.out.size)).trans (HB3.out.mono HB1.out.size)⟩
  · have HI := Lib.hid (isSorted_is a _ cap xs w h false ⟨(fun h => by cases h), fun h => absurd h hr⟩)
    have HR := Lib.hid (show Hi.rise xs = false by
      cases h1 : Hi.rise xs with
      | false => rfl
      | true => exact absurd ((rise_is xs).1 h1).1 hr)
    clear h hr hle
    go_enter Tryd.func48, Tryd.ntmps48
    go_wp2_with (go_at_call 64; refine HI.out.mono ?_; rintro e w1 ⟨rfl, hb1⟩; have HB1 := Lib.hid hb1; clear hb1)
    go_ret
    exact ⟨by rw [HR.out]; rfl, HB1.out⟩
end Go.Proofs.YtlniiaopindjnaaDoor
