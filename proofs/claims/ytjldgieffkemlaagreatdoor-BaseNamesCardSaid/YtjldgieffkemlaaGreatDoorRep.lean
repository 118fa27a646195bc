/-
  What an argument reads as: for each Go type that comes in, a relation between its cells and a plain Lean value ('Rep'), that it is kept by whatever leaves old blocks alone, and that every reading of the form opens to it. No program is named here.
-/
import Derived.Below
import Derived.Carry
import Derived.Deep.Slices
namespace Go.Proofs.YtjldgieffkemlaaGreatDoor
set_option linter.unusedVariables false
set_option linter.unusedSimpArgs false
open Go.RowKit Go.ChangeShapes Go.WideShapes

/-- Cells 'cs' of a value read as 'x' in world 'w'; all that is looked at lies below block 'B'. -/
abbrev Rep (α : Type) := World → Nat → List Value → α → Prop

/-- Old blocks are as they were, as far as their cells go. -/
def Same (B : Nat) (w w' : World) : Prop := ∀ p : Addr, p.block < B → w'.cell? p = w.cell? p
theorem Same.refl (B : Nat) (w : World) : Same B w w := fun _ _ => rfl
theorem Same.trans {B : Nat} {a b c : World} (h : Same B a b) (k : Same B b c) : Same B a c := fun p hp => (k p hp).trans (h p hp)
theorem Same.of_below {B B' : Nat} {w w' : World} (h : Below B' w w') (hB : B ≤ B') : Same B w w' := fun _ hp => h.cell (Nat.lt_of_lt_of_le hp hB)

structure Kept {α : Type} (R : Rep α) : Prop where
  go : ∀ {w w' : World} {B B' : Nat} {cs : List Value} {x : α}, Same B w w' → B ≤ B' → R w B cs x → R w' B' cs x
theorem Kept.out {α : Type} {R : Rep α} (h : Kept R) {w w' : World} {B : Nat} {cs : List Value} {x : α} (hs : Same B w w') (hr : R w B cs x) : R w' B cs x := h.go hs (Nat.le_refl _) hr
theorem Kept.more {α : Type} {R : Rep α} (h : Kept R) {w : World} {B B' : Nat} {cs : List Value} {x : α} (hB : B ≤ B') (hr : R w B cs x) : R w B' cs x := h.go (Same.refl B w) hB hr

structure Opens (P : Program) (t : TypeId) {α : Type} (R : Rep α) : Prop where
  out : ∀ {H : Type} {enc : TypeId × Value → H} {w : World} {sp : Nat → Bool} {held : Bool} {n B : Nat} {cs : List Value} {y : DataW H × List MemPlace},
    DataW.trod enc P w 0 sp held n t cs = some y → (∀ p ∈ y.2, p.block < B) → ∃ x, R w B cs x

/-! ### numbers, bools, strings -/
def RInt (k : IntKind) : Rep Int := fun _ _ cs x => cs = [.int k x] ∧ (Lit.int k x).wf = true
def RBool : Rep Bool := fun _ _ cs x => cs = [.bool x]
def RStr : Rep ByteArray := fun _ _ cs x => cs = [.string x] ∧ x.size ≤ maxLen
theorem kept_int (k : IntKind) : Kept (RInt k) := ⟨fun _ _ h => h⟩
theorem kept_bool : Kept RBool := ⟨fun _ _ h => h⟩
theorem kept_str : Kept RStr := ⟨fun _ _ h => h⟩
theorem opens_int {P : Program} {t : TypeId} {k : IntKind} (ht : P.underlying t = some (.int k)) : Opens P t (RInt k) :=
  ⟨fun h _ => by obtain ⟨n, rfl, _, wf⟩ := DataW.trod_int ht h; exact ⟨n, rfl, wf⟩⟩
theorem opens_bool {P : Program} {t : TypeId} (ht : P.underlying t = some .bool) : Opens P t RBool :=
  ⟨fun h _ => by obtain ⟨n, rfl, _⟩ := DataW.trod_bool ht h; exact ⟨n, rfl⟩⟩
theorem opens_str {P : Program} {t : TypeId} (ht : P.underlying t = some .string) : Opens P t RStr :=
  ⟨fun h _ => by obtain ⟨s, rfl, _, hs⟩ := DataW.trod_string ht h; exact ⟨s, rfl, hs⟩⟩

/-! ### slices -/
/-- A slice whose elements take 'size' cells each and read by 'R'. -/
def RSlice (size : Nat) {α : Type} (R : Rep α) : Rep (List α) := fun w B cs xs =>
  ∃ (a : Option Addr) (cap : Nat), cs = [.slice a xs.length cap] ∧ xs.length ≤ cap ∧ cap ≤ maxLen ∧ (a = none → cap = 0) ∧
    (0 < xs.length → ∃ b off, a = some ⟨b, off, none⟩ ∧ b < B ∧
      ∀ i x, xs[i]? = some x → ∃ es : List Value, es.length = size ∧ (∀ j, j < size → w.cell? ⟨b, off + i * size + j, none⟩ = es[j]?) ∧ R w B es x)

theorem kept_slice {size : Nat} {α : Type} {R : Rep α} (hR : Kept R) : Kept (RSlice size R) := ⟨by
  rintro w w' B B' cs xs hs hB ⟨a, cap, rfl, h1, h2, h3, h4⟩
  refine ⟨a, cap, rfl, h1, h2, h3, fun hp => ?_⟩
  obtain ⟨b, off, rfl, hb, hx⟩ := h4 hp
  refine ⟨b, off, rfl, Nat.lt_of_lt_of_le hb hB, fun i x hi => ?_⟩
  obtain ⟨es, hl, hc, hr⟩ := hx i x hi
  exact ⟨es, hl, fun j hj => (hs ⟨b, off + i * size + j, none⟩ hb).trans (hc j hj), hR.go hs hB hr⟩⟩

theorem exists_list {α : Type} (n : Nat) (p : Nat → α → Prop) (h : ∀ i, i < n → ∃ x, p i x) : ∃ xs : List α, xs.length = n ∧ ∀ i x, xs[i]? = some x → p i x := by
  induction n with
  | zero => exact ⟨[], rfl, fun i x hx => by simp at hx⟩
  | succ n ih =>
    obtain ⟨xs, hl, hx⟩ := ih fun i hi => h i (by omega)
    obtain ⟨x, hn⟩ := h n (by omega)
    refine ⟨xs ++ [x], by simp [hl], fun i y hy => ?_⟩
    rcases Nat.lt_trichotomy i n with hlt | rfl | hgt
    · rw [List.getElem?_append_left (by omega)] at hy; exact hx i y hy
    · rw [List.getElem?_append_right (by omega)] at hy
      simp [hl] at hy; subst hy; exact hn
    · rw [List.getElem?_eq_none (by simp [hl]; omega)] at hy; cases hy

theorem add_block (a : Addr) (n : Nat) : (a.add n).block = a.block := by unfold Addr.add; split <;> rfl

theorem opens_slice {P : Program} {t e : TypeId} {size : Nat} {α : Type} {R : Rep α} (ht : P.underlying t = some (.slice e)) (hsz : P.cellsOf e = size) (hpos : 0 < size) (hR : Opens P e R) : Opens P t (RSlice size R) := ⟨by
  intro H enc w sp held n B cs y h hp
  rcases Go.Deep.open_slice ht h with ⟨rfl, rfl⟩ | ⟨a, len, cap, m, n', D, Pl, rfl, _, hl, hm, hmm, rfl, hi⟩
  · exact ⟨[], none, 0, rfl, Nat.le_refl _, by simp [maxLen], fun _ => rfl, fun h => absurd h (Nat.lt_irrefl _)⟩
  · have hlm : len ≤ m := by rw [hmm]; split <;> omega
    have hpl : ∀ i, i < m → ∀ p ∈ Pl i, p.block < B := fun i hi' p hp' => hp p (by
      simp only [List.mem_append, List.mem_flatMap, List.mem_range]
      exact .inr ⟨i, hi', hp'⟩)
    by_cases h0 : len = 0
    · subst h0
      exact ⟨[], some a, cap, rfl, Nat.zero_le _, hm, (fun h => by cases h), fun h => absurd h (Nat.lt_irrefl _)⟩
    · have hB : a.block < B := by
        have := hp (.cell a.block (a.off + 0)) (by
          simp only [List.mem_append]
          left
          unfold MemPlace.row
          rw [List.mem_map]
          exact ⟨0, by rw [List.mem_range, hsz]; exact Nat.mul_pos (by omega) hpos, rfl⟩)
        exact this
      have hspot : a.spot = none := by
        obtain ⟨cs', hc, _⟩ := hi 0 (by omega)
        obtain ⟨_, _, hat⟩ := World.cells?_some hc
        have h1 := hat 0 (by rw [hsz]; exact hpos)
        have hlen := (World.cells?_some hc).2.1
        rw [List.getElem?_eq_getElem (by rw [hlen, hsz]; exact hpos)] at h1
        have := World.cell?_spot h1
        simpa [Addr.add] using this
      obtain ⟨xs, hxl, hxs⟩ := exists_list (α := α) len (fun i x => ∃ es : List Value, es.length = size ∧ (∀ j, j < size → w.cell? ⟨a.block, a.off + i * size + j, none⟩ = es[j]?) ∧ R w B es x) (fun i hil => by
        obtain ⟨cs', hc, ht'⟩ := hi i (by omega)
        obtain ⟨_, hlen, hat⟩ := World.cells?_some hc
        obtain ⟨x, hx⟩ := hR.out ht' (fun p hp' => hpl i (by omega) p hp')
        refine ⟨x, cs', by rw [hlen, hsz], fun j hj => ?_, hx⟩
        rw [← hat j (by rw [hsz]; exact hj), hsz]
        congr 1
        obtain ⟨b, off, spot⟩ := a
        simp only at hspot
        subst hspot
        rw [Go.Deep.add_add]
        unfold Addr.add
        by_cases h0 : i * size + j = 0
        · rw [if_pos h0]
          simp only [Addr.mk.injEq, and_true, true_and]
          omega
        · rw [if_neg h0]
          simp only [Addr.mk.injEq, and_true, true_and]
          omega)
      subst hxl
      refine ⟨xs, some a, cap, rfl, hl, hm, (fun h => by cases h), fun _ => ⟨a.block, a.off, ?_, hB, hxs⟩⟩
      obtain ⟨b, off, spot⟩ := a
      simp only at hspot
      subst hspot
      rfl⟩

/-! ### structs -/
/-- A struct's cells, field by field: what field j's own cells are. -/
theorem opens_fields {H : Type} {enc : TypeId × Value → H} {P : Program} {w : World} {sp : Nat → Bool} {held : Bool} {n B : Nat} {t : TypeId} {fs : Array Field} {cs : List Value} {y : DataW H × List MemPlace}
    (ht : P.underlying t = some (.struct fs)) (h : DataW.trod enc P w 0 sp held n t cs = some y) (hp : ∀ p ∈ y.2, p.block < B) :
    cs.length = P.cellsOf t ∧ ∀ (i : Nat) (f : Field) {α : Type} {R : Rep α}, fs[i]? = some f → Opens P f.type R → ∃ x, R w B ((cs.drop f.offset).take (P.cellsOf f.type)) x := by
  obtain ⟨xs, n', _, rfl, hlen, hxl, hf⟩ := DataW.trod_struct ht h
  refine ⟨hlen, fun i f α R hi hR => ?_⟩
  have h1 := hf i f hi
  have hil : i < xs.length := by rw [hxl]; exact (Array.getElem?_eq_some_iff.1 hi).1
  rw [List.getElem?_eq_getElem hil] at h1
  refine hR.out h1 (fun p hp' => hp p ?_)
  simp only [List.mem_flatMap]
  exact ⟨xs[i], List.getElem_mem hil, hp'⟩

end Go.Proofs.YtjldgieffkemlaaGreatDoor
