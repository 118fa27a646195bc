/-
  Texts laid one behind the other: what RgS asks for.
-/
import Derived.Below
import Derived.BigQuiet
import Derived.BigRegion
import Derived.Carry
import Derived.ChangeAlike
import Derived.Deep.LoopGhost
import Derived.Deep.RegionWith
import Derived.Deep.Slices
import Derived.Ground.GgzProg
import Derived.Ground.SlgmProg
import Derived.Ground.SlmcProg
import Derived.KernelRfl
import Derived.Laws.RangeAny
import Derived.Laws.Runes
import Derived.Lib.Hide
import Derived.Lib.MapLaws
import Derived.Lib.OthersKept
import Derived.Maps.Ext
import Derived.Maps.OwnSet
import Derived.Maps.RangeWalk
import Derived.OneCell
import Derived.RegionTactic
import Derived.Shelf.Bits.Mul64
import Derived.Shelf.SlIter.Nil
import Derived.Shelf.SlIterI.Nil
import Derived.Shelf.SlMaps.Clone
import Derived.Shelf.Small.Strs
import Derived.Shelf.Small.Utf8
import Derived.Shelf.SortM.Plain
import Derived.Shelf.SortM.SortNone
import Derived.Shelf.Strings.AsciiSet
import Derived.Shelf.Strings.Builder1
import Derived.Shelf.Strings.Builder2
import Derived.Shelf.Strings.Builder2Cap
import Derived.Shelf.Strings.BuilderF
import Derived.Shelf.Strings.BuilderK
import Derived.Shelf.Strings.IndexAny
import Derived.Shelf.Strings.IndexAnyAll
import Derived.Shelf.Strings.Prefix
import Derived.Shelf.Strings.Repeat
import Derived.Shelf.Strings.Runes
import Derived.Shelf.Strings.Search1
import Derived.StillTailTactics
import Derived.Test.YtcicjklhbnipcaaGreatChecked
import Derived.Test.YtcicjklhbnipcaaGreatProg
import Derived.WalkKit
import Derived.WalkLawsBesides
import Derived.WalkMore
import Derived.WalkSpells
import GoSem.ClaimWide
namespace Go.Proofs.YtcicjklhbnipcaaGreat
theorem qSa {α : Type} {l : List α} {i : Nat} {a : α} : l.toArray.setIfInBounds i a = (l.set i a).toArray := List.setIfInBounds_toArray ..
theorem qSz {α : Type} {x : α} {xs : List α} {a : α} : (x :: xs).set 0 a = a :: xs := rfl
theorem qSs {α : Type} {x : α} {xs : List α} {i : Nat} {a : α} : (x :: xs).set (i + 1) a = x :: xs.set i a := rfl
theorem qGz {α : Type} {x d : α} {xs : List α} : (x :: xs).getD 0 d = x := rfl
theorem qGs {α : Type} {x d : α} {xs : List α} {n : Nat} : (x :: xs).getD (n + 1) d = xs.getD n d := rfl
set_option linter.unusedVariables false
set_option linter.unusedSimpArgs false
open Go.RowKit Go.ChangeShapes Go.WideShapes

/-- Cells 'cs' of a value read as 'x' in world 'w'; all that is looked at lies below block 'B'. -/
abbrev Rep (α : Type) := World → Nat → List Value → α → Prop

/-- Old blocks are as they were, as far as their cells go. -/
def Same (B : Nat) (w w' : World) : Prop := ∀ p : Addr, p.block < B → w'.cell? p = w.cell? p
theorem Same.refl (B : Nat) (w : World) : Same B w w := fun _ _ => rfl
theorem Same.trans {B : Nat} {a b c : World} (h : Same B a b) (k : Same B b c) : Same B a c := fun p hp => (k p hp).trans (h p hp)
theorem Same.of_below {B B' : Nat} {w w' : World} (h : Below B' w w') (hB : B ≤ B') : Same B w w' := fun _ hp => h.cell (Nat.lt_of_lt_of_le hp hB)

structure Kept {α : Type} (R : Rep α) : Prop where
  go : ∀ {w w' : World} {B B' : Nat} {cs : List Value} {x : α}, Same B w w' → B ≤ B' → R w B cs x → R w' B' cs x
theorem Kept.out {α : Type} {R : Rep α} (h : Kept R) {w w' : World} {B : Nat} {cs : List Value} {x : α} (hs : Same B w w') (hr : R w B cs x) : R w' B cs x := h.go hs (Nat.le_refl _) hr
theorem Kept.more {α : Type} {R : Rep α} (h : Kept R) {w : World} {B B' : Nat} {cs : List Value} {x : α} (hB : B ≤ B') (hr : R w B cs x) : R w B' cs x := h.go (Same.refl B w) hB hr

structure Opens (P : Program) (t : TypeId) {α : Type} (R : Rep α) : Prop where
  out : ∀ {H : Type} {enc : TypeId × Value → H} {w : World} {sp : Nat → Bool} {held : Bool} {n B : Nat} {cs : List Value} {y : DataW H × List MemPlace},
    DataW.trod enc P w 0 sp held n t cs = some y → (∀ p ∈ y.2, p.block < B) → ∃ x, R w B cs x

/-! ### numbers, bools, strings -/
def RInt (k : IntKind) : Rep Int := fun _ _ cs x => cs = [.int k x] ∧ (Lit.int k x).wf = true
def RBool : Rep Bool := fun _ _ cs x => cs = [.bool x]
def RStr : Rep ByteArray := fun _ _ cs x => cs = [.string x] ∧ x.size ≤ maxLen
theorem opens_int {P : Program} {t : TypeId} {k : IntKind} (ht : P.underlying t = some (.int k)) : Opens P t (RInt k) :=
  ⟨fun h _ => by obtain ⟨n, rfl, _, wf⟩ := DataW.trod_int ht h; exact ⟨n, rfl, wf⟩⟩
theorem opens_bool {P : Program} {t : TypeId} (ht : P.underlying t = some .bool) : Opens P t RBool :=
  ⟨fun h _ => by obtain ⟨n, rfl, _⟩ := DataW.trod_bool ht h; exact ⟨n, rfl⟩⟩
theorem opens_str {P : Program} {t : TypeId} (ht : P.underlying t = some .string) : Opens P t RStr :=
  ⟨fun h _ => by obtain ⟨s, rfl, _, hs⟩ := DataW.trod_string ht h; exact ⟨s, rfl, hs⟩⟩

/-! ### slices -/
/-- A slice whose elements take 'size' cells each and read by 'R'. -/
def RSlice (size : Nat) {α : Type} (R : Rep α) : Rep (List α) := fun w B cs xs =>
  ∃ (a : Option Addr) (cap : Nat), cs = [.slice a xs.length cap] ∧ xs.length ≤ cap ∧ cap ≤ maxLen ∧ (a = none → cap = 0) ∧
    (0 < xs.length → ∃ b off, a = some ⟨b, off, none⟩ ∧ b < B ∧
      ∀ i x, xs[i]? = some x → ∃ es : List Value, es.length = size ∧ (∀ j, j < size → w.cell? ⟨b, off + i * size + j, none⟩ = es[j]?) ∧ R w B es x)

theorem kept_slice {size : Nat} {α : Type} {R : Rep α} (hR : Kept R) : Kept (RSlice size R) := ⟨by
  rintro w w' B B' cs xs hs hB ⟨a, cap, rfl, h1, h2, h3, h4⟩
  refine ⟨a, cap, rfl, h1, h2, h3, fun hp => ?_⟩
  obtain ⟨b, off, rfl, hb, hx⟩ := h4 hp
  refine ⟨b, off, rfl, Nat.lt_of_lt_of_le hb hB, fun i x hi => ?_⟩
  obtain ⟨es, hl, hc, hr⟩ := hx i x hi
  exact ⟨es, hl, fun j hj => (hs ⟨b, off + i * size + j, none⟩ hb).trans (hc j hj), hR.go hs hB hr⟩⟩

theorem exists_list {α : Type} (n : Nat) (p : Nat → α → Prop) (h : ∀ i, i < n → ∃ x, p i x) : ∃ xs : List α, xs.length = n ∧ ∀ i x, xs[i]? = some x → p i x := by
  induction n with
  | zero => exact ⟨[], rfl, fun i x hx => by simp at hx⟩
  | succ n ih =>
    obtain ⟨xs, hl, hx⟩ := ih fun i hi => h i (by omega)
    obtain ⟨x, hn⟩ := h n (by omega)
    refine ⟨xs ++ [x], by simp [hl], fun i y hy => ?_⟩
    rcases Nat.lt_trichotomy i n with hlt | rfl | hgt
    · rw [List.getElem?_append_left (by omega)] at hy; exact hx i y hy
    · rw [List.getElem?_append_right (by omega)] at hy
      simp [hl] at hy; subst hy; exact hn
    · rw [List.getElem?_eq_none (by simp [hl]; omega)] at hy; cases hy

theorem opens_slice {P : Program} {t e : TypeId} {size : Nat} {α : Type} {R : Rep α} (ht : P.underlying t = some (.slice e)) (hsz : P.cellsOf e = size) (hpos : 0 < size) (hR : Opens P e R) : Opens P t (RSlice size R) := ⟨by
  intro H enc w sp held n B cs y h hp
  rcases Go.Deep.open_slice ht h with ⟨rfl, rfl⟩ | ⟨a, len, cap, m, n', D, Pl, rfl, _, hl, hm, hmm, rfl, hi⟩
  · exact ⟨[], none, 0, rfl, Nat.le_refl _, by simp [maxLen], fun _ => rfl, fun h => absurd h (Nat.lt_irrefl _)⟩
  · have hlm : len ≤ m := by rw [hmm]; split <;> omega
    have hpl : ∀ i, i < m → ∀ p ∈ Pl i, p.block < B := fun i hi' p hp' => hp p (by
      simp only [List.mem_append, List.mem_flatMap, List.mem_range]
      exact .inr ⟨i, hi', hp'⟩)
    by_cases h0 : len = 0
    · subst h0
      exact ⟨[], some a, cap, rfl, Nat.zero_le _, hm, (fun h => by cases h), fun h => absurd h (Nat.lt_irrefl _)⟩
    · have hB : a.block < B := by
        have := hp (.cell a.block (a.off + 0)) (by
          simp only [List.mem_append]
          left
          unfold MemPlace.row
          rw [List.mem_map]
          exact ⟨0, by rw [List.mem_range, hsz]; exact Nat.mul_pos (by omega) hpos, rfl⟩)
        exact this
      have hspot : a.spot = none := by
        obtain ⟨cs', hc, _⟩ := hi 0 (by omega)
        obtain ⟨_, _, hat⟩ := World.cells?_some hc
        have h1 := hat 0 (by rw [hsz]; exact hpos)
        have hlen := (World.cells?_some hc).2.1
        rw [List.getElem?_eq_getElem (by rw [hlen, hsz]; exact hpos)] at h1
        have := World.cell?_spot h1
        simpa [Addr.add] using this
      obtain ⟨xs, hxl, hxs⟩ := exists_list (α := α) len (fun i x => ∃ es : List Value, es.length = size ∧ (∀ j, j < size → w.cell? ⟨a.block, a.off + i * size + j, none⟩ = es[j]?) ∧ R w B es x) (fun i hil => by
        obtain ⟨cs', hc, ht'⟩ := hi i (by omega)
        obtain ⟨_, hlen, hat⟩ := World.cells?_some hc
        obtain ⟨x, hx⟩ := hR.out ht' (fun p hp' => hpl i (by omega) p hp')
        refine ⟨x, cs', by rw [hlen, hsz], fun j hj => ?_, hx⟩
        rw [← hat j (by rw [hsz]; exact hj), hsz]
        congr 1
        obtain ⟨b, off, spot⟩ := a
        simp only at hspot
        subst hspot
        rw [Go.Deep.add_add]
        unfold Addr.add
        by_cases h0 : i * size + j = 0
        · rw [if_pos h0]
          simp only [Addr.mk.injEq, and_true, true_and]
          omega
        · rw [if_neg h0]
          simp only [Addr.mk.injEq, and_true, true_and]
          omega)
      subst hxl
      refine ⟨xs, some a, cap, rfl, hl, hm, (fun h => by cases h), fun _ => ⟨a.block, a.off, ?_, hB, hxs⟩⟩
      obtain ⟨b, off, spot⟩ := a
      simp only at hspot
      subst hspot
      rfl⟩

/-! ### structs -/
/-- A struct's cells, field by field: what field j's own cells are. -/
theorem opens_fields {H : Type} {enc : TypeId × Value → H} {P : Program} {w : World} {sp : Nat → Bool} {held : Bool} {n B : Nat} {t : TypeId} {fs : Array Field} {cs : List Value} {y : DataW H × List MemPlace}
    (ht : P.underlying t = some (.struct fs)) (h : DataW.trod enc P w 0 sp held n t cs = some y) (hp : ∀ p ∈ y.2, p.block < B) :
    cs.length = P.cellsOf t ∧ ∀ (i : Nat) (f : Field) {α : Type} {R : Rep α}, fs[i]? = some f → Opens P f.type R → ∃ x, R w B ((cs.drop f.offset).take (P.cellsOf f.type)) x := by
  obtain ⟨xs, n', _, rfl, hlen, hxl, hf⟩ := DataW.trod_struct ht h
  refine ⟨hlen, fun i f α R hi hR => ?_⟩
  have h1 := hf i f hi
  have hil : i < xs.length := by rw [hxl]; exact (Array.getElem?_eq_some_iff.1 hi).1
  rw [List.getElem?_eq_getElem hil] at h1
  refine hR.out h1 (fun p hp' => hp p ?_)
  simp only [List.mem_flatMap]
  exact ⟨xs[i], List.getElem_mem hil, hp'⟩

end Go.Proofs.YtcicjklhbnipcaaGreat
namespace Go.Proofs.YtcicjklhbnipcaaGreat
set_option linter.unusedVariables false
set_option linter.unusedSimpArgs false
open Go.RowKit

theorem slice_form {size : Nat} {α : Type} {R : Rep α} {w : World} {B : Nat} {v : Value} {xs : List α} (h : RSlice size R w B [v] xs) : ∃ a cap, v = .slice a xs.length cap := by
  obtain ⟨a, cap, h1, _⟩ := h
  exact ⟨a, cap, by simpa using h1⟩

theorem slice_open {size : Nat} {α : Type} {R : Rep α} {w : World} {B : Nat} {a : Option Addr} {n cap : Nat} {xs : List α} (h : RSlice size R w B [.slice a n cap] xs) :
    n = xs.length ∧ n ≤ cap ∧ cap ≤ maxLen ∧ (a = none → cap = 0) ∧ (0 < n → ∃ b off, a = some ⟨b, off, none⟩ ∧ b < B ∧
      ∀ k x, xs[k]? = some x → ∃ es : List Value, es.length = size ∧ (∀ j, j < size → w.cell? ⟨b, off + k * size + j, none⟩ = es[j]?) ∧ R w B es x) := by
  obtain ⟨a', cap', h1, h2, h3, h5, h4⟩ := h
  simp only [List.cons.injEq, Value.slice.injEq, and_true] at h1
  obtain ⟨rfl, rfl, rfl⟩ := h1
  exact ⟨rfl, h2, h3, h5, h4⟩

theorem maxLen_val : maxLen = 9223372036854775807 := by decide
theorem get_at {α : Type} {xs : List α} {k : Nat} (h : k < xs.length) : ∃ x, xs[k]? = some x := ⟨xs[k], List.getElem?_eq_getElem h⟩
theorem Same.alloc (B : Nat) (w : World) (o : Obj) (hB : B ≤ w.heap.size) : Same B w (w.alloc o) := Same.of_below ((Below.refl w.heap.size w).alloc (Nat.le_refl _) o) hB
/-- A parameter's struct lies in the call's first new block: what is known of any world behind. -/
structure BoxedAt (w wx : World) (cs : List Value) : Prop where
  below : Below w.heap.size w wx
  size : w.heap.size < wx.heap.size
  cell : ∀ j v, cs[j]? = some v → wx.cell? ⟨w.heap.size, j, none⟩ = some v
theorem BoxedAt.alloc (w : World) (cs : List Value) (t : TypeId) : BoxedAt w (w.alloc (.cells cs.toArray t)) cs where
  below := (Below.refl _ _).alloc (Nat.le_refl _) _
  size := by simp
  cell := fun j v h => by
    have : (w.alloc (.cells cs.toArray t)).heap[w.heap.size]? = some (.cells cs.toArray t (0, 0)) := heap_alloc_new w _
    rw [cell_of_row _ _ j _ _ _ this]
    simpa using h
theorem BoxedAt.on {w wx wy : World} {cs : List Value} (h : BoxedAt w wx cs) (hb : Below wx.heap.size wx wy) : BoxedAt w wy cs where
  below := h.below.trans (hb.mono (Nat.le_of_lt h.size))
  size := Nat.lt_of_lt_of_le h.size hb.size
  cell := fun j v hj => (hb.cell (p := ⟨w.heap.size, j, none⟩) h.size).trans (h.cell j v hj)
theorem BoxedAt.on' {w wx wy : World} {cs : List Value} (h : BoxedAt w wx cs) (hb : Below (w.heap.size + 1) wx wy) : BoxedAt w wy cs where
  below := h.below.trans (hb.mono (by omega))
  size := Nat.lt_of_lt_of_le h.size hb.size
  cell := fun j v hj => (hb.cell (p := ⟨w.heap.size, j, none⟩) (by simp)).trans (h.cell j v hj)
theorem BoxedAt.grown {w wx wy : World} {cs : List Value} {row : Option Nat} (h : BoxedAt w wx cs) (hg : wx.grownBy wy row) (hr : ∀ k, row = some k → w.heap.size < k) : BoxedAt w wy cs :=
  h.on' ((Below.refl (w.heap.size + 1) wx).grown hg (by have := h.size; omega) (fun k hk => by have := hr k hk; omega))
theorem Kept.on {α : Type} {R : Rep α} (h : Kept R) {w w' : World} {cs : List Value} {x : α} (hb : Below w.heap.size w w') (hr : R w w.heap.size cs x) : R w' w'.heap.size cs x :=
  h.go (Same.of_below hb (Nat.le_refl _)) hb.size hr
/-- A block that the call itself made holds these cells. -/
structure HoldsAt (w0 w : World) (g : Nat) (cs : List Value) : Prop where
  below : Below w0.heap.size w0 w
  lt : g < w.heap.size
  cell : ∀ j v, cs[j]? = some v → w.cell? ⟨g, j, none⟩ = some v
theorem HoldsAt.on {w0 w w' : World} {g : Nat} {cs : List Value} (h : HoldsAt w0 w g cs) (hs : w0.heap.size ≤ w.heap.size) (hb : Below w.heap.size w w') : HoldsAt w0 w' g cs where
  below := h.below.trans (hb.mono hs)
  lt := Nat.lt_of_lt_of_le h.lt hb.size
  cell := fun j v hj => (hb.cell (p := ⟨g, j, none⟩) h.lt).trans (h.cell j v hj)
/-- A slice over a block that is known whole. -/
theorem slice_of_block {size : Nat} {α : Type} {R : Rep α} {w : World} {g cap B : Nat} {cells : Array Value} {t : TypeId} {fz : Nat × Nat} {xs : List α} (hb : w.heap[g]? = some (.cells cells t fz)) (hg : g < B) (hl : xs.length ≤ cap) (hm : cap ≤ maxLen)
    (hx : ∀ i x, xs[i]? = some x → ∃ es : List Value, es.length = size ∧ (∀ j, j < size → cells[i * size + j]? = es[j]?) ∧ R w B es x) : RSlice size R w B [.slice (some ⟨g, 0, none⟩) xs.length cap] xs := by
  refine ⟨some ⟨g, 0, none⟩, cap, rfl, hl, hm, (fun h => by cases h), fun hp => ⟨g, 0, rfl, hg, fun i x hi => ?_⟩⟩
  obtain ⟨es, h1, h2, h3⟩ := hx i x hi
  refine ⟨es, h1, fun j hj => ?_, h3⟩
  rw [show 0 + i * size + j = i * size + j by omega, cell_of_row w g _ cells t fz hb]
  exact h2 j hj
theorem slice_nil {size : Nat} {α : Type} {R : Rep α} {w : World} {B : Nat} : RSlice size R w B [.slice none 0 0] ([] : List α) :=
  ⟨none, 0, rfl, Nat.le_refl _, by simp [maxLen], fun _ => rfl, fun h => absurd h (Nat.lt_irrefl _)⟩
end Go.Proofs.YtcicjklhbnipcaaGreat
namespace Go.Proofs.YtcicjklhbnipcaaGreat
set_option linter.unusedVariables false
set_option linter.unusedSimpArgs false
open Go.RowKit

/-- Of 'w' just the blocks of 'F' have turned, and there are new ones. -/
structure Only (F : List Nat) (w w' : World) : Prop where
  os : w'.os = w.os
  tape : w'.tape = w.tape
  output : w'.output = w.output
  size : w.heap.size ≤ w'.heap.size
  block : ∀ k, k < w.heap.size → k ∉ F → w'.heap[k]? = w.heap[k]?
theorem Only.refl (F : List Nat) (w : World) : Only F w w := ⟨rfl, rfl, rfl, Nat.le_refl _, fun _ _ _ => rfl⟩
theorem Only.trans {F : List Nat} {a b c : World} (h : Only F a b) (k : Only F b c) : Only F a c :=
  ⟨k.os.trans h.os, k.tape.trans h.tape, k.output.trans h.output, Nat.le_trans h.size k.size, fun i hi hn => (k.block i (Nat.lt_of_lt_of_le hi h.size) hn).trans (h.block i hi hn)⟩
/-- The second step may write what the first one made. -/
theorem Only.then {F F' : List Nat} {a b c : World} (h : Only F a b) (k : Only F' b c) (hF : ∀ x ∈ F', x ∈ F ∨ a.heap.size ≤ x) : Only F a c :=
  ⟨k.os.trans h.os, k.tape.trans h.tape, k.output.trans h.output, Nat.le_trans h.size k.size, fun i hi hn => (k.block i (Nat.lt_of_lt_of_le hi h.size) (fun hm => by rcases hF i hm with h1 | h1; exact hn h1; omega)).trans (h.block i hi hn)⟩
theorem Only.mono {F F' : List Nat} {a b : World} (h : Only F a b) (hF : ∀ x ∈ F, x ∈ F') : Only F' a b := ⟨h.os, h.tape, h.output, h.size, fun i hi hn => h.block i hi fun hm => hn (hF i hm)⟩
theorem Only.drew {F : List Nat} {a w : World} (h : Only F a w) : Only F a w.drew := ⟨h.os, h.tape, h.output, h.size, h.block⟩
theorem Only.alloc {F : List Nat} {a w : World} (h : Only F a w) (o : Obj) : Only F a (w.alloc o) :=
  h.trans ⟨rfl, rfl, rfl, by simp, fun k hk _ => Below.heap_alloc _ _ _ hk⟩
theorem Only.setCell {F : List Nat} {a w : World} (h : Only F a w) {p : Addr} (hp : p.block ∈ F ∨ a.heap.size ≤ p.block) (u : Value) : Only F a (w.setCell p u) :=
  ⟨h.os, h.tape, h.output, by simp only [World.setCell, Array.size_modify]; exact h.size, fun k hk hn => (Below.heap_setCell _ _ _ _ (fun e => by subst e; rcases hp with h1 | h1; exact hn h1; omega)).trans (h.block k hk hn)⟩
theorem Only.below {F : List Nat} {a w w' : World} (h : Only F a w) (hb : Below a.heap.size w w') : Only F a w' :=
  ⟨hb.os.trans h.os, hb.tape.trans h.tape, hb.output.trans h.output, Nat.le_trans h.size hb.size, fun k hk hn => (hb.block k hk).trans (h.block k hk hn)⟩
theorem Only.of_below {F : List Nat} {w w' : World} (hb : Below w.heap.size w w') : Only F w w' := (Only.refl F w).below hb
theorem Only.to_below {F : List Nat} {a w : World} (h : Only F a w) {B : Nat} (hB : B ≤ a.heap.size) (hF : ∀ x ∈ F, B ≤ x) : Below B a w :=
  ⟨h.os, h.tape, h.output, h.size, fun k hk => h.block k (by omega) (fun hm => by have := hF k hm; omega)⟩
theorem cell_row {w : World} {b : Nat} {cs : Array Value} {T : TypeId} {fz : Nat × Nat} (h : w.heap[b]? = some (.cells cs T fz)) (j : Nat) : w.cell? ⟨b, j, none⟩ = cs[j]? := cell_of_row _ _ j _ _ _ h
theorem free_row {w : World} {b : Nat} {cs : Array Value} {T : TypeId} (h : w.heap[b]? = some (.cells cs T (0, 0))) (j : Nat) : w.frozen? ⟨b, j, none⟩ = false := by
  simp [World.frozen?, h]
theorem set_row {w : World} {b : Nat} {cs : Array Value} {T : TypeId} {fz : Nat × Nat} (h : w.heap[b]? = some (.cells cs T fz)) (j : Nat) (v : Value) : (w.setCell ⟨b, j, none⟩ v).heap[b]? = some (.cells (cs.setIfInBounds j v) T fz) := by
  simp only [World.setCell, Array.getElem?_modify, if_pos, h, Option.map_some]
  rfl
theorem set_other {w : World} {b : Nat} (j : Nat) (v : Value) {k : Nat} (hk : k ≠ b) : (w.setCell ⟨b, j, none⟩ v).heap[k]? = w.heap[k]? := Below.heap_setCell _ _ _ _ hk
theorem size_alloc (w : World) (o : Obj) : (w.alloc o).heap.size = w.heap.size + 1 := by simp
end Go.Proofs.YtcicjklhbnipcaaGreat
namespace Go.Proofs.YtcicjklhbnipcaaGreat
set_option linter.unusedVariables false
set_option linter.unusedSimpArgs false
open Go.RowKit Go.Maps Go.WideShapes

/-- Any value stands for itself. -/
def anyElem : Value → Option (DataW Value × List MemPlace) := fun v => some (.held v, [])
def heldD (l : List (Lit × Value)) : DataW Value := .map (l.map fun p => (p.1, DataW.held p.2))
/-- Block 'b' is a map that holds just these keys and values. -/
def MapAt (P : Program) (k : TypeId) (w : World) (b : Nat) (l : List (Lit × Value)) : Prop := w.ownsMap P k anyElem b l.length (heldD l)
def lookL (l : List (Lit × Value)) (kl : Lit) (z : Value) : Value :=
  match l.find? fun p => p.1.sameKey kl with
  | some p => p.2
  | none => z
def insL (x : Lit × Value) : List (Lit × Value) → List (Lit × Value)
  | [] => [x]
  | y :: r => if x.1.before y.1 then x :: y :: r else y :: insL x r
def delL (kl : Lit) (l : List (Lit × Value)) : List (Lit × Value) := l.filter fun p => !p.1.sameKey kl
def putL (kl : Lit) (v : Value) (l : List (Lit × Value)) : List (Lit × Value) := insL (kl, v) (delL kl l)

theorem atKey_held (l : List (Lit × Value)) (kl : Lit) (z : Value) : (heldD l).atKey kl (.held z) = .held (lookL l kl z) := by
  unfold heldD lookL DataW.atKey
  simp only
  rw [List.find?_map]
  rw [show (fun p : Lit × DataW Value => p.1.sameKey kl) ∘ (fun p : Lit × Value => (p.1, DataW.held p.2)) = fun p => p.1.sameKey kl from rfl]
  cases l.find? fun p => p.1.sameKey kl <;> rfl
theorem insert_held (x : Lit × Value) : ∀ l : List (Lit × Value), DataW.insert (x.1, .held x.2) (l.map fun p => (p.1, DataW.held p.2)) = (insL x l).map fun p => (p.1, DataW.held p.2)
  | [] => rfl
  | y :: r => by
    unfold insL
    simp only [List.map_cons, DataW.insert]
    split
    · rfl
    · simp [insert_held x r]
theorem filter_held (kl : Lit) (l : List (Lit × Value)) : (l.map fun p => (p.1, DataW.held p.2)).filter (fun (p : Lit × DataW Value) => !p.1.sameKey kl) = (delL kl l).map fun p => (p.1, DataW.held p.2) := by
  unfold delL
  rw [List.filter_map]
  rfl
theorem put_held (kl : Lit) (v : Value) (l : List (Lit × Value)) : (heldD l).put kl (.held v) = heldD (putL kl v l) := by
  show DataW.map (DataW.insert (kl, .held v) ((l.map fun p => (p.1, DataW.held p.2)).filter fun p => !p.1.sameKey kl)) = _
  rw [filter_held, insert_held (kl, v)]
  rfl
theorem del_held (kl : Lit) (l : List (Lit × Value)) : (heldD l).del kl = heldD (delL kl l) := by
  show DataW.map ((l.map fun p => (p.1, DataW.held p.2)).filter fun p => !p.1.sameKey kl) = _
  rw [filter_held]
  rfl
theorem size_held (l : List (Lit × Value)) : Maps.size (heldD l) = l.length := by simp [heldD, Maps.size]

section
variable {P : Program} {k : TypeId} {w : World} {b n : Nat} {l : List (Lit × Value)}

theorem tight {D : DataW Value} (h : w.ownsMap P k anyElem b n D) : w.ownsMap P k anyElem b (Maps.size D) D := by
  obtain ⟨es, clock, hb, F, hs, rfl⟩ := h
  refine ⟨es, clock, hb, F, ?_, rfl⟩
  show es.size ≤ ((es.toList.map _).foldr DataW.insert []).length
  rw [length_sorted]
  simp
theorem MapAt.of {l : List (Lit × Value)} (h : w.ownsMap P k anyElem b n (heldD l)) : MapAt P k w b l := by
  have := tight h
  rwa [size_held] at this
theorem MapAt.made (w : World) : MapAt P k (w.alloc (.map #[] 0)) w.heap.size [] := World.ownsMap_made _ _ _ _
theorem MapAt.lt (h : MapAt P k w b l) : b < w.heap.size := World.ownsMap.lt h
/-- All that matters is the block. -/
theorem MapAt.on {w' : World} (h : MapAt P k w b l) (hb : w'.heap[b]? = w.heap[b]?) : MapAt P k w' b l := by
  obtain ⟨es, clock, h1, F, hs, hD⟩ := h
  exact ⟨es, clock, hb.trans h1, F, hs, hD⟩
theorem MapAt.sorted (h : MapAt P k w b l) (K : Keyed P k) : l.Pairwise fun p q => p.1.before q.1 = true := by
  obtain ⟨es, e, hp, _⟩ := World.ownsMap.canon h K
  simp only [heldD, DataW.map.injEq] at e
  subst e
  rw [List.pairwise_map] at hp
  exact hp
theorem MapAt.keys (h : MapAt P k w b l) (K : Keyed P k) : ∀ p ∈ l, WideAt.IsKeyLit p.1 := by
  obtain ⟨es, e, _, hk⟩ := World.ownsMap.canon h K
  simp only [heldD, DataW.map.injEq] at e
  subst e
  intro p hp
  exact hk (p.1, .held p.2) (List.mem_map.2 ⟨p, hp, rfl⟩)
theorem MapAt.look {t e : TypeId} (h : MapAt P k w b l) (K : Keyed P k) (ht : P.underlying t = some (.map k e)) {z : Value} (hz : (zeroValue e).run P w = .ok z w) {key : Value} {kl : Lit} (hkey : keyOf P k key = some kl) :
    (Instr.lookup t (.map (some b)) key false).run P w = .ok (lookL l kl z) w := by
  obtain ⟨v, ps, hr, hv⟩ := World.ownsMap.lookup h K ht hz (zd := .held z) (zp := []) rfl hkey
  rw [atKey_held] at hv
  simp only [anyElem, Option.some.injEq, Prod.mk.injEq, DataW.held.injEq] at hv
  rw [hr, hv.1]
theorem MapAt.store {t e : TypeId} (h : MapAt P k w b l) (K : Keyed P k) (ht : P.underlying t = some (.map k e)) (hn : l.length < maxLen) {key val : Value} {kl : Lit} (hkey : keyOf P k key = some kl) :
    ∃ w', (Instr.mapUpdate t (.map (some b)) key val).run P w = .ok () w' ∧ MapAt P k w' b (putL kl val l) ∧ w.mapTurned w' b := by
  obtain ⟨es, clock, hb, F, hs, hD⟩ := h
  obtain ⟨es', clock', hrun, F', hput, _⟩ := Maps.fit_store (R' := anyElem) K ht hb F (Nat.lt_of_le_of_lt hs hn) (fun _ _ _ _ hz => hz) (val := val) hkey rfl
  refine ⟨_, hrun, MapAt.of (n := es'.size) ⟨es', clock', ChangeMaps.heap_setBlock_same hb _, F', Nat.le_refl _, ?_⟩, es, clock, es', clock', hb, rfl⟩
  rw [hput, ← put_held, hD, DataW.put_eq]
theorem MapAt.drop {t e ty : TypeId} (h : MapAt P k w b l) (K : Keyed P k) (ht : P.underlying t = some (.map k e)) {key : Value} {kl : Lit} (hkey : keyOf P k key = some kl) :
    ∃ w', (Builtin.delete_ #[t, k] ty #[.map (some b), key]).run P w = .ok (.tuple #[]) w' ∧ MapAt P k w' b (delL kl l) ∧ w.mapTurned w' b := by
  obtain ⟨w', hrun, h1, h2⟩ := World.ownsMap.drop h K ht hkey ty
  rw [del_held] at h1
  exact ⟨w', hrun, MapAt.of h1, h2⟩
theorem MapAt.len {t e : TypeId} (h : MapAt P k w b l) (ht : P.underlying t = some (.map k e)) (ty : TypeId) : (Builtin.len_ #[t] ty #[.map (some b)]).run P w = .ok (.int .i64 l.length) w := by
  have := World.ownsMap.len h ht ty
  rwa [size_held] at this
end

theorem Only.turned {F : List Nat} {a w w' : World} {b : Nat} (h : Only F a w) (ht : w.mapTurned w' b) (hb : b ∈ F ∨ a.heap.size ≤ b) : Only F a w' := by
  have g := ht.grown
  exact ⟨g.os.trans h.os, g.tape.trans h.tape, g.output.trans h.output, Nat.le_trans h.size g.size, fun k hk hn => (g.block k (Nat.lt_of_lt_of_le hk h.size) (fun e => by cases e; rcases hb with h1 | h1; exact hn h1; omega)).trans (h.block k hk hn)⟩
theorem turned_other {w w' : World} {b : Nat} (h : w.mapTurned w' b) {i : Nat} (hi : i ≠ b) : w'.heap[i]? = w.heap[i]? := by
  obtain ⟨es, clock, es', clock', hb, rfl⟩ := h
  exact ChangeMaps.heap_setBlock_other hb _ hi
end Go.Proofs.YtcicjklhbnipcaaGreat
namespace Go.Proofs.YtcicjklhbnipcaaGreat
set_option linter.unusedVariables false
set_option linter.unusedSimpArgs false

/-- An inode: its number, whether it is a directory, names that lead to it, handles that hold it, bytes, names in it, sorted. -/
structure NodeD where
  id : Int
  dir : Bool
  links : Int
  holds : Int
  data : ByteArray
  names : List (ByteArray × Int)

/-- A table: its quota, what is taken, the number that was given last, its inodes by their numbers. -/
structure TabD where
  quota : Int
  used : Int
  last : Int
  nodes : List NodeD

def NodeD.setNames (n : NodeD) (d : List (ByteArray × Int)) : NodeD := { n with names := d }
def NodeD.setLinks (n : NodeD) (k : Int) : NodeD := { n with links := k }
def NodeD.setHolds (n : NodeD) (k : Int) : NodeD := { n with holds := k }
def NodeD.setData (n : NodeD) (d : ByteArray) : NodeD := { n with data := d }

namespace In
/-- Bytes before other bytes; the same bytes. -/
def before (a b : ByteArray) : Bool := bytesBefore a.data.toList b.data.toList
def same (a b : ByteArray) : Bool := a.data.toList == b.data.toList
def find (l : List NodeD) (id : Int) : Option NodeD := l.find? fun n => n.id == id
def leads (d : List (ByteArray × Int)) (s : ByteArray) : Int :=
  match d.find? fun p => same p.1 s with
  | some p => p.2
  | none => 0
def put (x : ByteArray × Int) : List (ByteArray × Int) → List (ByteArray × Int)
  | [] => [x]
  | y :: r => if before x.1 y.1 then x :: y :: r else y :: put x r
def without (d : List (ByteArray × Int)) (s : ByteArray) : List (ByteArray × Int) := d.filter fun p => !same p.1 s
/-- A name that was not there, or was, in its place. -/
def with_ (d : List (ByteArray × Int)) (s : ByteArray) (id : Int) : List (ByteArray × Int) := put (s, id) (without d s)
def set (l : List NodeD) (n : NodeD) : List NodeD := l.map fun m => if m.id == n.id then n else m
def del (l : List NodeD) (id : Int) : List NodeD := l.filter fun m => !(m.id == id)

/-- An inode that is there. -/
def at_ (t : TabD) (id : Int) : NodeD :=
  match find t.nodes id with
  | some n => n
  | none => ⟨id, false, 0, 0, ByteArray.empty, []⟩
def setN (t : TabD) (n : NodeD) : TabD := { t with nodes := set t.nodes n }
def nameIn (t : TabD) (dir : Int) (s : ByteArray) (id : Int) : TabD := setN t ((at_ t dir).setNames (with_ (at_ t dir).names s id))
def nameOut (t : TabD) (dir : Int) (s : ByteArray) : TabD := setN t ((at_ t dir).setNames (without (at_ t dir).names s))
def linksUp (t : TabD) (id : Int) : TabD := setN t ((at_ t id).setLinks ((at_ t id).links + 1))
def linksDown (t : TabD) (id : Int) : TabD := setN t ((at_ t id).setLinks ((at_ t id).links - 1))
def holdsUp (t : TabD) (id : Int) : TabD := setN t ((at_ t id).setHolds ((at_ t id).holds + 1))
def holdsDown (t : TabD) (id : Int) : TabD := setN t ((at_ t id).setHolds ((at_ t id).holds - 1))
/-- What is asked first: is there an inode of that number and kind? -/
def getE (t : TabD) (id : Int) (dir : Bool) : Int :=
  match find t.nodes id with
  | none => 3
  | some n => if n.dir == dir then 0 else 12
def isName (s : ByteArray) : Bool := decide (1 ≤ s.size) && decide (s.size ≤ 32) && !(s.data.toList.any fun c => c == 0 || c == 47) && !(s.data.toList == [46]) && !(s.data.toList == [46, 46])
def placeE (t : TabD) (dir : Int) (s : ByteArray) : Int :=
  if getE t dir true == 0 then (if isName s then 0 else 1) else getE t dir true
def emptyE (t : TabD) (dir : Int) (s : ByteArray) : Int :=
  if placeE t dir s == 0 then (if leads (at_ t dir).names s == 0 then 0 else 4) else placeE t dir s
def gone (t : TabD) (id : Int) : TabD :=
  if (at_ t id).links == 0 && (at_ t id).holds == 0 then { t with used := t.used - (64 + (at_ t id).data.size), nodes := del t.nodes id } else t
def makeE (t : TabD) (dir : Int) (s : ByteArray) : Int :=
  if emptyE t dir s == 0 then (if decide (4096 ≤ (t.nodes.length : Int)) then 5 else if decide (t.quota - t.used < 64) then 6 else 0) else emptyE t dir s
def makeT (t : TabD) (dir : Int) (s : ByteArray) (isDir : Bool) : TabD :=
  ⟨t.quota, t.used + 64, t.last + 1, (nameIn t dir s (t.last + 1)).nodes ++ [⟨t.last + 1, isDir, 1, 0, ByteArray.empty, []⟩]⟩
def make (t : TabD) (dir : Int) (s : ByteArray) (isDir : Bool) : Int × Int × TabD :=
  if makeE t dir s == 0 then (t.last + 1, 0, makeT t dir s isDir) else (0, makeE t dir s, t)
def findE (t : TabD) (dir : Int) (s : ByteArray) : Int :=
  if placeE t dir s == 0 then (if leads (at_ t dir).names s == 0 then 3 else 0) else placeE t dir s
def findN (t : TabD) (dir : Int) (s : ByteArray) : Int := if findE t dir s == 0 then leads (at_ t dir).names s else 0
def linkE (t : TabD) (id dir : Int) (s : ByteArray) : Int := if getE t id false == 0 then emptyE t dir s else getE t id false
def linkT (t : TabD) (id dir : Int) (s : ByteArray) : TabD := linksUp (nameIn t dir s id) id
def link (t : TabD) (id dir : Int) (s : ByteArray) : Int × TabD := if linkE t id dir s == 0 then (0, linkT t id dir s) else (linkE t id dir s, t)
/-- A name taken out of a directory. -/
def loses (t : TabD) (dir : Int) (s : ByteArray) : TabD := gone (linksDown (nameOut t dir s) (leads (at_ t dir).names s)) (leads (at_ t dir).names s)
def unlinkE (t : TabD) (dir : Int) (s : ByteArray) : Int := if findE t dir s == 0 then getE t (findN t dir s) false else findE t dir s
def unlink (t : TabD) (dir : Int) (s : ByteArray) : Int × TabD := if unlinkE t dir s == 0 then (0, loses t dir s) else (unlinkE t dir s, t)
def removeE (t : TabD) (dir : Int) (s : ByteArray) : Int :=
  if findE t dir s == 0 then (if getE t (findN t dir s) true == 0 then (if decide (0 < (at_ t (findN t dir s)).names.length) then 7 else 0) else getE t (findN t dir s) true) else findE t dir s
def remove (t : TabD) (dir : Int) (s : ByteArray) : Int × TabD := if removeE t dir s == 0 then (0, loses t dir s) else (removeE t dir s, t)
def renameE (t : TabD) (dir : Int) (s : ByteArray) (tod : Int) (as_ : ByteArray) : Int :=
  if unlinkE t dir s == 0 then
    (if placeE t tod as_ == 0 then
      (if leads (at_ t tod).names as_ == findN t dir s then 0 else if leads (at_ t tod).names as_ == 0 then 0 else if (at_ t (leads (at_ t tod).names as_)).dir then 12 else 0)
    else placeE t tod as_)
  else unlinkE t dir s
def renameIn (t : TabD) (dir : Int) (s : ByteArray) (tod : Int) (as_ : ByteArray) (id : Int) : TabD := nameIn (nameOut t dir s) tod as_ id
def renameT (t : TabD) (dir : Int) (s : ByteArray) (tod : Int) (as_ : ByteArray) : TabD :=
  if leads (at_ t tod).names as_ == findN t dir s then t
  else if leads (at_ t tod).names as_ == 0 then renameIn t dir s tod as_ (findN t dir s)
  else renameIn (loses t tod as_) dir s tod as_ (findN t dir s)
def rename (t : TabD) (dir : Int) (s : ByteArray) (tod : Int) (as_ : ByteArray) : Int × TabD := if renameE t dir s tod as_ == 0 then (0, renameT t dir s tod as_) else (renameE t dir s tod as_, t)
def listE (t : TabD) (dir : Int) : Int := getE t dir true
def list (t : TabD) (dir : Int) : List ByteArray := if listE t dir == 0 then (at_ t dir).names.map Prod.fst else []
def fileE (t : TabD) (id n : Int) : Int := if getE t id false == 0 then (if decide (n < 0) then 1 else 0) else getE t id false
/-- A part of bytes. -/
def part (s : ByteArray) (at_ n : Int) : ByteArray := s.extract (min at_.toNat s.size) (min at_.toNat s.size + min n.toNat (s.size - min at_.toNat s.size))
def readE (t : TabD) (id a n : Int) : Int := fileE t id (min a n)
def read (t : TabD) (id a n : Int) : ByteArray := if readE t id a n == 0 then part (at_ t id).data a n else ByteArray.empty
def sizedE (t : TabD) (x : NodeD) (n : Int) : Int := if decide (1048576 < n) then 5 else if decide (t.quota - t.used < n - x.data.size) then 6 else 0
def noughts (n : Nat) : ByteArray := ⟨(List.replicate n 0).toArray⟩
/-- Bytes cut, or with noughts behind, so that they are so many. -/
def resized (s : ByteArray) (n : Nat) : ByteArray := (s ++ noughts (n - s.size)).extract 0 n
def dataOf (t : TabD) (id : Int) (v : ByteArray) : TabD := setN t ((at_ t id).setData v)
def sizedT (t : TabD) (id n : Int) : TabD :=
  ⟨t.quota, t.used + (n - (at_ t id).data.size), t.last, (dataOf t id (resized (at_ t id).data n.toNat)).nodes⟩
def writeE (t : TabD) (id a : Int) (s : ByteArray) : Int :=
  if fileE t id a == 0 then
    (if decide (1048576 < a) || decide (1048576 - a < s.size) then 5 else if s.size == 0 then 0 else sizedE t (at_ t id) (max (a + s.size) (at_ t id).data.size))
  else fileE t id a
/-- Bytes over other bytes. -/
def over (d : ByteArray) (a : Nat) (s : ByteArray) : ByteArray := d.extract 0 a ++ s ++ d.extract (a + s.size) d.size
def overT (t : TabD) (id a : Int) (s : ByteArray) : TabD := dataOf t id (over (at_ t id).data a.toNat s)
def writeT (t : TabD) (id a : Int) (s : ByteArray) : TabD :=
  if s.size == 0 then t else overT (sizedT t id (max (a + s.size) (at_ t id).data.size)) id a s
def write (t : TabD) (id a : Int) (s : ByteArray) : Int × TabD := if writeE t id a s == 0 then (0, writeT t id a s) else (writeE t id a s, t)
def truncE (t : TabD) (id n : Int) : Int := if fileE t id n == 0 then sizedE t (at_ t id) n else fileE t id n
def trunc (t : TabD) (id n : Int) : Int × TabD := if truncE t id n == 0 then (0, sizedT t id n) else (truncE t id n, t)
def holdE (t : TabD) (id : Int) : Int := if getE t id false == 0 then (if decide (1048576 ≤ (at_ t id).holds) then 5 else 0) else getE t id false
def hold (t : TabD) (id : Int) : Int × TabD := if holdE t id == 0 then (0, holdsUp t id) else (holdE t id, t)
def dropE (t : TabD) (id : Int) : Int :=
  match find t.nodes id with
  | none => 3
  | some n => if n.holds == 0 then 1 else 0
def drop (t : TabD) (id : Int) : Int × TabD := if dropE t id == 0 then (0, gone (holdsDown t id) id) else (dropE t id, t)
def new (quota : Int) : TabD := ⟨quota, 64, 1, [⟨1, true, 1, 0, ByteArray.empty, []⟩]⟩
def newE (quota : Int) : Int := if decide (quota < 64) || decide (1099511627776 < quota) then 1 else 0
end In
end Go.Proofs.YtcicjklhbnipcaaGreat
namespace Go.Proofs.YtcicjklhbnipcaaGreat
set_option linter.unusedVariables false
set_option linter.unusedSimpArgs false
open Go.RowKit Go.Maps Go.WideShapes

/-- A number fits into an int. -/
abbrev Fits (x : Int) : Prop := (Lit.int .i64 x).wf = true
theorem fits_of {x : Int} (h1 : -9223372036854775808 ≤ x) (h2 : x ≤ 9223372036854775807) : Fits x := WalkArith.wf_i64 ⟨h1, h2⟩
theorem fits_to {x : Int} (h : Fits x) : -9223372036854775808 ≤ x ∧ x ≤ 9223372036854775807 := by
  have h' : (decide (IntKind.i64.min ≤ x) && decide (x ≤ IntKind.i64.max)) = true := h
  rw [Bool.and_eq_true, decide_eq_true_eq, decide_eq_true_eq] at h'
  exact h'

theorem key_str : Keyed Tryz.prog 9 := string_keyed Tryz.underlying9
theorem key_int : Keyed Tryz.prog 3 := int_keyed Tryz.underlying3
def namesL (d : List (ByteArray × Int)) : List (Lit × Value) := d.map fun p => (.string p.1.data.toList, .int .i64 p.2)
def nodesL (β : Int → Nat × Nat) (l : List NodeD) : List (Lit × Value) := l.map fun n => (.int .i64 n.id, .pointer (some ⟨(β n.id).1, 0, none⟩))
def NamesAt (w : World) (m : Nat) (d : List (ByteArray × Int)) : Prop := MapAt Tryz.prog 9 w m (namesL d)
def NodesAt (w : World) (m : Nat) (β : Int → Nat × Nat) (l : List NodeD) : Prop := MapAt Tryz.prog 3 w m (nodesL β l)

/-! ### names: what the map's steps are on the plain list -/
theorem look_names (d : List (ByteArray × Int)) (s : ByteArray) : lookL (namesL d) (.string s.data.toList) (.int .i64 0) = .int .i64 (In.leads d s) := by
  unfold lookL namesL In.leads
  rw [List.find?_map]
  rw [show (fun p : Lit × Value => p.1.sameKey (.string s.data.toList)) ∘ (fun p : ByteArray × Int => (Lit.string p.1.data.toList, Value.int .i64 p.2)) = fun p => In.same p.1 s from rfl]
  cases d.find? fun p => In.same p.1 s <;> rfl
theorem del_names (d : List (ByteArray × Int)) (s : ByteArray) : delL (.string s.data.toList) (namesL d) = namesL (In.without d s) := by
  unfold delL namesL In.without
  rw [List.filter_map]
  rfl
theorem ins_names (s : ByteArray) (id : Int) : ∀ d : List (ByteArray × Int), insL (.string s.data.toList, .int .i64 id) (namesL d) = namesL (In.put (s, id) d)
  | [] => rfl
  | y :: r => by
    have ih := ins_names s id r
    unfold namesL at ih ⊢
    simp only [List.map_cons, insL, In.put]
    rw [ih]
    have e : (Lit.string s.data.toList).before (.string y.1.data.toList) = In.before s y.1 := rfl
    rw [e]
    split <;> rfl
theorem put_names (d : List (ByteArray × Int)) (s : ByteArray) (id : Int) : putL (.string s.data.toList) (.int .i64 id) (namesL d) = namesL (In.with_ d s id) := by
  unfold putL In.with_
  rw [del_names, ins_names]

/-! ### inodes: the same -/
theorem look_nodes (β : Int → Nat × Nat) (l : List NodeD) (id : Int) :
    lookL (nodesL β l) (.int .i64 id) (.pointer none) = match In.find l id with | some n => .pointer (some ⟨(β n.id).1, 0, none⟩) | none => .pointer none := by
  unfold lookL nodesL In.find
  rw [List.find?_map]
  rw [show (fun p : Lit × Value => p.1.sameKey (.int .i64 id)) ∘ (fun n : NodeD => (Lit.int .i64 n.id, Value.pointer (some ⟨(β n.id).1, 0, none⟩))) = fun n => n.id == id from by
    funext n
    show decide (IntKind.i64 = IntKind.i64 ∧ n.id = id) = (n.id == id)
    simp [Bool.beq_eq_decide_eq]]
  cases l.find? fun n => n.id == id <;> rfl
theorem del_nodes (β : Int → Nat × Nat) (l : List NodeD) (id : Int) : delL (.int .i64 id) (nodesL β l) = nodesL β (In.del l id) := by
  unfold delL nodesL In.del
  rw [List.filter_map]
  congr 2
  funext n
  show (!decide (IntKind.i64 = IntKind.i64 ∧ n.id = id)) = !(n.id == id)
  simp [Bool.beq_eq_decide_eq]

/-! ### the table -/
structure NodeAt (w : World) (b m : Nat) (n : NodeD) : Prop where
  row : w.heap[b]? = some (.cells #[.bool n.dir, .int .i64 n.links, .int .i64 n.holds, .string n.data, .map (some m)] 60 (0, 0))
  names : NamesAt w m n.names
def foot (g mb : Nat) (β : Int → Nat × Nat) (l : List NodeD) : List Nat := g :: mb :: l.flatMap fun n => [(β n.id).1, (β n.id).2]
structure TblAt (w : World) (g mb : Nat) (β : Int → Nat × Nat) (t : TabD) : Prop where
  row : w.heap[g]? = some (.cells #[.int .i64 t.quota, .int .i64 t.used, .int .i64 t.last, .map (some mb)] 56 (0, 0))
  map : NodesAt w mb β t.nodes
  node : ∀ n ∈ t.nodes, NodeAt w (β n.id).1 (β n.id).2 n
  apart : (foot g mb β t.nodes).Nodup

theorem NodeAt.on {w w' : World} {b m : Nat} {n : NodeD} (h : NodeAt w b m n) (hb : w'.heap[b]? = w.heap[b]?) (hm : w'.heap[m]? = w.heap[m]?) : NodeAt w' b m n := ⟨hb.trans h.row, MapAt.on h.names hm⟩
theorem mem_foot {g mb : Nat} {β : Int → Nat × Nat} {l : List NodeD} {x : Nat} : x ∈ foot g mb β l ↔ x = g ∨ x = mb ∨ ∃ n ∈ l, x = (β n.id).1 ∨ x = (β n.id).2 := by
  unfold foot
  simp only [List.mem_cons, List.mem_flatMap, List.not_mem_nil, or_false]
/-- All that matters are the table's own blocks. -/
theorem TblAt.on {w w' : World} {g mb : Nat} {β : Int → Nat × Nat} {t : TabD} (h : TblAt w g mb β t) (hs : ∀ k ∈ foot g mb β t.nodes, w'.heap[k]? = w.heap[k]?) : TblAt w' g mb β t where
  row := (hs g (mem_foot.2 (.inl rfl))).trans h.row
  map := MapAt.on h.map (hs mb (mem_foot.2 (.inr (.inl rfl))))
  node := fun n hn => (h.node n hn).on (hs _ (mem_foot.2 (.inr (.inr ⟨n, hn, .inl rfl⟩)))) (hs _ (mem_foot.2 (.inr (.inr ⟨n, hn, .inr rfl⟩))))
  apart := h.apart
theorem lt_of_get {w : World} {k : Nat} {o : Obj} (h : w.heap[k]? = some o) : k < w.heap.size := (Array.getElem?_eq_some_iff.1 h).1
theorem TblAt.lt {w : World} {g mb : Nat} {β : Int → Nat × Nat} {t : TabD} (h : TblAt w g mb β t) : ∀ k ∈ foot g mb β t.nodes, k < w.heap.size := fun k hk => by
  rcases mem_foot.1 hk with rfl | rfl | ⟨n, hn, rfl | rfl⟩
  · exact lt_of_get h.row
  · exact MapAt.lt h.map
  · exact lt_of_get (h.node n hn).row
  · exact MapAt.lt (h.node n hn).names
theorem TblAt.only {w w' : World} {F : List Nat} {g mb : Nat} {β : Int → Nat × Nat} {t : TabD} (h : TblAt w g mb β t) (ho : Only F w w') (hF : ∀ x ∈ F, x ∉ foot g mb β t.nodes) : TblAt w' g mb β t :=
  h.on fun k hk => ho.block k (h.lt k hk) fun hm => hF k hm hk
theorem TblAt.below {w w' : World} {g mb : Nat} {β : Int → Nat × Nat} {t : TabD} (h : TblAt w g mb β t) (hb : Below w.heap.size w w') : TblAt w' g mb β t :=
  h.on fun k hk => hb.block k (h.lt k hk)
theorem TblAt.ids {w : World} {g mb : Nat} {β : Int → Nat × Nat} {t : TabD} (h : TblAt w g mb β t) : t.nodes.Pairwise fun a b => a.id < b.id := by
  have := MapAt.sorted h.map key_int
  unfold nodesL at this
  rw [List.pairwise_map] at this
  exact this.imp fun h => by simpa [Lit.before] using h
theorem find_mem {l : List NodeD} {id : Int} {n : NodeD} (h : In.find l id = some n) : n ∈ l ∧ n.id = id := by
  refine ⟨List.mem_of_find?_eq_some h, ?_⟩
  have := List.find?_some h
  simpa using this
theorem find_of {l : List NodeD} (hs : l.Pairwise fun a b => a.id < b.id) {n : NodeD} (hn : n ∈ l) : In.find l n.id = some n := by
  induction l with
  | nil => cases hn
  | cons y r ih =>
    obtain ⟨h1, h2⟩ := List.pairwise_cons.1 hs
    unfold In.find
    rw [List.find?_cons]
    rcases List.mem_cons.1 hn with rfl | hn
    · simp
    · have : (y.id == n.id) = false := by rw [beq_eq_false_iff_ne]; have := h1 n hn; omega
      rw [this]
      exact ih h2 hn
theorem mem_set {l : List NodeD} {n m : NodeD} (h : m ∈ In.set l n) : m = n ∨ (m ∈ l ∧ m.id ≠ n.id) := by
  unfold In.set at h
  obtain ⟨x, hx, rfl⟩ := List.mem_map.1 h
  split
  · exact .inl rfl
  · rename_i hne
    exact .inr ⟨hx, by simpa using hne⟩
theorem nodesL_set (β : Int → Nat × Nat) (l : List NodeD) (n : NodeD) : nodesL β (In.set l n) = nodesL β l := by
  unfold nodesL In.set
  rw [List.map_map]
  refine List.map_congr_left fun m _ => ?_
  simp only [Function.comp]
  split
  · rename_i h
    rw [show m.id = n.id by simpa using h]
  · rfl
theorem foot_set (g mb : Nat) (β : Int → Nat × Nat) (l : List NodeD) (n : NodeD) : foot g mb β (In.set l n) = foot g mb β l := by
  unfold foot In.set
  rw [List.flatMap_map]
  congr 2
  rw [List.flatMap_def, List.flatMap_def]
  congr 1
  refine List.map_congr_left fun m _ => ?_
  split
  · rename_i h
    rw [show m.id = n.id by simpa using h]
  · rfl
/-- Two inodes' blocks are apart. -/
theorem flat_apart {β : Int → Nat × Nat} : ∀ {l : List NodeD}, (l.flatMap fun n => [(β n.id).1, (β n.id).2]).Nodup → (l.Pairwise fun a b => a.id < b.id) → ∀ {n m : NodeD}, n ∈ l → m ∈ l → m.id ≠ n.id →
    (β m.id).1 ≠ (β n.id).1 ∧ (β m.id).1 ≠ (β n.id).2 ∧ (β m.id).2 ≠ (β n.id).1 ∧ (β m.id).2 ≠ (β n.id).2
  | [], _, _, _, _, hn, _, _ => by cases hn
  | y :: r, hd, hs, n, m, hn, hm, hne => by
    rw [List.flatMap_cons] at hd
    obtain ⟨h1, h2, h3⟩ := List.nodup_append.1 hd
    obtain ⟨s1, s2⟩ := List.pairwise_cons.1 hs
    have inr : ∀ {x : NodeD}, x ∈ r → (β x.id).1 ∈ (r.flatMap fun n => [(β n.id).1, (β n.id).2]) ∧ (β x.id).2 ∈ (r.flatMap fun n => [(β n.id).1, (β n.id).2]) := fun {x} hx =>
      ⟨List.mem_flatMap.2 ⟨x, hx, by simp⟩, List.mem_flatMap.2 ⟨x, hx, by simp⟩⟩
    rcases List.mem_cons.1 hn with rfl | hn' <;> rcases List.mem_cons.1 hm with rfl | hm'
    · exact absurd rfl hne
    · have := inr hm'
      exact ⟨fun e => h3 (β n.id).1 (by simp) _ this.1 e.symm, fun e => h3 (β n.id).2 (by simp) _ this.1 e.symm, fun e => h3 (β n.id).1 (by simp) _ this.2 e.symm, fun e => h3 (β n.id).2 (by simp) _ this.2 e.symm⟩
    · have := inr hn'
      exact ⟨fun e => h3 (β m.id).1 (by simp) _ this.1 e, fun e => h3 (β m.id).1 (by simp) _ this.2 e, fun e => h3 (β m.id).2 (by simp) _ this.1 e, fun e => h3 (β m.id).2 (by simp) _ this.2 e⟩
    · exact flat_apart h2 s2 hn' hm' hne
section
variable {w : World} {g mb : Nat} {β : Int → Nat × Nat} {t : TabD}
theorem TblAt.apart_node (h : TblAt w g mb β t) {n m : NodeD} (hn : n ∈ t.nodes) (hm : m ∈ t.nodes) (hne : m.id ≠ n.id) :
    (β m.id).1 ≠ (β n.id).1 ∧ (β m.id).1 ≠ (β n.id).2 ∧ (β m.id).2 ≠ (β n.id).1 ∧ (β m.id).2 ≠ (β n.id).2 := by
  have hd := h.apart
  unfold foot at hd
  exact flat_apart (List.nodup_cons.1 (List.nodup_cons.1 hd).2).2 h.ids hn hm hne
theorem TblAt.apart_self (h : TblAt w g mb β t) {n : NodeD} (hn : n ∈ t.nodes) : g ≠ mb ∧ g ≠ (β n.id).1 ∧ g ≠ (β n.id).2 ∧ mb ≠ (β n.id).1 ∧ mb ≠ (β n.id).2 := by
  have hd := h.apart
  unfold foot at hd
  obtain ⟨h1, h2⟩ := List.nodup_cons.1 hd
  obtain ⟨h3, _⟩ := List.nodup_cons.1 h2
  simp only [List.mem_cons, not_or] at h1
  refine ⟨h1.1, fun e => h1.2 ?_, fun e => h1.2 ?_, fun e => h3 ?_, fun e => h3 ?_⟩ <;> rw [e] <;> exact List.mem_flatMap.2 ⟨n, hn, by simp⟩
theorem TblAt.apart_two (h : TblAt w g mb β t) {n : NodeD} (hn : n ∈ t.nodes) : (β n.id).1 ≠ (β n.id).2 := by
  intro e
  have h1 := (h.node n hn).row
  obtain ⟨es, clock, h2, _⟩ := (h.node n hn).names
  rw [e, h2] at h1
  cases h1
theorem TblAt.apart_mb (h : TblAt w g mb β t) : g ≠ mb := by
  have hd := h.apart
  unfold foot at hd
  have := (List.nodup_cons.1 hd).1
  simp only [List.mem_cons, not_or] at this
  exact this.1
/-- An inode's own block or its names have turned. -/
theorem TblAt.node_upd {w' : World} (h : TblAt w g mb β t) {n : NodeD} {o : NodeD} (hn : In.find t.nodes n.id = some o)
    (hw : ∀ k ∈ foot g mb β t.nodes, k ≠ (β n.id).1 → k ≠ (β n.id).2 → w'.heap[k]? = w.heap[k]?) (hN : NodeAt w' (β n.id).1 (β n.id).2 n) : TblAt w' g mb β (In.setN t n) := by
  obtain ⟨ho, hid⟩ := find_mem hn
  have ax := h.apart_self ho
  rw [hid] at ax
  refine ⟨?_, ?_, ?_, ?_⟩
  · exact (hw g (mem_foot.2 (.inl rfl)) ax.2.1 ax.2.2.1).trans h.row
  · show MapAt _ _ _ _ (nodesL β (In.set t.nodes n))
    rw [nodesL_set]
    exact MapAt.on h.map (hw mb (mem_foot.2 (.inr (.inl rfl))) ax.2.2.2.1 ax.2.2.2.2)
  · intro m hm
    rcases mem_set hm with rfl | ⟨hm, hne⟩
    · exact hN
    · have ap := h.apart_node ho hm (by rw [hid]; exact hne)
      rw [hid] at ap
      exact (h.node m hm).on (hw _ (mem_foot.2 (.inr (.inr ⟨m, hm, .inl rfl⟩))) ap.1 ap.2.1) (hw _ (mem_foot.2 (.inr (.inr ⟨m, hm, .inr rfl⟩))) ap.2.2.1 ap.2.2.2)
  · show (foot g mb β (In.set t.nodes n)).Nodup
    rw [foot_set]
    exact h.apart
/-- The table's own numbers have turned. -/
theorem TblAt.own_upd {w' : World} (h : TblAt w g mb β t) {q u l : Int} (hw : ∀ k ∈ foot g mb β t.nodes, k ≠ g → w'.heap[k]? = w.heap[k]?)
    (hr : w'.heap[g]? = some (.cells #[.int .i64 q, .int .i64 u, .int .i64 l, .map (some mb)] 56 (0, 0))) : TblAt w' g mb β ⟨q, u, l, t.nodes⟩ where
  row := hr
  map := MapAt.on h.map (hw mb (mem_foot.2 (.inr (.inl rfl))) (fun e => h.apart_mb e.symm))
  node := fun n hn => (h.node n hn).on (hw _ (mem_foot.2 (.inr (.inr ⟨n, hn, .inl rfl⟩))) (fun e => (h.apart_self hn).2.1 e.symm)) (hw _ (mem_foot.2 (.inr (.inr ⟨n, hn, .inr rfl⟩))) (fun e => (h.apart_self hn).2.2.1 e.symm))
  apart := h.apart
theorem mem_del {l : List NodeD} {id : Int} {m : NodeD} (h : m ∈ In.del l id) : m ∈ l ∧ m.id ≠ id := by
  unfold In.del at h
  obtain ⟨h1, h2⟩ := List.mem_filter.1 h
  exact ⟨h1, by simpa using h2⟩
theorem foot_del_sub (g mb : Nat) (β : Int → Nat × Nat) (l : List NodeD) (id : Int) : (foot g mb β (In.del l id)).Sublist (foot g mb β l) := by
  unfold foot In.del
  refine List.Sublist.cons_cons _ (List.Sublist.cons_cons _ ?_)
  induction l with
  | nil => exact List.Sublist.refl _
  | cons y r ih =>
    rw [List.filter_cons, List.flatMap_cons]
    split
    · rw [List.flatMap_cons]
      exact List.Sublist.append_left ih _
    · exact ih.trans (List.sublist_append_right _ _)
/-- An inode has gone out of the map. -/
theorem TblAt.del_upd {w' : World} (h : TblAt w g mb β t) {id : Int} (hw : ∀ k ∈ foot g mb β t.nodes, k ≠ mb → w'.heap[k]? = w.heap[k]?) (hm : MapAt Tryz.prog 3 w' mb (delL (.int .i64 id) (nodesL β t.nodes))) :
    TblAt w' g mb β { t with nodes := In.del t.nodes id } where
  row := (hw g (mem_foot.2 (.inl rfl)) h.apart_mb).trans h.row
  map := by rw [del_nodes] at hm; exact hm
  node := fun n hn => by
    have hn := (mem_del hn).1
    exact (h.node n hn).on (hw _ (mem_foot.2 (.inr (.inr ⟨n, hn, .inl rfl⟩))) (fun e => (h.apart_self hn).2.2.2.1 e.symm)) (hw _ (mem_foot.2 (.inr (.inr ⟨n, hn, .inr rfl⟩))) (fun e => (h.apart_self hn).2.2.2.2 e.symm))
  apart := h.apart.sublist (foot_del_sub _ _ _ _ _)
end

/-! ### steps -/
section
variable {w : World} {g mb : Nat} {β : Int → Nat × Nat} {t : TabD}
theorem TblAt.set_used (h : TblAt w g mb β t) (u : Int) : TblAt (w.setCell ⟨g, 1, none⟩ (.int .i64 u)) g mb β { t with used := u } :=
  h.own_upd (fun _ _ hk => set_other _ _ hk) (by rw [set_row h.row]; rfl)
theorem TblAt.set_last (h : TblAt w g mb β t) (l : Int) : TblAt (w.setCell ⟨g, 2, none⟩ (.int .i64 l)) g mb β { t with last := l } :=
  h.own_upd (fun _ _ hk => set_other _ _ hk) (by rw [set_row h.row]; rfl)
theorem TblAt.at {id : Int} {n : NodeD} (h : TblAt w g mb β t) (hn : In.find t.nodes id = some n) : NodeAt w (β id).1 (β id).2 n := by
  obtain ⟨h1, rfl⟩ := find_mem hn
  exact h.node n h1
theorem TblAt.set_links {id : Int} {n : NodeD} (h : TblAt w g mb β t) (hn : In.find t.nodes id = some n) (v : Int) : TblAt (w.setCell ⟨(β id).1, 1, none⟩ (.int .i64 v)) g mb β (In.setN t { n with links := v }) := by
  obtain rfl := (find_mem hn).2
  have hN := h.at hn
  have ne := h.apart_two (find_mem hn).1
  exact h.node_upd (n := { n with links := v }) hn (fun k _ hk _ => set_other _ _ hk) ⟨by rw [set_row hN.row]; rfl, MapAt.on hN.names (set_other _ _ (fun e => ne e.symm))⟩
theorem TblAt.set_holds {id : Int} {n : NodeD} (h : TblAt w g mb β t) (hn : In.find t.nodes id = some n) (v : Int) : TblAt (w.setCell ⟨(β id).1, 2, none⟩ (.int .i64 v)) g mb β (In.setN t { n with holds := v }) := by
  obtain rfl := (find_mem hn).2
  have hN := h.at hn
  have ne := h.apart_two (find_mem hn).1
  exact h.node_upd (n := { n with holds := v }) hn (fun k _ hk _ => set_other _ _ hk) ⟨by rw [set_row hN.row]; rfl, MapAt.on hN.names (set_other _ _ (fun e => ne e.symm))⟩
theorem TblAt.set_data {id : Int} {n : NodeD} (h : TblAt w g mb β t) (hn : In.find t.nodes id = some n) (v : ByteArray) : TblAt (w.setCell ⟨(β id).1, 3, none⟩ (.string v)) g mb β (In.setN t { n with data := v }) := by
  obtain rfl := (find_mem hn).2
  have hN := h.at hn
  have ne := h.apart_two (find_mem hn).1
  exact h.node_upd (n := { n with data := v }) hn (fun k _ hk _ => set_other _ _ hk) ⟨by rw [set_row hN.row]; rfl, MapAt.on hN.names (set_other _ _ (fun e => ne e.symm))⟩
theorem TblAt.set_names {w' : World} {id : Int} {n : NodeD} (h : TblAt w g mb β t) (hn : In.find t.nodes id = some n) {d : List (ByteArray × Int)} (hm : NamesAt w' (β id).2 d) (ht : w.mapTurned w' (β id).2) : TblAt w' g mb β (In.setN t { n with names := d }) := by
  obtain rfl := (find_mem hn).2
  have hN := h.at hn
  have ne := h.apart_two (find_mem hn).1
  exact h.node_upd (n := { n with names := d }) hn (fun k _ _ hk => turned_other ht hk) ⟨(turned_other ht ne).trans hN.row, hm⟩
theorem find_setN {t : TabD} {n : NodeD} {id : Int} (hn : (In.find t.nodes n.id).isSome = true) : In.find (In.setN t n).nodes id = if id = n.id then some n else In.find t.nodes id := by
  show In.find (In.set t.nodes n) id = _
  unfold In.set In.find at *
  generalize t.nodes = l at *
  induction l with
  | nil => cases hn
  | cons y r ih =>
    rw [List.map_cons, List.find?_cons, List.find?_cons]
    rw [List.find?_cons] at hn
    by_cases hy : y.id = n.id
    · have e1 : (y.id == n.id) = true := by simpa using hy
      rw [if_pos e1]
      by_cases hi : id = n.id
      · subst hi; simp
      · rw [if_neg hi]
        have e2 : (n.id == id) = false := by rw [beq_eq_false_iff_ne]; exact fun e => hi e.symm
        have e3 : (y.id == id) = false := by rw [hy]; exact e2
        rw [e2, e3]
        simp only
        rw [List.find?_map]
        have : ((fun m : NodeD => m.id == id) ∘ fun m => if m.id == n.id then n else m) = fun m => m.id == id := by
          funext m
          simp only [Function.comp]
          split
          · rename_i hm
            rw [show m.id = n.id by simpa using hm]
          · rfl
        rw [this]
        cases hf : r.find? fun m => m.id == id with
        | none => rfl
        | some x =>
          have hx := List.find?_some hf
          simp only [Option.map_some]
          rw [if_neg]
          intro hc
          have h1 : x.id = id := by simpa using hx
          have h2 : x.id = n.id := by simpa using hc
          exact hi (h1 ▸ h2)
    · have e1 : (y.id == n.id) = false := by rw [beq_eq_false_iff_ne]; exact hy
      rw [e1] at hn
      simp only at hn
      rw [e1]
      simp only [Bool.false_eq_true, if_false]
      by_cases hyi : y.id = id
      · have e2 : (y.id == id) = true := by simpa using hyi
        rw [e2]
        simp only
        rw [if_neg (fun e => hy (hyi.trans e))]
      · have e2 : (y.id == id) = false := by rw [beq_eq_false_iff_ne]; exact hyi
        rw [e2]
        exact ih hn
end
end Go.Proofs.YtcicjklhbnipcaaGreat
namespace Go.Proofs.YtcicjklhbnipcaaGreat
set_option linter.unusedVariables false
set_option linter.unusedSimpArgs false
open Go.RowKit Go.Maps

theorem given_yes {w : World} {g mb : Nat} {β : Int → Nat × Nat} {t : TabD} (h : TblAt w g mb β t) (hq : 0 < t.quota) : Calls Tryz.prog 21 #[.pointer (some ⟨g, 0, none⟩)] w fun e w' => e = .returned (.bool true) ∧ w = w' := by
  have c0 := cell_row h.row 0
  simp only [List.getElem?_toArray, List.getElem?_cons_zero] at c0
  clear h
  go_enter Tryz.func21, Tryz.ntmps21
  go_wp2_with fail
  go_ret
  exact ⟨rfl, rfl⟩
theorem zero_ptr (w : World) : (zeroValue 57).run Tryz.prog w = .ok (.pointer none) w := by kernel_rfl
theorem zero_int (w : World) : (zeroValue 3).run Tryz.prog w = .ok (.int .i64 0) w := by kernel_rfl
/-- What a table's map holds at a number. -/
def ptrAt (β : Int → Nat × Nat) (t : TabD) (id : Int) : Value := match In.find t.nodes id with | some n => .pointer (some ⟨(β n.id).1, 0, none⟩) | none => .pointer none
theorem look_at {w : World} {g mb : Nat} {β : Int → Nat × Nat} {t : TabD} (h : TblAt w g mb β t) {id : Int} (hid : Fits id) :
    (Instr.lookup 54 (.map (some mb)) (.int .i64 id) false).run Tryz.prog w = .ok (ptrAt β t id) w := by
  rw [MapAt.look h.map key_int Tryz.underlying54 (zero_ptr w) (keyOf_int_mk Tryz.underlying3 hid), look_nodes]
  rfl
theorem ptr_some {β : Int → Nat × Nat} {t : TabD} {id : Int} {n : NodeD} (h : In.find t.nodes id = some n) : ptrAt β t id = .pointer (some ⟨(β id).1, 0, none⟩) := by
  unfold ptrAt; rw [h]; simp only [(find_mem h).2]
theorem ptr_none {β : Int → Nat × Nat} {t : TabD} {id : Int} (h : In.find t.nodes id = none) : ptrAt β t id = .pointer none := by
  unfold ptrAt; rw [h]
theorem look_name {w : World} {m : Nat} {d : List (ByteArray × Int)} (h : NamesAt w m d) {s : ByteArray} (hs : s.size ≤ maxLen) :
    (Instr.lookup 58 (.map (some m)) (.string s) false).run Tryz.prog w = .ok (.int .i64 (In.leads d s)) w := by
  rw [MapAt.look h key_str Tryz.underlying58 (zero_int w) (WideMaps.keyOf_string_mk Tryz.underlying9 hs), look_names]

/-- It is an inode of that kind. -/
theorem get_yes {w : World} {g mb : Nat} {β : Int → Nat × Nat} {t : TabD} (h : TblAt w g mb β t) (hq : 0 < t.quota) {id : Int} (hid : Fits id) {dir : Bool} {n : NodeD} (hn : In.find t.nodes id = some n) (hd : n.dir = dir) :
    Calls Tryz.prog 48 #[.pointer (some ⟨g, 0, none⟩), .int .i64 id, .bool dir] w fun e w' => e = .returned (.tuple #[.pointer (some ⟨(β id).1, 0, none⟩), .int .i64 0]) ∧ w = w' := by
  have hg := given_yes h hq
  have hl := look_at h hid
  rw [ptr_some hn] at hl
  have c3 := cell_row h.row 3
  simp only [List.getElem?_toArray, List.getElem?_cons_zero, List.getElem?_cons_succ] at c3
  have d0 := cell_row (h.at hn).row 0
  simp only [List.getElem?_toArray, List.getElem?_cons_zero, hd] at d0
  clear h hn hd hq
  go_enter Tryz.func48, Tryz.ntmps48
  cases dir
  all_goals
    go_wp2_with (go_at_call 21; refine hg.mono ?_; rintro e w' ⟨rfl, rfl⟩)
    go_ret2
    exact ⟨rfl, rfl⟩
/-- It is none, or none of that kind. -/
theorem get_no {w : World} {g mb : Nat} {β : Int → Nat × Nat} {t : TabD} (h : TblAt w g mb β t) (hq : 0 < t.quota) {id : Int} (hid : Fits id) {dir : Bool} {E : Int} (hE : In.getE t id dir = E) (h0 : E ≠ 0) :
    Calls Tryz.prog 48 #[.pointer (some ⟨g, 0, none⟩), .int .i64 id, .bool dir] w fun e w' => e = .returned (.tuple #[.pointer none, .int .i64 E]) ∧ w = w' := by
  have hg := given_yes h hq
  have hl := look_at h hid
  have c3 := cell_row h.row 3
  simp only [List.getElem?_toArray, List.getElem?_cons_zero, List.getElem?_cons_succ] at c3
  unfold In.getE at hE
  cases hn : In.find t.nodes id with
  | none =>
    rw [hn] at hE
    subst hE
    rw [ptr_none hn] at hl
    clear h hn hq h0
    go_enter Tryz.func48, Tryz.ntmps48
    go_wp2_with (go_at_call 21; refine hg.mono ?_; rintro e w' ⟨rfl, rfl⟩)
    go_ret2
    exact ⟨rfl, rfl⟩
  | some n =>
    rw [hn] at hE
    rw [ptr_some hn] at hl
    have d0 := cell_row (h.at hn).row 0
    simp only [List.getElem?_toArray, List.getElem?_cons_zero] at d0
    obtain ⟨nd, hnd⟩ : ∃ x, n.dir = x := ⟨_, rfl⟩
    rw [hnd] at d0
    simp only [hnd] at hE
    clear h hn hq hnd
    cases nd <;> cases dir
    all_goals simp at hE
    all_goals first | (exact absurd hE.symm h0) | skip
    all_goals
      subst hE
      go_enter Tryz.func48, Tryz.ntmps48
      go_wp2_with (go_at_call 21; refine hg.mono ?_; rintro e w' ⟨rfl, rfl⟩)
      go_ret2
      exact ⟨rfl, rfl⟩
end Go.Proofs.YtcicjklhbnipcaaGreat
namespace Go.Proofs
open Go.Shelf
def Tryz.lays119_ren : Go.Shelf.Ren := ⟨fun | 119 => 128 | n => n, fun | 21 => 21 | 4 => 4 | n => n, fun | n => n⟩
theorem Tryz.lays119 : Go.Proofs.Lays.n119 Tryz.prog Tryz.lays119_ren := {
  mixed := by kernel_rfl
  f119 := Tryz.func128.trans (congrArg some (by kernel_rfl))
  t4 := Tryz.underlying4
  a4 := Tryz.isAgg4
  z4 := Tryz.sizeOf4
  v4 := Tryz.zeroValue4
  t21 := Tryz.underlying21
  a21 := Tryz.isAgg21
  z21 := Tryz.sizeOf21
  v21 := Tryz.zeroValue21 }
/-- utf8.ValidRune: "ValidRune reports whether r can be legally encoded as UTF-8. Code points that are out of range or a surrogate half are illegal.": IT RETURNS 'Lib.validRune r'; the world is as it was. (LAID: no walk: one application.) -/
theorem Tryz.utf8_ValidRune (r : Int) (w : World) :
    Calls Tryz.prog 128 #[.int .i32 r] w fun e w' => e = .returned (.bool (Lib.validRune r)) ∧ w' = w := Any.utf8_ValidRune Tryz.lays119 r w
def Tryz.lays137_ren : Go.Shelf.Ren := ⟨fun | 137 => 127 | 217 => 131 | 266 => 132 | n => n, fun | 9 => 9 | 5 => 5 | 3 => 3 | n => n, fun | n => n⟩
theorem Tryz.lays137 : Go.Proofs.Lays.n137 Tryz.prog Tryz.lays137_ren := {
  mixed := by kernel_rfl
  f137 := Tryz.func127.trans (congrArg some (by kernel_rfl))
  f217 := Tryz.func131.trans (congrArg some (by kernel_rfl))
  f266 := Tryz.func132.trans (congrArg some (by kernel_rfl))
  t3 := Tryz.underlying3
  a3 := Tryz.isAgg3
  z3 := Tryz.sizeOf3
  v3 := Tryz.zeroValue3
  t5 := Tryz.underlying5
  a5 := Tryz.isAgg5
  z5 := Tryz.sizeOf5
  v5 := Tryz.zeroValue5
  t9 := Tryz.underlying9
  a9 := Tryz.isAgg9
  z9 := Tryz.sizeOf9
  v9 := Tryz.zeroValue9 }
open Go.RowKit in
/-- strings.IndexByte: "IndexByte returns the index of the first instance of c in s, or -1 if c is not present in s.": IT RETURNS 'Lib.indexByte s c'; the world is as it was. (LAID: no walk: one application.) -/
theorem Tryz.strings_IndexByte (s : ByteArray) (c : Int) (w : World) :
    Calls Tryz.prog 127 #[.string s, .int .u8 c] w fun e w' => e = .returned (.int .i64 (Lib.indexByte s.data.toList c.toNat.toUInt8)) ∧ w' = w := Any.strings_IndexByte Tryz.lays137 s c w
def Tryz.lays152_ren : Go.Shelf.Ren := ⟨fun | 152 => 121 | 137 => 127 | 119 => 128 | 224 => 129 | 225 => 130 | 217 => 131 | 266 => 132 | n => n, fun | 9 => 9 | 21 => 21 | 3 => 3 | 4 => 4 | 5 => 5 | 0 => 0 | 46 => 107 | n => n, fun | n => n⟩
theorem Tryz.lays152 : Go.Proofs.Lays.n152 Tryz.prog Tryz.lays152_ren := {
  mixed := by kernel_rfl
  f119 := Tryz.func128.trans (congrArg some (by kernel_rfl))
  f137 := Tryz.func127.trans (congrArg some (by kernel_rfl))
  f152 := Tryz.func121.trans (congrArg some (by kernel_rfl))
  f217 := Tryz.func131.trans (congrArg some (by kernel_rfl))
  f224 := Tryz.func129.trans (congrArg some (by kernel_rfl))
  f225 := Tryz.func130.trans (congrArg some (by kernel_rfl))
  f266 := Tryz.func132.trans (congrArg some (by kernel_rfl))
  t0 := Tryz.underlying0
  a0 := Tryz.isAgg0
  z0 := Tryz.sizeOf0
  v0 := Tryz.zeroValue0
  t3 := Tryz.underlying3
  a3 := Tryz.isAgg3
  z3 := Tryz.sizeOf3
  v3 := Tryz.zeroValue3
  t4 := Tryz.underlying4
  a4 := Tryz.isAgg4
  z4 := Tryz.sizeOf4
  v4 := Tryz.zeroValue4
  t5 := Tryz.underlying5
  a5 := Tryz.isAgg5
  z5 := Tryz.sizeOf5
  v5 := Tryz.zeroValue5
  t9 := Tryz.underlying9
  a9 := Tryz.isAgg9
  z9 := Tryz.sizeOf9
  v9 := Tryz.zeroValue9
  t21 := Tryz.underlying21
  a21 := Tryz.isAgg21
  z21 := Tryz.sizeOf21
  v21 := Tryz.zeroValue21
  t46 := Tryz.underlying107
  a46 := Tryz.isAgg107
  z46 := Tryz.sizeOf107
  v46 := Tryz.zeroValue107 }
open Go.RowKit Go.Lib in
theorem Tryz.strings_IndexRune_ascii (s : ByteArray) (r : Int) (w : World) (h0 : 0 ≤ r) (h1 : r < 128) :
    Calls Tryz.prog 121 #[.string s, .int .i32 r] w fun e w' => e = .returned (.int .i64 (Lib.indexByte s.data.toList r.toNat.toUInt8)) ∧ w' = w := Any.strings_IndexRune_ascii Tryz.lays152 s r w h0 h1
def Tryz.lays226_ren : Go.Shelf.Ren := ⟨fun | 226 => 122 | n => n, fun | 3 => 3 | 4 => 4 | n => n, fun | n => n⟩
theorem Tryz.lays226 : Go.Proofs.Lays.n226 Tryz.prog Tryz.lays226_ren := {
  mixed := by kernel_rfl
  f226 := Tryz.func122.trans (congrArg some (by kernel_rfl))
  t3 := Tryz.underlying3
  a3 := Tryz.isAgg3
  z3 := Tryz.sizeOf3
  v3 := Tryz.zeroValue3
  t4 := Tryz.underlying4
  a4 := Tryz.isAgg4
  z4 := Tryz.sizeOf4
  v4 := Tryz.zeroValue4 }
open Go.RowKit Go.Lib in
theorem Tryz.strings_shouldUseASCIISet (n : Int) (w : World) :
    Calls Tryz.prog 122 #[.int .i64 n] w fun e w' => e = .returned (.bool (decide (8 < n))) ∧ w' = w := Any.strings_shouldUseASCIISet Tryz.lays226 n w
def Tryz.lays153_ren : Go.Shelf.Ren := ⟨fun | 153 => 108 | 152 => 121 | 226 => 122 | 227 => 123 | 228 => 124 | 137 => 127 | 119 => 128 | 224 => 129 | 225 => 130 | 217 => 131 | 266 => 132 | n => n, fun | 9 => 9 | 3 => 3 | 4 => 4 | 5 => 5 | 21 => 21 | 117 => 159 | 116 => 158 | 0 => 0 | 46 => 107 | 124 => 169 | n => n, fun | n => n⟩
theorem Tryz.lays153 : Go.Proofs.Lays.n153 Tryz.prog Tryz.lays153_ren := {
  mixed := by kernel_rfl
  f119 := Tryz.func128.trans (congrArg some (by kernel_rfl))
  f137 := Tryz.func127.trans (congrArg some (by kernel_rfl))
  f152 := Tryz.func121.trans (congrArg some (by kernel_rfl))
  f153 := Tryz.func108.trans (congrArg some (by kernel_rfl))
  f217 := Tryz.func131.trans (congrArg some (by kernel_rfl))
  f224 := Tryz.func129.trans (congrArg some (by kernel_rfl))
  f225 := Tryz.func130.trans (congrArg some (by kernel_rfl))
  f226 := Tryz.func122.trans (congrArg some (by kernel_rfl))
  f227 := Tryz.func123.trans (congrArg some (by kernel_rfl))
  f228 := Tryz.func124.trans (congrArg some (by kernel_rfl))
  f266 := Tryz.func132.trans (congrArg some (by kernel_rfl))
  t0 := Tryz.underlying0
  a0 := Tryz.isAgg0
  z0 := Tryz.sizeOf0
  v0 := Tryz.zeroValue0
  t3 := Tryz.underlying3
  a3 := Tryz.isAgg3
  z3 := Tryz.sizeOf3
  v3 := Tryz.zeroValue3
  t4 := Tryz.underlying4
  a4 := Tryz.isAgg4
  z4 := Tryz.sizeOf4
  v4 := Tryz.zeroValue4
  t5 := Tryz.underlying5
  a5 := Tryz.isAgg5
  z5 := Tryz.sizeOf5
  v5 := Tryz.zeroValue5
  t9 := Tryz.underlying9
  a9 := Tryz.isAgg9
  z9 := Tryz.sizeOf9
  v9 := Tryz.zeroValue9
  t21 := Tryz.underlying21
  a21 := Tryz.isAgg21
  z21 := Tryz.sizeOf21
  v21 := Tryz.zeroValue21
  t46 := Tryz.underlying107
  a46 := Tryz.isAgg107
  z46 := Tryz.sizeOf107
  v46 := Tryz.zeroValue107
  t116 := Tryz.underlying158
  a116 := Tryz.isAgg158
  z116 := Tryz.sizeOf158
  t117 := Tryz.underlying159
  a117 := Tryz.isAgg159
  z117 := Tryz.sizeOf159
  v117 := Tryz.zeroValue159
  t124 := Tryz.underlying169
  a124 := Tryz.isAgg169
  z124 := Tryz.sizeOf169
  v124 := Tryz.zeroValue169 }
open Go.RowKit Go.Lib in
theorem Tryz.strings_IndexAny_long (hv116 : ∀ w, (zeroValue 158).run Tryz.prog w = .ok (.agg (Array.replicate 256 (.bool false))) w) (s chars : ByteArray) (w : World) (h2 : 2 ≤ chars.size) (h8 : 8 < s.size) (hs : s.size < 4294967281) (hcs : chars.size < 4294967281) (hascii : ∀ (j : Nat) b, chars.data.toList[j]? = some b → b.toNat < 128) :
    Calls Tryz.prog 108 #[.string s, .string chars] w fun e w' => e = .returned (.int .i64 (Lib.indexAny s.data.toList chars.data.toList)) ∧ w' = ((w.alloc (.cells (Lib.setCells chars.data.toList) 158)).alloc (.cells (Lib.setCells chars.data.toList) 158)) := Any.strings_IndexAny_long Tryz.lays153 hv116 (by kernel_rfl) s chars w h2 h8 hs hcs hascii
def Tryz.lays105_ren : Go.Shelf.Ren := ⟨fun | 105 => 68 | 212 => 76 | 99 => 77 | 165 => 78 | 166 => 79 | 170 => 80 | 169 => 81 | 263 => 103 | 264 => 104 | 206 => 105 | 240 => 106 | 241 => 107 | 276 => 119 | 277 => 120 | n => n, fun | 9 => 9 | 3 => 3 | 4 => 4 | 20 => 20 | 0 => 0 | 46 => 107 | 109 => 110 | 5 => 5 | 72 => 115 | 76 => 118 | 51 => 131 | 146 => 139 | 53 => 133 | 148 => 141 | 70 => 113 | 37 => 103 | 75 => 117 | 127 => 143 | 164 => 153 | 80 => 120 | n => n, fun | n => n⟩
theorem Tryz.lays105 : Go.Proofs.Lays.n105 Tryz.prog Tryz.lays105_ren := {
  mixed := by kernel_rfl
  f99 := Tryz.func77.trans (congrArg some (by kernel_rfl))
  f105 := Tryz.func68.trans (congrArg some (by kernel_rfl))
  f165 := Tryz.func78.trans (congrArg some (by kernel_rfl))
  f166 := Tryz.func79.trans (congrArg some (by kernel_rfl))
  f169 := Tryz.func81.trans (congrArg some (by kernel_rfl))
  f170 := Tryz.func80.trans (congrArg some (by kernel_rfl))
  f206 := Tryz.func105.trans (congrArg some (by kernel_rfl))
  f212 := Tryz.func76.trans (congrArg some (by kernel_rfl))
  f240 := Tryz.func106.trans (congrArg some (by kernel_rfl))
  f241 := Tryz.func107.trans (congrArg some (by kernel_rfl))
  f263 := Tryz.func103.trans (congrArg some (by kernel_rfl))
  f264 := Tryz.func104.trans (congrArg some (by kernel_rfl))
  f276 := Tryz.func119.trans (congrArg some (by kernel_rfl))
  f277 := Tryz.func120.trans (congrArg some (by kernel_rfl))
  t0 := Tryz.underlying0
  a0 := Tryz.isAgg0
  z0 := Tryz.sizeOf0
  v0 := Tryz.zeroValue0
  t3 := Tryz.underlying3
  a3 := Tryz.isAgg3
  z3 := Tryz.sizeOf3
  v3 := Tryz.zeroValue3
  t4 := Tryz.underlying4
  a4 := Tryz.isAgg4
  z4 := Tryz.sizeOf4
  v4 := Tryz.zeroValue4
  t5 := Tryz.underlying5
  a5 := Tryz.isAgg5
  z5 := Tryz.sizeOf5
  v5 := Tryz.zeroValue5
  t9 := Tryz.underlying9
  a9 := Tryz.isAgg9
  z9 := Tryz.sizeOf9
  v9 := Tryz.zeroValue9
  t20 := Tryz.underlying20
  a20 := Tryz.isAgg20
  z20 := Tryz.sizeOf20
  v20 := Tryz.zeroValue20
  t37 := Tryz.underlying103
  a37 := Tryz.isAgg103
  z37 := Tryz.sizeOf103
  v37 := Tryz.zeroValue103
  t46 := Tryz.underlying107
  a46 := Tryz.isAgg107
  z46 := Tryz.sizeOf107
  v46 := Tryz.zeroValue107
  t51 := Tryz.underlying131
  a51 := Tryz.isAgg131
  z51 := Tryz.sizeOf131
  v51 := Tryz.zeroValue131
  t53 := Tryz.underlying133
  a53 := Tryz.isAgg133
  z53 := Tryz.sizeOf133
  v53 := Tryz.zeroValue133
  t70 := Tryz.underlying113
  a70 := Tryz.isAgg113
  z70 := Tryz.sizeOf113
  v70 := Tryz.zeroValue113
  t72 := Tryz.underlying115
  a72 := Tryz.isAgg115
  z72 := Tryz.sizeOf115
  v72 := Tryz.zeroValue115
  t75 := Tryz.underlying117
  a75 := Tryz.isAgg117
  z75 := Tryz.sizeOf117
  v75 := Tryz.zeroValue117
  t76 := Tryz.underlying118
  a76 := Tryz.isAgg118
  z76 := Tryz.sizeOf118
  v76 := Tryz.zeroValue118
  t109 := Tryz.underlying110
  a109 := Tryz.isAgg110
  z109 := Tryz.sizeOf110
  v109 := Tryz.zeroValue110
  t127 := Tryz.underlying143
  a127 := Tryz.isAgg143
  z127 := Tryz.sizeOf143
  v127 := Tryz.zeroValue143
  t146 := Tryz.underlying139
  a146 := Tryz.isAgg139
  z146 := Tryz.sizeOf139
  v146 := Tryz.zeroValue139
  t148 := Tryz.underlying141
  a148 := Tryz.isAgg141
  z148 := Tryz.sizeOf141
  v148 := Tryz.zeroValue141
  t164 := Tryz.underlying153
  a164 := Tryz.isAgg153
  z164 := Tryz.sizeOf153
  v164 := Tryz.zeroValue153 }
theorem Tryz.Builder_Extra_105 : Builder.Extra Tryz.prog Tryz.lays105_ren := {
  sizeBuilder := by kernel_rfl
  liesBuilder := by kernel_rfl
  t5 := Tryz.underlying5
  a5 := Tryz.isAgg5
  z5 := Tryz.sizeOf5
  v5 := Tryz.zeroValue5
  infoByte := by kernel_rfl
  cellsByte := by kernel_rfl
  sizeByte := by kernel_rfl
  neB5 := by decide }
open Go.RowKit Go.Lib in
/-- **strings.Repeat: count ≥ 0, the result within one allocation: count copies of s.** (LAID: no walk: one application.) -/
theorem Tryz.strings_Repeat (s : ByteArray) (c : Nat) (w : World) (hc : c ≤ 9223372036854775807) (hlen : s.size * c ≤ 140737488355328) :
    Calls Tryz.prog 68 #[.string s, .int .i64 c] w fun e w' => e = .returned (.string ⟨(Lib.repeatL s.data.toList c).toArray⟩) ∧ Below w.heap.size w w' := Any.strings_Repeat Tryz.lays105 Tryz.Builder_Extra_105 s c w hc hlen
def Tryz.laysSlM5_f63_ren : Go.Shelf.Ren := ⟨fun | 5 => 63 | 8 => 73 | 7 => 72 | 19 => 92 | 20 => 93 | 10 => 83 | 11 => 84 | 12 => 85 | 13 => 86 | 14 => 87 | 15 => 88 | 16 => 89 | 17 => 90 | 18 => 91 | 30 => 109 | 31 => 110 | 32 => 111 | 33 => 112 | 34 => 113 | 35 => 114 | 40 => 125 | n => n, fun | 23 => 71 | 25 => 3 | 3 => 3 | 32 => 107 | 22 => 71 | 0 => 0 | 44 => 131 | 46 => 133 | 4 => 4 | 36 => 123 | 35 => 122 | 41 => 128 | 5 => 5 | 9 => 9 | 53 => 145 | 57 => 149 | 63 => 162 | 64 => 163 | n => n, fun | n => n⟩
theorem Tryz.laysSlM5_f63 : Go.Proofs.SlLaysM.n5 Tryz.prog Tryz.laysSlM5_f63_ren := {
  mixed := by kernel_rfl
  f5 := ⟨Tryz.f63.name, by decide, Tryz.func63.trans (congrArg some (by kernel_rfl))⟩
  f7 := ⟨Tryz.f72.name, by decide, Tryz.func72.trans (congrArg some (by kernel_rfl))⟩
  f8 := Tryz.func73.trans (congrArg some (by kernel_rfl))
  f10 := ⟨Tryz.f83.name, by decide, Tryz.func83.trans (congrArg some (by kernel_rfl))⟩
  f11 := ⟨Tryz.f84.name, by decide, Tryz.func84.trans (congrArg some (by kernel_rfl))⟩
  f12 := ⟨Tryz.f85.name, by decide, Tryz.func85.trans (congrArg some (by kernel_rfl))⟩
  f13 := ⟨Tryz.f86.name, by decide, Tryz.func86.trans (congrArg some (by kernel_rfl))⟩
  f14 := ⟨Tryz.f87.name, by decide, Tryz.func87.trans (congrArg some (by kernel_rfl))⟩
  f15 := ⟨Tryz.f88.name, by decide, Tryz.func88.trans (congrArg some (by kernel_rfl))⟩
  f16 := ⟨Tryz.f89.name, by decide, Tryz.func89.trans (congrArg some (by kernel_rfl))⟩
  f17 := ⟨Tryz.f90.name, by decide, Tryz.func90.trans (congrArg some (by kernel_rfl))⟩
  f18 := ⟨Tryz.f91.name, by decide, Tryz.func91.trans (congrArg some (by kernel_rfl))⟩
  f19 := Tryz.func92.trans (congrArg some (by kernel_rfl))
  f20 := Tryz.func93.trans (congrArg some (by kernel_rfl))
  f30 := ⟨Tryz.f109.name, by decide, Tryz.func109.trans (congrArg some (by kernel_rfl))⟩
  f31 := Tryz.func110.trans (congrArg some (by kernel_rfl))
  f32 := Tryz.func111.trans (congrArg some (by kernel_rfl))
  f33 := ⟨Tryz.f112.name, by decide, Tryz.func112.trans (congrArg some (by kernel_rfl))⟩
  f34 := ⟨Tryz.f113.name, by decide, Tryz.func113.trans (congrArg some (by kernel_rfl))⟩
  f35 := ⟨Tryz.f114.name, by decide, Tryz.func114.trans (congrArg some (by kernel_rfl))⟩
  f40 := ⟨Tryz.f125.name, by decide, Tryz.func125.trans (congrArg some (by kernel_rfl))⟩
  t0 := Tryz.underlying0
  a0 := Tryz.isAgg0
  z0 := Tryz.sizeOf0
  v0 := Tryz.zeroValue0
  t3 := Tryz.underlying3
  a3 := Tryz.isAgg3
  z3 := Tryz.sizeOf3
  v3 := Tryz.zeroValue3
  t4 := Tryz.underlying4
  a4 := Tryz.isAgg4
  z4 := Tryz.sizeOf4
  v4 := Tryz.zeroValue4
  t5 := Tryz.underlying5
  a5 := Tryz.isAgg5
  z5 := Tryz.sizeOf5
  v5 := Tryz.zeroValue5
  t9 := Tryz.underlying9
  a9 := Tryz.isAgg9
  z9 := Tryz.sizeOf9
  v9 := Tryz.zeroValue9
  t22 := Tryz.underlying71
  a22 := Tryz.isAgg71
  z22 := Tryz.sizeOf71
  v22 := Tryz.zeroValue71
  t23 := Tryz.underlying71
  a23 := Tryz.isAgg71
  z23 := Tryz.sizeOf71
  v23 := Tryz.zeroValue71
  t25 := Tryz.underlying3
  a25 := Tryz.isAgg3
  z25 := Tryz.sizeOf3
  v25 := Tryz.zeroValue3
  t32 := Tryz.underlying107
  a32 := Tryz.isAgg107
  z32 := Tryz.sizeOf107
  v32 := Tryz.zeroValue107
  t35 := Tryz.underlying122
  a35 := Tryz.isAgg122
  z35 := Tryz.sizeOf122
  v35 := Tryz.zeroValue122
  t36 := Tryz.underlying123
  a36 := Tryz.isAgg123
  z36 := Tryz.sizeOf123
  v36 := Tryz.zeroValue123
  t41 := Tryz.underlying128
  a41 := Tryz.isAgg128
  z41 := Tryz.sizeOf128
  v41 := Tryz.zeroValue128
  t44 := Tryz.underlying131
  a44 := Tryz.isAgg131
  z44 := Tryz.sizeOf131
  v44 := Tryz.zeroValue131
  t46 := Tryz.underlying133
  a46 := Tryz.isAgg133
  z46 := Tryz.sizeOf133
  v46 := Tryz.zeroValue133
  t53 := Tryz.underlying145
  a53 := Tryz.isAgg145
  z53 := Tryz.sizeOf145
  v53 := Tryz.zeroValue145
  t57 := Tryz.underlying149
  a57 := Tryz.isAgg149
  z57 := Tryz.sizeOf149
  v57 := Tryz.zeroValue149
  t63 := Tryz.underlying162
  a63 := Tryz.isAgg162
  z63 := Tryz.sizeOf162
  v63 := Tryz.zeroValue162
  t64 := Tryz.underlying163
  a64 := Tryz.isAgg163
  z64 := Tryz.sizeOf163
  v64 := Tryz.zeroValue163 }
open Go.Sort Go.RowKit in
theorem Tryz.slices_Sort_int (blk off cap : Nat) (zs : List Int) (w : World) (hH : Holds (Value.int .i64) w blk off zs.toArray) (hblk : blk < w.heap.size) (hsz : zs.length < 4611686018427387904) :
    Calls Tryz.prog 63 #[.slice (some ⟨blk, off, none⟩) zs.length cap] w fun e w' =>
      e = .returned (.tuple #[]) ∧ ∃ n os, w' = grow (putRow (Value.int .i64) (Sort.ahead w n) blk off (zs.mergeSort fun x y => decide (x ≤ y)).toArray) os := AnyM.slices_Sort_int Tryz.laysSlM5_f63 blk off cap zs w hH hblk hsz
def Tryz.laysSlM6_f66_ren : Go.Shelf.Ren := ⟨fun | 6 => 66 | 8 => 73 | 9 => 75 | 19 => 92 | 20 => 93 | 21 => 94 | 22 => 95 | 23 => 96 | 24 => 97 | 25 => 98 | 26 => 99 | 27 => 100 | 28 => 101 | 29 => 102 | 36 => 115 | 31 => 110 | 32 => 111 | 37 => 116 | 38 => 117 | 39 => 118 | 41 => 126 | n => n, fun | 27 => 51 | 29 => 9 | 3 => 3 | 32 => 107 | 26 => 51 | 0 => 0 | 44 => 131 | 46 => 133 | 4 => 4 | 36 => 123 | 35 => 122 | 41 => 128 | 5 => 5 | 9 => 9 | 53 => 145 | 57 => 149 | 63 => 162 | 64 => 163 | n => n, fun | n => n⟩
theorem Tryz.laysSlM6_f66 : Go.Proofs.SlLaysM.n6 Tryz.prog Tryz.laysSlM6_f66_ren := {
  mixed := by kernel_rfl
  f6 := ⟨Tryz.f66.name, by decide, Tryz.func66.trans (congrArg some (by kernel_rfl))⟩
  f8 := Tryz.func73.trans (congrArg some (by kernel_rfl))
  f9 := ⟨Tryz.f75.name, by decide, Tryz.func75.trans (congrArg some (by kernel_rfl))⟩
  f19 := Tryz.func92.trans (congrArg some (by kernel_rfl))
  f20 := Tryz.func93.trans (congrArg some (by kernel_rfl))
  f21 := ⟨Tryz.f94.name, by decide, Tryz.func94.trans (congrArg some (by kernel_rfl))⟩
  f22 := ⟨Tryz.f95.name, by decide, Tryz.func95.trans (congrArg some (by kernel_rfl))⟩
  f23 := ⟨Tryz.f96.name, by decide, Tryz.func96.trans (congrArg some (by kernel_rfl))⟩
  f24 := ⟨Tryz.f97.name, by decide, Tryz.func97.trans (congrArg some (by kernel_rfl))⟩
  f25 := ⟨Tryz.f98.name, by decide, Tryz.func98.trans (congrArg some (by kernel_rfl))⟩
  f26 := ⟨Tryz.f99.name, by decide, Tryz.func99.trans (congrArg some (by kernel_rfl))⟩
  f27 := ⟨Tryz.f100.name, by decide, Tryz.func100.trans (congrArg some (by kernel_rfl))⟩
  f28 := ⟨Tryz.f101.name, by decide, Tryz.func101.trans (congrArg some (by kernel_rfl))⟩
  f29 := ⟨Tryz.f102.name, by decide, Tryz.func102.trans (congrArg some (by kernel_rfl))⟩
  f31 := Tryz.func110.trans (congrArg some (by kernel_rfl))
  f32 := Tryz.func111.trans (congrArg some (by kernel_rfl))
  f36 := ⟨Tryz.f115.name, by decide, Tryz.func115.trans (congrArg some (by kernel_rfl))⟩
  f37 := ⟨Tryz.f116.name, by decide, Tryz.func116.trans (congrArg some (by kernel_rfl))⟩
  f38 := ⟨Tryz.f117.name, by decide, Tryz.func117.trans (congrArg some (by kernel_rfl))⟩
  f39 := ⟨Tryz.f118.name, by decide, Tryz.func118.trans (congrArg some (by kernel_rfl))⟩
  f41 := ⟨Tryz.f126.name, by decide, Tryz.func126.trans (congrArg some (by kernel_rfl))⟩
  t0 := Tryz.underlying0
  a0 := Tryz.isAgg0
  z0 := Tryz.sizeOf0
  v0 := Tryz.zeroValue0
  t3 := Tryz.underlying3
  a3 := Tryz.isAgg3
  z3 := Tryz.sizeOf3
  v3 := Tryz.zeroValue3
  t4 := Tryz.underlying4
  a4 := Tryz.isAgg4
  z4 := Tryz.sizeOf4
  v4 := Tryz.zeroValue4
  t5 := Tryz.underlying5
  a5 := Tryz.isAgg5
  z5 := Tryz.sizeOf5
  v5 := Tryz.zeroValue5
  t9 := Tryz.underlying9
  a9 := Tryz.isAgg9
  z9 := Tryz.sizeOf9
  v9 := Tryz.zeroValue9
  t26 := Tryz.underlying51
  a26 := Tryz.isAgg51
  z26 := Tryz.sizeOf51
  v26 := Tryz.zeroValue51
  t27 := Tryz.underlying51
  a27 := Tryz.isAgg51
  z27 := Tryz.sizeOf51
  v27 := Tryz.zeroValue51
  t29 := Tryz.underlying9
  a29 := Tryz.isAgg9
  z29 := Tryz.sizeOf9
  v29 := Tryz.zeroValue9
  t32 := Tryz.underlying107
  a32 := Tryz.isAgg107
  z32 := Tryz.sizeOf107
  v32 := Tryz.zeroValue107
  t35 := Tryz.underlying122
  a35 := Tryz.isAgg122
  z35 := Tryz.sizeOf122
  v35 := Tryz.zeroValue122
  t36 := Tryz.underlying123
  a36 := Tryz.isAgg123
  z36 := Tryz.sizeOf123
  v36 := Tryz.zeroValue123
  t41 := Tryz.underlying128
  a41 := Tryz.isAgg128
  z41 := Tryz.sizeOf128
  v41 := Tryz.zeroValue128
  t44 := Tryz.underlying131
  a44 := Tryz.isAgg131
  z44 := Tryz.sizeOf131
  v44 := Tryz.zeroValue131
  t46 := Tryz.underlying133
  a46 := Tryz.isAgg133
  z46 := Tryz.sizeOf133
  v46 := Tryz.zeroValue133
  t53 := Tryz.underlying145
  a53 := Tryz.isAgg145
  z53 := Tryz.sizeOf145
  v53 := Tryz.zeroValue145
  t57 := Tryz.underlying149
  a57 := Tryz.isAgg149
  z57 := Tryz.sizeOf149
  v57 := Tryz.zeroValue149
  t63 := Tryz.underlying162
  a63 := Tryz.isAgg162
  z63 := Tryz.sizeOf162
  v63 := Tryz.zeroValue162
  t64 := Tryz.underlying163
  a64 := Tryz.isAgg163
  z64 := Tryz.sizeOf163
  v64 := Tryz.zeroValue163 }
open Go.Sort Go.RowKit in
theorem Tryz.slices_Sort_string (blk off cap : Nat) (ss : List (List UInt8)) (w : World) (hH : Holds encStr w blk off ss.toArray) (hblk : blk < w.heap.size) (hsz : ss.length < 4611686018427387904) :
    Calls Tryz.prog 66 #[.slice (some ⟨blk, off, none⟩) ss.length cap] w fun e w' =>
      e = .returned (.tuple #[]) ∧ ∃ n os, w' = grow (putRow encStr (Sort.ahead w n) blk off (ss.mergeSort fun x y => decide (x ≤ y)).toArray) os := AnyM.slices_Sort_string Tryz.laysSlM6_f66 blk off cap ss w hH hblk hsz
open Go.RowKit Go.Sort in
/-- .. and plain. (LAID AT THE INSTANCE 'slices.Sort[[]string,string]': no walk: one application.) -/
theorem Tryz.slices_Sort_string_none (p : Option Addr) (cap : Nat) (w : World) :
    Calls Tryz.prog 66 #[.slice p 0 cap] w fun e w' => e = .returned (.tuple #[]) ∧ w' = w := AnyM.slices_Sort_string_none Tryz.laysSlM6_f66 p cap w
open Go.RowKit Go.Sort in
/-- .. and plain. (LAID AT THE INSTANCE 'slices.Sort[[]int,int]': no walk: one application.) -/
theorem Tryz.slices_Sort_int_none (p : Option Addr) (cap : Nat) (w : World) :
    Calls Tryz.prog 63 #[.slice p 0 cap] w fun e w' => e = .returned (.tuple #[]) ∧ w' = w := AnyM.slices_Sort_int_none Tryz.laysSlM5_f63 p cap w
end Go.Proofs
namespace Go.Proofs.YtcicjklhbnipcaaGreat
set_option linter.unusedVariables false
set_option linter.unusedSimpArgs false
open Go.RowKit

structure Ext (B : Nat) (W : World) : Type where
  w : World
  b : Below B W w

instance (B : Nat) (W : World) : Nonempty (Ext B W) := ⟨⟨W, Below.refl B W⟩⟩

theorem wp_region_bel {P : Program} {id : Nat} {Q : Exit → Act → World → Prop} {a : Act} {w : World} {l : List Oper} (B : Nat) (hm : P.follows .mixedOrders = true) (hB : Region.lexB .any l.toArray = true)
    (h : wpQuiet P l.toArray (fun w' => ∃ x : Ext B w, w' = x.w) (fun a' => ∀ x : Ext B w, Q .normal a' x.w) l a) : (Code.region id l.toArray true).wp P Q a w := by
  refine wp_region_quiet (C := fun w' => ∃ x : Ext B w, w' = x.w) hm hB ⟨⟨w.drew, (Below.refl B w).drew⟩, rfl⟩ ?_
  have e : (fun a' => ∀ w', (∃ x : Ext B w, w' = x.w) → Q .normal a' w') = (fun a' => ∀ x : Ext B w, Q .normal a' x.w) := by
    funext a'
    exact propext ⟨fun h x => h _ ⟨x, rfl⟩, fun h w' ⟨x, hx⟩ => by rw [hx]; exact h x⟩
  rw [e]
  exact h

theorem Ext.step {B : Nat} {W : World} (hB : B ≤ W.heap.size) (x : Ext B W) {w' : World} (h : Below x.w.heap.size x.w w') : ∃ y : Ext B W, w' = y.w :=
  ⟨⟨w', x.b.trans (h.mono (Nat.le_trans hB x.b.size))⟩, rfl⟩

end Go.Proofs.YtcicjklhbnipcaaGreat
namespace Go.Proofs.YtcicjklhbnipcaaGreat
set_option linter.unusedVariables false
set_option linter.unusedSimpArgs false
open Go.RowKit Go.Maps Go.Lib

/-- What may not stand in a name. -/
abbrev zs : ByteArray := ⟨#[0, 47]⟩
set_option maxHeartbeats 2000000 in
set_option maxRecDepth 1000000 in
theorem indexRune_bad (w : World) : Calls Tryz.prog 121 #[.string zs, .int .i32 65533] w fun e w' => e = .returned (.int .i64 (-1)) ∧ Below w.heap.size w w' := by
  have h0 := fun ty => run_next_ascii (P := Tryz.prog) w zs 0 ty (by decide) (by decide)
  have h1 := fun ty => run_next_ascii (P := Tryz.prog) w zs 1 ty (by decide) (by decide)
  have h2 := fun ty => run_next_end (P := Tryz.prog) w zs 2 ty (by decide)
  go_enter Tryz.func121, Tryz.ntmps121
  go_wp2_with fail
  go_loopg [5, 6] 2 (fun g _ _ wx => ∃ i : Nat, i + g = 2 ∧ wx = w.iter zs i)
  case atStart => exact ⟨0, by omega, rfl⟩
  case round =>
    obtain ⟨i, hig, rfl⟩ := hrel
    cases gk with
    | zero =>
      obtain rfl : i = 2 := by omega
      go_wp2_with fail
      go_ret
      exact ⟨rfl, (Below.refl _ _).alloc (Nat.le_refl _) _⟩
    | succ g =>
      have hi : i = 0 ∨ i = 1 := by omega
      rcases hi with rfl | rfl
      · go_wp2_with fail
        go_roundg g
        case measure => omega
        case rel => exact ⟨1, by omega, rfl⟩
      · go_wp2_with fail
        go_roundg g
        case measure => omega
        case rel => exact ⟨2, by omega, rfl⟩
theorem wide_last {c : Int} (h1 : 128 ≤ c) (hv : Utf8.valid c = true) : ∃ (k : Nat) (x : UInt8), (Utf8.encode c).size = k ∧ 2 ≤ k ∧ k ≤ 4 ∧ 128 ≤ x.toNat ∧ ∀ h : k - 1 < (Utf8.encode c).size, (Utf8.encode c)[k - 1]'h = x := by
  obtain ⟨a, b, h⟩ := encode_facts c hv h1
  exact ⟨_, _, rfl, a, b, h (by omega), fun _ => rfl⟩
set_option maxHeartbeats 2000000 in
set_option maxRecDepth 1000000 in
theorem indexRune_wide (c : Int) (h1 : 128 ≤ c) (h2 : c ≤ 2147483647) (hb : c ≠ 65533) (w : World) : Calls Tryz.prog 121 #[.string zs, .int .i32 c] w fun e w' => e = .returned (.int .i64 (-1)) ∧ Below w.heap.size w w' := by
  have e1 : (c == 65533) = false := beq_eq_false_iff_ne.2 hb
  have e0 : decide (c < 128) = false := decide_eq_false (by omega)
  have cv := Tryz.utf8_ValidRune c w
  obtain ⟨b, hbv⟩ : ∃ b, Lib.validRune c = b := ⟨_, rfl⟩
  rw [hbv] at cv
  cases b with
  | false =>
    clear hbv
    go_enter Tryz.func121, Tryz.ntmps121
    go_wp2_with (go_at_call 128; refine cv.mono ?_; rintro e w' ⟨rfl, rfl⟩)
    go_ret
    exact ⟨rfl, Below.refl _ _⟩
  | true =>
    have hv : Utf8.valid c = true := by
      simp only [Lib.validRune, decide_eq_true_eq] at hbv
      simp only [Utf8.valid, Bool.or_eq_true, Bool.and_eq_true, decide_eq_true_eq]
      omega
    obtain ⟨k, x, hk, k2, k4, hx, hl⟩ := wide_last h1 hv
    have hcv := fun (w : World) => run_convert_int_string (P := Tryz.prog) w 21 9 .i32 c (by kernel_rfl) Tryz.underlying9
    generalize Utf8.encode c = rs at hk hl hcv
    have HL := Lib.hid hl
    clear hbv hv hl
    go_enter Tryz.func121, Tryz.ntmps121
    go_wp2_with (go_at_call 128; refine cv.mono ?_; rintro e w' ⟨rfl, rfl⟩)
    by_cases h3 : 3 ≤ k
    · have hlt : decide ((k : Int) - 1 < 2) = false := decide_eq_false (by omega)
      go_step3
      go_wp2_with fail
      go_loopg [9] 0 (fun g x wx => g = 0 ∧ x = .int .i64 ((k : Int) - 1) ∧ wx = w')
      case atStart => exact ⟨rfl, rfl, rfl⟩
      case round =>
        obtain ⟨rfl, rfl, rfl⟩ := hrel
        go_wp2_with fail
        rw [Exit.noGoto_ret]
        go_ret
        exact ⟨rfl, Below.refl _ _⟩
    · obtain rfl : k = 2 := by omega
      have ex : rs[1]'(by omega) = x := HL.out (by omega)
      have ne : Lib.indexByte ByteArray.empty.data.toList (x.toNat : Int).toNat.toUInt8 = -1 := rfl
      have CE := Lib.hid ne
      clear ne
      have nx : (((zs[1]'(by decide)).toNat : Int) != (x.toNat : Int)) = true := by
        rw [bne_iff_ne]
        have : (zs[1]'(by decide)).toNat = 47 := by decide
        omega
      have eb : ((0 : Int) < (rs.size : Int)) := by omega
      have CI := Lib.hid (fun (B : Nat) (W : World) (x1 : Ext B W) => ((Tryz.strings_IndexByte ByteArray.empty x.toNat x1.w).mono (fun e v h => (⟨h.1, x1, h.2⟩ : e = .returned (.int .i64 (-1)) ∧ ∃ z : Ext B W, v = z.w))))
      have hw2 : IntKind.i64.wrap 2 = 2 := by decide
      have hsl : ∀ w : World, (Instr.slice 9 (.string zs) (some (.int .i64 2)) none none).run Tryz.prog w = .ok (.string ByteArray.empty) w := fun w => by kernel_rfl
      go_step3
      go_wp2_with fail
      go_loopg [9] 0 (fun g x wx => g = 0 ∧ x = .int .i64 1 ∧ wx = w')
      case atStart => exact ⟨rfl, rfl, rfl⟩
      case round =>
        obtain ⟨rfl, rfl, rfl⟩ := hrel
        go_wp2_with fail
        go_step3
        go_wp2_with fail
        refine wp_region_bel wr.heap.size (by kernel_rfl) (by kernel_rfl) ?_
        repeat (go_big_quiet_step (fail))
        refine wpQuiet_nil ?_
        intro x1
        go_wp2_with fail
        refine wp_region_bel wr.heap.size (by kernel_rfl) (by kernel_rfl) ?_
        repeat (go_big_quiet_step ((go_at_call 127; exact CI.out _ _ _)))
        refine wpQuiet_nil ?_
        intro x2
        go_wp2_with fail
        rw [Exit.noGoto_ret]
        go_wp2_with fail
        rw [Exit.noGoto_ret]
        go_ret
        exact ⟨rfl, x1.b.trans x2.b⟩

/-- May a byte not stand in a name? -/
def badB (c : UInt8) : Bool := c == 0 || c == 47
def clean (l : List UInt8) (i : Nat) : Prop := (l.take i).any badB = false
theorem get_bang (s : ByteArray) (i : Nat) (h : i < s.size) : s.get! i = s[i]'h := by
  simp [ByteArray.get!, getElem!_pos, h]
  rfl
theorem badB_high {x : UInt8} (h : 128 ≤ x.toNat) : badB x = false := by
  unfold badB
  rw [Bool.or_eq_false_iff]
  refine ⟨beq_eq_false_iff_ne.2 fun e => ?_, beq_eq_false_iff_ne.2 fun e => ?_⟩ <;> subst e <;> simp at h
theorem clean_more {s : ByteArray} {i : Nat} (hc : clean s.data.toList i) : ∀ k, (∀ j, j < k → ∃ h : i + j < s.size, badB (s[i + j]'h) = false) → clean s.data.toList (i + k)
  | 0, _ => hc
  | k + 1, hk => by
    have ih := clean_more hc k fun j hj => hk j (by omega)
    obtain ⟨h, hb⟩ := hk k (by omega)
    unfold clean at ih ⊢
    rw [show i + (k + 1) = (i + k) + 1 by omega, List.take_add_one, List.any_append, ih]
    have : s.data.toList[i + k]? = some (s[i + k]'h) := Lib.data_getElem? s (i + k) h
    rw [this]
    simp [hb]
theorem clean_wide {s : ByteArray} {i : Nat} (hi : i < s.size) (hx : 128 ≤ (s[i]'hi).toNat) (hc : clean s.data.toList i) : clean s.data.toList (i + (Utf8.decode s i).2) ∧ i + (Utf8.decode s i).2 ≤ s.size := by
  have e0 := get_bang s i hi
  have hat : ∀ j, 1 ≤ j → ∀ k, k / 64 = 2 → j < s.size - i → (s.get! (i + j)).toNat = k → ∃ h : i + j < s.size, badB (s[i + j]'h) = false := fun j h1 k hk hj he => by
    have h : i + j < s.size := by omega
    refine ⟨h, badB_high ?_⟩
    rw [get_bang s (i + j) h] at he
    omega
  have z : ∃ h : i + 0 < s.size, badB (s[i + 0]'h) = false := ⟨hi, badB_high hx⟩
  rw [Lib.decode_at, e0]
  rcases Lib.decodeN_shape (s.size - i) (s[i]'hi).toNat (s.get! (i + 1)).toNat (s.get! (i + 2)).toNat (s.get! (i + 3)).toNat with ⟨h, _⟩ | ⟨_, h1, h2, _, e⟩ | ⟨_, h1, h2, h3, _, _, e⟩ | ⟨_, h1, h2, h3, h4, _, _, e⟩ | e
  · omega
  · rw [e]
    refine ⟨clean_more hc 2 fun j hj => ?_, by simp only; omega⟩
    have : j = 0 ∨ j = 1 := by omega
    rcases this with rfl | rfl
    · exact z
    · exact hat 1 (by omega) _ h2 h1 rfl
  · rw [e]
    refine ⟨clean_more hc 3 fun j hj => ?_, by simp only; omega⟩
    have : j = 0 ∨ j = 1 ∨ j = 2 := by omega
    rcases this with rfl | rfl | rfl
    · exact z
    · exact hat 1 (by omega) _ h2 (by omega) rfl
    · exact hat 2 (by omega) _ h3 (by omega) rfl
  · rw [e]
    refine ⟨clean_more hc 4 fun j hj => ?_, by simp only; omega⟩
    have : j = 0 ∨ j = 1 ∨ j = 2 ∨ j = 3 := by omega
    rcases this with rfl | rfl | rfl | rfl
    · exact z
    · exact hat 1 (by omega) _ h2 (by omega) rfl
    · exact hat 2 (by omega) _ h3 (by omega) rfl
    · exact hat 3 (by omega) _ h4 (by omega) rfl
  · rw [e]
    refine ⟨clean_more hc 1 fun j hj => ?_, by simp only; omega⟩
    have : j = 0 := by omega
    subst this
    exact z
theorem decode_top (s : ByteArray) (i : Nat) : (Utf8.decode s i).1 ≤ 2147483647 := decode_le s i
theorem dirty {s : ByteArray} {i : Nat} (hi : i < s.size) (hb : badB (s[i]'hi) = true) : s.data.toList.any badB = true := by
  rw [List.any_eq_true]
  exact ⟨s[i]'hi, List.mem_of_getElem? (Lib.data_getElem? s i hi), hb⟩
/-- Where it is, or below 0 that it is not. -/
def At_ (s : ByteArray) (r : Int) : Prop := decide (0 ≤ r) = s.data.toList.any badB
def SomeAt (s : ByteArray) (w : World) (e : Ending) (w' : World) : Prop := ∃ r : Int, At_ s r ∧ e = .returned (.int .i64 r) ∧ Below w.heap.size w w'
theorem zs_index (x : UInt8) : decide (0 ≤ Lib.indexByte zs.data.toList x) = badB x := by
  show decide (0 ≤ Lib.indexByte [0, 47] x) = badB x
  by_cases h0 : x = 0
  · subst h0; decide
  by_cases h1 : x = 47
  · subst h1; decide
  have e0 : ((0 : UInt8) == x) = false := beq_eq_false_iff_ne.2 fun e => h0 e.symm
  have e1 : ((47 : UInt8) == x) = false := beq_eq_false_iff_ne.2 fun e => h1 e.symm
  unfold badB
  rw [beq_eq_false_iff_ne.2 h0, beq_eq_false_iff_ne.2 h1]
  simp [Lib.indexByte, e0, e1]
set_option maxHeartbeats 4000000 in
set_option maxRecDepth 1000000 in
theorem indexAny_short (s : ByteArray) (w : World) (h8 : s.size ≤ 8) : Calls Tryz.prog 108 #[.string s, .string zs] w (SomeAt s w) := by
  have h8z : decide ((8 : Int) < (s.size : Int)) = false := decide_eq_false (by omega)
  have CU := Tryz.strings_shouldUseASCIISet (s.size : Int) w
  rw [h8z] at CU
  clear h8z
  go_enter Tryz.func108, Tryz.ntmps108
  go_wp2_with (go_at_call 122; refine CU.mono ?_; rintro e w' ⟨rfl, rfl⟩)
  go_loopg [9, 10] s.size (fun g _ _ wx => ∃ i : Nat, i ≤ s.size ∧ i + g = s.size ∧ wx.heap[w'.heap.size]? = some (.stringIter s i) ∧ Hid (Below w'.heap.size w' wx ∧ clean s.data.toList i))
  case atStart => exact ⟨0, by omega, by omega, World.iter_heap _ _ _, Lib.hid ⟨(Below.refl _ _).alloc (Nat.le_refl _) _, rfl⟩⟩
  case round =>
    obtain ⟨i, hle, hig, hit, HN⟩ := hrel
    by_cases hi : i < s.size
    · obtain ⟨x, hx⟩ : ∃ x : UInt8, s[i]'hi = x := ⟨_, rfl⟩
      by_cases h128 : x.toNat < 128
      · have hnx := fun ty => run_next_ascii_at (P := Tryz.prog) wr w'.heap.size s i ty hit hi (by rw [hx]; exact h128)
        rw [hx] at hnx
        have hzi := zs_index x
        have hback : ((x.toNat : Int)).toNat.toUInt8 = x := by simp
        have HW := Lib.hid (below_iterAt HN.out.1 (Nat.le_refl _) s (i + 1))
        have HI := Lib.hid (iterAt_heap wr w'.heap.size s i (i + 1) hit)
        have CR := Tryz.strings_IndexRune_ascii zs (x.toNat : Int) (wr.iterAt w'.heap.size s (i + 1)) (by omega) (by omega)
        rw [hback] at CR
        cases hb : badB x with
        | true =>
          rw [hb] at hzi
          have hge : (0 : Int) ≤ Lib.indexByte zs.data.toList x := of_decide_eq_true hzi
          have HD := Lib.hid (dirty hi (by rw [hx]; exact hb))
          clear hx hb hzi hback hit
          go_wp2_with (go_at_call 121; refine CR.mono ?_; rintro e w2 ⟨rfl, rfl⟩)
          go_ret
          exact ⟨i, by unfold At_; rw [HD.out]; simp, rfl, HW.out⟩
        | false =>
          rw [hb] at hzi
          have hlt : ¬ (0 : Int) ≤ Lib.indexByte zs.data.toList x := of_decide_eq_false hzi
          have HC := Lib.hid (clean_more HN.out.2 1 fun j hj => ⟨by omega, by obtain rfl : j = 0 := by omega
                                                                              show badB (s[i]'hi) = false
                                                                              rw [hx]; exact hb⟩)
          clear hx hb hzi hback hit
          go_wp2_with (go_at_call 121; refine CR.mono ?_; rintro e w2 ⟨rfl, rfl⟩)
          go_roundg (gk - 1)
          case measure => omega
          case rel => exact ⟨i + 1, by omega, by omega, HI.out, Lib.hid ⟨HW.out, HC.out⟩⟩
      · have hnx := fun ty => run_next_any_at (P := Tryz.prog) wr w'.heap.size s i ty hit hi
        have hh := decode_high s i hi (by rw [hx]; omega)
        have ht := decode_top s i
        have hcw := clean_wide hi (by rw [hx]; omega) HN.out.2
        have hw0 := fun q => below_iterAt HN.out.1 (Nat.le_refl _) s q
        have hi0 := fun q => iterAt_heap wr w'.heap.size s i q hit
        have hlt := (Array.getElem?_eq_some_iff.1 hit).1
        generalize Utf8.decode s i = d at hnx hh ht hcw
        obtain ⟨c, k⟩ := d
        simp only at hnx hh ht hcw
        have HC := Lib.hid hcw
        have HW := Lib.hid (hw0 (i + k))
        have HI := Lib.hid (hi0 (i + k))
        have HS := Lib.hid (iterAt_size wr w'.heap.size s (i + k))
        have CR : ∀ W : World, Calls Tryz.prog 121 #[.string zs, .int .i32 (c : Int)] W fun e w' => e = .returned (.int .i64 (-1)) ∧ Below W.heap.size W w' := fun W => by
          by_cases hc : (c : Int) = 65533
          · rw [hc]; exact indexRune_bad W
          · exact indexRune_wide c (by omega) (by omega) hc W
        have HL := Lib.hid hlt
        clear hx hcw hw0 hi0 hit hlt
        go_wp2_with (go_at_call 121; refine (CR _).mono ?_; rintro e w2 ⟨rfl, hb2⟩; have HB2 := Lib.hid hb2; clear hb2)
        go_roundg (gk - k)
        case measure => omega
        case rel =>
          have hsz := HS.out
          have hlt := HL.out
          exact ⟨i + k, HC.out.2, by have := HC.out.2; omega, (HB2.out.block _ (by rw [hsz]; exact hlt)).trans HI.out, Lib.hid ⟨HW.out.trans (HB2.out.mono HW.out.size), HC.out.1⟩⟩
    · obtain rfl : i = s.size := by omega
      have hnx := fun ty => run_next_end_at (P := Tryz.prog) wr w'.heap.size s s.size ty hit hi
      clear hit
      go_wp2_with fail
      go_ret
      exact ⟨-1, by
        have := HN.out.2
        unfold clean at this
        rw [List.take_of_length_le (by simp)] at this
        unfold At_
        rw [this]; rfl, rfl, HN.out.1⟩
theorem zs_any : ∀ l : List UInt8, decide (0 ≤ Lib.indexAny l zs.data.toList) = l.any badB
  | [] => rfl
  | b :: l => by
    have ih := zs_any l
    have hge := Lib.indexAny_ge zs.data.toList l
    have hc : zs.data.toList.contains b = badB b := by
      show ([0, 47] : List UInt8).contains b = badB b
      unfold badB
      simp only [List.contains, List.elem]
      cases b == 0 <;> cases b == 47 <;> rfl
    rw [Lib.indexAny, hc, List.any_cons]
    cases hb : badB b with
    | true => simp
    | false =>
      simp only [Bool.false_eq_true, if_false, Bool.false_or]
      rw [← ih]
      by_cases h : Lib.indexAny l zs.data.toList = -1
      · simp [h]
      · have e : (Lib.indexAny l zs.data.toList == -1) = false := beq_eq_false_iff_ne.2 h
        rw [e]
        by_cases h0 : 0 ≤ Lib.indexAny l zs.data.toList
        · rw [decide_eq_true h0, decide_eq_true]
          show 0 ≤ Lib.indexAny l zs.data.toList + 1
          omega
        · omega
theorem bools_zero (w : World) : (zeroValue 158).run Tryz.prog w = .ok (.agg (Array.replicate 256 (.bool false))) w := by kernel_rfl
theorem indexAny_any (s : ByteArray) (w : World) (hs : s.size ≤ 1000000) : Calls Tryz.prog 108 #[.string s, .string zs] w (SomeAt s w) := by
  by_cases h8 : s.size ≤ 8
  · exact indexAny_short s w h8
  · refine (Tryz.strings_IndexAny_long bools_zero s zs w (by decide) (by omega) (by omega) (by decide) (fun j b hj => by
      match j, hj with
      | 0, hj => simp at hj; subst hj; decide
      | 1, hj => simp at hj; subst hj; decide
      | j + 2, hj => simp at hj)).mono fun e w' ⟨he, hw⟩ => ⟨_, zs_any _, he, ?_⟩
    rw [hw]
    exact ((Below.refl _ _).alloc (Nat.le_refl _) _).alloc (by simp) _
theorem ret_bool {a b : Bool} (h : a = b) : Ending.returned (.bool a) = .returned (.bool b) := by rw [h]
theorem containsAny_any (s : ByteArray) (w : World) (hs : s.size ≤ 1000000) : Calls Tryz.prog 82 #[.string s, .string zs] w fun e w' => e = .returned (.bool (s.data.toList.any badB)) ∧ Below w.heap.size w w' := by
  have C := indexAny_any s w hs
  generalize hB : s.data.toList.any badB = b
  have HB := Lib.hid hB
  clear hB
  go_enter Tryz.func82, Tryz.ntmps82
  go_wp2_with (go_at_call 108; refine C.mono ?_; rintro e w' ⟨r, hr, rfl, hb⟩; have HR := Lib.hid hr; clear hr)
  go_ret
  exact ⟨ret_bool (by rw [← HB.out, ← HR.out]), hb⟩
set_option maxHeartbeats 1000000 in
theorem isName_any (s : ByteArray) (w : World) (hs : s.size ≤ maxLen) : Calls Tryz.prog 69 #[.string s] w fun e w' => e = .returned (.bool (In.isName s)) ∧ Below w.heap.size w w' := by
  unfold maxLen at hs
  obtain ⟨B, hB⟩ : ∃ B, In.isName s = B := ⟨_, rfl⟩
  rw [hB]
  have HB := Lib.hid hB
  clear hB
  by_cases h1 : s.size < 1
  · have e1 : decide ((1 : Int) ≤ (s.size : Int)) = false := decide_eq_false (by omega)
    have HF := Lib.hid (show B = false by rw [← HB.out]; simp [In.isName, show ¬ 1 ≤ s.size by omega])
    clear h1
    go_enter Tryz.func69, Tryz.ntmps69
    go_wp2_with fail
    go_ret
    exact ⟨ret_bool (by rw [HF.out]), Below.refl _ _⟩
  by_cases h32 : 32 < s.size
  · have e1 : decide ((1 : Int) ≤ (s.size : Int)) = true := decide_eq_true (by omega)
    have e2 : decide ((s.size : Int) ≤ (32 : Int)) = false := decide_eq_false (by omega)
    have HF := Lib.hid (show B = false by rw [← HB.out]; simp [In.isName, show ¬ s.size ≤ 32 by omega])
    clear h1
    go_enter Tryz.func69, Tryz.ntmps69
    go_wp2_with fail
    go_ret
    exact ⟨ret_bool (by rw [HF.out]), Below.refl _ _⟩
  have e1 : decide ((1 : Int) ≤ (s.size : Int)) = true := decide_eq_true (by omega)
  have e2 : decide ((s.size : Int) ≤ (32 : Int)) = true := decide_eq_true (by omega)
  have C := containsAny_any s w (by omega)
  have HN := Lib.hid (show B = (!(s.data.toList.any badB) && !(s.data.toList == [46]) && !(s.data.toList == [46, 46])) by
    rw [← HB.out]
    simp only [In.isName, show 1 ≤ s.size by omega, show s.size ≤ 32 by omega, decide_true, Bool.true_and]
    rfl)
  cases hb : s.data.toList.any badB with
  | true =>
    rw [hb] at C
    have HF := Lib.hid (show B = false by rw [HN.out, hb]; rfl)
    clear hb
    go_enter Tryz.func69, Tryz.ntmps69
    go_wp2_with (go_at_call 82; refine C.mono ?_; rintro e w' ⟨rfl, hb2⟩)
    go_ret
    exact ⟨ret_bool (by rw [HF.out]), hb2⟩
  | false =>
    rw [hb] at C
    have HF := Lib.hid (show B = (!(s.data.toList == [46]) && !(s.data.toList == [46, 46])) by rw [HN.out, hb]; rfl)
    clear hb
    go_enter Tryz.func69, Tryz.ntmps69
    go_wp2_with (go_at_call 82; refine C.mono ?_; rintro e w' ⟨rfl, hb2⟩)
    all_goals
      go_ret
      refine ⟨ret_bool ?_, hb2⟩
      rw [HF.out, ← ByteArray.toList_eq]
      try simp [*]
end Go.Proofs.YtcicjklhbnipcaaGreat
namespace Go.Proofs.YtcicjklhbnipcaaGreat
set_option linter.unusedVariables false
set_option linter.unusedSimpArgs false
open Go.RowKit Go.Maps

theorem getE_dec {t : TabD} {id : Int} {dir : Bool} : (In.getE t id dir = 0 ∧ ∃ n, In.find t.nodes id = some n ∧ n.dir = dir) ∨ In.getE t id dir ≠ 0 := by
  unfold In.getE
  cases h : In.find t.nodes id with
  | none => right; show (3 : Int) ≠ 0; decide
  | some n =>
    by_cases hd : n.dir = dir
    · left; subst hd; exact ⟨by simp, n, rfl, rfl⟩
    · right
      have : (n.dir == dir) = false := beq_eq_false_iff_ne.2 hd
      simp [this]
theorem at_find {t : TabD} {id : Int} {n : NodeD} (h : In.find t.nodes id = some n) : In.at_ t id = n := by unfold In.at_; rw [h]
section
variable {t : TabD} {id : Int} {n : NodeD} (h : In.find t.nodes id = some n)
include h
theorem nameIn_eq (s : ByteArray) (k : Int) : In.nameIn t id s k = In.setN t { n with names := In.with_ n.names s k } := by unfold In.nameIn; rw [at_find h]; rfl
theorem nameOut_eq (s : ByteArray) : In.nameOut t id s = In.setN t { n with names := In.without n.names s } := by unfold In.nameOut; rw [at_find h]; rfl
theorem linksUp_eq : In.linksUp t id = In.setN t { n with links := n.links + 1 } := by unfold In.linksUp; rw [at_find h]; rfl
theorem linksDown_eq : In.linksDown t id = In.setN t { n with links := n.links - 1 } := by unfold In.linksDown; rw [at_find h]; rfl
theorem holdsUp_eq : In.holdsUp t id = In.setN t { n with holds := n.holds + 1 } := by unfold In.holdsUp; rw [at_find h]; rfl
theorem holdsDown_eq : In.holdsDown t id = In.setN t { n with holds := n.holds - 1 } := by unfold In.holdsDown; rw [at_find h]; rfl
theorem dataOf_eq (v : ByteArray) : In.dataOf t id v = In.setN t { n with data := v } := by unfold In.dataOf; rw [at_find h]; rfl
end
theorem beq0_false {x : Int} (h : x ≠ 0) : (x == 0) = false := beq_eq_false_iff_ne.2 h
theorem bne0_true {x : Int} (h : x ≠ 0) : (x != 0) = true := bne_iff_ne.2 h
theorem node_cells {w : World} {b m : Nat} {n : NodeD} (h : NodeAt w b m n) : w.cell? ⟨b, 0, none⟩ = some (.bool n.dir) ∧ w.cell? ⟨b, 1, none⟩ = some (.int .i64 n.links) ∧ w.cell? ⟨b, 2, none⟩ = some (.int .i64 n.holds) ∧ w.cell? ⟨b, 3, none⟩ = some (.string n.data) ∧ w.cell? ⟨b, 4, none⟩ = some (.map (some m)) :=
  ⟨cell_row h.row 0, cell_row h.row 1, cell_row h.row 2, cell_row h.row 3, cell_row h.row 4⟩
theorem tbl_cells {w : World} {g mb : Nat} {β : Int → Nat × Nat} {t : TabD} (h : TblAt w g mb β t) : w.cell? ⟨g, 0, none⟩ = some (.int .i64 t.quota) ∧ w.cell? ⟨g, 1, none⟩ = some (.int .i64 t.used) ∧ w.cell? ⟨g, 2, none⟩ = some (.int .i64 t.last) ∧ w.cell? ⟨g, 3, none⟩ = some (.map (some mb)) :=
  ⟨cell_row h.row 0, cell_row h.row 1, cell_row h.row 2, cell_row h.row 3⟩
section
variable {w : World} {g mb : Nat} {β : Int → Nat × Nat} {t : TabD}
theorem place_yes (h : TblAt w g mb β t) (hq : 0 < t.quota) {dir : Int} (hid : Fits dir) {s : ByteArray} (hs : s.size ≤ maxLen) {n : NodeD} (hn : In.find t.nodes dir = some n) (hd : n.dir = true) (hN : In.isName s = true) :
    Calls Tryz.prog 51 #[.pointer (some ⟨g, 0, none⟩), .int .i64 dir, .string s] w fun e w' => e = .returned (.tuple #[.pointer (some ⟨(β dir).1, 0, none⟩), .int .i64 0]) ∧ Below w.heap.size w w' := by
  have cg := get_yes h hq hid hn hd
  have cn := isName_any s w hs
  rw [hN] at cn
  clear h hq hn hd hN
  go_enter Tryz.func51, Tryz.ntmps51
  go_wp2_with (first | (go_at_call 48; refine cg.mono ?_; rintro e w' ⟨rfl, rfl⟩) | (go_at_call 69; refine cn.mono ?_; rintro e w' ⟨rfl, hb⟩))
  go_ret2
  exact ⟨rfl, hb⟩
theorem place_no (h : TblAt w g mb β t) (hq : 0 < t.quota) {dir : Int} (hid : Fits dir) {s : ByteArray} (hs : s.size ≤ maxLen) {E : Int} (hE : In.placeE t dir s = E) (h0 : E ≠ 0) :
    Calls Tryz.prog 51 #[.pointer (some ⟨g, 0, none⟩), .int .i64 dir, .string s] w fun e w' => e = .returned (.tuple #[.pointer none, .int .i64 E]) ∧ Below w.heap.size w w' := by
  unfold In.placeE at hE
  rcases getE_dec (t := t) (id := dir) (dir := true) with ⟨h1, n, hn, hd⟩ | h1
  · have cg := get_yes h hq hid hn hd
    have cn := isName_any s w hs
    cases hN : In.isName s with
    | true => rw [h1, hN] at hE; exact absurd hE.symm h0
    | false =>
      rw [h1, hN] at hE
      have hE : 1 = E := hE
      subst hE
      rw [hN] at cn
      clear h hq hn hd hN h1
      go_enter Tryz.func51, Tryz.ntmps51
      go_wp2_with (first | (go_at_call 48; refine cg.mono ?_; rintro e w' ⟨rfl, rfl⟩) | (go_at_call 69; refine cn.mono ?_; rintro e w' ⟨rfl, hb⟩))
      go_ret2
      exact ⟨rfl, hb⟩
  · rw [beq0_false h1] at hE
    have hE : In.getE t dir true = E := hE
    have cg := get_no h hq hid hE h0
    have e0 := beq0_false h0
    clear h hq h1 hE h0
    go_enter Tryz.func51, Tryz.ntmps51
    go_wp2_with (go_at_call 48; refine cg.mono ?_; rintro e w' ⟨rfl, rfl⟩)
    go_ret2
    exact ⟨rfl, Below.refl _ _⟩
theorem placeE_dec {dir : Int} {s : ByteArray} : (In.placeE t dir s = 0 ∧ ∃ n, In.find t.nodes dir = some n ∧ n.dir = true ∧ In.isName s = true) ∨ In.placeE t dir s ≠ 0 := by
  unfold In.placeE
  rcases getE_dec (t := t) (id := dir) (dir := true) with ⟨h1, n, hn, hd⟩ | h1
  · rw [h1]
    cases hN : In.isName s with
    | true => exact .inl ⟨rfl, n, hn, hd, rfl⟩
    | false => right; decide
  · rw [beq0_false h1]; exact .inr h1
theorem empty_yes (h : TblAt w g mb β t) (hq : 0 < t.quota) {dir : Int} (hid : Fits dir) {s : ByteArray} (hs : s.size ≤ maxLen) {n : NodeD} (hn : In.find t.nodes dir = some n) (hd : n.dir = true) (hN : In.isName s = true) (hl : In.leads n.names s = 0) :
    Calls Tryz.prog 45 #[.pointer (some ⟨g, 0, none⟩), .int .i64 dir, .string s] w fun e w' => e = .returned (.tuple #[.pointer (some ⟨(β dir).1, 0, none⟩), .int .i64 0]) ∧ Below w.heap.size w w' := by
  have cp := place_yes h hq hid hs hn hd hN
  have HT := Lib.hid h
  have HN := Lib.hid hn
  have HL := Lib.hid hl
  clear h hq hn hd hN hl
  go_enter Tryz.func45, Tryz.ntmps45
  go_wp2_with (go_at_call 51; refine cp.mono ?_; rintro e w' ⟨rfl, hb⟩; have HB := Lib.hid hb; have hA := (HT.out.below hb).at HN.out; have d4 := (node_cells hA).2.2.2.2; have ll := look_name hA.names hs; rw [HL.out] at ll; clear hb hA)
  go_ret2
  exact ⟨rfl, HB.out⟩
theorem emptyE_dec {dir : Int} {s : ByteArray} : (In.emptyE t dir s = 0 ∧ ∃ n, In.find t.nodes dir = some n ∧ n.dir = true ∧ In.isName s = true ∧ In.leads n.names s = 0) ∨ In.emptyE t dir s ≠ 0 := by
  unfold In.emptyE
  rcases placeE_dec (t := t) (dir := dir) (s := s) with ⟨h1, n, hn, hd, hN⟩ | h1
  · rw [h1, at_find hn]
    by_cases hl : In.leads n.names s = 0
    · rw [hl]; exact .inl ⟨rfl, n, hn, hd, hN, hl⟩
    · rw [beq0_false hl]; right; decide
  · rw [beq0_false h1]; exact .inr h1
theorem empty_no (h : TblAt w g mb β t) (hq : 0 < t.quota) {dir : Int} (hid : Fits dir) {s : ByteArray} (hs : s.size ≤ maxLen) {E : Int} (hE : In.emptyE t dir s = E) (h0 : E ≠ 0) :
    Calls Tryz.prog 45 #[.pointer (some ⟨g, 0, none⟩), .int .i64 dir, .string s] w fun e w' => e = .returned (.tuple #[.pointer none, .int .i64 E]) ∧ Below w.heap.size w w' := by
  unfold In.emptyE at hE
  rcases placeE_dec (t := t) (dir := dir) (s := s) with ⟨h1, n, hn, hd, hN⟩ | h1
  · have cp := place_yes h hq hid hs hn hd hN
    rw [h1, at_find hn] at hE
    by_cases hl : In.leads n.names s = 0
    · rw [hl] at hE; exact absurd hE.symm h0
    · rw [beq0_false hl] at hE
      have hE : 4 = E := hE
      subst hE
      have HT := Lib.hid h
      have HN := Lib.hid hn
      have HL := Lib.hid hl
      have e1 := bne0_true hl
      clear h hq hn hd hN hl h1
      go_enter Tryz.func45, Tryz.ntmps45
      go_wp2_with (go_at_call 51; refine cp.mono ?_; rintro e w' ⟨rfl, hb⟩; have HB := Lib.hid hb; have hA := (HT.out.below hb).at HN.out; have d4 := (node_cells hA).2.2.2.2; have ll := look_name hA.names hs; clear hb hA)
      go_ret2
      exact ⟨rfl, HB.out⟩
  · rw [beq0_false h1] at hE
    have hE : In.placeE t dir s = E := hE
    have cp := place_no h hq hid hs hE h0
    have e0 := bne0_true h0
    clear h hq h1 hE h0
    go_enter Tryz.func45, Tryz.ntmps45
    go_wp2_with (go_at_call 51; refine cp.mono ?_; rintro e w' ⟨rfl, hb⟩)
    go_ret2
    exact ⟨rfl, hb⟩
theorem findE_dec {dir : Int} {s : ByteArray} : (In.findE t dir s = 0 ∧ ∃ n, In.find t.nodes dir = some n ∧ n.dir = true ∧ In.isName s = true ∧ In.leads n.names s ≠ 0 ∧ In.findN t dir s = In.leads n.names s) ∨ (In.findE t dir s ≠ 0 ∧ In.findN t dir s = 0) := by
  have key : In.findE t dir s = 0 → In.findN t dir s = In.leads (In.at_ t dir).names s := fun h => by unfold In.findN; rw [h]; rfl
  have key2 : In.findE t dir s ≠ 0 → In.findN t dir s = 0 := fun h => by unfold In.findN; rw [beq0_false h]; rfl
  by_cases h0 : In.findE t dir s = 0
  · left
    refine ⟨h0, ?_⟩
    have hk := key h0
    unfold In.findE at h0
    rcases placeE_dec (t := t) (dir := dir) (s := s) with ⟨h1, n, hn, hd, hN⟩ | h1
    · rw [h1, at_find hn] at h0
      rw [at_find hn] at hk
      refine ⟨n, hn, hd, hN, fun hl => ?_, hk⟩
      rw [hl] at h0
      exact absurd h0 (by decide)
    · rw [beq0_false h1] at h0; exact absurd h0 h1
  · exact .inr ⟨h0, key2 h0⟩
theorem Find_any (h : TblAt w g mb β t) (hq : 0 < t.quota) {dir : Int} (hid : Fits dir) {s : ByteArray} (hs : s.size ≤ maxLen) :
    Calls Tryz.prog 23 #[.pointer (some ⟨g, 0, none⟩), .int .i64 dir, .string s] w fun e w' => e = .returned (.tuple #[.int .i64 (In.findN t dir s), .int .i64 (In.findE t dir s)]) ∧ Below w.heap.size w w' := by
  obtain ⟨E, hE⟩ : ∃ E, In.findE t dir s = E := ⟨_, rfl⟩
  obtain ⟨N, hNN⟩ : ∃ N, In.findN t dir s = N := ⟨_, rfl⟩
  have hdec := findE_dec (t := t) (dir := dir) (s := s)
  rw [hE, hNN] at hdec ⊢
  unfold In.findE at hE
  rcases placeE_dec (t := t) (dir := dir) (s := s) with ⟨h1, n, hn, hd, hN⟩ | h1
  · have cp := place_yes h hq hid hs hn hd hN
    rw [h1, at_find hn] at hE
    have HT := Lib.hid h
    have HN := Lib.hid hn
    by_cases hl : In.leads n.names s = 0
    · rw [hl] at hE
      have hE : 3 = E := hE
      subst hE
      have hz : N = 0 := by rcases hdec with ⟨h, _⟩ | ⟨_, h⟩; exact absurd h (by decide); exact h
      subst hz
      have HL := Lib.hid hl
      clear h hq hn hd hN hl h1 hdec hNN
      go_enter Tryz.func23, Tryz.ntmps23
      go_wp2_with (go_at_call 51; refine cp.mono ?_; rintro e w' ⟨rfl, hb⟩; have HB := Lib.hid hb; have hA := (HT.out.below hb).at HN.out; have d4 := (node_cells hA).2.2.2.2; have ll := look_name hA.names hs; rw [HL.out] at ll; clear hb hA)
      go_ret2
      exact ⟨rfl, HB.out⟩
    · rw [beq0_false hl] at hE
      have hE : 0 = E := hE
      subst hE
      have hz : In.leads n.names s = N := by
        rcases hdec with ⟨_, m, hm, _, _, _, h⟩ | ⟨h, _⟩
        · rw [hn] at hm; cases hm; exact h.symm
        · exact absurd rfl h
      rw [hz] at hl
      have HL := Lib.hid hz
      have e1 := beq0_false hl
      clear h hq hn hd hN hl h1 hdec hNN hz
      go_enter Tryz.func23, Tryz.ntmps23
      go_wp2_with (go_at_call 51; refine cp.mono ?_; rintro e w' ⟨rfl, hb⟩; have HB := Lib.hid hb; have hA := (HT.out.below hb).at HN.out; have d4 := (node_cells hA).2.2.2.2; have ll := look_name hA.names hs; rw [HL.out] at ll; clear hb hA)
      go_ret2
      exact ⟨rfl, HB.out⟩
  · rw [beq0_false h1] at hE
    have hE : In.placeE t dir s = E := hE
    have h0 : E ≠ 0 := by rw [← hE]; exact h1
    have cp := place_no h hq hid hs hE h0
    have hz : N = 0 := by rcases hdec with ⟨h, _⟩ | ⟨_, h⟩; exact absurd h h0; exact h
    subst hz
    have e0 := bne0_true h0
    clear h hq h1 hE h0 hdec hNN
    go_enter Tryz.func23, Tryz.ntmps23
    go_wp2_with (go_at_call 51; refine cp.mono ?_; rintro e w' ⟨rfl, hb⟩)
    go_ret2
    exact ⟨rfl, hb⟩
theorem file_yes (h : TblAt w g mb β t) (hq : 0 < t.quota) {id k : Int} (hid : Fits id) {n : NodeD} (hn : In.find t.nodes id = some n) (hd : n.dir = false) (hk : decide (k < 0) = false) :
    Calls Tryz.prog 46 #[.pointer (some ⟨g, 0, none⟩), .int .i64 id, .int .i64 k] w fun e w' => e = .returned (.tuple #[.pointer (some ⟨(β id).1, 0, none⟩), .int .i64 0]) ∧ w = w' := by
  have cg := get_yes h hq hid hn hd
  clear h hq hn hd
  go_enter Tryz.func46, Tryz.ntmps46
  go_wp2_with (go_at_call 48; refine cg.mono ?_; rintro e w' ⟨rfl, rfl⟩)
  go_ret2
  exact ⟨rfl, rfl⟩
theorem fileE_dec {id k : Int} : (In.fileE t id k = 0 ∧ ∃ n, In.find t.nodes id = some n ∧ n.dir = false ∧ decide (k < 0) = false) ∨ In.fileE t id k ≠ 0 := by
  unfold In.fileE
  rcases getE_dec (t := t) (id := id) (dir := false) with ⟨h1, n, hn, hd⟩ | h1
  · rw [h1]
    cases hk : decide (k < 0) with
    | false => exact .inl ⟨rfl, n, hn, hd, rfl⟩
    | true => right; decide
  · rw [beq0_false h1]; exact .inr h1
theorem file_no (h : TblAt w g mb β t) (hq : 0 < t.quota) {id k : Int} (hid : Fits id) {E : Int} (hE : In.fileE t id k = E) (h0 : E ≠ 0) :
    Calls Tryz.prog 46 #[.pointer (some ⟨g, 0, none⟩), .int .i64 id, .int .i64 k] w fun e w' => e = .returned (.tuple #[.pointer none, .int .i64 E]) ∧ w = w' := by
  unfold In.fileE at hE
  rcases getE_dec (t := t) (id := id) (dir := false) with ⟨h1, n, hn, hd⟩ | h1
  · have cg := get_yes h hq hid hn hd
    rw [h1] at hE
    cases hk : decide (k < 0) with
    | false => rw [hk] at hE; exact absurd hE.symm h0
    | true =>
      rw [hk] at hE
      have hE : 1 = E := hE
      subst hE
      clear h hq hn hd h1
      go_enter Tryz.func46, Tryz.ntmps46
      go_wp2_with (go_at_call 48; refine cg.mono ?_; rintro e w' ⟨rfl, rfl⟩)
      go_ret2
      exact ⟨rfl, rfl⟩
  · rw [beq0_false h1] at hE
    have hE : In.getE t id false = E := hE
    have cg := get_no h hq hid hE h0
    have e0 := beq0_false h0
    clear h hq h1 hE h0
    go_enter Tryz.func46, Tryz.ntmps46
    go_wp2_with (go_at_call 48; refine cg.mono ?_; rintro e w' ⟨rfl, rfl⟩)
    go_ret2
    exact ⟨rfl, rfl⟩
end
end Go.Proofs.YtcicjklhbnipcaaGreat
namespace Go.Proofs.YtcicjklhbnipcaaGreat
set_option linter.unusedVariables false
set_option linter.unusedSimpArgs false
open Go.RowKit Go.Maps

/-- A table has gone on; its inodes lie where they lay. -/
structure Step (w w' : World) (g mb : Nat) (β : Int → Nat × Nat) (t t' : TabD) : Prop where
  tbl : TblAt w' g mb β t'
  only : Only (foot g mb β t.nodes) w w'
  foot : ∀ k ∈ foot g mb β t'.nodes, k ∈ foot g mb β t.nodes
theorem Step.trans {a b c : World} {g mb : Nat} {β : Int → Nat × Nat} {t t1 t2 : TabD} (h : Step a b g mb β t t1) (k : Step b c g mb β t1 t2) : Step a c g mb β t t2 :=
  ⟨k.tbl, h.only.trans (k.only.mono h.foot), fun x hx => h.foot x (k.foot x hx)⟩
theorem wpList_delete_at {P : Program} (w : World) {ops : Array Oper} {rest : List Oper} {o : Oper} {a : Act} {Q : Exit → Act → World → Prop} (hg : o.guard = none) (m x : Operand) (t k : TypeId) (hop : o.op = Op.call { callee := Callee.builtin Builtin.delete, args := #[m, x], argTypes := #[t, k] })
    (e : TypeId) (K : Keyed P k) (ht : P.underlying t = some (.map k e)) (b : Nat) (l : List (Lit × Value)) (hm : a.eval m = .map (some b)) (h : MapAt P k w b l) (key : Value) (kl : Lit) (hx : a.eval x = key) (hkey : keyOf P k key = some kl)
    (hK : ∀ w', MapAt P k w' b (delL kl l) → w.mapTurned w' b → wpList P ops Q rest (a.put o.dst (.tuple #[])) w') : wpList P ops Q (o :: rest) a w := by
  refine wpList_delete_own w hg m x t k hop e K ht anyElem b l.length (heldD l) hm h key kl hx hkey ?_
  intro w' h1 h2
  rw [del_held] at h1
  exact hK w' (MapAt.of h1) h2
theorem wpList_store_at {P : Program} (w : World) {ops : Array Oper} {rest : List Oper} {o : Oper} {a : Act} {Q : Exit → Act → World → Prop} (hg : o.guard = none) (m x v : Operand) (t : TypeId) (hop : o.op = Op.mapUpdate t m x v)
    (k e : TypeId) (K : Keyed P k) (ht : P.underlying t = some (.map k e)) (b : Nat) (l : List (Lit × Value)) (hm : a.eval m = .map (some b)) (h : MapAt P k w b l) (hn : l.length < maxLen) (key val : Value) (kl : Lit) (hx : a.eval x = key) (hv : a.eval v = val) (hkey : keyOf P k key = some kl)
    (hK : ∀ w', MapAt P k w' b (putL kl val l) → w.mapTurned w' b → wpList P ops Q rest (a.put o.dst undef) w') : wpList P ops Q (o :: rest) a w := by
  refine wpList_plain hg fun K' hK' => ?_
  obtain ⟨w', hrun, r1, r2⟩ := MapAt.store h K ht hn (val := val) hkey
  unfold Oper.wp
  simp [execOp, hop, hm, hx, hv, hrun, Result.andThen]
  exact hK' _ _ (hK w' r1 r2)

section
variable {w : World} {g mb : Nat} {β : Int → Nat × Nat} {t : TabD}
set_option maxHeartbeats 1000000 in
set_option maxRecDepth 100000 in
theorem gone_any (h : TblAt w g mb β t) {id : Int} (hid : Fits id) {n : NodeD} (hn : In.find t.nodes id = some n) (hs : n.data.size ≤ 1048576) (hu0 : 0 ≤ t.used) (hu : t.used ≤ 1099511627776) :
    Calls Tryz.prog 52 #[.pointer (some ⟨g, 0, none⟩), .int .i64 id] w fun e w' => e = .returned (.tuple #[]) ∧ Step w w' g mb β t (In.gone t id) := by
  have hl := look_at h hid
  rw [ptr_some hn] at hl
  obtain ⟨c0, c1, c2, c3⟩ := tbl_cells h
  obtain ⟨d0, d1, d2, d3, d4⟩ := node_cells (h.at hn)
  have HG := Lib.hid (show In.gone t id = if n.links == 0 && n.holds == 0 then { t with used := t.used - (64 + n.data.size), nodes := In.del t.nodes id } else t by unfold In.gone; rw [at_find hn])
  have HT := Lib.hid h
  cases e1 : n.links == 0 with
  | false =>
    have HF := Lib.hid (show In.gone t id = t by rw [HG.out, e1]; rfl)
    clear h hn HG
    go_enter Tryz.func52, Tryz.ntmps52
    go_wp2_with fail
    go_end0
    exact ⟨rfl, by rw [HF.out]; exact ⟨HT.out, Only.refl _ _, fun _ h => h⟩⟩
  | true =>
    cases e2 : n.holds == 0 with
    | false =>
      have HF := Lib.hid (show In.gone t id = t by rw [HG.out, e1, e2]; rfl)
      clear h hn HG
      go_enter Tryz.func52, Tryz.ntmps52
      go_wp2_with fail
      go_end0
      exact ⟨rfl, by rw [HF.out]; exact ⟨HT.out, Only.refl _ _, fun _ h => h⟩⟩
    | true =>
      have HF := Lib.hid (show In.gone t id = { t with used := t.used - (64 + n.data.size), nodes := In.del t.nodes id } by rw [HG.out, e1, e2]; rfl)
      have f1 := free_row h.row 1
      have HU := Lib.hid (h.set_used (t.used - (64 + n.data.size)))
      have HM := Lib.hid HU.out.map
      clear h hn HG
      go_enter Tryz.func52, Tryz.ntmps52
      go_wp2_with fail
      go_region
      go_wp2_with (at_delete; refine wpList_delete_at _ rfl _ _ 54 3 rfl 57 key_int Tryz.underlying54 mb _ rfl HM.out _ _ rfl (keyOf_int_mk Tryz.underlying3 hid) ?_; intro w2 hm2 ht2; have HM2 := Lib.hid hm2; have HT2 := Lib.hid ht2; clear hm2 ht2)
      go_end0
      refine ⟨rfl, ?_⟩
      rw [HF.out]
      exact ⟨(HU.out.on (w' := (w.setCell ⟨g, 1, none⟩ (.int .i64 (t.used - (64 + n.data.size)))).drew) (fun _ _ => rfl)).del_upd (fun k _ hk => turned_other HT2.out hk) HM2.out,
        (((Only.refl _ w).setCell (.inl (mem_foot.2 (.inl rfl))) _).drew).turned HT2.out (.inl (mem_foot.2 (.inr (.inl rfl)))),
        fun k hk => (foot_del_sub _ _ _ _ _).subset hk⟩
theorem isSome_of {l : List NodeD} {id : Int} {n : NodeD} (h : In.find l id = some n) : (In.find l id).isSome = true := by rw [h]; rfl
/-- An inode turned: what is found. -/
theorem find_upd {t : TabD} {id' : Int} {n o : NodeD} (ho : In.find t.nodes id' = some o) (hi : n.id = id') (id : Int) : In.find (In.setN t n).nodes id = if id = id' then some n else In.find t.nodes id := by
  subst hi; exact find_setN (isSome_of ho)
theorem find_self {t : TabD} {id : Int} {n o : NodeD} (ho : In.find t.nodes id = some o) (hi : n.id = id) : In.find (In.setN t n).nodes id = some n := by rw [find_upd ho hi, if_pos rfl]
set_option maxHeartbeats 1000000 in
set_option maxRecDepth 100000 in
theorem loses_any (h : TblAt w g mb β t) {dir : Int} {s : ByteArray} (hs : s.size ≤ maxLen) {d : NodeD} (hd : In.find t.nodes dir = some d) {id : Int} (hid : Fits id) (hl : In.leads d.names s = id) {t1 : TabD} (ht1 : In.setN t { d with names := In.without d.names s } = t1)
    {n : NodeD} (hn : In.find t1.nodes id = some n) (hsz : n.data.size ≤ 1048576) (hu0 : 0 ≤ t.used) (hu : t.used ≤ 1099511627776) (hl0 : 0 ≤ n.links) (hl1 : n.links ≤ 4611686018427387904) :
    Calls Tryz.prog 49 #[.pointer (some ⟨g, 0, none⟩), .pointer (some ⟨(β dir).1, 0, none⟩), .string s] w fun e w' => e = .returned (.tuple #[]) ∧ Step w w' g mb β t (In.gone (In.setN t1 { n with links := n.links - 1 }) id) := by
  have hA := h.at hd
  obtain ⟨-, -, -, -, d4⟩ := node_cells hA
  have ll := look_name hA.names hs
  rw [hl] at ll
  have HNm := Lib.hid hA.names
  have hdi := (find_mem hd).2
  have hni := (find_mem hn).2
  have HT := Lib.hid h
  have T1 : ∀ w1 : World, NamesAt w1 (β dir).2 (In.without d.names s) → w.mapTurned w1 (β dir).2 → TblAt w1 g mb β t1 := fun w1 h1 h2 => by
    rw [← ht1]
    exact h.set_names hd h1 h2
  have hft : foot g mb β t1.nodes = foot g mb β t.nodes := by rw [← ht1]; exact foot_set _ _ _ _ _
  have hu1 : t1.used = t.used := by rw [← ht1]; rfl
  have HF := Lib.hid hft
  have HM : (β dir).2 ∈ foot g mb β t.nodes := mem_foot.2 (.inr (.inr ⟨d, (find_mem hd).1, .inr (by rw [hdi])⟩))
  have G := Lib.hid (fun (w1 : World) (T : TblAt w1 g mb β t1) => gone_any (T.set_links hn (n.links - 1)) hid (n := { n with links := n.links - 1 }) (find_self (n := { n with links := n.links - 1 }) hn hni) hsz (show 0 ≤ t1.used by omega) (show t1.used ≤ 1099511627776 by omega))
  have HLk := Lib.hid (fun (w1 : World) (T : TblAt w1 g mb β t1) => T.set_links hn (n.links - 1))
  have HM1 : (β id).1 ∈ foot g mb β t1.nodes := mem_foot.2 (.inr (.inr ⟨n, (find_mem hn).1, .inl (by rw [hni])⟩))
  have HT1 := Lib.hid T1
  have HN := Lib.hid hn
  have HI := Lib.hid hni
  clear h hA hl hd hdi hni T1 hft hn ht1 hu1
  go_enter Tryz.func49, Tryz.ntmps49
  go_wp2_with (first
    | (at_delete; refine wpList_delete_at _ rfl _ _ 58 9 rfl 3 key_str Tryz.underlying58 (β dir).2 _ rfl HNm.out _ _ rfl (WideMaps.keyOf_string_mk Tryz.underlying9 hs) ?_; intro w1 hm1 ht1; rw [del_names] at hm1; have T := HT1.out w1 hm1 ht1; have c3 := (tbl_cells T).2.2.2; have hl1' := look_at T hid; rw [ptr_some HN.out] at hl1'; have dl := (node_cells (T.at HN.out)).2.1; have fl := free_row (T.at HN.out).row 1; have HTT := Lib.hid T; have HW := Lib.hid ht1; clear hm1 ht1 T ll d4)
    | (go_at_call 52; refine (G.out _ HTT.out).mono ?_; rintro e w3 ⟨rfl, hs3⟩; have HS3 := Lib.hid hs3; clear hs3))
  go_end0
  refine ⟨rfl, ?_⟩
  have T := HTT.out
  have S3 := HS3.out
  have hf2 : foot g mb β (In.setN t1 { n with links := n.links - 1 }).nodes = foot g mb β t.nodes := (foot_set _ _ _ _ _).trans HF.out
  rw [HF.out] at HM1
  exact ⟨S3.tbl, (((Only.refl _ w).turned HW.out (.inl HM)).setCell (.inl HM1) _).trans (S3.only.mono (fun x hx => by rw [hf2] at hx; exact hx)), fun k hk => by have := S3.foot k hk; rw [hf2] at this; exact this⟩
end
end Go.Proofs.YtcicjklhbnipcaaGreat
namespace Go.Proofs.YtcicjklhbnipcaaGreat
set_option linter.unusedVariables false
set_option linter.unusedSimpArgs false
open Go.RowKit Go.Maps

section
variable {w : World} {g mb : Nat} {β : Int → Nat × Nat} {t : TabD}
theorem Step.refl (h : TblAt w g mb β t) : Step w w g mb β t t := ⟨h, Only.refl _ _, fun _ h => h⟩
theorem Step.below {w' : World} (h : TblAt w g mb β t) (hb : Below w.heap.size w w') : Step w w' g mb β t t := ⟨h.below hb, Only.of_below hb, fun _ h => h⟩
/-- An answer that is an error's number, and the table behind. -/
def RStep (w : World) (g mb : Nat) (β : Int → Nat × Nat) (t : TabD) (r : Int × TabD) (e : Ending) (w' : World) : Prop := e = .returned (.int .i64 r.1) ∧ Step w w' g mb β t r.2
theorem names_len {d : NodeD} : (namesL d.names).length = d.names.length := by simp [namesL]
set_option maxHeartbeats 1000000 in
set_option maxRecDepth 100000 in
theorem Link_any (h : TblAt w g mb β t) (hq : 0 < t.quota) {id dir : Int} (hid : Fits id) (hdir : Fits dir) {s : ByteArray} (hs : s.size ≤ maxLen)
    (hlk : ∀ n ∈ t.nodes, 0 ≤ n.links ∧ n.links ≤ 4611686018427387904 ∧ n.names.length ≤ 4611686018427387904) :
    Calls Tryz.prog 17 #[.pointer (some ⟨g, 0, none⟩), .int .i64 id, .int .i64 dir, .string s] w (RStep w g mb β t (In.link t id dir s)) := by
  obtain ⟨E, hE⟩ : ∃ E, In.linkE t id dir s = E := ⟨_, rfl⟩
  have hR : In.link t id dir s = if E == 0 then (0, In.linkT t id dir s) else (E, t) := by unfold In.link; rw [hE]
  obtain ⟨R, hRR⟩ : ∃ R, In.link t id dir s = R := ⟨_, rfl⟩
  rw [hRR] at hR ⊢
  have HRR := Lib.hid hR
  clear hR hRR
  unfold In.linkE at hE
  have HT := Lib.hid h
  rcases getE_dec (t := t) (id := id) (dir := false) with ⟨h1, n, hn, hd⟩ | h1
  · have cg := get_yes h hq hid hn hd
    rw [h1] at hE
    have hE : In.emptyE t dir s = E := hE
    rcases emptyE_dec (t := t) (dir := dir) (s := s) with ⟨h2, d, hd2, hdd, hN, hl⟩ | h2
    · have ce := empty_yes h hq hdir hs hd2 hdd hN hl
      rw [h2] at hE
      subst hE
      obtain ⟨l0, l1, -⟩ := hlk n (find_mem hn).1
      obtain ⟨-, -, l2⟩ := hlk d (find_mem hd2).1
      have hne : id ≠ dir := fun e => by subst e; rw [hn] at hd2; cases hd2; rw [hd] at hdd; cases hdd
      obtain ⟨t1, ht1⟩ : ∃ t1, In.setN t { d with names := In.with_ d.names s id } = t1 := ⟨_, rfl⟩
      have hn1 : In.find t1.nodes id = some n := by rw [← ht1, find_upd (n := { d with names := In.with_ d.names s id }) hd2 (find_mem hd2).2, if_neg hne]; exact hn
      have T1 := Lib.hid (fun (W w1 : World) (T : TblAt W g mb β t) (h1 : NamesAt w1 (β dir).2 (In.with_ d.names s id)) (h2 : W.mapTurned w1 (β dir).2) => (ht1 ▸ T.set_names hd2 h1 h2 : TblAt w1 g mb β t1))
      have HF := Lib.hid (show foot g mb β t1.nodes = foot g mb β t.nodes by rw [← ht1]; exact foot_set _ _ _ _ _)
      have HR := Lib.hid (show R = (0, In.setN t1 { n with links := n.links + 1 }) by
        rw [HRR.out]
        show (0, In.linkT t id dir s) = _
        unfold In.linkT
        rw [nameIn_eq hd2, ht1, linksUp_eq hn1])
      have HN1 := Lib.hid hn1
      have HD := Lib.hid hd2
      have HMd : (β dir).2 ∈ foot g mb β t.nodes := mem_foot.2 (.inr (.inr ⟨d, (find_mem hd2).1, .inr (by rw [(find_mem hd2).2])⟩))
      have HMn : (β id).1 ∈ foot g mb β t.nodes := mem_foot.2 (.inr (.inr ⟨n, (find_mem hn).1, .inl (by rw [(find_mem hn).2])⟩))
      have hlen : (namesL d.names).length < maxLen := by rw [names_len, maxLen_val]; omega
      clear h hq h1 hn hd h2 hd2 hdd hN hl hlk ht1 hn1 hne
      go_enter Tryz.func17, Tryz.ntmps17
      go_wp2_with (first
        | (go_at_call 48; refine cg.mono ?_; rintro e w' ⟨rfl, rfl⟩)
        | (go_at_call 45; refine ce.mono ?_; rintro e w1 ⟨rfl, hb⟩; have TB := HT.out.below hb; have hA := TB.at HD.out; have d4 := (node_cells hA).2.2.2.2; have HNm := Lib.hid hA.names; have HTB := Lib.hid TB; have HB := Lib.hid hb; clear TB hA hb)
        | (at_mapUpdate; refine wpList_store_at _ rfl _ _ _ 58 rfl 9 3 key_str Tryz.underlying58 (β dir).2 _ rfl HNm.out hlen (.string s) (.int .i64 id) _ rfl rfl (WideMaps.keyOf_string_mk Tryz.underlying9 hs) ?_; intro w2 hm2 ht2; rw [put_names] at hm2; have T := T1.out _ w2 HTB.out hm2 ht2; have dl := (node_cells (T.at HN1.out)).2.1; have fl := free_row (T.at HN1.out).row 1; have HTT := Lib.hid T; have HW := Lib.hid ht2; clear hm2 ht2 T d4))
      go_ret
      rw [HR.out]
      refine ⟨rfl, ?_⟩
      refine ⟨HTT.out.set_links HN1.out _, ((Only.of_below HB.out).turned HW.out (.inl HMd)).setCell (.inl HMn) _, fun k hk => ?_⟩
      have hf2 : foot g mb β (In.setN t1 { n with links := n.links + 1 }).nodes = foot g mb β t.nodes := (foot_set _ _ _ _ _).trans HF.out
      rw [hf2] at hk
      exact hk
    · have ce := empty_no h hq hdir hs hE (hE ▸ h2)
      have e0 := beq0_false (hE ▸ h2 : E ≠ 0)
      have HR := Lib.hid (show R = (E, t) by rw [HRR.out, e0]; rfl)
      clear h hq h1 hn hd h2 hlk hE
      go_enter Tryz.func17, Tryz.ntmps17
      go_wp2_with (first
        | (go_at_call 48; refine cg.mono ?_; rintro e w' ⟨rfl, rfl⟩)
        | (go_at_call 45; refine ce.mono ?_; rintro e w1 ⟨rfl, hb⟩; have HB := Lib.hid hb; clear hb))
      go_ret
      rw [HR.out]
      exact ⟨rfl, Step.below HT.out HB.out⟩
  · rw [beq0_false h1] at hE
    have hE : In.getE t id false = E := hE
    have cg := get_no h hq hid hE (hE ▸ h1)
    have e1 := bne0_true (hE ▸ h1 : E ≠ 0)
    have e0 := beq0_false (hE ▸ h1 : E ≠ 0)
    have HR := Lib.hid (show R = (E, t) by rw [HRR.out, e0]; rfl)
    clear h hq h1 hlk hE
    go_enter Tryz.func17, Tryz.ntmps17
    go_wp2_with (go_at_call 48; refine cg.mono ?_; rintro e w' ⟨rfl, rfl⟩)
    go_ret
    rw [HR.out]
    exact ⟨rfl, Step.refl HT.out⟩
/-- What the walks ask of a table's numbers and names. -/
structure Fit (t : TabD) : Prop where
  q0 : 0 < t.quota
  q1 : t.quota ≤ 1099511627776
  u0 : 0 ≤ t.used
  u1 : t.used ≤ 1099511627776
  node : ∀ n ∈ t.nodes, 0 ≤ n.links ∧ n.links ≤ 4611686018427387904 ∧ n.names.length ≤ 4611686018427387904
  holds : ∀ n ∈ t.nodes, 0 ≤ n.holds ∧ n.holds ≤ 4611686018427387904
  data : ∀ n ∈ t.nodes, n.data.size ≤ 1048576
  ids : ∀ n ∈ t.nodes, Fits n.id
  leads : ∀ d ∈ t.nodes, ∀ p ∈ d.names, ∃ n, In.find t.nodes p.2 = some n
theorem leads_mem {d : List (ByteArray × Int)} {s : ByteArray} (h : In.leads d s ≠ 0) : ∃ p ∈ d, p.2 = In.leads d s := by
  unfold In.leads at h ⊢
  cases hf : d.find? fun p => In.same p.1 s with
  | none => rw [hf] at h; exact absurd rfl h
  | some p => exact ⟨p, List.mem_of_find?_eq_some hf, rfl⟩
theorem Fit.find {t : TabD} (F : Fit t) {dir : Int} {d : NodeD} (hd : In.find t.nodes dir = some d) {s : ByteArray} (h : In.leads d.names s ≠ 0) : ∃ n, In.find t.nodes (In.leads d.names s) = some n ∧ Fits (In.leads d.names s) := by
  obtain ⟨p, hp, e⟩ := leads_mem h
  obtain ⟨n, hn⟩ := F.leads d (find_mem hd).1 p hp
  rw [e] at hn
  exact ⟨n, hn, by have := F.ids n (find_mem hn).1; rw [(find_mem hn).2] at this; exact this⟩
theorem loses_fit (h : TblAt w g mb β t) (F : Fit t) {dir : Int} {s : ByteArray} (hs : s.size ≤ maxLen) {d : NodeD} (hd : In.find t.nodes dir = some d) (hl : In.leads d.names s ≠ 0) :
    Calls Tryz.prog 49 #[.pointer (some ⟨g, 0, none⟩), .pointer (some ⟨(β dir).1, 0, none⟩), .string s] w fun e w' => e = .returned (.tuple #[]) ∧ Step w w' g mb β t (In.loses t dir s) := by
  obtain ⟨n, hn, hid⟩ := F.find hd hl
  have key : ∃ n1, In.find (In.nameOut t dir s).nodes (In.leads d.names s) = some n1 ∧ n1.data.size ≤ 1048576 ∧ 0 ≤ n1.links ∧ n1.links ≤ 4611686018427387904 := by
    rw [nameOut_eq hd, find_upd (n := { d with names := In.without d.names s }) hd (find_mem hd).2]
    split
    · exact ⟨_, rfl, F.data d (find_mem hd).1, (F.node d (find_mem hd).1).1, (F.node d (find_mem hd).1).2.1⟩
    · exact ⟨n, hn, F.data n (find_mem hn).1, (F.node n (find_mem hn).1).1, (F.node n (find_mem hn).1).2.1⟩
  obtain ⟨n1, h1, h2, h3, h4⟩ := key
  have e : In.loses t dir s = In.gone (In.setN (In.nameOut t dir s) { n1 with links := n1.links - 1 }) (In.leads d.names s) := by
    unfold In.loses
    rw [at_find hd, linksDown_eq h1]
  rw [e]
  exact loses_any h hs hd hid rfl (t1 := In.nameOut t dir s) (nameOut_eq hd s).symm h1 h2 F.u0 F.u1 h3 h4
set_option maxHeartbeats 1000000 in
set_option maxRecDepth 100000 in
theorem Unlink_any (h : TblAt w g mb β t) (F : Fit t) {dir : Int} (hdir : Fits dir) {s : ByteArray} (hs : s.size ≤ maxLen) :
    Calls Tryz.prog 18 #[.pointer (some ⟨g, 0, none⟩), .int .i64 dir, .string s] w (RStep w g mb β t (In.unlink t dir s)) := by
  have cf := Find_any h F.q0 hdir hs
  obtain ⟨E, hE⟩ : ∃ E, In.unlinkE t dir s = E := ⟨_, rfl⟩
  obtain ⟨R, hRR⟩ : ∃ R, In.unlink t dir s = R := ⟨_, rfl⟩
  have hR : R = if E == 0 then (0, In.loses t dir s) else (E, t) := by rw [← hRR, ← hE]; rfl
  rw [hRR]
  have HRR := Lib.hid hR
  clear hR hRR
  unfold In.unlinkE at hE
  have HT := Lib.hid h
  have HF := Lib.hid F
  rcases findE_dec (t := t) (dir := dir) (s := s) with ⟨h1, d, hd, hdd, hN, hl, hfN⟩ | ⟨h1, hz⟩
  · rw [h1] at hE
    have hE : In.getE t (In.findN t dir s) false = E := hE
    rw [h1] at cf
    rw [hfN] at hE cf
    obtain ⟨n, hn, hid⟩ := F.find hd hl
    generalize hidd : In.leads d.names s = id at hE cf hn hid hl
    rcases getE_dec (t := t) (id := id) (dir := false) with ⟨h2, n2, hn2, hnd⟩ | h2
    · rw [h2] at hE
      subst hE
      have HR := Lib.hid (show R = (0, In.loses t dir s) from HRR.out)
      have HN := Lib.hid hn2
      have HND := Lib.hid hnd
      have HD := Lib.hid hd
      have HL := Lib.hid (show In.leads d.names s ≠ 0 by rw [hidd]; exact hl)
      clear h F h1 h2 hn hn2 hnd hd hdd hN hfN hidd hl
      go_enter Tryz.func18, Tryz.ntmps18
      go_wp2_with (first
        | (go_at_call 23; refine cf.mono ?_; rintro e w1 ⟨rfl, hb⟩; have TB := HT.out.below hb; have HTB := Lib.hid TB; have HB := Lib.hid hb; have c3 := (tbl_cells TB).2.2.2; have hl1 := look_at TB hdir; rw [ptr_some HD.out] at hl1; clear TB hb)
        | (go_at_call 48; refine (get_yes HTB.out HF.out.q0 hid HN.out HND.out).mono ?_; rintro e w' ⟨rfl, rfl⟩)
        | (go_at_call 49; refine (loses_fit HTB.out HF.out hs HD.out HL.out).mono ?_; rintro e w3 ⟨rfl, hs3⟩; have HS3 := Lib.hid hs3; clear hs3 hl1 c3))
      go_ret
      rw [HR.out]
      exact ⟨rfl, (Step.below HT.out HB.out).trans HS3.out⟩
    · have e0 := beq0_false (hE ▸ h2 : E ≠ 0)
      have HE := Lib.hid hE
      have HNE := Lib.hid (hE ▸ h2 : E ≠ 0)
      have HR := Lib.hid (show R = (E, t) by rw [HRR.out, e0]; rfl)
      clear h F h1 h2 hn hd hdd hN hfN hidd hl hE
      go_enter Tryz.func18, Tryz.ntmps18
      go_wp2_with (first
        | (go_at_call 23; refine cf.mono ?_; rintro e w1 ⟨rfl, hb⟩; have TB := HT.out.below hb; have HTB := Lib.hid TB; have HB := Lib.hid hb; clear TB hb)
        | (go_at_call 48; refine (get_no HTB.out HF.out.q0 hid HE.out HNE.out).mono ?_; rintro e w' ⟨rfl, rfl⟩))
      go_ret
      rw [HR.out]
      exact ⟨rfl, Step.below HT.out HB.out⟩
  · rw [beq0_false h1] at hE
    have hE : In.findE t dir s = E := hE
    rw [hE] at cf h1
    have e0 := beq0_false h1
    have HR := Lib.hid (show R = (E, t) by rw [HRR.out, e0]; rfl)
    clear h F h1 hE hz
    go_enter Tryz.func18, Tryz.ntmps18
    go_wp2_with (go_at_call 23; refine cf.mono ?_; rintro e w1 ⟨rfl, hb⟩; have HB := Lib.hid hb; clear hb)
    go_ret
    rw [HR.out]
    exact ⟨rfl, Step.below HT.out HB.out⟩
end
end Go.Proofs.YtcicjklhbnipcaaGreat
namespace Go.Proofs.YtcicjklhbnipcaaGreat
set_option linter.unusedVariables false
set_option linter.unusedSimpArgs false
open Go.RowKit Go.Maps

theorem wpList_len_at {P : Program} (w : World) {ops : Array Oper} {rest : List Oper} {o : Oper} {a : Act} {Q : Exit → Act → World → Prop} (hg : o.guard = none) (m : Operand) (t : TypeId) (hop : o.op = Op.call { callee := Callee.builtin Builtin.len, args := #[m], argTypes := #[t] })
    (k e : TypeId) (ht : P.underlying t = some (.map k e)) (b : Nat) (l : List (Lit × Value)) (n : Nat) (hn : l.length = n) (hm : a.eval m = .map (some b)) (h : MapAt P k w b l) (hK : wpList P ops Q rest (a.put o.dst (.int .i64 n)) w) : wpList P ops Q (o :: rest) a w := by
  refine wpList_len_own w hg m t hop k e ht anyElem b l.length (heldD l) hm h ?_
  rw [size_held, hn]
  exact hK
section
variable {w : World} {g mb : Nat} {β : Int → Nat × Nat} {t : TabD}
set_option maxHeartbeats 2000000 in
set_option maxRecDepth 100000 in
theorem Remove_any (h : TblAt w g mb β t) (F : Fit t) {dir : Int} (hdir : Fits dir) {s : ByteArray} (hs : s.size ≤ maxLen) :
    Calls Tryz.prog 24 #[.pointer (some ⟨g, 0, none⟩), .int .i64 dir, .string s] w (RStep w g mb β t (In.remove t dir s)) := by
  have cf := Find_any h F.q0 hdir hs
  obtain ⟨E, hE⟩ : ∃ E, In.removeE t dir s = E := ⟨_, rfl⟩
  obtain ⟨R, hRR⟩ : ∃ R, In.remove t dir s = R := ⟨_, rfl⟩
  have hR : R = if E == 0 then (0, In.loses t dir s) else (E, t) := by rw [← hRR, ← hE]; rfl
  rw [hRR]
  have HRR := Lib.hid hR
  clear hR hRR
  unfold In.removeE at hE
  have HT := Lib.hid h
  have HF := Lib.hid F
  rcases findE_dec (t := t) (dir := dir) (s := s) with ⟨h1, d, hd, hdd, hN, hl, hfN⟩ | ⟨h1, hz⟩
  · rw [h1] at hE cf
    rw [hfN] at hE cf
    obtain ⟨n, hn, hid⟩ := F.find hd hl
    generalize hidd : In.leads d.names s = id at hE cf hn hid hl
    rcases getE_dec (t := t) (id := id) (dir := true) with ⟨h2, n2, hn2, hnd⟩ | h2
    · rw [h2, at_find hn2] at hE
      have HN := Lib.hid hn2
      have HND := Lib.hid hnd
      have HD := Lib.hid hd
      have HL := Lib.hid (show In.leads d.names s ≠ 0 by rw [hidd]; exact hl)
      have hcap := (F.node n2 (find_mem hn2).1).2.2
      cases hk : decide (0 < n2.names.length) with
      | true =>
        rw [hk] at hE
        have hE : 7 = E := hE
        subst hE
        have HR := Lib.hid (show R = (7, t) from HRR.out)
        clear h F h1 h2 hn hn2 hnd hd hdd hN hfN hidd hl
        go_enter Tryz.func24, Tryz.ntmps24
        go_wp2_with (first
          | (go_at_call 23; refine cf.mono ?_; rintro e w1 ⟨rfl, hb⟩; have TB := HT.out.below hb; have HTB := Lib.hid TB; have HB := Lib.hid hb; have hA := TB.at HN.out; have d4 := (node_cells hA).2.2.2.2; have HNm := Lib.hid hA.names; clear TB hA hb)
          | (go_at_call 48; refine (get_yes HTB.out HF.out.q0 hid HN.out HND.out).mono ?_; rintro e w' ⟨rfl, rfl⟩)
          | (at_len; refine wpList_len_at _ rfl _ 58 rfl 9 3 Tryz.underlying58 (β id).2 _ _ names_len rfl HNm.out ?_))
        go_ret
        rw [HR.out]
        exact ⟨rfl, Step.below HT.out HB.out⟩
      | false =>
        rw [hk] at hE
        have hE : 0 = E := hE
        subst hE
        have HR := Lib.hid (show R = (0, In.loses t dir s) from HRR.out)
        clear h F h1 h2 hn hn2 hnd hd hdd hN hfN hidd hl
        go_enter Tryz.func24, Tryz.ntmps24
        go_wp2_with (first
          | (go_at_call 23; refine cf.mono ?_; rintro e w1 ⟨rfl, hb⟩; have TB := HT.out.below hb; have HTB := Lib.hid TB; have HB := Lib.hid hb; have hA := TB.at HN.out; have d4 := (node_cells hA).2.2.2.2; have HNm := Lib.hid hA.names; have c3 := (tbl_cells TB).2.2.2; have hl1 := look_at TB hdir; rw [ptr_some HD.out] at hl1; clear TB hA hb)
          | (go_at_call 48; refine (get_yes HTB.out HF.out.q0 hid HN.out HND.out).mono ?_; rintro e w' ⟨rfl, rfl⟩)
          | (at_len; refine wpList_len_at _ rfl _ 58 rfl 9 3 Tryz.underlying58 (β id).2 _ _ names_len rfl HNm.out ?_)
          | (go_at_call 49; refine (loses_fit HTB.out HF.out hs HD.out HL.out).mono ?_; rintro e w3 ⟨rfl, hs3⟩; have HS3 := Lib.hid hs3; clear hs3 hl1 c3 d4))
        go_ret
        rw [HR.out]
        exact ⟨rfl, (Step.below HT.out HB.out).trans HS3.out⟩
    · rw [beq0_false h2] at hE
      have hE : In.getE t id true = E := hE
      have e0 := beq0_false (hE ▸ h2 : E ≠ 0)
      have e1 := bne0_true (hE ▸ h2 : E ≠ 0)
      have HE := Lib.hid hE
      have HNE := Lib.hid (hE ▸ h2 : E ≠ 0)
      have HR := Lib.hid (show R = (E, t) by rw [HRR.out, e0]; rfl)
      clear h F h1 h2 hn hd hdd hN hfN hidd hl hE
      go_enter Tryz.func24, Tryz.ntmps24
      go_wp2_with (first
        | (go_at_call 23; refine cf.mono ?_; rintro e w1 ⟨rfl, hb⟩; have TB := HT.out.below hb; have HTB := Lib.hid TB; have HB := Lib.hid hb; clear TB hb)
        | (go_at_call 48; refine (get_no HTB.out HF.out.q0 hid HE.out HNE.out).mono ?_; rintro e w' ⟨rfl, rfl⟩))
      go_ret
      rw [HR.out]
      exact ⟨rfl, Step.below HT.out HB.out⟩
  · rw [beq0_false h1] at hE
    have hE : In.findE t dir s = E := hE
    rw [hE] at cf h1
    have e0 := bne0_true h1
    have HR := Lib.hid (show R = (E, t) by rw [HRR.out, beq0_false h1]; rfl)
    clear h F h1 hE hz
    go_enter Tryz.func24, Tryz.ntmps24
    go_wp2_with (go_at_call 23; refine cf.mono ?_; rintro e w1 ⟨rfl, hb⟩; have HB := Lib.hid hb; clear hb)
    go_ret
    rw [HR.out]
    exact ⟨rfl, Step.below HT.out HB.out⟩
theorem Used_any (h : TblAt w g mb β t) (hq : 0 < t.quota) : Calls Tryz.prog 11 #[.pointer (some ⟨g, 0, none⟩)] w fun e w' => e = .returned (.int .i64 t.used) ∧ w = w' := by
  have cg := given_yes h hq
  have c1 := (tbl_cells h).2.1
  clear h hq
  go_enter Tryz.func11, Tryz.ntmps11
  go_wp2_with (go_at_call 21; refine cg.mono ?_; rintro e w' ⟨rfl, rfl⟩)
  go_ret
  exact ⟨rfl, rfl⟩
set_option maxHeartbeats 1000000 in
theorem Hold_any (h : TblAt w g mb β t) (F : Fit t) {id : Int} (hid : Fits id) : Calls Tryz.prog 27 #[.pointer (some ⟨g, 0, none⟩), .int .i64 id] w (RStep w g mb β t (In.hold t id)) := by
  obtain ⟨E, hE⟩ : ∃ E, In.holdE t id = E := ⟨_, rfl⟩
  obtain ⟨R, hRR⟩ : ∃ R, In.hold t id = R := ⟨_, rfl⟩
  have hR : R = if E == 0 then (0, In.holdsUp t id) else (E, t) := by rw [← hRR, ← hE]; rfl
  rw [hRR]
  have HRR := Lib.hid hR
  clear hR hRR
  unfold In.holdE at hE
  have HT := Lib.hid h
  rcases getE_dec (t := t) (id := id) (dir := false) with ⟨h2, n, hn, hnd⟩ | h2
  · have cg := get_yes h F.q0 hid hn hnd
    rw [h2, at_find hn] at hE
    have hA := h.at hn
    have d2 := (node_cells hA).2.2.1
    have f2 := free_row hA.row 2
    obtain ⟨b0, b1⟩ := F.holds n (find_mem hn).1
    have HM : (β id).1 ∈ foot g mb β t.nodes := mem_foot.2 (.inr (.inr ⟨n, (find_mem hn).1, .inl (by rw [(find_mem hn).2])⟩))
    cases hk : decide (1048576 ≤ n.holds) with
    | true =>
      rw [hk] at hE
      have hE : 5 = E := hE
      subst hE
      have HR := Lib.hid (show R = (5, t) from HRR.out)
      clear h F h2 hn hnd hA
      go_enter Tryz.func27, Tryz.ntmps27
      go_wp2_with (go_at_call 48; refine cg.mono ?_; rintro e w' ⟨rfl, rfl⟩)
      go_ret
      rw [HR.out]
      exact ⟨rfl, Step.refl HT.out⟩
    | false =>
      rw [hk] at hE
      have hE : 0 = E := hE
      subst hE
      have HR := Lib.hid (show R = (0, In.setN t { n with holds := n.holds + 1 }) by rw [HRR.out, holdsUp_eq hn]; rfl)
      have HS := Lib.hid (h.set_holds hn (n.holds + 1))
      clear h F h2 hn hnd hA
      go_enter Tryz.func27, Tryz.ntmps27
      go_wp2_with (go_at_call 48; refine cg.mono ?_; rintro e w' ⟨rfl, rfl⟩)
      go_ret
      rw [HR.out]
      exact ⟨rfl, HS.out, (Only.refl _ _).setCell (.inl HM) _, fun k hk => by have e : foot g mb β (In.setN t { n with holds := n.holds + 1 }).nodes = foot g mb β t.nodes := foot_set _ _ _ _ _; rw [e] at hk; exact hk⟩
  · rw [beq0_false h2] at hE
    have hE : In.getE t id false = E := hE
    have cg := get_no h F.q0 hid hE (hE ▸ h2)
    have e0 := bne0_true (hE ▸ h2 : E ≠ 0)
    have HR := Lib.hid (show R = (E, t) by rw [HRR.out, beq0_false (hE ▸ h2 : E ≠ 0)]; rfl)
    clear h F h2 hE
    go_enter Tryz.func27, Tryz.ntmps27
    go_wp2_with (go_at_call 48; refine cg.mono ?_; rintro e w' ⟨rfl, rfl⟩)
    go_ret
    rw [HR.out]
    exact ⟨rfl, Step.refl HT.out⟩
set_option maxHeartbeats 1000000 in
theorem Drop_any (h : TblAt w g mb β t) (F : Fit t) {id : Int} (hid : Fits id) : Calls Tryz.prog 28 #[.pointer (some ⟨g, 0, none⟩), .int .i64 id] w (RStep w g mb β t (In.drop t id)) := by
  have cg := given_yes h F.q0
  have hl := look_at h hid
  have c3 := (tbl_cells h).2.2.2
  obtain ⟨R, hRR⟩ : ∃ R, In.drop t id = R := ⟨_, rfl⟩
  rw [hRR]
  unfold In.drop In.dropE at hRR
  have HT := Lib.hid h
  cases hn : In.find t.nodes id with
  | none =>
    rw [hn] at hRR
    have HR := Lib.hid (show R = (3, t) from hRR.symm)
    rw [ptr_none hn] at hl
    clear h F hRR hn
    go_enter Tryz.func28, Tryz.ntmps28
    go_wp2_with (go_at_call 21; refine cg.mono ?_; rintro e w' ⟨rfl, rfl⟩)
    go_ret
    rw [HR.out]
    exact ⟨rfl, Step.refl HT.out⟩
  | some n =>
    rw [hn] at hRR
    simp only at hRR
    rw [ptr_some hn] at hl
    have hA := h.at hn
    have d2 := (node_cells hA).2.2.1
    have f2 := free_row hA.row 2
    obtain ⟨b0, b1⟩ := F.holds n (find_mem hn).1
    cases hk : n.holds == 0 with
    | true =>
      rw [hk] at hRR
      have HR := Lib.hid (show R = (1, t) from hRR.symm)
      clear h F hRR hn hA
      go_enter Tryz.func28, Tryz.ntmps28
      go_wp2_with (go_at_call 21; refine cg.mono ?_; rintro e w' ⟨rfl, rfl⟩)
      go_ret
      rw [HR.out]
      exact ⟨rfl, Step.refl HT.out⟩
    | false =>
      rw [hk] at hRR
      have HR := Lib.hid (show R = (0, In.gone (In.setN t { n with holds := n.holds - 1 }) id) by rw [← hRR, holdsDown_eq hn]; rfl)
      have HM : (β id).1 ∈ foot g mb β t.nodes := mem_foot.2 (.inr (.inr ⟨n, (find_mem hn).1, .inl (by rw [(find_mem hn).2])⟩))
      have G := Lib.hid (gone_any (h.set_holds hn (n.holds - 1)) hid (n := { n with holds := n.holds - 1 }) (find_self (n := { n with holds := n.holds - 1 }) hn (find_mem hn).2) (F.data n (find_mem hn).1) (show 0 ≤ t.used from F.u0) (show t.used ≤ 1099511627776 from F.u1))
      clear h F hRR hn hA
      go_enter Tryz.func28, Tryz.ntmps28
      go_wp2_with (first
        | (go_at_call 21; refine cg.mono ?_; rintro e w' ⟨rfl, rfl⟩)
        | (go_at_call 52; refine G.out.mono ?_; rintro e w3 ⟨rfl, hs3⟩; have HS3 := Lib.hid hs3; clear hs3))
      go_ret
      rw [HR.out]
      have hf : foot g mb β (In.setN t { n with holds := n.holds - 1 }).nodes = foot g mb β t.nodes := foot_set _ _ _ _ _
      exact ⟨rfl, HS3.out.tbl, ((Only.refl _ _).setCell (.inl HM) _).trans (HS3.out.only.mono fun x hx => by rw [hf] at hx; exact hx), fun k hk => by have := HS3.out.foot k hk; rw [hf] at this; exact this⟩
end
end Go.Proofs.YtcicjklhbnipcaaGreat
namespace Go.Proofs.YtcicjklhbnipcaaGreat
set_option linter.unusedVariables false
set_option linter.unusedSimpArgs false
open Go.RowKit Go.Maps

section
variable {w : World} {g mb : Nat} {β : Int → Nat × Nat} {t : TabD}
theorem in_foot1 {id : Int} {n : NodeD} (hn : In.find t.nodes id = some n) : (β id).1 ∈ foot g mb β t.nodes := mem_foot.2 (.inr (.inr ⟨n, (find_mem hn).1, .inl (by rw [(find_mem hn).2])⟩))
theorem in_foot2 {id : Int} {n : NodeD} (hn : In.find t.nodes id = some n) : (β id).2 ∈ foot g mb β t.nodes := mem_foot.2 (.inr (.inr ⟨n, (find_mem hn).1, .inr (by rw [(find_mem hn).2])⟩))
theorem foot_setN (n : NodeD) : foot g mb β (In.setN t n).nodes = foot g mb β t.nodes := foot_set _ _ _ _ _
/-- The two last steps: a name goes out of one directory, and comes into another one. -/
theorem rename_tail {w1 w2 w3 : World} {t1 : TabD} (h : TblAt w1 g mb β t1) {dir tod id : Int} {s as_ : ByteArray} {d : NodeD} (hd : In.find t1.nodes dir = some d) {d2 : NodeD} (hd2 : In.find (In.nameOut t1 dir s).nodes tod = some d2)
    (m1 : NamesAt w2 (β dir).2 (In.without d.names s)) (r1 : w1.mapTurned w2 (β dir).2) (m2 : NamesAt w3 (β tod).2 (In.with_ d2.names as_ id)) (r2 : w2.mapTurned w3 (β tod).2) :
    Step w1 w3 g mb β t1 (In.renameIn t1 dir s tod as_ id) := by
  have T2 : TblAt w2 g mb β (In.nameOut t1 dir s) := by rw [nameOut_eq hd]; exact h.set_names hd m1 r1
  have hf : foot g mb β (In.nameOut t1 dir s).nodes = foot g mb β t1.nodes := by rw [nameOut_eq hd]; exact foot_setN _
  have T3 : TblAt w3 g mb β (In.renameIn t1 dir s tod as_ id) := by unfold In.renameIn; rw [nameIn_eq hd2]; exact T2.set_names hd2 m2 r2
  have hf2 : foot g mb β (In.renameIn t1 dir s tod as_ id).nodes = foot g mb β t1.nodes := by unfold In.renameIn; rw [nameIn_eq hd2]; exact (foot_setN _).trans hf
  refine ⟨T3, ((Only.refl _ w1).turned r1 (.inl (in_foot2 hd))).turned r2 (.inl ?_), fun k hk => by rw [hf2] at hk; exact hk⟩
  rw [← hf]
  exact in_foot2 hd2
theorem without_len (d : List (ByteArray × Int)) (s : ByteArray) : (In.without d s).length ≤ d.length := List.length_filter_le _ _
theorem find_del {l : List NodeD} {id x : Int} (hx : x ≠ id) : In.find (In.del l id) x = In.find l x := by
  unfold In.find In.del
  rw [List.find?_filter]
  congr 1
  funext m
  by_cases h : m.id = x
  · subst h
    simp [hx]
  · simp [h]
theorem find_gone {id x : Int} (hx : x ≠ id) : In.find (In.gone t id).nodes x = In.find t.nodes x := by
  unfold In.gone
  split
  · exact find_del hx
  · rfl
/-- A directory is still there, if a name of a file was taken out of one. -/
theorem dir_stays {x tod : Int} {as_ : ByteArray} {d e n : NodeD} (hx : In.find t.nodes x = some d) (hxd : d.dir = true) (he : In.find t.nodes tod = some e) (hn : In.find t.nodes (In.leads e.names as_) = some n) (hnd : n.dir = false) :
    ∃ d', In.find (In.loses t tod as_).nodes x = some d' ∧ d'.dir = true ∧ d'.names.length ≤ d.names.length := by
  have hne : x ≠ In.leads e.names as_ := fun h => by rw [h, hn] at hx; cases hx; rw [hxd] at hnd; cases hnd
  unfold In.loses
  rw [at_find he, find_gone hne, nameOut_eq he]
  have h1 : ∃ d', In.find (In.setN t { e with names := In.without e.names as_ }).nodes x = some d' ∧ d'.dir = true ∧ d'.names.length ≤ d.names.length := by
    rw [find_upd (n := { e with names := In.without e.names as_ }) he (find_mem he).2]
    split
    · rename_i h
      subst h
      rw [hx] at he
      cases he
      exact ⟨_, rfl, hxd, without_len _ _⟩
    · exact ⟨d, hx, hxd, Nat.le_refl _⟩
  obtain ⟨d', h2, h3, h4⟩ := h1
  refine ⟨d', ?_, h3, h4⟩
  have hn1 : ∃ n', In.find (In.setN t { e with names := In.without e.names as_ }).nodes (In.leads e.names as_) = some n' := by
    rw [find_upd (n := { e with names := In.without e.names as_ }) he (find_mem he).2]
    split
    · exact ⟨_, rfl⟩
    · exact ⟨n, hn⟩
  obtain ⟨n', hn'⟩ := hn1
  rw [linksDown_eq hn', find_upd (n := { n' with links := n'.links - 1 }) hn' (find_mem hn').2, if_neg hne]
  exact h2
theorem dir_out {x dir : Int} {s : ByteArray} {d e : NodeD} (hx : In.find t.nodes x = some d) (he : In.find t.nodes dir = some e) : ∃ d', In.find (In.nameOut t dir s).nodes x = some d' ∧ d'.names.length ≤ d.names.length := by
  rw [nameOut_eq he, find_upd (n := { e with names := In.without e.names s }) he (find_mem he).2]
  split
  · rename_i h
    subst h
    rw [hx] at he
    cases he
    exact ⟨_, rfl, without_len _ _⟩
  · exact ⟨d, hx, Nat.le_refl _⟩
theorem unlinkE_dec (F : Fit t) {dir : Int} {s : ByteArray} : (In.unlinkE t dir s = 0 ∧ In.findE t dir s = 0 ∧ ∃ d n, In.find t.nodes dir = some d ∧ d.dir = true ∧ In.leads d.names s ≠ 0 ∧ In.findN t dir s = In.leads d.names s ∧ In.find t.nodes (In.leads d.names s) = some n ∧ n.dir = false ∧ Fits (In.leads d.names s)) ∨
    (In.unlinkE t dir s ≠ 0 ∧ In.findE t dir s = 0 ∧ In.getE t (In.findN t dir s) false = In.unlinkE t dir s ∧ Fits (In.findN t dir s)) ∨ (In.unlinkE t dir s ≠ 0 ∧ In.findE t dir s = In.unlinkE t dir s) := by
  unfold In.unlinkE
  rcases findE_dec (t := t) (dir := dir) (s := s) with ⟨h1, d, hd, hdd, hN, hl, hfN⟩ | ⟨h1, hz⟩
  · rw [h1]
    obtain ⟨n, hn, hid⟩ := F.find hd hl
    rcases getE_dec (t := t) (id := In.findN t dir s) (dir := false) with ⟨h2, n2, hn2, hnd⟩ | h2
    · rw [hfN, hn] at hn2
      cases hn2
      exact .inl ⟨h2, rfl, d, n, hd, hdd, hl, hfN, hn, hnd, hid⟩
    · exact .inr (.inl ⟨h2, rfl, rfl, by rw [hfN]; exact hid⟩)
  · rw [beq0_false h1]
    exact .inr (.inr ⟨h1, rfl⟩)
set_option maxHeartbeats 4000000 in
set_option maxRecDepth 100000 in
theorem Rename_any (h : TblAt w g mb β t) (F : Fit t) {dir tod : Int} (hdir : Fits dir) (htod : Fits tod) {s as_ : ByteArray} (hs : s.size ≤ maxLen) (has : as_.size ≤ maxLen) :
    Calls Tryz.prog 25 #[.pointer (some ⟨g, 0, none⟩), .int .i64 dir, .string s, .int .i64 tod, .string as_] w (RStep w g mb β t (In.rename t dir s tod as_)) := by
  have cf := Find_any h F.q0 hdir hs
  obtain ⟨E, hE⟩ : ∃ E, In.renameE t dir s tod as_ = E := ⟨_, rfl⟩
  obtain ⟨R, hRR⟩ : ∃ R, In.rename t dir s tod as_ = R := ⟨_, rfl⟩
  have hR : R = if E == 0 then (0, In.renameT t dir s tod as_) else (E, t) := by rw [← hRR, ← hE]; rfl
  rw [hRR]
  have HRR := Lib.hid hR
  clear hR hRR
  have HT := Lib.hid h
  have HF := Lib.hid F
  unfold In.renameE at hE
  rcases unlinkE_dec F (dir := dir) (s := s) with ⟨h1, h2, d, n, hd, hdd, hl, hfN, hn, hnd, hid⟩ | ⟨h1, h2, h3, hid⟩ | ⟨h1, h2⟩
  · rw [h1] at hE
    rw [h2] at cf
    rw [hfN] at hE cf
    generalize hidd : In.leads d.names s = id at hE cf hn hid hl hfN
    rcases placeE_dec (t := t) (dir := tod) (s := as_) with ⟨p1, e, he, hed, heN⟩ | p1
    · rw [p1, at_find he] at hE
      have HE1 := Lib.hid he
      have HED := Lib.hid hed
      have HEN := Lib.hid heN
      have HN := Lib.hid hn
      have HND := Lib.hid hnd
      have HD := Lib.hid hd
      obtain ⟨was, hwas⟩ : ∃ was, In.leads e.names as_ = was := ⟨_, rfl⟩
      rw [hwas] at hE
      have HW := Lib.hid hwas
      by_cases c1 : was = id
      · have q : (was == id) = true := by simpa using c1
        rw [q] at hE
        have hE : 0 = E := hE
        subst hE
        have HR := Lib.hid (show R = (0, t) by
          rw [HRR.out]
          show (0, In.renameT t dir s tod as_) = _
          unfold In.renameT
          rw [at_find he, hwas, hfN, q]; rfl)
        clear h F h1 h2 hn hnd hd hdd hfN hidd hl he hed heN hwas c1 p1
        go_enter Tryz.func25, Tryz.ntmps25
        go_wp2_with (first
          | (go_at_call 23; refine cf.mono ?_; rintro e w1 ⟨rfl, hb⟩; have HTB := Lib.hid (HT.out.below hb); have HB := Lib.hid hb; clear hb)
          | (go_at_call 48; refine (get_yes HTB.out HF.out.q0 hid HN.out HND.out).mono ?_; rintro e w' ⟨rfl, rfl⟩)
          | (go_at_call 51; refine (place_yes HTB.out HF.out.q0 htod has HE1.out HED.out HEN.out).mono ?_; rintro e w2 ⟨rfl, hb⟩; have TB := HTB.out.below hb; have HTB2 := Lib.hid TB; have HB2 := Lib.hid hb; have hA := TB.at HE1.out; have d4 := (node_cells hA).2.2.2.2; have ll := look_name hA.names has; rw [HW.out] at ll; clear hb TB hA))
        go_ret
        rw [HR.out]
        exact ⟨rfl, (Step.below HT.out HB.out).trans (Step.below HTB.out HB2.out)⟩
      · have q : (was == id) = false := by simpa using c1
        rw [q] at hE
        by_cases c2 : was = 0
        · have q2 : (was == 0) = true := by simpa using c2
          subst c2
          have hE : 0 = E := hE
          subst hE
          obtain ⟨d2, hd2, hd2l⟩ := dir_out (s := s) he hd
          have hlen : (namesL d2.names).length < maxLen := by have := (F.node e (find_mem he).1).2.2; rw [names_len, maxLen_val]; omega
          have HR := Lib.hid (show R = (0, In.renameIn t dir s tod as_ id) by
            rw [HRR.out]
            show (0, In.renameT t dir s tod as_) = _
            unfold In.renameT
            rw [at_find he, hwas, hfN, q, q2]; rfl)
          have HD2 := Lib.hid hd2
          have H4 := Lib.hid (fun (W W' : World) (T : TblAt W g mb β t) (h1 : NamesAt W' (β dir).2 (In.without d.names s)) (h2 : W.mapTurned W' (β dir).2) => (by rw [nameOut_eq hd]; exact T.set_names hd h1 h2 : TblAt W' g mb β (In.nameOut t dir s)))
          clear h F h1 h2 hn hnd hd hdd hfN hidd hl he hed heN hwas c1 p1 hd2 hd2l q2
          go_enter Tryz.func25, Tryz.ntmps25
          go_wp2_with (first
            | (go_at_call 23; refine cf.mono ?_; rintro e w1 ⟨rfl, hb⟩; have HTB := Lib.hid (HT.out.below hb); have HB := Lib.hid hb; clear hb)
            | (go_at_call 48; refine (get_yes HTB.out HF.out.q0 hid HN.out HND.out).mono ?_; rintro e w' ⟨rfl, rfl⟩)
            | (go_at_call 51; refine (place_yes HTB.out HF.out.q0 htod has HE1.out HED.out HEN.out).mono ?_; rintro e w2 ⟨rfl, hb⟩; have TB := HTB.out.below hb; have HTB2 := Lib.hid TB; have HB2 := Lib.hid hb; have hA := TB.at HE1.out; have d4 := (node_cells hA).2.2.2.2; have ll := look_name hA.names has; rw [HW.out] at ll; have c3 := (tbl_cells TB).2.2.2; have hld := look_at TB hdir; rw [ptr_some HD.out] at hld; have hAd := TB.at HD.out; have dd4 := (node_cells hAd).2.2.2.2; have HNm := Lib.hid hAd.names; clear hAd; clear hb TB hA)
            | (at_delete; refine wpList_delete_at _ rfl _ _ 58 9 rfl 3 key_str Tryz.underlying58 (β dir).2 _ rfl HNm.out _ _ rfl (WideMaps.keyOf_string_mk Tryz.underlying9 hs) ?_; intro w4 hm4 ht4; rw [del_names] at hm4; have T4 := H4.out _ w4 HTB2.out hm4 ht4; have hA4 := T4.at HD2.out; have e4 := (node_cells hA4).2.2.2.2; have HNm4 := Lib.hid hA4.names; have HM4 := Lib.hid hm4; have HW4 := Lib.hid ht4; clear hm4 ht4 T4 hA4; clear ll c3 hld dd4 d4)
            | (at_mapUpdate; refine wpList_store_at _ rfl _ _ _ 58 rfl 9 3 key_str Tryz.underlying58 (β tod).2 _ rfl HNm4.out hlen (.string as_) (.int .i64 id) _ rfl rfl (WideMaps.keyOf_string_mk Tryz.underlying9 has) ?_; intro w5 hm5 ht5; rw [put_names] at hm5; have HM5 := Lib.hid hm5; have HW5 := Lib.hid ht5; clear hm5 ht5))
          go_ret
          rw [HR.out]
          exact ⟨rfl, ((Step.below HT.out HB.out).trans (Step.below HTB.out HB2.out)).trans (rename_tail HTB2.out HD.out HD2.out HM4.out HW4.out HM5.out HW5.out)⟩
        · have q2 : (was == 0) = false := by simpa using c2
          have q3 : (was != 0) = true := bne0_true c2
          rw [q2] at hE
          have hlw : In.leads e.names as_ ≠ 0 := by rw [hwas]; exact c2
          obtain ⟨n3, hn3, hf3⟩ := F.find he hlw
          rw [hwas] at hn3 hf3
          rw [at_find hn3] at hE
          have HN3 := Lib.hid hn3
          cases hn3d : n3.dir with
          | true =>
            rw [hn3d] at hE
            have hE : 12 = E := hE
            subst hE
            have HND3 := Lib.hid hn3d
            have HR := Lib.hid (show R = (12, t) from HRR.out)
            clear h F h1 h2 hn hnd hd hdd hfN hidd hl he hed heN hwas c1 p1 hlw hn3 hn3d
            go_enter Tryz.func25, Tryz.ntmps25
            go_wp2_with (first
              | (go_at_call 23; refine cf.mono ?_; rintro e w1 ⟨rfl, hb⟩; have HTB := Lib.hid (HT.out.below hb); have HB := Lib.hid hb; clear hb)
              | (go_at_call 48; refine (get_yes HTB.out HF.out.q0 hid HN.out HND.out).mono ?_; rintro e w' ⟨rfl, rfl⟩)
              | (go_at_call 51; refine (place_yes HTB.out HF.out.q0 htod has HE1.out HED.out HEN.out).mono ?_; rintro e w2 ⟨rfl, hb⟩; have TB := HTB.out.below hb; have HTB2 := Lib.hid TB; have HB2 := Lib.hid hb; have hA := TB.at HE1.out; have d4 := (node_cells hA).2.2.2.2; have ll := look_name hA.names has; rw [HW.out] at ll; have c3 := (tbl_cells TB).2.2.2; have hlw3 := look_at TB hf3; rw [ptr_some HN3.out] at hlw3; have n3c := (node_cells (TB.at HN3.out)).1; rw [HND3.out] at n3c; clear hb TB hA))
            go_ret
            rw [HR.out]
            exact ⟨rfl, (Step.below HT.out HB.out).trans (Step.below HTB.out HB2.out)⟩
          | false =>
            rw [hn3d] at hE
            have hE : 0 = E := hE
            subst hE
            have HND3 := Lib.hid hn3d
            obtain ⟨d', hd', hd'd, hd'l⟩ := dir_stays hd hdd he (by rw [hwas]; exact hn3) hn3d
            obtain ⟨e', he', he'd, he'l⟩ := dir_stays he hed he (by rw [hwas]; exact hn3) hn3d
            obtain ⟨t1, ht1⟩ : ∃ t1, In.loses t tod as_ = t1 := ⟨_, rfl⟩
            rw [ht1] at hd' he'
            obtain ⟨d2, hd2, hd2l⟩ := dir_out (s := s) he' hd'
            have hlen : (namesL d2.names).length < maxLen := by have := (F.node e (find_mem he).1).2.2; rw [names_len, maxLen_val]; omega
            have HR := Lib.hid (show R = (0, In.renameIn t1 dir s tod as_ id) by
              rw [HRR.out]
              show (0, In.renameT t dir s tod as_) = _
              unfold In.renameT
              rw [at_find he, hwas, hfN, q, q2, ht1]; rfl)
            have HL := Lib.hid hlw
            have HD2 := Lib.hid hd2
            have HD' := Lib.hid hd'
            have HLo := Lib.hid (fun (W : World) (T : TblAt W g mb β t) => (ht1 ▸ loses_fit T F has he hlw : Calls Tryz.prog 49 #[.pointer (some ⟨g, 0, none⟩), .pointer (some ⟨(β tod).1, 0, none⟩), .string as_] W fun e w' => e = .returned (.tuple #[]) ∧ Step W w' g mb β t t1))
            have H4 := Lib.hid (fun (W W' : World) (T : TblAt W g mb β t1) (h1 : NamesAt W' (β dir).2 (In.without d'.names s)) (h2 : W.mapTurned W' (β dir).2) => (by rw [nameOut_eq hd']; exact T.set_names hd' h1 h2 : TblAt W' g mb β (In.nameOut t1 dir s)))
            clear h F h1 h2 hn hnd hd hdd hfN hidd hl he hed heN hwas c1 p1 hlw hn3 hn3d hd2 hd2l hd' hd'd hd'l he' he'd he'l ht1 q2
            go_enter Tryz.func25, Tryz.ntmps25
            go_wp2_with (first
              | (go_at_call 23; refine cf.mono ?_; rintro e w1 ⟨rfl, hb⟩; have HTB := Lib.hid (HT.out.below hb); have HB := Lib.hid hb; clear hb)
              | (go_at_call 48; refine (get_yes HTB.out HF.out.q0 hid HN.out HND.out).mono ?_; rintro e w' ⟨rfl, rfl⟩)
              | (go_at_call 51; refine (place_yes HTB.out HF.out.q0 htod has HE1.out HED.out HEN.out).mono ?_; rintro e w2 ⟨rfl, hb⟩; have TB := HTB.out.below hb; have HTB2 := Lib.hid TB; have HB2 := Lib.hid hb; have hA := TB.at HE1.out; have d4 := (node_cells hA).2.2.2.2; have ll := look_name hA.names has; rw [HW.out] at ll; have c3 := (tbl_cells TB).2.2.2; have hlw3 := look_at TB hf3; rw [ptr_some HN3.out] at hlw3; have n3c := (node_cells (TB.at HN3.out)).1; rw [HND3.out] at n3c; clear hb TB hA)
              | (go_at_call 49; refine (HLo.out _ HTB2.out).mono ?_; rintro e w3 ⟨rfl, hs3⟩; have HS3 := Lib.hid hs3; clear d4 ll c3 hlw3 n3c; have c3 := (tbl_cells hs3.tbl).2.2.2; have hld := look_at hs3.tbl hdir; rw [ptr_some HD'.out] at hld; have hAd := hs3.tbl.at HD'.out; have dd4 := (node_cells hAd).2.2.2.2; have HNm := Lib.hid hAd.names; clear hAd hs3)
              | (at_delete; refine wpList_delete_at _ rfl _ _ 58 9 rfl 3 key_str Tryz.underlying58 (β dir).2 _ rfl HNm.out _ _ rfl (WideMaps.keyOf_string_mk Tryz.underlying9 hs) ?_; intro w4 hm4 ht4; rw [del_names] at hm4; have T4 := H4.out _ w4 HS3.out.tbl hm4 ht4; have hA4 := T4.at HD2.out; have e4 := (node_cells hA4).2.2.2.2; have HNm4 := Lib.hid hA4.names; have HM4 := Lib.hid hm4; have HW4 := Lib.hid ht4; clear hm4 ht4 T4 hA4; clear c3 hld dd4)
              | (at_mapUpdate; refine wpList_store_at _ rfl _ _ _ 58 rfl 9 3 key_str Tryz.underlying58 (β tod).2 _ rfl HNm4.out hlen (.string as_) (.int .i64 id) _ rfl rfl (WideMaps.keyOf_string_mk Tryz.underlying9 has) ?_; intro w5 hm5 ht5; rw [put_names] at hm5; have HM5 := Lib.hid hm5; have HW5 := Lib.hid ht5; clear hm5 ht5))
            go_ret
            rw [HR.out]
            exact ⟨rfl, (((Step.below HT.out HB.out).trans (Step.below HTB.out HB2.out)).trans HS3.out).trans (rename_tail HS3.out.tbl HD'.out HD2.out HM4.out HW4.out HM5.out HW5.out)⟩
    · rw [beq0_false p1] at hE
      have hE : In.placeE t tod as_ = E := hE
      rw [hE] at p1
      have HR := Lib.hid (show R = (E, t) by rw [HRR.out, beq0_false p1]; rfl)
      have e1 := bne0_true p1
      have HP1 := Lib.hid p1
      have HEE := Lib.hid hE
      have HN := Lib.hid hn
      have HND := Lib.hid hnd
      clear h F h1 h2 hn hnd hd hdd hfN hidd hl p1 hE
      go_enter Tryz.func25, Tryz.ntmps25
      go_wp2_with (first
        | (go_at_call 23; refine cf.mono ?_; rintro e w1 ⟨rfl, hb⟩; have HTB := Lib.hid (HT.out.below hb); have HB := Lib.hid hb; clear hb)
        | (go_at_call 48; refine (get_yes HTB.out HF.out.q0 hid HN.out HND.out).mono ?_; rintro e w' ⟨rfl, rfl⟩)
        | (go_at_call 51; refine (place_no HTB.out HF.out.q0 htod has HEE.out HP1.out).mono ?_; rintro e w2 ⟨rfl, hb⟩; have HB2 := Lib.hid hb; clear hb))
      go_ret
      rw [HR.out]
      exact ⟨rfl, (Step.below HT.out HB.out).trans (Step.below HTB.out HB2.out)⟩
  · rw [beq0_false h1] at hE
    have hE : In.unlinkE t dir s = E := hE
    rw [hE] at h1 h3
    rw [h2] at cf
    generalize hidd : In.findN t dir s = id at cf h3 hid
    have e0 := beq0_false h1
    have e1 := bne0_true h1
    have HR := Lib.hid (show R = (E, t) by rw [HRR.out, e0]; rfl)
    have HNE := Lib.hid h1
    have H3 := Lib.hid h3
    clear h F h1 h2 h3 hE hidd
    go_enter Tryz.func25, Tryz.ntmps25
    go_wp2_with (first
      | (go_at_call 23; refine cf.mono ?_; rintro e w1 ⟨rfl, hb⟩; have HTB := Lib.hid (HT.out.below hb); have HB := Lib.hid hb; clear hb)
      | (go_at_call 48; refine (get_no HTB.out HF.out.q0 hid H3.out HNE.out).mono ?_; rintro e w' ⟨rfl, rfl⟩))
    go_ret
    rw [HR.out]
    exact ⟨rfl, Step.below HT.out HB.out⟩
  · rw [beq0_false h1] at hE
    have hE : In.unlinkE t dir s = E := hE
    rw [hE] at h1 h2
    rw [h2] at cf
    have e0 := beq0_false h1
    have e1 := bne0_true h1
    have HR := Lib.hid (show R = (E, t) by rw [HRR.out, e0]; rfl)
    clear h F h1 h2 hE
    go_enter Tryz.func25, Tryz.ntmps25
    go_wp2_with (go_at_call 23; refine cf.mono ?_; rintro e w1 ⟨rfl, hb⟩; have HTB := Lib.hid (HT.out.below hb); have HB := Lib.hid hb; clear hb)
    go_ret
    rw [HR.out]
    exact ⟨rfl, Step.below HT.out HB.out⟩
end
end Go.Proofs.YtcicjklhbnipcaaGreat
namespace Go.Proofs.YtcicjklhbnipcaaGreat
set_option linter.unusedVariables false
set_option linter.unusedSimpArgs false
open Go.RowKit Go.Maps

theorem repeat_zero : ∀ c : Nat, Lib.repeatL [0] c = List.replicate c (0 : UInt8)
  | 0 => rfl
  | c + 1 => by
    have := repeat_zero c
    simp [Lib.repeatL, List.replicate_succ] at this ⊢
    exact this
theorem noughts_eq (c : Nat) : (⟨(Lib.repeatL (⟨#[0]⟩ : ByteArray).data.toList c).toArray⟩ : ByteArray) = In.noughts c := by
  show (⟨(Lib.repeatL [0] c).toArray⟩ : ByteArray) = _
  rw [repeat_zero]; rfl
theorem noughts_size (c : Nat) : (In.noughts c).size = c := by
  show ((List.replicate c (0 : UInt8)).toArray).size = c
  simp
theorem set_set {l : List NodeD} {n m : NodeD} (h : n.id = m.id) : In.set (In.set l n) m = In.set l m := by
  unfold In.set
  rw [List.map_map]
  refine List.map_congr_left fun x _ => ?_
  simp only [Function.comp]
  by_cases hx : x.id = n.id
  · have e1 : (x.id == n.id) = true := by simpa using hx
    have e2 : (x.id == m.id) = true := by rw [hx, h]; simp
    have e3 : (n.id == m.id) = true := by simpa using h
    simp only [e1, e2, e3, if_true]
  · have e1 : (x.id == n.id) = false := by simpa using hx
    simp only [e1, Bool.false_eq_true, if_false]
theorem setN_setN {t : TabD} {n m : NodeD} (h : n.id = m.id) : In.setN (In.setN t n) m = In.setN t m := by
  unfold In.setN
  simp only [set_set h]
section
variable {w : World} {g mb : Nat} {β : Int → Nat × Nat} {t : TabD}
theorem sized_tail (h : TblAt w g mb β t) {id : Int} {x : NodeD} (hx : In.find t.nodes id = some x) (n : Nat) :
    Step w (((w.setCell ⟨(β id).1, 3, none⟩ (.string (x.data ++ In.noughts (n - x.data.size)))).setCell ⟨(β id).1, 3, none⟩ (.string ((x.data ++ In.noughts (n - x.data.size)).extract 0 n))).setCell ⟨g, 1, none⟩ (.int .i64 (t.used + ((n : Int) - x.data.size)))) g mb β t (In.sizedT t id n) := by
  have hi := (find_mem hx).2
  have T := ((h.set_data hx (x.data ++ In.noughts (n - x.data.size))).set_data (find_self (n := { x with data := x.data ++ In.noughts (n - x.data.size) }) hx hi) ((x.data ++ In.noughts (n - x.data.size)).extract 0 n)).set_used (t.used + ((n : Int) - x.data.size))
  have e : In.sizedT t id n = ⟨t.quota, t.used + ((n : Int) - x.data.size), t.last, (In.setN t { x with data := (x.data ++ In.noughts (n - x.data.size)).extract 0 n }).nodes⟩ := by
    unfold In.sizedT
    rw [at_find hx, dataOf_eq hx]
    rfl
  have e2 : (In.setN (In.setN t { x with data := x.data ++ In.noughts (n - x.data.size) }) { x with data := (x.data ++ In.noughts (n - x.data.size)).extract 0 n }).nodes = (In.setN t { x with data := (x.data ++ In.noughts (n - x.data.size)).extract 0 n }).nodes :=
    congrArg TabD.nodes (setN_setN (t := t) (n := { x with data := x.data ++ In.noughts (n - x.data.size) }) (m := { x with data := (x.data ++ In.noughts (n - x.data.size)).extract 0 n }) rfl)
  rw [e, ← e2]
  refine ⟨T, (((Only.refl (foot g mb β t.nodes) w).setCell (p := ⟨(β id).1, 3, none⟩) (.inl (in_foot1 hx)) _).setCell (p := ⟨(β id).1, 3, none⟩) (.inl (in_foot1 hx)) _).setCell (p := ⟨g, 1, none⟩) (.inl (mem_foot.2 (.inl rfl))) _, fun k hk => ?_⟩
  have hf : foot g mb β (In.setN (In.setN t { x with data := x.data ++ In.noughts (n - x.data.size) }) { x with data := (x.data ++ In.noughts (n - x.data.size)).extract 0 n }).nodes = foot g mb β t.nodes := (foot_setN _).trans (foot_setN _)
  have hk' : k ∈ foot g mb β (In.setN (In.setN t { x with data := x.data ++ In.noughts (n - x.data.size) }) { x with data := (x.data ++ In.noughts (n - x.data.size)).extract 0 n }).nodes := hk
  rw [hf] at hk'
  exact hk'
theorem drewN_same (W : World) (k : Nat) : Below W.heap.size W (W.drewN k) := ⟨rfl, rfl, rfl, Nat.le_refl _, fun _ _ => rfl⟩
set_option maxHeartbeats 2000000 in
set_option maxRecDepth 100000 in
theorem sized_go (h : TblAt w g mb β t) (F : Fit t) {id : Int} (hid : Fits id) {x : NodeD} (hx : In.find t.nodes id = some x) {n : Nat} (hE : In.sizedE t x n = 0) :
    Calls Tryz.prog 47 #[.pointer (some ⟨g, 0, none⟩), .pointer (some ⟨(β id).1, 0, none⟩), .int .i64 n] w fun e w' => e = .returned (.int .i64 0) ∧ Step w w' g mb β t (In.sizedT t id n) := by
  unfold In.sizedE at hE
  have hn1 : (n : Int) ≤ 1048576 := by
    by_cases h : (1048576 : Int) < n
    · rw [decide_eq_true h] at hE; simp at hE
    · omega
  rw [decide_eq_false (show ¬ (1048576 : Int) < n by omega)] at hE
  have hsp : ¬ t.quota - t.used < (n : Int) - x.data.size := by
    by_cases h : t.quota - t.used < (n : Int) - x.data.size
    · rw [decide_eq_true h] at hE; simp at hE
    · exact h
  have hds := F.data x (find_mem hx).1
  have hA := h.at hx
  obtain ⟨c0, c1, c2, c3⟩ := tbl_cells h
  have d3 := (node_cells hA).2.2.2.1
  have f3 := free_row hA.row 3
  have f1 := free_row h.row 1
  have q1 := F.q1
  have q0 := F.q0
  have u0 := F.u0
  have u1 := F.u1
  have CR := Lib.hid (fun W : World => (by
    have e : max (0 : Int) ((n : Int) - x.data.size) = ((n - x.data.size : Nat) : Int) := by omega
    rw [e, ← noughts_eq]
    exact Tryz.strings_Repeat ⟨#[0]⟩ (n - x.data.size) W (by omega) (by show 1 * _ ≤ _; omega) : Calls Tryz.prog 68 #[.string ⟨#[0]⟩, .int .i64 (max (0 : Int) ((n : Int) - x.data.size))] W fun e w' => e = .returned (.string (In.noughts (n - x.data.size))) ∧ Below W.heap.size W w'))
  have hcat : x.data.size + (In.noughts (n - x.data.size)).size ≤ 9223372036854775807 := by rw [noughts_size]; omega
  have hle : (n : Int) ≤ ((x.data ++ In.noughts (n - x.data.size)).size : Int) := by rw [ByteArray.size_append, noughts_size]; omega
  have hne : g ≠ (β id).1 := by have := (h.apart_self (find_mem hx).1).2.1; rw [(find_mem hx).2] at this; exact this
  have hne' : (β id).1 ≠ g := fun e => hne e.symm
  have HT := Lib.hid h
  have HX := Lib.hid hx
  clear h F hx hA hE
  go_enter Tryz.func47, Tryz.ntmps47
  go_wp2_with fail
  go_quiet (fail)
  go_wp2_with fail
  go_region_with (go_at_call 68; refine (CR.out _).mono ?_; rintro e w1 ⟨rfl, hb⟩; have TB := (HT.out.on (w' := w.drewN _) (fun _ _ => rfl)).below hb; have HTB := Lib.hid TB; have hA1 := TB.at HX.out; have d3' := (node_cells hA1).2.2.2.1; have f3' := free_row hA1.row 3; have c1' := (tbl_cells TB).2.1; have f1' := free_row TB.row 1; have HB := Lib.hid hb; clear hb TB hA1)
  all_goals
    clear d3 f3 c1 f1 c0 c2 c3
    go_wp2_with fail
    go_ret
    exact ⟨rfl, (Step.below HT.out ((drewN_same w _).trans HB.out)).trans (sized_tail HTB.out HX.out n)⟩
end
end Go.Proofs.YtcicjklhbnipcaaGreat
namespace Go.Proofs.YtcicjklhbnipcaaGreat
set_option linter.unusedVariables false
set_option linter.unusedSimpArgs false
open Go.RowKit Go.Maps

section
variable {w : World} {g mb : Nat} {β : Int → Nat × Nat} {t : TabD}
set_option maxHeartbeats 1000000 in
theorem sized_no (h : TblAt w g mb β t) (F : Fit t) {id : Int} {x : NodeD} (hx : In.find t.nodes id = some x) {n : Nat} (hn : n ≤ 9223372036854775807) {E : Int} (hE : In.sizedE t x n = E) (h0 : E ≠ 0) :
    Calls Tryz.prog 47 #[.pointer (some ⟨g, 0, none⟩), .pointer (some ⟨(β id).1, 0, none⟩), .int .i64 n] w fun e w' => e = .returned (.int .i64 E) ∧ Below w.heap.size w w' := by
  unfold In.sizedE at hE
  have hA := h.at hx
  obtain ⟨c0, c1, c2, c3⟩ := tbl_cells h
  have d3 := (node_cells hA).2.2.2.1
  have hds := F.data x (find_mem hx).1
  have q1 := F.q1
  have q0 := F.q0
  have u0 := F.u0
  have u1 := F.u1
  clear F
  by_cases h1 : (1048576 : Int) < n
  · rw [decide_eq_true h1] at hE
    have hE : 5 = E := hE
    subst hE
    clear h hx hA
    go_enter Tryz.func47, Tryz.ntmps47
    go_wp2_with fail
    go_ret
    exact ⟨rfl, Below.refl _ _⟩
  · rw [decide_eq_false h1] at hE
    have h1' : (n : Int) ≤ 1048576 := by omega
    cases hsp : decide (t.quota - t.used < (n : Int) - x.data.size) with
    | false => rw [hsp] at hE; exact absurd hE.symm h0
    | true =>
      rw [hsp] at hE
      have hE : 6 = E := hE
      subst hE
      have hsp' := of_decide_eq_true hsp
      clear h hx hA hsp h1
      go_enter Tryz.func47, Tryz.ntmps47
      go_wp2_with fail
      go_quiet (fail)
      go_wp2_with fail
      go_ret
      exact ⟨rfl, drewN_same _ _⟩
theorem sized_dec {x : NodeD} {n : Nat} : In.sizedE t x n = 0 ∨ In.sizedE t x n ≠ 0 := by omega
set_option maxHeartbeats 1000000 in
theorem Truncate_any (h : TblAt w g mb β t) (F : Fit t) {id : Int} (hid : Fits id) {n : Int} (hn : n ≤ 9223372036854775807) :
    Calls Tryz.prog 26 #[.pointer (some ⟨g, 0, none⟩), .int .i64 id, .int .i64 n] w (RStep w g mb β t (In.trunc t id n)) := by
  obtain ⟨E, hE⟩ : ∃ E, In.truncE t id n = E := ⟨_, rfl⟩
  obtain ⟨R, hRR⟩ : ∃ R, In.trunc t id n = R := ⟨_, rfl⟩
  have hR : R = if E == 0 then (0, In.sizedT t id n) else (E, t) := by rw [← hRR, ← hE]; rfl
  rw [hRR]
  have HRR := Lib.hid hR
  clear hR hRR
  unfold In.truncE at hE
  have HT := Lib.hid h
  rcases fileE_dec (t := t) (id := id) (k := n) with ⟨h1, x, hx, hxd, hk⟩ | h1
  · have cf := file_yes h F.q0 hid hx hxd hk
    obtain ⟨m, rfl⟩ : ∃ m : Nat, n = m := ⟨n.toNat, by have := of_decide_eq_false hk; omega⟩
    rw [h1, at_find hx] at hE
    have hE : In.sizedE t x m = E := hE
    rcases sized_dec (t := t) (x := x) (n := m) with h2 | h2
    · have cs := sized_go h F hid hx h2
      rw [h2] at hE
      subst hE
      have HR := Lib.hid (show R = (0, In.sizedT t id m) from HRR.out)
      clear h F h1 hx hxd hk h2
      go_enter Tryz.func26, Tryz.ntmps26
      go_wp2_with (first
        | (go_at_call 46; refine cf.mono ?_; rintro e w' ⟨rfl, rfl⟩)
        | (go_at_call 47; refine cs.mono ?_; rintro e w3 ⟨rfl, hs3⟩; have HS3 := Lib.hid hs3; clear hs3))
      go_ret
      rw [HR.out]
      exact ⟨rfl, HS3.out⟩
    · have cs := sized_no h F hx (by omega) hE (hE ▸ h2)
      have e0 := beq0_false (hE ▸ h2 : E ≠ 0)
      have HR := Lib.hid (show R = (E, t) by rw [HRR.out, e0]; rfl)
      clear h F h1 hx hxd hk h2 hE
      go_enter Tryz.func26, Tryz.ntmps26
      go_wp2_with (first
        | (go_at_call 46; refine cf.mono ?_; rintro e w' ⟨rfl, rfl⟩)
        | (go_at_call 47; refine cs.mono ?_; rintro e w3 ⟨rfl, hb⟩; have HB := Lib.hid hb; clear hb))
      go_ret
      rw [HR.out]
      exact ⟨rfl, Step.below HT.out HB.out⟩
  · rw [beq0_false h1] at hE
    have hE : In.fileE t id n = E := hE
    have cf := file_no h F.q0 hid hE (hE ▸ h1)
    have e0 := bne0_true (hE ▸ h1 : E ≠ 0)
    have HR := Lib.hid (show R = (E, t) by rw [HRR.out, beq0_false (hE ▸ h1 : E ≠ 0)]; rfl)
    clear h F h1 hE
    go_enter Tryz.func26, Tryz.ntmps26
    go_wp2_with (go_at_call 46; refine cf.mono ?_; rintro e w' ⟨rfl, rfl⟩)
    go_ret
    rw [HR.out]
    exact ⟨rfl, Step.refl HT.out⟩
theorem resized_size (d : ByteArray) (n : Nat) : (In.resized d n).size = n := by
  unfold In.resized
  rw [ByteArray.size_extract, ByteArray.size_append, noughts_size]
  omega
theorem find_sized {id : Int} {x : NodeD} (hx : In.find t.nodes id = some x) (n : Int) : In.find (In.sizedT t id n).nodes id = some { x with data := In.resized x.data n.toNat } := by
  unfold In.sizedT
  show In.find (In.dataOf t id (In.resized (In.at_ t id).data n.toNat)).nodes id = _
  rw [at_find hx, dataOf_eq hx]
  exact find_self (n := { x with data := In.resized x.data n.toNat }) hx (find_mem hx).2
theorem step_data {w' : World} {t' : TabD} (S : Step w w' g mb β t t') {id : Int} {x : NodeD} (hx : In.find t'.nodes id = some x) (v : ByteArray) : Step w (w'.setCell ⟨(β id).1, 3, none⟩ (.string v)) g mb β t (In.dataOf t' id v) := by
  rw [dataOf_eq hx]
  refine ⟨S.tbl.set_data hx v, S.only.setCell (p := ⟨(β id).1, 3, none⟩) (.inl (S.foot _ (in_foot1 hx))) _, fun k hk => S.foot k ?_⟩
  have e : foot g mb β (In.setN t' { x with data := v }).nodes = foot g mb β t'.nodes := foot_setN _
  rw [e] at hk
  exact hk
theorem step_drew {w' : World} {t' : TabD} (S : Step w w' g mb β t t') : Step w w'.drew g mb β t t' := ⟨S.tbl.on (fun _ _ => rfl), S.only.drew, S.foot⟩
theorem empty_eq (s : ByteArray) : s.toList.isEmpty = decide (s.size = 0) := by
  rw [ByteArray.toList_eq, Bool.eq_iff_iff, List.isEmpty_iff, decide_eq_true_iff]
  constructor
  · intro h; have := congrArg List.length h; simpa using this
  · intro h; exact List.length_eq_zero_iff.1 (by simpa using h)
set_option maxHeartbeats 4000000 in
set_option maxRecDepth 100000 in
theorem Write_any (h : TblAt w g mb β t) (F : Fit t) {id : Int} (hid : Fits id) {a : Int} (ha : a ≤ 9223372036854775807) {s : ByteArray} (hs : s.size ≤ maxLen) :
    Calls Tryz.prog 16 #[.pointer (some ⟨g, 0, none⟩), .int .i64 id, .int .i64 a, .string s] w (RStep w g mb β t (In.write t id a s)) := by
  rw [maxLen_val] at hs
  obtain ⟨E, hE⟩ : ∃ E, In.writeE t id a s = E := ⟨_, rfl⟩
  obtain ⟨R, hRR⟩ : ∃ R, In.write t id a s = R := ⟨_, rfl⟩
  have hR : R = if E == 0 then (0, In.writeT t id a s) else (E, t) := by rw [← hRR, ← hE]; rfl
  rw [hRR]
  have HRR := Lib.hid hR
  clear hR hRR
  unfold In.writeE at hE
  have HT := Lib.hid h
  rcases fileE_dec (t := t) (id := id) (k := a) with ⟨h1, x, hx, hxd, hk⟩ | h1
  · have cf := file_yes h F.q0 hid hx hxd hk
    obtain ⟨m, rfl⟩ : ∃ m : Nat, a = m := ⟨a.toNat, by have := of_decide_eq_false hk; omega⟩
    rw [h1, at_find hx] at hE
    have hds := F.data x (find_mem hx).1
    cases k1 : decide ((1048576 : Int) < m) with
    | true =>
      rw [k1] at hE
      have hE : 5 = E := hE
      subst hE
      have HR := Lib.hid (show R = (5, t) from HRR.out)
      clear h F h1 hx hxd hk
      go_enter Tryz.func16, Tryz.ntmps16
      go_wp2_with (go_at_call 46; refine cf.mono ?_; rintro e w' ⟨rfl, rfl⟩)
      go_ret
      rw [HR.out]
      exact ⟨rfl, Step.refl HT.out⟩
    | false =>
      have m1 := of_decide_eq_false k1
      cases k2 : decide ((1048576 : Int) - m < s.size) with
      | true =>
        rw [k1, k2] at hE
        have hE : 5 = E := hE
        subst hE
        have HR := Lib.hid (show R = (5, t) from HRR.out)
        clear h F h1 hx hxd hk
        go_enter Tryz.func16, Tryz.ntmps16
        go_wp2_with (go_at_call 46; refine cf.mono ?_; rintro e w' ⟨rfl, rfl⟩)
        go_ret
        rw [HR.out]
        exact ⟨rfl, Step.refl HT.out⟩
      | false =>
        have m2 := of_decide_eq_false k2
        rw [k1, k2] at hE
        have hE : (if s.size == 0 then 0 else In.sizedE t x (max ((m : Int) + s.size) x.data.size)) = E := hE
        have hemp := empty_eq s
        by_cases hz : s.size = 0
        · rw [decide_eq_true hz] at hemp
          rw [hz] at hE
          have hE : 0 = E := hE
          subst hE
          have HR := Lib.hid (show R = (0, t) by
            rw [HRR.out]
            show (0, In.writeT t id m s) = _
            unfold In.writeT
            rw [hz]; rfl)
          clear h F h1 hx hxd hk
          go_enter Tryz.func16, Tryz.ntmps16
          go_wp2_with (go_at_call 46; refine cf.mono ?_; rintro e w' ⟨rfl, rfl⟩)
          go_ret
          rw [HR.out]
          exact ⟨rfl, Step.refl HT.out⟩
        · rw [decide_eq_false hz] at hemp
          have hz' : (s.size == 0) = false := by simpa using hz
          rw [hz'] at hE
          have hE : In.sizedE t x (max ((m : Int) + s.size) x.data.size) = E := hE
          have em : max ((m : Int) + s.size) (x.data.size : Int) = ((max (m + s.size) x.data.size : Nat) : Int) := by omega
          have d3 := (node_cells (h.at hx)).2.2.2.1
          rw [em] at hE
          rcases sized_dec (t := t) (x := x) (n := max (m + s.size) x.data.size) with h2 | h2
          · have cs := sized_go h F hid hx h2
            rw [h2] at hE
            subst hE
            have HR := Lib.hid (show R = (0, In.overT (In.sizedT t id ((max (m + s.size) x.data.size : Nat) : Int)) id m s) by
              rw [HRR.out]
              show (0, In.writeT t id m s) = _
              unfold In.writeT
              rw [at_find hx, hz', em]; rfl)
            have hx1 := find_sized hx ((max (m + s.size) x.data.size : Nat) : Int)
            rw [Int.toNat_natCast] at hx1
            have hr := resized_size x.data (max (m + s.size) x.data.size)
            generalize In.resized x.data (max (m + s.size) x.data.size) = D at hx1 hr
            generalize In.sizedT t id ((max (m + s.size) x.data.size : Nat) : Int) = t1 at cs hx1 HR
            rw [← em] at cs
            have hl1 : (m : Int) ≤ D.size := by omega
            have hl2 : (m : Int) + s.size ≤ D.size := by omega
            have hl0 : (0 : Int) ≤ (m : Int) + s.size := by omega
            have ht0 : ((m : Int) + s.size).toNat = m + s.size := by omega
            have g1 : ¬ (9223372036854775807 < min m D.size + s.size) := by omega
            have g2 : ¬ (9223372036854775807 < min m D.size + s.size + (D.size - (m + s.size))) := by omega
            have HX1 := Lib.hid hx1
            clear h F h1 hx hxd hk h2 hx1 hr em
            go_enter Tryz.func16, Tryz.ntmps16
            go_wp2_with (first
              | (go_at_call 46; refine cf.mono ?_; rintro e w' ⟨rfl, rfl⟩)
              | (go_at_call 47; refine cs.mono ?_; rintro e w3 ⟨rfl, hs3⟩; have HS3 := Lib.hid hs3; have hA3 := hs3.tbl.at HX1.out; have e3 := (node_cells hA3).2.2.2.1; have f3 := free_row hA3.row 3; clear hs3 hA3 d3))
            go_still_tail 18, (by kernel_rfl)
            change wpList _ _ _ _ _ w3.drew
            go_wp2_with fail
            go_ret
            rw [HR.out]
            exact ⟨rfl, (by unfold In.overT; rw [at_find HX1.out]; exact step_data (step_drew HS3.out) HX1.out _)⟩
          · have cs := sized_no h F hx (by omega) hE (hE ▸ h2)
            rw [← em] at cs
            have e0 := beq0_false (hE ▸ h2 : E ≠ 0)
            have e1 := bne0_true (hE ▸ h2 : E ≠ 0)
            have HR := Lib.hid (show R = (E, t) by rw [HRR.out, e0]; rfl)
            clear h F h1 hx hxd hk h2 hE em
            go_enter Tryz.func16, Tryz.ntmps16
            go_wp2_with (first
              | (go_at_call 46; refine cf.mono ?_; rintro e w' ⟨rfl, rfl⟩)
              | (go_at_call 47; refine cs.mono ?_; rintro e w3 ⟨rfl, hb⟩; have HB := Lib.hid hb; clear hb))
            go_ret
            rw [HR.out]
            exact ⟨rfl, Step.below HT.out HB.out⟩
  · rw [beq0_false h1] at hE
    have hE : In.fileE t id a = E := hE
    have cf := file_no h F.q0 hid hE (hE ▸ h1)
    have e0 := bne0_true (hE ▸ h1 : E ≠ 0)
    have HR := Lib.hid (show R = (E, t) by rw [HRR.out, beq0_false (hE ▸ h1 : E ≠ 0)]; rfl)
    clear h F h1 hE
    go_enter Tryz.func16, Tryz.ntmps16
    go_wp2_with (go_at_call 46; refine cf.mono ?_; rintro e w' ⟨rfl, rfl⟩)
    go_ret
    rw [HR.out]
    exact ⟨rfl, Step.refl HT.out⟩
end
end Go.Proofs.YtcicjklhbnipcaaGreat
namespace Go.Proofs.YtcicjklhbnipcaaGreat
set_option linter.unusedVariables false
set_option linter.unusedSimpArgs false
open Go.RowKit Go.Maps

theorem extract_twice (d : ByteArray) (a k : Nat) (ha : a ≤ d.size) (hk : k ≤ d.size - a) : (d.extract a d.size).extract 0 k = d.extract a (a + k) := by
  apply ByteArray.ext
  rw [ByteArray.data_extract, ByteArray.data_extract, ByteArray.data_extract]
  rw [Array.extract_extract]
  congr 1
  omega
section
variable {w : World} {g mb : Nat} {β : Int → Nat × Nat} {t : TabD}
set_option maxHeartbeats 1000000 in
theorem Read_any (h : TblAt w g mb β t) (F : Fit t) {id : Int} (hid : Fits id) (a n : Int) :
    Calls Tryz.prog 19 #[.pointer (some ⟨g, 0, none⟩), .int .i64 id, .int .i64 a, .int .i64 n] w fun e w' => e = .returned (.tuple #[.string (In.read t id a n), .int .i64 (In.readE t id a n)]) ∧ Below w.heap.size w w' := by
  obtain ⟨E, hE⟩ : ∃ E, In.readE t id a n = E := ⟨_, rfl⟩
  obtain ⟨S, hS⟩ : ∃ S, In.read t id a n = S := ⟨_, rfl⟩
  have hS' : S = if E == 0 then In.part (In.at_ t id).data a n else ByteArray.empty := by rw [← hS, ← hE]; rfl
  rw [hE, hS]
  have HS := Lib.hid hS'
  clear hS hS'
  have hE : In.fileE t id (min a n) = E := hE
  rcases fileE_dec (t := t) (id := id) (k := min a n) with ⟨h1, x, hx, hxd, hk⟩ | h1
  · have cf := file_yes h F.q0 hid hx hxd hk
    rw [h1] at hE
    subst hE
    have hk0 := of_decide_eq_false hk
    obtain ⟨m, rfl⟩ : ∃ m : Nat, a = m := ⟨a.toNat, by omega⟩
    obtain ⟨k, rfl⟩ : ∃ k : Nat, n = k := ⟨n.toNat, by omega⟩
    have HP := Lib.hid (show S = In.part x.data m k by rw [HS.out, at_find hx]; rfl)
    have d3 := (node_cells (h.at hx)).2.2.2.1
    have hds := F.data x (find_mem hx).1
    have e1 : min (m : Int) (x.data.size : Int) = ((min m x.data.size : Nat) : Int) := by omega
    have z1 : (0 : Int) ≤ ((min m x.data.size : Nat) : Int) := by omega
    have z2 : ((min m x.data.size : Nat) : Int) ≤ x.data.size := by omega
    clear h F h1 hx hxd hk hk0
    go_enter Tryz.func19, Tryz.ntmps19
    go_wp2_with (go_at_call 46; refine cf.mono ?_; rintro e w' ⟨rfl, rfl⟩)
    go_quiet (fail)
    go_wp2_with fail
    go_ret2
    refine ⟨?_, drewN_same _ _⟩
    rw [HP.out]
    refine congrArg (fun z => Ending.returned (.tuple #[.string z, .int .i64 0])) (?_ : (x.data.extract (min m x.data.size) x.data.size).extract 0 _ = _)
    rw [extract_twice _ _ _ (by omega) (by omega)]
    show x.data.extract _ _ = x.data.extract (min (m : Int).toNat x.data.size) _
    congr 1
    omega
  · have cf := file_no h F.q0 hid hE (hE ▸ h1)
    have e0 := bne0_true (hE ▸ h1 : E ≠ 0)
    have HP := Lib.hid (show S = ByteArray.empty by rw [HS.out, beq0_false (hE ▸ h1 : E ≠ 0)]; rfl)
    clear h F h1 hE
    go_enter Tryz.func19, Tryz.ntmps19
    go_wp2_with (go_at_call 46; refine cf.mono ?_; rintro e w' ⟨rfl, rfl⟩)
    go_ret2
    rw [HP.out]
    exact ⟨rfl, Below.refl _ _⟩
/-- A table has gone on: its inodes may lie elsewhere, in new blocks. -/
def Goes (w : World) (g mb : Nat) (β : Int → Nat × Nat) (t : TabD) (w' : World) (t' : TabD) : Prop :=
  ∃ β', TblAt w' g mb β' t' ∧ Only (foot g mb β t.nodes) w w' ∧ ∀ k ∈ foot g mb β' t'.nodes, k ∈ foot g mb β t.nodes ∨ w.heap.size ≤ k
theorem Step.goes {w' : World} {t' : TabD} (S : Step w w' g mb β t t') : Goes w g mb β t w' t' := ⟨β, S.tbl, S.only, fun k hk => .inl (S.foot k hk)⟩
/-- A new inode's block and its names' block are laid; it is put into the map, and its name into the directory. -/
def putβ (β : Int → Nat × Nat) (id : Int) (p : Nat × Nat) : Int → Nat × Nat := fun i => if i = id then p else β i
theorem nodesL_putβ {l : List NodeD} {id : Int} {p : Nat × Nat} (hl : ∀ n ∈ l, n.id ≠ id) : nodesL (putβ β id p) l = nodesL β l := by
  unfold nodesL putβ
  refine List.map_congr_left fun n hn => ?_
  rw [if_neg (hl n hn)]
theorem foot_putβ {l : List NodeD} {id : Int} {p : Nat × Nat} (hl : ∀ n ∈ l, n.id ≠ id) : foot g mb (putβ β id p) l = foot g mb β l := by
  unfold foot putβ
  congr 2
  rw [List.flatMap_def, List.flatMap_def]
  congr 1
  refine List.map_congr_left fun n hn => ?_
  rw [if_neg (hl n hn)]
theorem ins_last {β : Int → Nat × Nat} {id : Int} {v : Value} : ∀ {l : List NodeD}, (∀ n ∈ l, n.id < id) → insL (.int .i64 id, v) (nodesL β l) = nodesL β l ++ [(.int .i64 id, v)]
  | [], _ => rfl
  | y :: r, h => by
    have ih := ins_last (β := β) (v := v) (l := r) fun n hn => h n (by simp [hn])
    unfold nodesL at ih ⊢
    simp only [List.map_cons, insL]
    have e : (Lit.int .i64 id).before (.int .i64 y.id) = false := by
      show decide (id < y.id) = false
      have := h y (by simp)
      exact decide_eq_false (by omega)
    rw [e]
    simp only [Bool.false_eq_true, if_false, ih, List.cons_append]
theorem put_last {id : Int} {v : Value} {l : List NodeD} (h : ∀ n ∈ l, n.id < id) : putL (.int .i64 id) v (nodesL β l) = nodesL β l ++ [(.int .i64 id, v)] := by
  unfold putL
  rw [del_nodes]
  have e : In.del l id = l := by
    unfold In.del
    rw [List.filter_eq_self]
    intro n hn
    have := h n hn
    have e2 : (n.id == id) = false := beq_eq_false_iff_ne.2 (by omega)
    rw [e2]; rfl
  rw [e]
  exact ins_last h
theorem foot_grow {l : List NodeD} {n : NodeD} {b m : Nat} (hne : ∀ k ∈ l, k.id ≠ n.id) : foot g mb (putβ β n.id (b, m)) (l ++ [n]) = foot g mb β l ++ [b, m] := by
  have e := foot_putβ (g := g) (mb := mb) (β := β) (p := (b, m)) hne
  unfold foot at e ⊢
  rw [List.flatMap_append]
  simp only [List.flatMap_cons, List.flatMap_nil, List.append_nil, List.cons_append]
  simp only [List.cons.injEq, true_and] at e
  rw [e]
  simp [putβ]
/-- A table that has one more inode, its last. -/
theorem TblAt.grow {w' : World} (h : TblAt w g mb β t) {id : Int} (hl : ∀ n ∈ t.nodes, n.id < id) {b m : Nat} {n : NodeD} (hid : n.id = id) (hw : ∀ k ∈ foot g mb β t.nodes, k ≠ mb → w'.heap[k]? = w.heap[k]?)
    (hm : MapAt Tryz.prog 3 w' mb (putL (.int .i64 id) (.pointer (some ⟨b, 0, none⟩)) (nodesL β t.nodes))) (hN : NodeAt w' b m n) (hb : w.heap.size ≤ b) (hmm : w.heap.size ≤ m) : TblAt w' g mb (putβ β id (b, m)) { t with nodes := t.nodes ++ [n] } := by
  subst hid
  have hne : ∀ k ∈ t.nodes, k.id ≠ n.id := fun k hk => by have := hl k hk; omega
  have hbm : b ≠ m := fun e => by
    obtain ⟨es, clock, h2, _⟩ := hN.names
    have h1 := hN.row
    rw [e, h2] at h1
    cases h1
  have hf : foot g mb (putβ β n.id (b, m)) (t.nodes ++ [n]) = foot g mb β t.nodes ++ [b, m] := foot_grow hne
  have hlt := h.lt
  refine ⟨?_, ?_, ?_, ?_⟩
  · exact (hw g (mem_foot.2 (.inl rfl)) h.apart_mb).trans h.row
  · rw [put_last hl] at hm
    show MapAt _ _ _ _ (nodesL _ (t.nodes ++ [n]))
    have e : nodesL (putβ β n.id (b, m)) (t.nodes ++ [n]) = nodesL β t.nodes ++ [(.int .i64 n.id, .pointer (some ⟨b, 0, none⟩))] := by
      rw [← nodesL_putβ (β := β) (p := (b, m)) hne]
      unfold nodesL
      rw [List.map_append]
      simp [putβ]
    rw [e]
    exact hm
  · intro k hk
    rcases List.mem_append.1 hk with hk | hk
    · have e : putβ β n.id (b, m) k.id = β k.id := by unfold putβ; rw [if_neg (hne k hk)]
      rw [e]
      exact (h.node k hk).on (hw _ (mem_foot.2 (.inr (.inr ⟨k, hk, .inl rfl⟩))) (fun e => (h.apart_self hk).2.2.2.1 e.symm)) (hw _ (mem_foot.2 (.inr (.inr ⟨k, hk, .inr rfl⟩))) (fun e => (h.apart_self hk).2.2.2.2 e.symm))
    · have : k = n := by simpa using hk
      subst this
      have e : putβ β k.id (b, m) k.id = (b, m) := by unfold putβ; rw [if_pos rfl]
      rw [e]
      exact hN
  · show (foot g mb (putβ β n.id (b, m)) (t.nodes ++ [n])).Nodup
    rw [hf, List.nodup_append]
    refine ⟨h.apart, by simp [hbm], fun a ha c hc e => ?_⟩
    have := hlt a ha
    rcases List.mem_cons.1 hc with rfl | hc
    · omega
    · have : c = m := by simpa using hc
      omega
theorem putβ_ne {id : Int} {p : Nat × Nat} {i : Int} (h : i ≠ id) : putβ β id p i = β i := by unfold putβ; rw [if_neg h]
theorem find_append {l : List NodeD} {n d : NodeD} {id : Int} (h : In.find l id = some d) : In.find (l ++ [n]) id = some d := by
  unfold In.find at h ⊢
  rw [List.find?_append, h]; rfl
theorem makeT_eq {dir : Int} {d : NodeD} (hd : In.find t.nodes dir = some d) {s : ByteArray} {isDir : Bool} (hne : dir ≠ t.last + 1) :
    In.makeT t dir s isDir = In.setN ⟨t.quota, t.used + 64, t.last + 1, t.nodes ++ [⟨t.last + 1, isDir, 1, 0, ByteArray.empty, []⟩]⟩ { d with names := In.with_ d.names s (t.last + 1) } := by
  unfold In.makeT
  rw [nameIn_eq hd]
  unfold In.setN
  simp only [TabD.mk.injEq, true_and]
  show In.set _ _ ++ _ = In.set (_ ++ _) _
  unfold In.set
  rw [List.map_append]
  congr 1
  have hi := (find_mem hd).2
  have e : ((t.last + 1 : Int) == d.id) = false := by rw [hi]; exact beq_eq_false_iff_ne.2 fun e => hne e.symm
  simp only [List.map_cons, List.map_nil, e, Bool.false_eq_true, if_false]
/-- What Make's last two statements begin with. -/
theorem make_tail {wA wB : World} (h : TblAt wA g mb β { t with last := t.last + 1, used := t.used + 64 }) {dir : Int} {d : NodeD} (hd : In.find t.nodes dir = some d) (isDir : Bool) (hlast : ∀ n ∈ t.nodes, n.id ≤ t.last) (hid : Fits (t.last + 1))
    (hm : MapAt Tryz.prog 3 wB mb (putL (.int .i64 (t.last + 1)) (.pointer (some ⟨wA.heap.size + 1, 0, none⟩)) (nodesL β t.nodes)))
    (ht : (((wA.alloc (Obj.map #[] 0)).alloc (Obj.cells #[.bool isDir, .int .i64 1, .int .i64 0, .string { data := #[] }, .map (some wA.heap.size)] 60)).drew).mapTurned wB mb) :
    TblAt wB g mb (putβ β (t.last + 1) (wA.heap.size + 1, wA.heap.size)) ⟨t.quota, t.used + 64, t.last + 1, t.nodes ++ [⟨t.last + 1, isDir, 1, 0, ByteArray.empty, []⟩]⟩ ∧
      In.find (t.nodes ++ [⟨t.last + 1, isDir, 1, 0, ByteArray.empty, []⟩]) dir = some d ∧ Only (foot g mb β t.nodes) wA wB := by
  have hmb := MapAt.lt h.map
  have hold : ∀ k, k < wA.heap.size → k ≠ mb → wB.heap[k]? = wA.heap[k]? := fun k hk hne => by
    rw [turned_other ht hne]
    show ((wA.alloc (Obj.map #[] 0)).alloc _).heap[k]? = _
    rw [Below.heap_alloc _ _ _ (by simp; omega), Below.heap_alloc _ _ _ hk]
  have hN : NodeAt wB (wA.heap.size + 1) wA.heap.size ⟨t.last + 1, isDir, 1, 0, ByteArray.empty, []⟩ := by
    constructor
    · rw [turned_other ht (by omega)]
      show ((wA.alloc (Obj.map #[] 0)).alloc _).heap[wA.heap.size + 1]? = _
      have := heap_alloc_new (wA.alloc (Obj.map #[] 0)) (Obj.cells #[.bool isDir, .int .i64 1, .int .i64 0, .string { data := #[] }, .map (some wA.heap.size)] 60)
      have e : (wA.alloc (Obj.map #[] 0)).heap.size = wA.heap.size + 1 := by simp
      rw [e] at this
      exact this
    · refine MapAt.on (w := wA.alloc (Obj.map #[] 0)) (MapAt.made wA) ?_
      rw [turned_other ht (by omega)]
      show ((wA.alloc (Obj.map #[] 0)).alloc _).heap[wA.heap.size]? = _
      rw [Below.heap_alloc _ _ _ (by simp)]
  refine ⟨h.grow (fun n hn => by have := hlast n hn; omega) rfl (fun k hk hne => hold k (h.lt k hk) hne) hm hN (by omega) (Nat.le_refl _), find_append hd, ?_⟩
  refine Only.turned (w := ((wA.alloc (Obj.map #[] 0)).alloc (Obj.cells #[.bool isDir, .int .i64 1, .int .i64 0, .string { data := #[] }, .map (some wA.heap.size)] 60)).drew) ?_ ht (.inl (mem_foot.2 (.inr (.inl rfl))))
  exact (((Only.refl _ _).alloc _).alloc _).drew
theorem nodes_len : (nodesL β t.nodes).length = t.nodes.length := by simp [nodesL]
set_option maxHeartbeats 4000000 in
set_option maxRecDepth 100000 in
theorem Make_yes (h : TblAt w g mb β t) (F : Fit t) {dir : Int} (hdir : Fits dir) {s : ByteArray} (hs : s.size ≤ maxLen) (isDir : Bool) (hE : In.makeE t dir s = 0) (hlast : ∀ n ∈ t.nodes, n.id ≤ t.last) (hl0 : 0 ≤ t.last) (hl1 : t.last ≤ 4611686018427387904) :
    Calls Tryz.prog 15 #[.pointer (some ⟨g, 0, none⟩), .int .i64 dir, .string s, .bool isDir] w fun e w' => e = .returned (.tuple #[.int .i64 (t.last + 1), .int .i64 0]) ∧ Goes w g mb β t w' (In.makeT t dir s isDir) := by
  unfold In.makeE at hE
  rcases emptyE_dec (t := t) (dir := dir) (s := s) with ⟨h2, d, hd, hdd, hN, hl⟩ | h2
  · have ce := empty_yes h F.q0 hdir hs hd hdd hN hl
    rw [h2] at hE
    have k1 : decide (4096 ≤ (t.nodes.length : Int)) = false := by
      cases hk : decide (4096 ≤ (t.nodes.length : Int)) with
      | false => rfl
      | true => rw [hk] at hE; simp at hE
    rw [k1] at hE
    have k2 : decide (t.quota - t.used < 64) = false := by
      cases hk : decide (t.quota - t.used < 64) with
      | false => rfl
      | true => rw [hk] at hE; simp at hE
    have c1 := of_decide_eq_false k1
    have c2 := of_decide_eq_false k2
    have q1 := F.q1
    have q0 := F.q0
    have u0 := F.u0
    have u1 := F.u1
    have hlen := (F.node d (find_mem hd).1).2.2
    have hdl : dir ≠ t.last + 1 := by have := hlast d (find_mem hd).1; rw [(find_mem hd).2] at this; omega
    have hidL : Fits (t.last + 1) := fits_of (by omega) (by omega)
    have HT := Lib.hid h
    clear h F h2 hE
    go_enter Tryz.func15, Tryz.ntmps15
    go_wp2_with (first
      | (go_at_call 45; refine ce.mono ?_; rintro e w1 ⟨rfl, hb⟩; have TB := HT.out.below hb; have HTB := Lib.hid TB; have HB := Lib.hid hb; obtain ⟨b0, b1, b2, b3⟩ := tbl_cells TB; have f1 := free_row TB.row 1; have f2 := free_row TB.row 2; have HNm := Lib.hid TB.map; clear TB hb)
      | (at_len; refine wpList_len_at _ rfl _ 54 rfl 3 57 Tryz.underlying54 mb _ _ nodes_len rfl HNm.out ?_))
    go_quiet (fail)
    go_upto_region 10 with fail
    have TA : TblAt (((w1.drewN nq).setCell ⟨g, 2, none⟩ (.int .i64 (t.last + 1))).setCell ⟨g, 1, none⟩ (.int .i64 (t.used + 64))) g mb β { t with last := t.last + 1, used := t.used + 64 } :=
      ((HTB.out.on (w' := w1.drewN nq) (fun _ _ => rfl)).set_last (t.last + 1)).set_used (t.used + 64)
    have hOA : Only (foot g mb β t.nodes) w1 (((w1.drewN nq).setCell ⟨g, 2, none⟩ (.int .i64 (t.last + 1))).setCell ⟨g, 1, none⟩ (.int .i64 (t.used + 64))) :=
      (((Only.of_below (drewN_same w1 nq)).setCell (p := ⟨g, 2, none⟩) (.inl (mem_foot.2 (.inl rfl))) _).setCell (p := ⟨g, 1, none⟩) (.inl (mem_foot.2 (.inl rfl))) _)
    have HTA := Lib.hid TA
    have HOA := Lib.hid hOA
    clear TA hOA b0 b1 b2 b3 f1 f2
    generalize World.setCell (World.setCell _ _ _) _ _ = wA at *
    obtain ⟨b0, b1, b2, b3⟩ := tbl_cells HTA.out
    have hmm := @run_makeMap Tryz.prog
    have hg := HTA.out.lt g (mem_foot.2 (.inl rfl))
    have hid1 : Fits (t.last + 1) := fits_of (by omega) (by omega)
    obtain ⟨wB, hrun, hmB, htB⟩ := MapAt.store (P := Tryz.prog) (w := ((wA.alloc (Obj.map #[] 0)).alloc (Obj.cells #[.bool isDir, .int .i64 1, .int .i64 0, .string { data := #[] }, .map (some wA.heap.size)] 60)).drew)
      (MapAt.on HTA.out.map (by
        have hlt := MapAt.lt HTA.out.map
        show ((wA.alloc (Obj.map #[] 0)).alloc _).heap[mb]? = _
        rw [Below.heap_alloc _ _ _ (by simp; omega), Below.heap_alloc _ _ _ hlt])) key_int Tryz.underlying54 (by rw [nodes_len, maxLen_val]; show t.nodes.length < _; omega) (key := .int .i64 (t.last + 1)) (val := .pointer (some ⟨wA.heap.size + 1, 0, none⟩)) (keyOf_int_mk Tryz.underlying3 hid1)
    have HMB := Lib.hid hmB
    have HTB2 := Lib.hid htB
    clear hmB htB
    go_region
    have HG := Lib.hid (make_tail HTA.out hd isDir hlast hidL HMB.out HTB2.out)
    clear hrun b0 b1 b2 b3 hg
    obtain ⟨T1, hd1, hOB⟩ := HG.out
    obtain ⟨b0, b1, b2, b3⟩ := tbl_cells T1
    have hA1 := T1.at hd1
    rw [putβ_ne hdl] at hA1
    have d4 := (node_cells hA1).2.2.2.2
    obtain ⟨wC, hrun, hmC, htC⟩ := MapAt.store (P := Tryz.prog) (w := wB.drew) (MapAt.on hA1.names rfl) key_str Tryz.underlying58 (by rw [names_len, maxLen_val]; omega) (key := .string s) (val := .int .i64 (t.last + 1)) (WideMaps.keyOf_string_mk Tryz.underlying9 hs)
    rw [put_names] at hmC
    have HT2 := Lib.hid ((T1.on (w' := wB.drew) (fun _ _ => rfl)).set_names hd1 (d := In.with_ d.names s (t.last + 1)) (by rw [putβ_ne hdl]; exact hmC) (by rw [putβ_ne hdl]; exact htC))
    have HTC := Lib.hid htC
    have HOB := Lib.hid hOB
    have HHD := Lib.hid hd
    clear hmC htC T1 hd1 hOB hA1 hd
    go_wp2_with fail
    go_region
    clear hrun b0 b1 b2 b3 d4
    obtain ⟨b0, b1, b2, b3⟩ := tbl_cells HT2.out
    go_wp2_with fail
    go_ret2
    refine ⟨rfl, putβ β (t.last + 1) (wA.heap.size + 1, wA.heap.size), ?_, ?_, ?_⟩
    · rw [makeT_eq HHD.out hdl]; exact HT2.out
    · exact ((Only.of_below HB.out).trans HOA.out).trans (HOB.out.trans ((Only.refl _ _).drew.turned HTC.out (.inl (in_foot2 HHD.out))))
    · intro k hk
      rw [makeT_eq HHD.out hdl, foot_setN] at hk
      have hs1 : w.heap.size ≤ wA.heap.size := Nat.le_trans HB.out.size HOA.out.size
      have e := foot_grow (g := g) (mb := mb) (β := β) (n := ⟨t.last + 1, isDir, 1, 0, ByteArray.empty, []⟩) (b := wA.heap.size + 1) (m := wA.heap.size) (l := t.nodes) (fun k hk => by have := hlast k hk; show k.id ≠ t.last + 1; omega)
      rw [e] at hk
      rcases List.mem_append.1 hk with hk | hk
      · exact .inl hk
      · right
        simp only [List.mem_cons, List.not_mem_nil, or_false] at hk
        omega
  · rw [beq0_false h2] at hE
    exact absurd hE h2
set_option maxHeartbeats 1000000 in
theorem Make_no (h : TblAt w g mb β t) (F : Fit t) {dir : Int} (hdir : Fits dir) {s : ByteArray} (hs : s.size ≤ maxLen) (isDir : Bool) {E : Int} (hE : In.makeE t dir s = E) (h0 : E ≠ 0) (hsmall : t.nodes.length ≤ 4611686018427387904) :
    Calls Tryz.prog 15 #[.pointer (some ⟨g, 0, none⟩), .int .i64 dir, .string s, .bool isDir] w fun e w' => e = .returned (.tuple #[.int .i64 0, .int .i64 E]) ∧ Below w.heap.size w w' := by
  unfold In.makeE at hE
  have HT := Lib.hid h
  have q1 := F.q1
  have q0 := F.q0
  have u0 := F.u0
  have u1 := F.u1
  rcases emptyE_dec (t := t) (dir := dir) (s := s) with ⟨h2, d, hd, hdd, hN, hl⟩ | h2
  · have ce := empty_yes h F.q0 hdir hs hd hdd hN hl
    rw [h2] at hE
    cases k1 : decide (4096 ≤ (t.nodes.length : Int)) with
    | true =>
      rw [k1] at hE
      have hE : 5 = E := hE
      subst hE
      clear h F h2 h0
      go_enter Tryz.func15, Tryz.ntmps15
      go_wp2_with (first
        | (go_at_call 45; refine ce.mono ?_; rintro e w1 ⟨rfl, hb⟩; have TB := HT.out.below hb; have HB := Lib.hid hb; have b3 := (tbl_cells TB).2.2.2; have HNm := Lib.hid TB.map; clear TB hb)
        | (at_len; refine wpList_len_at _ rfl _ 54 rfl 3 57 Tryz.underlying54 mb _ _ nodes_len rfl HNm.out ?_))
      go_ret2
      exact ⟨rfl, HB.out⟩
    | false =>
      rw [k1] at hE
      cases k2 : decide (t.quota - t.used < 64) with
      | false => rw [k2] at hE; exact absurd hE.symm h0
      | true =>
        rw [k2] at hE
        have hE : 6 = E := hE
        subst hE
        clear h F h2 h0
        go_enter Tryz.func15, Tryz.ntmps15
        go_wp2_with (first
          | (go_at_call 45; refine ce.mono ?_; rintro e w1 ⟨rfl, hb⟩; have TB := HT.out.below hb; have HB := Lib.hid hb; obtain ⟨b0, b1, b2, b3⟩ := tbl_cells TB; have HNm := Lib.hid TB.map; clear TB hb)
          | (at_len; refine wpList_len_at _ rfl _ 54 rfl 3 57 Tryz.underlying54 mb _ _ nodes_len rfl HNm.out ?_))
        go_quiet (fail)
        go_wp2_with fail
        go_ret2
        exact ⟨rfl, HB.out.trans (drewN_same _ _ |>.mono HB.out.size)⟩
  · rw [beq0_false h2] at hE
    have hE : In.emptyE t dir s = E := hE
    have ce := empty_no h F.q0 hdir hs hE h0
    have e1 := bne0_true h0
    clear h F h2 hE h0
    go_enter Tryz.func15, Tryz.ntmps15
    go_wp2_with (go_at_call 45; refine ce.mono ?_; rintro e w1 ⟨rfl, hb⟩; have HB := Lib.hid hb; clear hb)
    go_ret2
    exact ⟨rfl, HB.out⟩
end
end Go.Proofs.YtcicjklhbnipcaaGreat
namespace Go.Proofs.YtcicjklhbnipcaaGreat
set_option linter.unusedVariables false
set_option linter.unusedSimpArgs false
open Go.RowKit Go.Maps

set_option maxHeartbeats 1000000 in
theorem New_no (q : Int) (w : World) (hq : In.newE q = 1) : Calls Tryz.prog 6 #[.int .i64 q] w fun e w' => e = .returned (.tuple #[.pointer none, .int .i64 1]) ∧ w = w' := by
  unfold In.newE at hq
  cases h1 : decide (q < 64) with
  | true =>
    go_enter Tryz.func6, Tryz.ntmps6
    go_wp2_with fail
    go_ret2
    exact ⟨rfl, rfl⟩
  | false =>
    cases h2 : decide (1099511627776 < q) with
    | true =>
      go_enter Tryz.func6, Tryz.ntmps6
      go_wp2_with fail
      go_ret2
      exact ⟨rfl, rfl⟩
    | false => rw [h1, h2] at hq; simp at hq
set_option maxHeartbeats 2000000 in
theorem New_yes (q : Int) (w : World) (hq : In.newE q = 0) :
    Calls Tryz.prog 6 #[.int .i64 q] w fun e w' => e = .returned (.tuple #[.pointer (some ⟨w.heap.size + 1, 0, none⟩), .int .i64 0]) ∧ TblAt w' (w.heap.size + 1) w.heap.size (fun _ => (w.heap.size + 3, w.heap.size + 2)) (In.new q) ∧ Below w.heap.size w w' := by
  unfold In.newE at hq
  have h1 : decide (q < 64) = false := by
    cases h : decide (q < 64) with
    | false => rfl
    | true => rw [h] at hq; simp at hq
  have h2 : decide (1099511627776 < q) = false := by
    cases h : decide (1099511627776 < q) with
    | false => rfl
    | true => rw [h1, h] at hq; simp at hq
  have hmm := @run_makeMap Tryz.prog
  have HM : MapAt Tryz.prog 3 (((((w.alloc (.map #[] 0)).alloc (.cells #[.int .i64 q, .int .i64 64, .int .i64 1, .map (some w.heap.size)] 56)).alloc (.map #[] 0)).alloc (.cells #[.bool true, .int .i64 1, .int .i64 0, .string { data := #[] }, .map (some (w.heap.size + 2))] 60))) w.heap.size [] := by
    refine MapAt.on (MapAt.made w) ?_
    rw [Below.heap_alloc _ _ _ (by simp only [size_alloc]; omega), Below.heap_alloc _ _ _ (by simp only [size_alloc]; omega), Below.heap_alloc _ _ _ (by simp only [size_alloc]; omega)]
  clear hq
  go_enter Tryz.func6, Tryz.ntmps6
  go_wp2_with (at_mapUpdate; refine wpList_store_at _ rfl _ _ _ 54 rfl 3 57 key_int Tryz.underlying54 w.heap.size _ rfl HM (by decide) (.int .i64 1) (.pointer (some ⟨w.heap.size + 3, 0, none⟩)) _ rfl rfl (keyOf_int_mk Tryz.underlying3 (by decide)) ?_; intro w2 hm2 ht2; have HM2 := Lib.hid hm2; have HT2 := Lib.hid ht2; clear hm2 ht2)
  go_ret2
  refine ⟨rfl, ?_, ?_⟩
  · have hm2 := HM2.out
    have ht2 := HT2.out
    refine ⟨?_, hm2, ?_, ?_⟩
    · rw [turned_other ht2 (by omega), Below.heap_alloc _ _ _ (by simp only [size_alloc]; omega), Below.heap_alloc _ _ _ (by simp only [size_alloc]; omega)]
      have := heap_alloc_new (w.alloc (.map #[] 0)) (.cells #[.int .i64 q, .int .i64 64, .int .i64 1, .map (some w.heap.size)] 56)
      rw [size_alloc] at this
      exact this
    · intro n hn
      have : n = ⟨1, true, 1, 0, ByteArray.empty, []⟩ := by simpa [In.new] using hn
      subst this
      constructor
      · show w2.heap[w.heap.size + 3]? = _
        rw [turned_other ht2 (by omega)]
        have := heap_alloc_new (((w.alloc (.map #[] 0)).alloc (.cells #[.int .i64 q, .int .i64 64, .int .i64 1, .map (some w.heap.size)] 56)).alloc (.map #[] 0)) (.cells #[.bool true, .int .i64 1, .int .i64 0, .string { data := #[] }, .map (some (w.heap.size + 2))] 60)
        rw [size_alloc, size_alloc, size_alloc] at this
        exact this
      · show MapAt _ _ w2 (w.heap.size + 2) _
        have hm := MapAt.made (P := Tryz.prog) (k := 9) ((w.alloc (.map #[] 0)).alloc (.cells #[.int .i64 q, .int .i64 64, .int .i64 1, .map (some w.heap.size)] 56))
        rw [size_alloc, size_alloc] at hm
        refine MapAt.on hm ?_
        rw [turned_other ht2 (by omega), Below.heap_alloc _ _ _ (by simp only [size_alloc]; omega)]
    · show ([w.heap.size + 1, w.heap.size, w.heap.size + 3, w.heap.size + 2] : List Nat).Nodup
      simp
  · have ht2 := HT2.out
    refine Below.trans ?_ ((Below.refl _ _).grown ht2.grown (by simp only [size_alloc]; omega) (fun k hk => by cases hk; exact Nat.le_refl _))
    exact ((((Below.refl _ _).alloc (Nat.le_refl _) _).alloc (by simp only [size_alloc]; omega) _).alloc (by simp only [size_alloc]; omega) _).alloc (by simp only [size_alloc]; omega) _
end Go.Proofs.YtcicjklhbnipcaaGreat
namespace Go.Proofs
open Go.Shelf
def Tryz.keysS_ren : Go.Shelf.Ren := ⟨fun | 7 => 44 | 10 => 67 | n => n, fun | 23 => 58 | 26 => 9 | 3 => 3 | 28 => 78 | 0 => 0 | 27 => 77 | 33 => 102 | 4 => 4 | n => n, fun | n => n⟩
theorem Tryz.keysS : Go.Proofs.SlLaysZ.n7 Tryz.prog Tryz.keysS_ren := {
  mixed := by kernel_rfl
  f7 := ⟨Tryz.f44.name, by decide, Tryz.func44.trans (congrArg some (by kernel_rfl))⟩
  f10 := ⟨Tryz.f67.name, by decide, Tryz.func67.trans (congrArg some (by kernel_rfl))⟩
  t0 := Tryz.underlying0
  a0 := Tryz.isAgg0
  z0 := Tryz.sizeOf0
  v0 := Tryz.zeroValue0
  t4 := Tryz.underlying4
  a4 := Tryz.isAgg4
  z4 := Tryz.sizeOf4
  v4 := Tryz.zeroValue4
  t23 := Tryz.underlying58
  a23 := Tryz.isAgg58
  z23 := Tryz.sizeOf58
  v23 := Tryz.zeroValue58
  t26 := Tryz.underlying9
  a26 := Tryz.isAgg9
  z26 := Tryz.sizeOf9
  v26 := Tryz.zeroValue9
  t27 := Tryz.underlying77
  a27 := Tryz.isAgg77
  z27 := Tryz.sizeOf77
  v27 := Tryz.zeroValue77
  t28 := Tryz.underlying78
  a28 := Tryz.isAgg78
  z28 := Tryz.sizeOf78
  v28 := Tryz.zeroValue78
  t33 := Tryz.underlying102
  a33 := Tryz.isAgg102
  z33 := Tryz.sizeOf102
  v33 := Tryz.zeroValue102 }
def Tryz.sortedS_ren : Go.Shelf.Ren := ⟨fun | 6 => 43 | 8 => 65 | 9 => 66 | 11 => 74 | 13 => 73 | 12 => 75 | 23 => 92 | 24 => 93 | 14 => 94 | 15 => 95 | 16 => 96 | 17 => 97 | 18 => 98 | 19 => 99 | 20 => 100 | 21 => 101 | 22 => 102 | 25 => 115 | 26 => 110 | 27 => 111 | 28 => 116 | 29 => 117 | 30 => 118 | 31 => 126 | n => n, fun | 26 => 9 | 28 => 78 | 24 => 51 | 0 => 0 | 3 => 3 | 37 => 107 | 48 => 131 | 50 => 133 | 4 => 4 | 40 => 123 | 39 => 122 | 45 => 128 | 5 => 5 | 9 => 9 | 51 => 145 | 55 => 149 | 57 => 162 | 58 => 163 | 33 => 102 | n => n, fun | n => n⟩
theorem Tryz.sortedS : Go.Proofs.SlLaysZ.n6 Tryz.prog Tryz.sortedS_ren := {
  mixed := by kernel_rfl
  f6 := ⟨Tryz.f43.name, by decide, Tryz.func43.trans (congrArg some (by kernel_rfl))⟩
  f8 := ⟨Tryz.f65.name, by decide, Tryz.func65.trans (congrArg some (by kernel_rfl))⟩
  f11 := ⟨Tryz.f74.name, by decide, Tryz.func74.trans (congrArg some (by kernel_rfl))⟩
  t0 := Tryz.underlying0
  a0 := Tryz.isAgg0
  z0 := Tryz.sizeOf0
  v0 := Tryz.zeroValue0
  t24 := Tryz.underlying51
  a24 := Tryz.isAgg51
  z24 := Tryz.sizeOf51
  v24 := Tryz.zeroValue51
  t26 := Tryz.underlying9
  a26 := Tryz.isAgg9
  z26 := Tryz.sizeOf9
  v26 := Tryz.zeroValue9
  t28 := Tryz.underlying78
  a28 := Tryz.isAgg78
  z28 := Tryz.sizeOf78
  v28 := Tryz.zeroValue78
  i26 := by kernel_rfl }
def Tryz.keysI_ren : Go.Shelf.Ren := ⟨fun | 7 => 42 | 10 => 64 | n => n, fun | 23 => 54 | 26 => 3 | 3 => 57 | 28 => 74 | 0 => 0 | 27 => 73 | 33 => 100 | 4 => 4 | n => n, fun | n => n⟩
theorem Tryz.keysI : Go.Proofs.SlLaysZI.n7 Tryz.prog Tryz.keysI_ren := {
  mixed := by kernel_rfl
  f7 := ⟨Tryz.f42.name, by decide, Tryz.func42.trans (congrArg some (by kernel_rfl))⟩
  f10 := ⟨Tryz.f64.name, by decide, Tryz.func64.trans (congrArg some (by kernel_rfl))⟩
  t0 := Tryz.underlying0
  a0 := Tryz.isAgg0
  z0 := Tryz.sizeOf0
  v0 := Tryz.zeroValue0
  t4 := Tryz.underlying4
  a4 := Tryz.isAgg4
  z4 := Tryz.sizeOf4
  v4 := Tryz.zeroValue4
  t23 := Tryz.underlying54
  a23 := Tryz.isAgg54
  z23 := Tryz.sizeOf54
  v23 := Tryz.zeroValue54
  t26 := Tryz.underlying3
  a26 := Tryz.isAgg3
  z26 := Tryz.sizeOf3
  v26 := Tryz.zeroValue3
  t27 := Tryz.underlying73
  a27 := Tryz.isAgg73
  z27 := Tryz.sizeOf73
  v27 := Tryz.zeroValue73
  t28 := Tryz.underlying74
  a28 := Tryz.isAgg74
  z28 := Tryz.sizeOf74
  v28 := Tryz.zeroValue74
  t33 := Tryz.underlying100
  a33 := Tryz.isAgg100
  z33 := Tryz.sizeOf100
  v33 := Tryz.zeroValue100 }
def Tryz.sortedI_ren : Go.Shelf.Ren := ⟨fun | 6 => 41 | 8 => 62 | 9 => 63 | 11 => 71 | 13 => 73 | 12 => 72 | 23 => 92 | 24 => 93 | 14 => 83 | 15 => 84 | 16 => 85 | 17 => 86 | 18 => 87 | 19 => 88 | 20 => 89 | 21 => 90 | 22 => 91 | 25 => 109 | 26 => 110 | 27 => 111 | 28 => 112 | 29 => 113 | 30 => 114 | 31 => 125 | n => n, fun | 26 => 3 | 28 => 74 | 24 => 71 | 0 => 0 | 3 => 3 | 37 => 107 | 48 => 131 | 50 => 133 | 4 => 4 | 40 => 123 | 39 => 122 | 45 => 128 | 5 => 5 | 9 => 9 | 51 => 145 | 55 => 149 | 57 => 162 | 58 => 163 | 33 => 100 | n => n, fun | n => n⟩
theorem Tryz.sortedI : Go.Proofs.SlLaysZI.n6 Tryz.prog Tryz.sortedI_ren := {
  mixed := by kernel_rfl
  f6 := ⟨Tryz.f41.name, by decide, Tryz.func41.trans (congrArg some (by kernel_rfl))⟩
  f8 := ⟨Tryz.f62.name, by decide, Tryz.func62.trans (congrArg some (by kernel_rfl))⟩
  f11 := ⟨Tryz.f71.name, by decide, Tryz.func71.trans (congrArg some (by kernel_rfl))⟩
  t0 := Tryz.underlying0
  a0 := Tryz.isAgg0
  z0 := Tryz.sizeOf0
  v0 := Tryz.zeroValue0
  t24 := Tryz.underlying71
  a24 := Tryz.isAgg71
  z24 := Tryz.sizeOf71
  v24 := Tryz.zeroValue71
  t26 := Tryz.underlying3
  a26 := Tryz.isAgg3
  z26 := Tryz.sizeOf3
  v26 := Tryz.zeroValue3
  t28 := Tryz.underlying74
  a28 := Tryz.isAgg74
  z28 := Tryz.sizeOf74
  v28 := Tryz.zeroValue74
  i26 := by kernel_rfl }
def Tryz.sortS_ren : Go.Shelf.Ren := ⟨fun | 6 => 66 | 8 => 73 | 9 => 75 | 19 => 92 | 20 => 93 | 21 => 94 | 22 => 95 | 23 => 96 | 24 => 97 | 25 => 98 | 26 => 99 | 27 => 100 | 28 => 101 | 29 => 102 | 36 => 115 | 31 => 110 | 32 => 111 | 37 => 116 | 38 => 117 | 39 => 118 | 41 => 126 | n => n, fun | 27 => 51 | 29 => 9 | 3 => 3 | 32 => 107 | 26 => 51 | 0 => 0 | 44 => 131 | 46 => 133 | 4 => 4 | 36 => 123 | 35 => 122 | 41 => 128 | 5 => 5 | 9 => 9 | 53 => 145 | 57 => 149 | 63 => 162 | 64 => 163 | n => n, fun | n => n⟩
theorem Tryz.sortS : Go.Proofs.SlLaysM.n6 Tryz.prog Tryz.sortS_ren := {
  mixed := by kernel_rfl
  f6 := ⟨Tryz.f66.name, by decide, Tryz.func66.trans (congrArg some (by kernel_rfl))⟩
  f8 := Tryz.func73.trans (congrArg some (by kernel_rfl))
  f9 := ⟨Tryz.f75.name, by decide, Tryz.func75.trans (congrArg some (by kernel_rfl))⟩
  f19 := Tryz.func92.trans (congrArg some (by kernel_rfl))
  f20 := Tryz.func93.trans (congrArg some (by kernel_rfl))
  f21 := ⟨Tryz.f94.name, by decide, Tryz.func94.trans (congrArg some (by kernel_rfl))⟩
  f22 := ⟨Tryz.f95.name, by decide, Tryz.func95.trans (congrArg some (by kernel_rfl))⟩
  f23 := ⟨Tryz.f96.name, by decide, Tryz.func96.trans (congrArg some (by kernel_rfl))⟩
  f24 := ⟨Tryz.f97.name, by decide, Tryz.func97.trans (congrArg some (by kernel_rfl))⟩
  f25 := ⟨Tryz.f98.name, by decide, Tryz.func98.trans (congrArg some (by kernel_rfl))⟩
  f26 := ⟨Tryz.f99.name, by decide, Tryz.func99.trans (congrArg some (by kernel_rfl))⟩
  f27 := ⟨Tryz.f100.name, by decide, Tryz.func100.trans (congrArg some (by kernel_rfl))⟩
  f28 := ⟨Tryz.f101.name, by decide, Tryz.func101.trans (congrArg some (by kernel_rfl))⟩
  f29 := ⟨Tryz.f102.name, by decide, Tryz.func102.trans (congrArg some (by kernel_rfl))⟩
  f31 := Tryz.func110.trans (congrArg some (by kernel_rfl))
  f32 := Tryz.func111.trans (congrArg some (by kernel_rfl))
  f36 := ⟨Tryz.f115.name, by decide, Tryz.func115.trans (congrArg some (by kernel_rfl))⟩
  f37 := ⟨Tryz.f116.name, by decide, Tryz.func116.trans (congrArg some (by kernel_rfl))⟩
  f38 := ⟨Tryz.f117.name, by decide, Tryz.func117.trans (congrArg some (by kernel_rfl))⟩
  f39 := ⟨Tryz.f118.name, by decide, Tryz.func118.trans (congrArg some (by kernel_rfl))⟩
  f41 := ⟨Tryz.f126.name, by decide, Tryz.func126.trans (congrArg some (by kernel_rfl))⟩
  t0 := Tryz.underlying0
  a0 := Tryz.isAgg0
  z0 := Tryz.sizeOf0
  v0 := Tryz.zeroValue0
  t3 := Tryz.underlying3
  a3 := Tryz.isAgg3
  z3 := Tryz.sizeOf3
  v3 := Tryz.zeroValue3
  t4 := Tryz.underlying4
  a4 := Tryz.isAgg4
  z4 := Tryz.sizeOf4
  v4 := Tryz.zeroValue4
  t5 := Tryz.underlying5
  a5 := Tryz.isAgg5
  z5 := Tryz.sizeOf5
  v5 := Tryz.zeroValue5
  t9 := Tryz.underlying9
  a9 := Tryz.isAgg9
  z9 := Tryz.sizeOf9
  v9 := Tryz.zeroValue9
  t26 := Tryz.underlying51
  a26 := Tryz.isAgg51
  z26 := Tryz.sizeOf51
  v26 := Tryz.zeroValue51
  t27 := Tryz.underlying51
  a27 := Tryz.isAgg51
  z27 := Tryz.sizeOf51
  v27 := Tryz.zeroValue51
  t29 := Tryz.underlying9
  a29 := Tryz.isAgg9
  z29 := Tryz.sizeOf9
  v29 := Tryz.zeroValue9
  t32 := Tryz.underlying107
  a32 := Tryz.isAgg107
  z32 := Tryz.sizeOf107
  v32 := Tryz.zeroValue107
  t35 := Tryz.underlying122
  a35 := Tryz.isAgg122
  z35 := Tryz.sizeOf122
  v35 := Tryz.zeroValue122
  t36 := Tryz.underlying123
  a36 := Tryz.isAgg123
  z36 := Tryz.sizeOf123
  v36 := Tryz.zeroValue123
  t41 := Tryz.underlying128
  a41 := Tryz.isAgg128
  z41 := Tryz.sizeOf128
  v41 := Tryz.zeroValue128
  t44 := Tryz.underlying131
  a44 := Tryz.isAgg131
  z44 := Tryz.sizeOf131
  v44 := Tryz.zeroValue131
  t46 := Tryz.underlying133
  a46 := Tryz.isAgg133
  z46 := Tryz.sizeOf133
  v46 := Tryz.zeroValue133
  t53 := Tryz.underlying145
  a53 := Tryz.isAgg145
  z53 := Tryz.sizeOf145
  v53 := Tryz.zeroValue145
  t57 := Tryz.underlying149
  a57 := Tryz.isAgg149
  z57 := Tryz.sizeOf149
  v57 := Tryz.zeroValue149
  t63 := Tryz.underlying162
  a63 := Tryz.isAgg162
  z63 := Tryz.sizeOf162
  v63 := Tryz.zeroValue162
  t64 := Tryz.underlying163
  a64 := Tryz.isAgg163
  z64 := Tryz.sizeOf163
  v64 := Tryz.zeroValue163 }
def Tryz.sortI_ren : Go.Shelf.Ren := ⟨fun | 5 => 63 | 8 => 73 | 7 => 72 | 19 => 92 | 20 => 93 | 10 => 83 | 11 => 84 | 12 => 85 | 13 => 86 | 14 => 87 | 15 => 88 | 16 => 89 | 17 => 90 | 18 => 91 | 30 => 109 | 31 => 110 | 32 => 111 | 33 => 112 | 34 => 113 | 35 => 114 | 40 => 125 | n => n, fun | 23 => 71 | 25 => 3 | 3 => 3 | 32 => 107 | 22 => 71 | 0 => 0 | 44 => 131 | 46 => 133 | 4 => 4 | 36 => 123 | 35 => 122 | 41 => 128 | 5 => 5 | 9 => 9 | 53 => 145 | 57 => 149 | 63 => 162 | 64 => 163 | n => n, fun | n => n⟩
theorem Tryz.sortI : Go.Proofs.SlLaysM.n5 Tryz.prog Tryz.sortI_ren := {
  mixed := by kernel_rfl
  f5 := ⟨Tryz.f63.name, by decide, Tryz.func63.trans (congrArg some (by kernel_rfl))⟩
  f7 := ⟨Tryz.f72.name, by decide, Tryz.func72.trans (congrArg some (by kernel_rfl))⟩
  f8 := Tryz.func73.trans (congrArg some (by kernel_rfl))
  f10 := ⟨Tryz.f83.name, by decide, Tryz.func83.trans (congrArg some (by kernel_rfl))⟩
  f11 := ⟨Tryz.f84.name, by decide, Tryz.func84.trans (congrArg some (by kernel_rfl))⟩
  f12 := ⟨Tryz.f85.name, by decide, Tryz.func85.trans (congrArg some (by kernel_rfl))⟩
  f13 := ⟨Tryz.f86.name, by decide, Tryz.func86.trans (congrArg some (by kernel_rfl))⟩
  f14 := ⟨Tryz.f87.name, by decide, Tryz.func87.trans (congrArg some (by kernel_rfl))⟩
  f15 := ⟨Tryz.f88.name, by decide, Tryz.func88.trans (congrArg some (by kernel_rfl))⟩
  f16 := ⟨Tryz.f89.name, by decide, Tryz.func89.trans (congrArg some (by kernel_rfl))⟩
  f17 := ⟨Tryz.f90.name, by decide, Tryz.func90.trans (congrArg some (by kernel_rfl))⟩
  f18 := ⟨Tryz.f91.name, by decide, Tryz.func91.trans (congrArg some (by kernel_rfl))⟩
  f19 := Tryz.func92.trans (congrArg some (by kernel_rfl))
  f20 := Tryz.func93.trans (congrArg some (by kernel_rfl))
  f30 := ⟨Tryz.f109.name, by decide, Tryz.func109.trans (congrArg some (by kernel_rfl))⟩
  f31 := Tryz.func110.trans (congrArg some (by kernel_rfl))
  f32 := Tryz.func111.trans (congrArg some (by kernel_rfl))
  f33 := ⟨Tryz.f112.name, by decide, Tryz.func112.trans (congrArg some (by kernel_rfl))⟩
  f34 := ⟨Tryz.f113.name, by decide, Tryz.func113.trans (congrArg some (by kernel_rfl))⟩
  f35 := ⟨Tryz.f114.name, by decide, Tryz.func114.trans (congrArg some (by kernel_rfl))⟩
  f40 := ⟨Tryz.f125.name, by decide, Tryz.func125.trans (congrArg some (by kernel_rfl))⟩
  t0 := Tryz.underlying0
  a0 := Tryz.isAgg0
  z0 := Tryz.sizeOf0
  v0 := Tryz.zeroValue0
  t3 := Tryz.underlying3
  a3 := Tryz.isAgg3
  z3 := Tryz.sizeOf3
  v3 := Tryz.zeroValue3
  t4 := Tryz.underlying4
  a4 := Tryz.isAgg4
  z4 := Tryz.sizeOf4
  v4 := Tryz.zeroValue4
  t5 := Tryz.underlying5
  a5 := Tryz.isAgg5
  z5 := Tryz.sizeOf5
  v5 := Tryz.zeroValue5
  t9 := Tryz.underlying9
  a9 := Tryz.isAgg9
  z9 := Tryz.sizeOf9
  v9 := Tryz.zeroValue9
  t22 := Tryz.underlying71
  a22 := Tryz.isAgg71
  z22 := Tryz.sizeOf71
  v22 := Tryz.zeroValue71
  t23 := Tryz.underlying71
  a23 := Tryz.isAgg71
  z23 := Tryz.sizeOf71
  v23 := Tryz.zeroValue71
  t25 := Tryz.underlying3
  a25 := Tryz.isAgg3
  z25 := Tryz.sizeOf3
  v25 := Tryz.zeroValue3
  t32 := Tryz.underlying107
  a32 := Tryz.isAgg107
  z32 := Tryz.sizeOf107
  v32 := Tryz.zeroValue107
  t35 := Tryz.underlying122
  a35 := Tryz.isAgg122
  z35 := Tryz.sizeOf122
  v35 := Tryz.zeroValue122
  t36 := Tryz.underlying123
  a36 := Tryz.isAgg123
  z36 := Tryz.sizeOf123
  v36 := Tryz.zeroValue123
  t41 := Tryz.underlying128
  a41 := Tryz.isAgg128
  z41 := Tryz.sizeOf128
  v41 := Tryz.zeroValue128
  t44 := Tryz.underlying131
  a44 := Tryz.isAgg131
  z44 := Tryz.sizeOf131
  v44 := Tryz.zeroValue131
  t46 := Tryz.underlying133
  a46 := Tryz.isAgg133
  z46 := Tryz.sizeOf133
  v46 := Tryz.zeroValue133
  t53 := Tryz.underlying145
  a53 := Tryz.isAgg145
  z53 := Tryz.sizeOf145
  v53 := Tryz.zeroValue145
  t57 := Tryz.underlying149
  a57 := Tryz.isAgg149
  z57 := Tryz.sizeOf149
  v57 := Tryz.zeroValue149
  t63 := Tryz.underlying162
  a63 := Tryz.isAgg162
  z63 := Tryz.sizeOf162
  v63 := Tryz.zeroValue162
  t64 := Tryz.underlying163
  a64 := Tryz.isAgg163
  z64 := Tryz.sizeOf163
  v64 := Tryz.zeroValue163 }
def Tryz.cloneM_ren : Go.Shelf.Ren := ⟨fun | 5 => 22 | 7 => 50 | n => n, fun | 23 => 58 | 25 => 9 | 3 => 3 | 4 => 4 | 20 => 20 | n => n, fun | n => n⟩
theorem Tryz.cloneM : Go.Proofs.SlLaysW.n5 Tryz.prog Tryz.cloneM_ren := {
  mixed := by kernel_rfl
  f5 := ⟨Tryz.f22.name, by decide, Tryz.func22.trans (congrArg some (by kernel_rfl))⟩
  f7 := Tryz.func50.trans (congrArg some (by kernel_rfl))
  t4 := Tryz.underlying4
  a4 := Tryz.isAgg4
  z4 := Tryz.sizeOf4
  v4 := Tryz.zeroValue4
  t20 := Tryz.underlying20
  a20 := Tryz.isAgg20
  z20 := Tryz.sizeOf20
  v20 := Tryz.zeroValue20
  t23 := Tryz.underlying58
  a23 := Tryz.isAgg58
  z23 := Tryz.sizeOf58
  v23 := Tryz.zeroValue58 }
end Go.Proofs
namespace Go.Proofs.YtcicjklhbnipcaaGreat
set_option linter.unusedVariables false
set_option linter.unusedSimpArgs false
open Go.RowKit Go.Maps Go.Sort Go.Shelf

theorem bytes_lt : ∀ {a b : List UInt8}, bytesBefore a b = true → a < b
  | [], [], h => by cases h
  | [], _ :: _, _ => List.nil_lt_cons _ _
  | _ :: _, [], h => by cases h
  | a :: r, b :: s, h => by
    rw [List.cons_lt_cons_iff]
    simp only [bytesBefore, Bool.or_eq_true, decide_eq_true_eq, Bool.and_eq_true, beq_iff_eq] at h
    rcases h with h | ⟨rfl, h⟩
    · exact .inl h
    · exact .inr ⟨rfl, bytes_lt h⟩
theorem sort_keys {ss ks : List (List UInt8)} (h : ss.Perm ks) (hs : ks.Pairwise fun a b => bytesBefore a b = true) : ss.mergeSort leB = ks := by
  rw [mergeSort_of_perm h]
  refine List.mergeSort_of_pairwise (hs.imp fun {a b} hab => ?_)
  simp only [leB, decide_eq_true_eq]
  exact List.le_of_lt (bytes_lt hab)
theorem keys_names (d : List (ByteArray × Int)) : strKeys (heldD (namesL d)) = d.map fun p => p.1.data.toList := by
  simp [heldD, namesL, strKeys, strOf]
theorem sortsS (m : Nat) : AnyZ.SortsIn Tryz.prog Tryz.sortedS_ren Fence.wide m :=
  ⟨fun blk off cap ss W hH hblk hsz => callsIn_wide.2 (AnyM.slices_Sort_string Tryz.sortS blk off cap ss W hH hblk hsz), fun p cap W => callsIn_wide.2 (AnyM.slices_Sort_string_none Tryz.sortS p cap W)⟩
theorem keysS_any (mb : Option Nat) (W : World) : Calls Tryz.prog 44 #[.map mb] W fun e w' => e = .returned (.func (.func 67) #[] #[.pointer (some ⟨W.heap.size, 0, none⟩)]) ∧ w' = W.alloc (.cells #[.map mb] 58) :=
  (callsIn_wide (n := 5)).1 (AnyZ.keys_in Tryz.keysS Fence.wide 5 trivial rfl mb W)
/-- The names, in order, in a new slice. -/
theorem sortedS_any {m : Nat} {d : List (ByteArray × Int)} (w : World) (h : NamesAt w m d) (hl : d.length ≤ 4611686018427) :
    Calls Tryz.prog 43 #[.func (.func 67) #[] #[.pointer (some ⟨w.heap.size, 0, none⟩)]] (w.alloc (.cells #[.map (some m)] 58)) fun e w' => ∃ v : Value, e = .returned v ∧
      w'.ownsRow (w.heap.size + 1) 9 1 v d.length (d.map fun p => .string p.1) ∧ Below w.heap.size w w' := by
  have hbl := MapAt.lt h
  have hsz : Maps.size (heldD (namesL d)) = d.length := by rw [size_held]; simp [namesL]
  have hown : w.ownsMap Tryz.prog 9 anyElem m (namesL d).length (heldD (namesL d)) := h
  have hseq : SeqGives Fence.wide 2 Tryz.prog 67 #[.pointer (some ⟨w.heap.size, 0, none⟩)] encStr (fun ss => ss.Perm (strKeys (heldD (namesL d)))) (Maps.size (heldD (namesL d))) (w.alloc (.cells #[.map (some m)] 58)) :=
    AnyZ.keys_gives (ρ := Tryz.keysS_ren) { Tryz.keysS with } Fence.wide _ trivial rfl (by omega) w.heap.size m _ _ _ (by simp) (by simp) (by
      obtain ⟨es, clock, hb, Ft, hs, hD⟩ := hown
      exact ⟨es, clock, (Below.heap_alloc _ _ m hbl).trans hb, Ft, hs, hD⟩)
  have key := AnyZ.sorted_in Tryz.sortedS Fence.wide 5 trivial trivial trivial trivial rfl (by omega) (sortsS _) (enters_of Tryz.func66 (by kernel_rfl) rfl) 67 #[.pointer (some ⟨w.heap.size, 0, none⟩)] trivial (enters_of Tryz.func67 (by kernel_rfl) rfl) _ _ (by rw [hsz, maxLen_val]; omega) (by rw [hsz]; omega) _ hseq
  refine ((callsIn_wide (n := 5)).1 key).mono fun e w' hx => ?_
  obtain ⟨v, ss, he, hp, hrow, _, hb⟩ := hx
  refine ⟨v, he, ?_, ((Below.refl _ w).alloc (Nat.le_refl _) _).trans (hb.mono (by simp))⟩
  rw [keys_names] at hp
  have hs : (d.map fun p => p.1.data.toList).Pairwise fun a b => bytesBefore a b = true := by
    have := MapAt.sorted h key_str
    unfold namesL at this
    rw [List.pairwise_map] at this ⊢
    exact this
  have e := sort_keys hp hs
  have hlen : ss.length = d.length := by rw [hp.length_eq]; simp
  rw [show (fun x y : List UInt8 => decide (x ≤ y)) = leB from rfl, e, hlen, List.map_map] at hrow
  rw [size_alloc] at hrow
  exact hrow
end Go.Proofs.YtcicjklhbnipcaaGreat
namespace Go.Proofs.YtcicjklhbnipcaaGreat
set_option linter.unusedVariables false
set_option linter.unusedSimpArgs false
open Go.RowKit Go.Maps

theorem keys_small {w : World} {m : Nat} {d : List (ByteArray × Int)} (h : NamesAt w m d) : ∀ p ∈ d, p.1.size ≤ maxLen := by
  have := strKeys_le h Tryz.underlying9
  rw [keys_names] at this
  intro p hp
  have := this p.1.data.toList (List.mem_map.2 ⟨p, hp, rfl⟩)
  simpa using this
/-- A row of texts that was made is a slice of these texts. -/
theorem strs_of_own {w : World} {base : Nat} {v : Value} {xs : List ByteArray} (h : w.ownsRow base 9 1 v xs.length (xs.map .string)) (hs : ∀ s ∈ xs, s.size ≤ maxLen) : ∃ a c, v = .slice a xs.length c ∧ RSlice 1 RStr w w.heap.size [.slice a xs.length c] xs := by
  rcases h.2 with ⟨rfl, hz⟩ | ⟨g, cap, cur, rfl, hb, hg, h1, h2, h3, h4⟩
  · have : xs = [] := List.eq_nil_of_length_eq_zero hz
    subst this
    exact ⟨none, 0, rfl, slice_nil⟩
  · refine ⟨some ⟨g, 0, none⟩, cap, rfl, slice_of_block hg (lt_of_get hg) h1 h2 fun i x hi => ⟨[.string x], rfl, fun j hj => ?_, rfl, hs x (List.mem_of_getElem? hi)⟩⟩
    obtain rfl : j = 0 := by omega
    have hil : i < xs.length := (List.getElem?_eq_some_iff.1 hi).1
    have := congrArg (fun l => l[i]?) h4
    simp only [List.getElem?_map, hi, Option.map_some] at this
    rw [List.getElem?_take_of_lt (by omega)] at this
    simpa using this
section
variable {w : World} {g mb : Nat} {β : Int → Nat × Nat} {t : TabD}
/-- What List answers. -/
def RList (w : World) (t : TabD) (dir : Int) (e : Ending) (w' : World) : Prop :=
  ∃ a c, e = .returned (.tuple #[.slice a (In.list t dir).length c, .int .i64 (In.listE t dir)]) ∧ RSlice 1 RStr w' w'.heap.size [.slice a (In.list t dir).length c] (In.list t dir) ∧ Below w.heap.size w w'
set_option maxHeartbeats 1000000 in
theorem List_any (h : TblAt w g mb β t) (hq : 0 < t.quota) {dir : Int} (hdir : Fits dir) (hlen : ∀ n ∈ t.nodes, n.names.length ≤ 4611686018427) :
    Calls Tryz.prog 20 #[.pointer (some ⟨g, 0, none⟩), .int .i64 dir] w (RList w t dir) := by
  rcases getE_dec (t := t) (id := dir) (dir := true) with ⟨h1, d, hd, hdd⟩ | h1
  · have cg := get_yes h hq hdir hd hdd
    have hE : In.listE t dir = 0 := h1
    have hL : In.list t dir = d.names.map Prod.fst := by unfold In.list; rw [hE, at_find hd]; rfl
    have hA := h.at hd
    have d4 := (node_cells hA).2.2.2.2
    have HNm := Lib.hid hA.names
    have HS := Lib.hid (sortedS_any w hA.names (hlen d (find_mem hd).1))
    have HE := Lib.hid hE
    have HL := Lib.hid hL
    have HK := Lib.hid (keys_small hA.names)
    have CK := Lib.hid (keysS_any (some (β dir).2) w)
    clear h hq h1 hd hdd hA hlen hE hL
    go_enter Tryz.func20, Tryz.ntmps20
    go_wp2_with (first
      | (go_at_call 48; refine cg.mono ?_; rintro e w' ⟨rfl, rfl⟩)
      | (go_at_call 44; refine CK.out.mono ?_; rintro e w' ⟨rfl, rfl⟩)
      | (go_at_call 43; refine HS.out.mono ?_; rintro e w2 ⟨v, rfl, hrow, hb⟩; have HR := Lib.hid hrow; have HB := Lib.hid hb; clear hrow hb))
    have hr := HR.out
    have e1 : (d.names.map fun p => Value.string p.1) = (d.names.map Prod.fst).map .string := by rw [List.map_map]; rfl
    have e2 : d.names.length = (d.names.map Prod.fst).length := by simp
    rw [e1, e2] at hr
    obtain ⟨a, c, rfl, hsl⟩ := strs_of_own hr (fun s hs => by obtain ⟨p, hp, rfl⟩ := List.mem_map.1 hs; exact HK.out p hp)
    go_ret2
    unfold RList
    rw [HE.out, HL.out]
    exact ⟨a, c, rfl, hsl, HB.out⟩
  · obtain ⟨E, hE⟩ : ∃ E, In.listE t dir = E := ⟨_, rfl⟩
    have hE' : In.getE t dir true = E := hE
    have h0 : E ≠ 0 := hE' ▸ h1
    have cg := get_no h hq hdir hE' h0
    have e0 := bne0_true h0
    have HE := Lib.hid hE
    have HL := Lib.hid (show In.list t dir = [] by unfold In.list; rw [hE, beq0_false h0]; rfl)
    clear h hq h1 hlen hE hE' h0
    go_enter Tryz.func20, Tryz.ntmps20
    go_wp2_with (go_at_call 48; refine cg.mono ?_; rintro e w' ⟨rfl, rfl⟩)
    go_ret2
    unfold RList
    rw [HE.out, HL.out]
    exact ⟨none, 0, rfl, slice_nil, Below.refl _ _⟩
end
end Go.Proofs.YtcicjklhbnipcaaGreat
