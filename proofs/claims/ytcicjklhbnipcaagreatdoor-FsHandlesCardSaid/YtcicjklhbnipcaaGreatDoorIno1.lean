/-
  What an argument reads as: for each Go type that comes in, a relation between its cells and a plain Lean value ('Rep'), that it is kept by whatever leaves old blocks alone, and that every reading of the form opens to it. No program is named here.
  Small words for the walks (of seats without the store's types): posts of functions that answer a bool, loops' facts on lists, a slice opened at an index.
  Just some blocks turned; a row that is known whole. No program is named here.
  A map's block as a sorted list of keys and values: whatever the values are. Made, carried, read, written, deleted from, measured. No program is named here.
  Layer 8: inodes as plain lists. No program is named here.
  Layer 8: a table of inodes in memory: its own block, the map of its inodes, each inode's block and its map of names; and what each kind of step makes of it.
  Layer 8: given, get, walked.
  A region that draws its order, whose operations only read and whose calls answer one known value and leave what was there as it is: one walk in the order of the text serves every order. The class of worlds: those that are as W was below block B.
-/
import Derived.Test.YtcicjklhbnipcaaGreatDoorChecked
import Derived.Test.YtcicjklhbnipcaaGreatDoorProg
import Derived.Below
import Derived.Carry
import Derived.Deep.Slices
import Derived.WalkKit
import Derived.WalkSpells
import Derived.WalkLawsBesides
import Derived.Lib.Hide
import Derived.Maps.RangeWalk
import Derived.Maps.OwnSet
import Derived.Maps.Ext
import GoSem.ClaimWide
import Derived.KernelRfl
import Derived.OneCell
import Derived.BigQuiet
namespace Go.Proofs.YtcicjklhbnipcaaGreatDoor
set_option linter.unusedVariables false
set_option linter.unusedSimpArgs false
open Go.RowKit Go.ChangeShapes Go.WideShapes

/-- Cells 'cs' of a value read as 'x' in world 'w'; all that is looked at lies below block 'B'. -/
abbrev Rep (α : Type) := World → Nat → List Value → α → Prop

/-- Old blocks are as they were, as far as their cells go. -/
def Same (B : Nat) (w w' : World) : Prop := ∀ p : Addr, p.block < B → w'.cell? p = w.cell? p
theorem Same.refl (B : Nat) (w : World) : Same B w w := fun _ _ => rfl
theorem Same.trans {B : Nat} {a b c : World} (h : Same B a b) (k : Same B b c) : Same B a c := fun p hp => (k p hp).trans (h p hp)
theorem Same.of_below {B B' : Nat} {w w' : World} (h : Below B' w w') (hB : B ≤ B') : Same B w w' := fun _ hp => h.cell (Nat.lt_of_lt_of_le hp hB)

structure Kept {α : Type} (R : Rep α) : Prop where
  go : ∀ {w w' : World} {B B' : Nat} {cs : List Value} {x : α}, Same B w w' → B ≤ B' → R w B cs x → R w' B' cs x
theorem Kept.out {α : Type} {R : Rep α} (h : Kept R) {w w' : World} {B : Nat} {cs : List Value} {x : α} (hs : Same B w w') (hr : R w B cs x) : R w' B cs x := h.go hs (Nat.le_refl _) hr
theorem Kept.more {α : Type} {R : Rep α} (h : Kept R) {w : World} {B B' : Nat} {cs : List Value} {x : α} (hB : B ≤ B') (hr : R w B cs x) : R w B' cs x := h.go (Same.refl B w) hB hr

structure Opens (P : Program) (t : TypeId) {α : Type} (R : Rep α) : Prop where
  out : ∀ {H : Type} {enc : TypeId × Value → H} {w : World} {sp : Nat → Bool} {held : Bool} {n B : Nat} {cs : List Value} {y : DataW H × List MemPlace},
    DataW.trod enc P w 0 sp held n t cs = some y → (∀ p ∈ y.2, p.block < B) → ∃ x, R w B cs x

/-! ### numbers, bools, strings -/
def RInt (k : IntKind) : Rep Int := fun _ _ cs x => cs = [.int k x] ∧ (Lit.int k x).wf = true
def RBool : Rep Bool := fun _ _ cs x => cs = [.bool x]
def RStr : Rep ByteArray := fun _ _ cs x => cs = [.string x] ∧ x.size ≤ maxLen
theorem kept_int (k : IntKind) : Kept (RInt k) := ⟨fun _ _ h => h⟩
theorem kept_bool : Kept RBool := ⟨fun _ _ h => h⟩
theorem kept_str : Kept RStr := ⟨fun _ _ h => h⟩
theorem opens_int {P : Program} {t : TypeId} {k : IntKind} (ht : P.underlying t = some (.int k)) : Opens P t (RInt k) :=
  ⟨fun h _ => by obtain ⟨n, rfl, _, wf⟩ := DataW.trod_int ht h; exact ⟨n, rfl, wf⟩⟩
theorem opens_bool {P : Program} {t : TypeId} (ht : P.underlying t = some .bool) : Opens P t RBool :=
  ⟨fun h _ => by obtain ⟨n, rfl, _⟩ := DataW.trod_bool ht h; exact ⟨n, rfl⟩⟩
theorem opens_str {P : Program} {t : TypeId} (ht : P.underlying t = some .string) : Opens P t RStr :=
  ⟨fun h _ => by obtain ⟨s, rfl, _, hs⟩ := DataW.trod_string ht h; exact ⟨s, rfl, hs⟩⟩

/-! ### slices -/
/-- A slice whose elements take 'size' cells each and read by 'R'. -/
def RSlice (size : Nat) {α : Type} (R : Rep α) : Rep (List α) := fun w B cs xs =>
  ∃ (a : Option Addr) (cap : Nat), cs = [.slice a xs.length cap] ∧ xs.length ≤ cap ∧ cap ≤ maxLen ∧ (a = none → cap = 0) ∧
    (0 < xs.length → ∃ b off, a = some ⟨b, off, none⟩ ∧ b < B ∧
      ∀ i x, xs[i]? = some x → ∃ es : List Value, es.length = size ∧ (∀ j, j < size → w.cell? ⟨b, off + i * size + j, none⟩ = es[j]?) ∧ R w B es x)

theorem kept_slice {size : Nat} {α : Type} {R : Rep α} (hR : Kept R) : Kept (RSlice size R) := ⟨by
  rintro w w' B B' cs xs hs hB ⟨a, cap, rfl, h1, h2, h3, h4⟩
  refine ⟨a, cap, rfl, h1, h2, h3, fun hp => ?_⟩
  obtain ⟨b, off, rfl, hb, hx⟩ := h4 hp
  refine ⟨b, off, rfl, Nat.lt_of_lt_of_le hb hB, fun i x hi => ?_⟩
  obtain ⟨es, hl, hc, hr⟩ := hx i x hi
  exact ⟨es, hl, fun j hj => (hs ⟨b, off + i * size + j, none⟩ hb).trans (hc j hj), hR.go hs hB hr⟩⟩

theorem exists_list {α : Type} (n : Nat) (p : Nat → α → Prop) (h : ∀ i, i < n → ∃ x, p i x) : ∃ xs : List α, xs.length = n ∧ ∀ i x, xs[i]? = some x → p i x := by
  induction n with
  | zero => exact ⟨[], rfl, fun i x hx => by simp at hx⟩
  | succ n ih =>
    obtain ⟨xs, hl, hx⟩ := ih fun i hi => h i (by omega)
    obtain ⟨x, hn⟩ := h n (by omega)
    refine ⟨xs ++ [x], by simp [hl], fun i y hy => ?_⟩
    rcases Nat.lt_trichotomy i n with hlt | rfl | hgt
    · rw [List.getElem?_append_left (by omega)] at hy; exact hx i y hy
    · rw [List.getElem?_append_right (by omega)] at hy
      simp [hl] at hy; subst hy; exact hn
    · rw [List.getElem?_eq_none (by simp [hl]; omega)] at hy; cases hy

theorem add_block (a : Addr) (n : Nat) : (a.add n).block = a.block := by unfold Addr.add; split <;> rfl

theorem opens_slice {P : Program} {t e : TypeId} {size : Nat} {α : Type} {R : Rep α} (ht : P.underlying t = some (.slice e)) (hsz : P.cellsOf e = size) (hpos : 0 < size) (hR : Opens P e R) : Opens P t (RSlice size R) := ⟨by
  intro H enc w sp held n B cs y h hp
  rcases Go.Deep.open_slice ht h with ⟨rfl, rfl⟩ | ⟨a, len, cap, m, n', D, Pl, rfl, _, hl, hm, hmm, rfl, hi⟩
  · exact ⟨[], none, 0, rfl, Nat.le_refl _, by simp [maxLen], fun _ => rfl, fun h => absurd h (Nat.lt_irrefl _)⟩
  · have hlm : len ≤ m := by rw [hmm]; split <;> omega
    have hpl : ∀ i, i < m → ∀ p ∈ Pl i, p.block < B := fun i hi' p hp' => hp p (by
      simp only [List.mem_append, List.mem_flatMap, List.mem_range]
      exact .inr ⟨i, hi', hp'⟩)
    by_cases h0 : len = 0
    · subst h0
      exact ⟨[], some a, cap, rfl, Nat.zero_le _, hm, (fun h => by cases h), fun h => absurd h (Nat.lt_irrefl _)⟩
    · have hB : a.block < B := by
        have := hp (.cell a.block (a.off + 0)) (by
          simp only [List.mem_append]
          left
          unfold MemPlace.row
          rw [List.mem_map]
          exact ⟨0, by rw [List.mem_range, hsz]; exact Nat.mul_pos (by omega) hpos, rfl⟩)
        exact this
      have hspot : a.spot = none := by
        obtain ⟨cs', hc, _⟩ := hi 0 (by omega)
        obtain ⟨_, _, hat⟩ := World.cells?_some hc
        have h1 := hat 0 (by rw [hsz]; exact hpos)
        have hlen := (World.cells?_some hc).2.1
        rw [List.getElem?_eq_getElem (by rw [hlen, hsz]; exact hpos)] at h1
        have := World.cell?_spot h1
        simpa [Addr.add] using this
      obtain ⟨xs, hxl, hxs⟩ := exists_list (α := α) len (fun i x => ∃ es : List Value, es.length = size ∧ (∀ j, j < size → w.cell? ⟨a.block, a.off + i * size + j, none⟩ = es[j]?) ∧ R w B es x) (fun i hil => by
        obtain ⟨cs', hc, ht'⟩ := hi i (by omega)
        obtain ⟨_, hlen, hat⟩ := World.cells?_some hc
        obtain ⟨x, hx⟩ := hR.out ht' (fun p hp' => hpl i (by omega) p hp')
        refine ⟨x, cs', by rw [hlen, hsz], fun j hj => ?_, hx⟩
        rw [← hat j (by rw [hsz]; exact hj), hsz]
        congr 1
        obtain ⟨b, off, spot⟩ := a
        simp only at hspot
        subst hspot
        rw [Go.Deep.add_add]
        unfold Addr.add
        by_cases h0 : i * size + j = 0
        · rw [if_pos h0]
          simp only [Addr.mk.injEq, and_true, true_and]
          omega
        · rw [if_neg h0]
          simp only [Addr.mk.injEq, and_true, true_and]
          omega)
      subst hxl
      refine ⟨xs, some a, cap, rfl, hl, hm, (fun h => by cases h), fun _ => ⟨a.block, a.off, ?_, hB, hxs⟩⟩
      obtain ⟨b, off, spot⟩ := a
      simp only at hspot
      subst hspot
      rfl⟩

/-! ### structs -/
/-- A struct's cells, field by field: what field j's own cells are. -/
theorem opens_fields {H : Type} {enc : TypeId × Value → H} {P : Program} {w : World} {sp : Nat → Bool} {held : Bool} {n B : Nat} {t : TypeId} {fs : Array Field} {cs : List Value} {y : DataW H × List MemPlace}
    (ht : P.underlying t = some (.struct fs)) (h : DataW.trod enc P w 0 sp held n t cs = some y) (hp : ∀ p ∈ y.2, p.block < B) :
    cs.length = P.cellsOf t ∧ ∀ (i : Nat) (f : Field) {α : Type} {R : Rep α}, fs[i]? = some f → Opens P f.type R → ∃ x, R w B ((cs.drop f.offset).take (P.cellsOf f.type)) x := by
  obtain ⟨xs, n', _, rfl, hlen, hxl, hf⟩ := DataW.trod_struct ht h
  refine ⟨hlen, fun i f α R hi hR => ?_⟩
  have h1 := hf i f hi
  have hil : i < xs.length := by rw [hxl]; exact (Array.getElem?_eq_some_iff.1 hi).1
  rw [List.getElem?_eq_getElem hil] at h1
  refine hR.out h1 (fun p hp' => hp p ?_)
  simp only [List.mem_flatMap]
  exact ⟨xs[i], List.getElem_mem hil, hp'⟩

end Go.Proofs.YtcicjklhbnipcaaGreatDoor
namespace Go.Proofs.YtcicjklhbnipcaaGreatDoor
set_option linter.unusedVariables false
set_option linter.unusedSimpArgs false
open Go.RowKit

/-- It answers a bool of which Q holds, and the world is as it was. -/
def SomeB (Q : Bool → Prop) (w : World) (e : Ending) (w' : World) : Prop := ∃ b : Bool, e = .returned (.bool b) ∧ w = w' ∧ Q b
/-- It answers a bool of which Q holds; what was there is as it was. -/
def SomeBel (Q : Bool → Prop) (w : World) (e : Ending) (w' : World) : Prop := ∃ b : Bool, e = .returned (.bool b) ∧ Below w.heap.size w w' ∧ Q b

theorem grow_all {α : Type} {Q : α → Prop} {xs : List α} {k : Nat} {s : α} (h : ∀ j x, j < k → xs[j]? = some x → Q x) (hs : xs[k]? = some s) (hq : Q s) : ∀ j x, j < k + 1 → xs[j]? = some x → Q x := by
  intro j x hj hx
  rcases Nat.lt_succ_iff_lt_or_eq.1 hj with hlt | rfl
  · exact h j x hlt hx
  · rw [hs] at hx; injection hx with hx; subst hx; exact hq
theorem all_of {α : Type} {Q : α → Prop} {xs : List α} {k : Nat} (h : ∀ j x, j < k → xs[j]? = some x → Q x) (hk : xs.length ≤ k) : ∀ x ∈ xs, Q x := by
  intro x hx
  obtain ⟨j, hj, rfl⟩ := List.getElem_of_mem hx
  exact h j _ (by omega) (List.getElem?_eq_getElem hj)
theorem none_before {α : Type} {Q : α → Prop} (xs : List α) : ∀ j x, j < 0 → xs[j]? = some x → Q x := fun _ _ h => absurd h (by omega)

theorem slice_form {size : Nat} {α : Type} {R : Rep α} {w : World} {B : Nat} {v : Value} {xs : List α} (h : RSlice size R w B [v] xs) : ∃ a cap, v = .slice a xs.length cap := by
  obtain ⟨a, cap, h1, _⟩ := h
  exact ⟨a, cap, by simpa using h1⟩

theorem slice_open {size : Nat} {α : Type} {R : Rep α} {w : World} {B : Nat} {a : Option Addr} {n cap : Nat} {xs : List α} (h : RSlice size R w B [.slice a n cap] xs) :
    n = xs.length ∧ n ≤ cap ∧ cap ≤ maxLen ∧ (a = none → cap = 0) ∧ (0 < n → ∃ b off, a = some ⟨b, off, none⟩ ∧ b < B ∧
      ∀ k x, xs[k]? = some x → ∃ es : List Value, es.length = size ∧ (∀ j, j < size → w.cell? ⟨b, off + k * size + j, none⟩ = es[j]?) ∧ R w B es x) := by
  obtain ⟨a', cap', h1, h2, h3, h5, h4⟩ := h
  simp only [List.cons.injEq, Value.slice.injEq, and_true] at h1
  obtain ⟨rfl, rfl, rfl⟩ := h1
  exact ⟨rfl, h2, h3, h5, h4⟩

theorem maxLen_val : maxLen = 9223372036854775807 := by decide
theorem get_at {α : Type} {xs : List α} {k : Nat} (h : k < xs.length) : ∃ x, xs[k]? = some x := ⟨xs[k], List.getElem?_eq_getElem h⟩
theorem Same.alloc (B : Nat) (w : World) (o : Obj) (hB : B ≤ w.heap.size) : Same B w (w.alloc o) := Same.of_below ((Below.refl w.heap.size w).alloc (Nat.le_refl _) o) hB
theorem bcell {W w1 : World} {B : Nat} (hb : Below B W w1) : (∀ b o, b < B → w1.cell? ⟨b, o, none⟩ = W.cell? ⟨b, o, none⟩) ∧ (∀ b o, b < B → w1.frozen? ⟨b, o, none⟩ = W.frozen? ⟨b, o, none⟩) :=
  ⟨fun b o h => hb.cell (p := ⟨b, o, none⟩) h, fun b o h => hb.frozen (p := ⟨b, o, none⟩) h⟩
/-- A parameter's struct lies in the call's first new block: what is known of any world behind. -/
structure BoxedAt (w wx : World) (cs : List Value) : Prop where
  below : Below w.heap.size w wx
  size : w.heap.size < wx.heap.size
  cell : ∀ j v, cs[j]? = some v → wx.cell? ⟨w.heap.size, j, none⟩ = some v
theorem BoxedAt.alloc (w : World) (cs : List Value) (t : TypeId) : BoxedAt w (w.alloc (.cells cs.toArray t)) cs where
  below := (Below.refl _ _).alloc (Nat.le_refl _) _
  size := by simp
  cell := fun j v h => by
    have : (w.alloc (.cells cs.toArray t)).heap[w.heap.size]? = some (.cells cs.toArray t (0, 0)) := heap_alloc_new w _
    rw [cell_of_row _ _ j _ _ _ this]
    simpa using h
theorem BoxedAt.on {w wx wy : World} {cs : List Value} (h : BoxedAt w wx cs) (hb : Below wx.heap.size wx wy) : BoxedAt w wy cs where
  below := h.below.trans (hb.mono (Nat.le_of_lt h.size))
  size := Nat.lt_of_lt_of_le h.size hb.size
  cell := fun j v hj => (hb.cell (p := ⟨w.heap.size, j, none⟩) h.size).trans (h.cell j v hj)
theorem BoxedAt.on' {w wx wy : World} {cs : List Value} (h : BoxedAt w wx cs) (hb : Below (w.heap.size + 1) wx wy) : BoxedAt w wy cs where
  below := h.below.trans (hb.mono (by omega))
  size := Nat.lt_of_lt_of_le h.size hb.size
  cell := fun j v hj => (hb.cell (p := ⟨w.heap.size, j, none⟩) (by simp)).trans (h.cell j v hj)
theorem BoxedAt.grown {w wx wy : World} {cs : List Value} {row : Option Nat} (h : BoxedAt w wx cs) (hg : wx.grownBy wy row) (hr : ∀ k, row = some k → w.heap.size < k) : BoxedAt w wy cs :=
  h.on' ((Below.refl (w.heap.size + 1) wx).grown hg (by have := h.size; omega) (fun k hk => by have := hr k hk; omega))
theorem Kept.on {α : Type} {R : Rep α} (h : Kept R) {w w' : World} {cs : List Value} {x : α} (hb : Below w.heap.size w w') (hr : R w w.heap.size cs x) : R w' w'.heap.size cs x :=
  h.go (Same.of_below hb (Nat.le_refl _)) hb.size hr
theorem str_beq (x t : ByteArray) : (x.toList == t.toList) = (x.data.toList == t.data.toList) := by rw [ByteArray.toList_eq, ByteArray.toList_eq]
/-- A block that the call itself made holds these cells. -/
structure HoldsAt (w0 w : World) (g : Nat) (cs : List Value) : Prop where
  below : Below w0.heap.size w0 w
  lt : g < w.heap.size
  cell : ∀ j v, cs[j]? = some v → w.cell? ⟨g, j, none⟩ = some v
theorem HoldsAt.on {w0 w w' : World} {g : Nat} {cs : List Value} (h : HoldsAt w0 w g cs) (hs : w0.heap.size ≤ w.heap.size) (hb : Below w.heap.size w w') : HoldsAt w0 w' g cs where
  below := h.below.trans (hb.mono hs)
  lt := Nat.lt_of_lt_of_le h.lt hb.size
  cell := fun j v hj => (hb.cell (p := ⟨g, j, none⟩) h.lt).trans (h.cell j v hj)
/-- A slice over a block that is known whole. -/
theorem slice_of_block {size : Nat} {α : Type} {R : Rep α} {w : World} {g cap B : Nat} {cells : Array Value} {t : TypeId} {fz : Nat × Nat} {xs : List α} (hb : w.heap[g]? = some (.cells cells t fz)) (hg : g < B) (hl : xs.length ≤ cap) (hm : cap ≤ maxLen)
    (hx : ∀ i x, xs[i]? = some x → ∃ es : List Value, es.length = size ∧ (∀ j, j < size → cells[i * size + j]? = es[j]?) ∧ R w B es x) : RSlice size R w B [.slice (some ⟨g, 0, none⟩) xs.length cap] xs := by
  refine ⟨some ⟨g, 0, none⟩, cap, rfl, hl, hm, (fun h => by cases h), fun hp => ⟨g, 0, rfl, hg, fun i x hi => ?_⟩⟩
  obtain ⟨es, h1, h2, h3⟩ := hx i x hi
  refine ⟨es, h1, fun j hj => ?_, h3⟩
  rw [show 0 + i * size + j = i * size + j by omega, cell_of_row w g _ cells t fz hb]
  exact h2 j hj
theorem slice_nil {size : Nat} {α : Type} {R : Rep α} {w : World} {B : Nat} : RSlice size R w B [.slice none 0 0] ([] : List α) :=
  ⟨none, 0, rfl, Nat.le_refl _, by simp [maxLen], fun _ => rfl, fun h => absurd h (Nat.lt_irrefl _)⟩
end Go.Proofs.YtcicjklhbnipcaaGreatDoor
namespace Go.Proofs.YtcicjklhbnipcaaGreatDoor
set_option linter.unusedVariables false
set_option linter.unusedSimpArgs false
open Go.RowKit

/-- Of 'w' just the blocks of 'F' have turned, and there are new ones. -/
structure Only (F : List Nat) (w w' : World) : Prop where
  os : w'.os = w.os
  tape : w'.tape = w.tape
  output : w'.output = w.output
  size : w.heap.size ≤ w'.heap.size
  block : ∀ k, k < w.heap.size → k ∉ F → w'.heap[k]? = w.heap[k]?
theorem Only.refl (F : List Nat) (w : World) : Only F w w := ⟨rfl, rfl, rfl, Nat.le_refl _, fun _ _ _ => rfl⟩
theorem Only.trans {F : List Nat} {a b c : World} (h : Only F a b) (k : Only F b c) : Only F a c :=
  ⟨k.os.trans h.os, k.tape.trans h.tape, k.output.trans h.output, Nat.le_trans h.size k.size, fun i hi hn => (k.block i (Nat.lt_of_lt_of_le hi h.size) hn).trans (h.block i hi hn)⟩
/-- The second step may write what the first one made. -/
theorem Only.then {F F' : List Nat} {a b c : World} (h : Only F a b) (k : Only F' b c) (hF : ∀ x ∈ F', x ∈ F ∨ a.heap.size ≤ x) : Only F a c :=
  ⟨k.os.trans h.os, k.tape.trans h.tape, k.output.trans h.output, Nat.le_trans h.size k.size, fun i hi hn => (k.block i (Nat.lt_of_lt_of_le hi h.size) (fun hm => by rcases hF i hm with h1 | h1; exact hn h1; omega)).trans (h.block i hi hn)⟩
theorem Only.mono {F F' : List Nat} {a b : World} (h : Only F a b) (hF : ∀ x ∈ F, x ∈ F') : Only F' a b := ⟨h.os, h.tape, h.output, h.size, fun i hi hn => h.block i hi fun hm => hn (hF i hm)⟩
theorem Only.drew {F : List Nat} {a w : World} (h : Only F a w) : Only F a w.drew := ⟨h.os, h.tape, h.output, h.size, h.block⟩
theorem Only.alloc {F : List Nat} {a w : World} (h : Only F a w) (o : Obj) : Only F a (w.alloc o) :=
  h.trans ⟨rfl, rfl, rfl, by simp, fun k hk _ => Below.heap_alloc _ _ _ hk⟩
theorem Only.setCell {F : List Nat} {a w : World} (h : Only F a w) {p : Addr} (hp : p.block ∈ F ∨ a.heap.size ≤ p.block) (u : Value) : Only F a (w.setCell p u) :=
  ⟨h.os, h.tape, h.output, by simp only [World.setCell, Array.size_modify]; exact h.size, fun k hk hn => (Below.heap_setCell _ _ _ _ (fun e => by subst e; rcases hp with h1 | h1; exact hn h1; omega)).trans (h.block k hk hn)⟩
theorem Only.below {F : List Nat} {a w w' : World} (h : Only F a w) (hb : Below a.heap.size w w') : Only F a w' :=
  ⟨hb.os.trans h.os, hb.tape.trans h.tape, hb.output.trans h.output, Nat.le_trans h.size hb.size, fun k hk hn => (hb.block k hk).trans (h.block k hk hn)⟩
theorem Only.of_below {F : List Nat} {w w' : World} (hb : Below w.heap.size w w') : Only F w w' := (Only.refl F w).below hb
theorem Only.to_below {F : List Nat} {a w : World} (h : Only F a w) {B : Nat} (hB : B ≤ a.heap.size) (hF : ∀ x ∈ F, B ≤ x) : Below B a w :=
  ⟨h.os, h.tape, h.output, h.size, fun k hk => h.block k (by omega) (fun hm => by have := hF k hm; omega)⟩
theorem cell_row {w : World} {b : Nat} {cs : Array Value} {T : TypeId} {fz : Nat × Nat} (h : w.heap[b]? = some (.cells cs T fz)) (j : Nat) : w.cell? ⟨b, j, none⟩ = cs[j]? := cell_of_row _ _ j _ _ _ h
theorem free_row {w : World} {b : Nat} {cs : Array Value} {T : TypeId} (h : w.heap[b]? = some (.cells cs T (0, 0))) (j : Nat) : w.frozen? ⟨b, j, none⟩ = false := by
  simp [World.frozen?, h]
theorem set_row {w : World} {b : Nat} {cs : Array Value} {T : TypeId} {fz : Nat × Nat} (h : w.heap[b]? = some (.cells cs T fz)) (j : Nat) (v : Value) : (w.setCell ⟨b, j, none⟩ v).heap[b]? = some (.cells (cs.setIfInBounds j v) T fz) := by
  simp only [World.setCell, Array.getElem?_modify, if_pos, h, Option.map_some]
  rfl
theorem set_other {w : World} {b : Nat} (j : Nat) (v : Value) {k : Nat} (hk : k ≠ b) : (w.setCell ⟨b, j, none⟩ v).heap[k]? = w.heap[k]? := Below.heap_setCell _ _ _ _ hk
theorem size_alloc (w : World) (o : Obj) : (w.alloc o).heap.size = w.heap.size + 1 := by simp
theorem below_dr {B : Nat} {a w : World} (h : Below B a w) (n : Nat) : Below B a (w.drewN n) := ⟨h.os, h.tape, h.output, h.size, h.block⟩
theorem size_set (w : World) (p : Addr) (v : Value) : (w.setCell p v).heap.size = w.heap.size := by simp [World.setCell]
end Go.Proofs.YtcicjklhbnipcaaGreatDoor
namespace Go.Proofs.YtcicjklhbnipcaaGreatDoor
set_option linter.unusedVariables false
set_option linter.unusedSimpArgs false
open Go.RowKit Go.Maps Go.WideShapes

/-- Any value stands for itself. -/
def anyElem : Value → Option (DataW Value × List MemPlace) := fun v => some (.held v, [])
def heldD (l : List (Lit × Value)) : DataW Value := .map (l.map fun p => (p.1, DataW.held p.2))
/-- Block 'b' is a map that holds just these keys and values. -/
def MapAt (P : Program) (k : TypeId) (w : World) (b : Nat) (l : List (Lit × Value)) : Prop := w.ownsMap P k anyElem b l.length (heldD l)
def lookL (l : List (Lit × Value)) (kl : Lit) (z : Value) : Value :=
  match l.find? fun p => p.1.sameKey kl with
  | some p => p.2
  | none => z
def insL (x : Lit × Value) : List (Lit × Value) → List (Lit × Value)
  | [] => [x]
  | y :: r => if x.1.before y.1 then x :: y :: r else y :: insL x r
def delL (kl : Lit) (l : List (Lit × Value)) : List (Lit × Value) := l.filter fun p => !p.1.sameKey kl
def putL (kl : Lit) (v : Value) (l : List (Lit × Value)) : List (Lit × Value) := insL (kl, v) (delL kl l)

theorem atKey_held (l : List (Lit × Value)) (kl : Lit) (z : Value) : (heldD l).atKey kl (.held z) = .held (lookL l kl z) := by
  unfold heldD lookL DataW.atKey
  simp only
  rw [List.find?_map]
  rw [show (fun p : Lit × DataW Value => p.1.sameKey kl) ∘ (fun p : Lit × Value => (p.1, DataW.held p.2)) = fun p => p.1.sameKey kl from rfl]
  cases l.find? fun p => p.1.sameKey kl <;> rfl
theorem insert_held (x : Lit × Value) : ∀ l : List (Lit × Value), DataW.insert (x.1, .held x.2) (l.map fun p => (p.1, DataW.held p.2)) = (insL x l).map fun p => (p.1, DataW.held p.2)
  | [] => rfl
  | y :: r => by
    unfold insL
    simp only [List.map_cons, DataW.insert]
    split
    · rfl
    · simp [insert_held x r]
theorem filter_held (kl : Lit) (l : List (Lit × Value)) : (l.map fun p => (p.1, DataW.held p.2)).filter (fun (p : Lit × DataW Value) => !p.1.sameKey kl) = (delL kl l).map fun p => (p.1, DataW.held p.2) := by
  unfold delL
  rw [List.filter_map]
  rfl
theorem put_held (kl : Lit) (v : Value) (l : List (Lit × Value)) : (heldD l).put kl (.held v) = heldD (putL kl v l) := by
  show DataW.map (DataW.insert (kl, .held v) ((l.map fun p => (p.1, DataW.held p.2)).filter fun p => !p.1.sameKey kl)) = _
  rw [filter_held, insert_held (kl, v)]
  rfl
theorem del_held (kl : Lit) (l : List (Lit × Value)) : (heldD l).del kl = heldD (delL kl l) := by
  show DataW.map ((l.map fun p => (p.1, DataW.held p.2)).filter fun p => !p.1.sameKey kl) = _
  rw [filter_held]
  rfl
theorem size_held (l : List (Lit × Value)) : Maps.size (heldD l) = l.length := by simp [heldD, Maps.size]

section
variable {P : Program} {k : TypeId} {w : World} {b n : Nat} {l : List (Lit × Value)}

theorem tight {D : DataW Value} (h : w.ownsMap P k anyElem b n D) : w.ownsMap P k anyElem b (Maps.size D) D := by
  obtain ⟨es, clock, hb, F, hs, rfl⟩ := h
  refine ⟨es, clock, hb, F, ?_, rfl⟩
  show es.size ≤ ((es.toList.map _).foldr DataW.insert []).length
  rw [length_sorted]
  simp
theorem MapAt.of {l : List (Lit × Value)} (h : w.ownsMap P k anyElem b n (heldD l)) : MapAt P k w b l := by
  have := tight h
  rwa [size_held] at this
theorem MapAt.made (w : World) : MapAt P k (w.alloc (.map #[] 0)) w.heap.size [] := World.ownsMap_made _ _ _ _
theorem MapAt.lt (h : MapAt P k w b l) : b < w.heap.size := World.ownsMap.lt h
/-- All that matters is the block. -/
theorem MapAt.on {w' : World} (h : MapAt P k w b l) (hb : w'.heap[b]? = w.heap[b]?) : MapAt P k w' b l := by
  obtain ⟨es, clock, h1, F, hs, hD⟩ := h
  exact ⟨es, clock, hb.trans h1, F, hs, hD⟩
theorem MapAt.sorted (h : MapAt P k w b l) (K : Keyed P k) : l.Pairwise fun p q => p.1.before q.1 = true := by
  obtain ⟨es, e, hp, _⟩ := World.ownsMap.canon h K
  simp only [heldD, DataW.map.injEq] at e
  subst e
  rw [List.pairwise_map] at hp
  exact hp
theorem MapAt.keys (h : MapAt P k w b l) (K : Keyed P k) : ∀ p ∈ l, WideAt.IsKeyLit p.1 := by
  obtain ⟨es, e, _, hk⟩ := World.ownsMap.canon h K
  simp only [heldD, DataW.map.injEq] at e
  subst e
  intro p hp
  exact hk (p.1, .held p.2) (List.mem_map.2 ⟨p, hp, rfl⟩)
theorem MapAt.look {t e : TypeId} (h : MapAt P k w b l) (K : Keyed P k) (ht : P.underlying t = some (.map k e)) {z : Value} (hz : (zeroValue e).run P w = .ok z w) {key : Value} {kl : Lit} (hkey : keyOf P k key = some kl) :
    (Instr.lookup t (.map (some b)) key false).run P w = .ok (lookL l kl z) w := by
  obtain ⟨v, ps, hr, hv⟩ := World.ownsMap.lookup h K ht hz (zd := .held z) (zp := []) rfl hkey
  rw [atKey_held] at hv
  simp only [anyElem, Option.some.injEq, Prod.mk.injEq, DataW.held.injEq] at hv
  rw [hr, hv.1]
theorem MapAt.store {t e : TypeId} (h : MapAt P k w b l) (K : Keyed P k) (ht : P.underlying t = some (.map k e)) (hn : l.length < maxLen) {key val : Value} {kl : Lit} (hkey : keyOf P k key = some kl) :
    ∃ w', (Instr.mapUpdate t (.map (some b)) key val).run P w = .ok () w' ∧ MapAt P k w' b (putL kl val l) ∧ w.mapTurned w' b := by
  obtain ⟨es, clock, hb, F, hs, hD⟩ := h
  obtain ⟨es', clock', hrun, F', hput, _⟩ := Maps.fit_store (R' := anyElem) K ht hb F (Nat.lt_of_le_of_lt hs hn) (fun _ _ _ _ hz => hz) (val := val) hkey rfl
  refine ⟨_, hrun, MapAt.of (n := es'.size) ⟨es', clock', ChangeMaps.heap_setBlock_same hb _, F', Nat.le_refl _, ?_⟩, es, clock, es', clock', hb, rfl⟩
  rw [hput, ← put_held, hD, DataW.put_eq]
theorem MapAt.drop {t e ty : TypeId} (h : MapAt P k w b l) (K : Keyed P k) (ht : P.underlying t = some (.map k e)) {key : Value} {kl : Lit} (hkey : keyOf P k key = some kl) :
    ∃ w', (Builtin.delete_ #[t, k] ty #[.map (some b), key]).run P w = .ok (.tuple #[]) w' ∧ MapAt P k w' b (delL kl l) ∧ w.mapTurned w' b := by
  obtain ⟨w', hrun, h1, h2⟩ := World.ownsMap.drop h K ht hkey ty
  rw [del_held] at h1
  exact ⟨w', hrun, MapAt.of h1, h2⟩
theorem MapAt.len {t e : TypeId} (h : MapAt P k w b l) (ht : P.underlying t = some (.map k e)) (ty : TypeId) : (Builtin.len_ #[t] ty #[.map (some b)]).run P w = .ok (.int .i64 l.length) w := by
  have := World.ownsMap.len h ht ty
  rwa [size_held] at this
end

theorem Only.turned {F : List Nat} {a w w' : World} {b : Nat} (h : Only F a w) (ht : w.mapTurned w' b) (hb : b ∈ F ∨ a.heap.size ≤ b) : Only F a w' := by
  have g := ht.grown
  exact ⟨g.os.trans h.os, g.tape.trans h.tape, g.output.trans h.output, Nat.le_trans h.size g.size, fun k hk hn => (g.block k (Nat.lt_of_lt_of_le hk h.size) (fun e => by cases e; rcases hb with h1 | h1; exact hn h1; omega)).trans (h.block k hk hn)⟩
theorem turned_size {w w' : World} {b : Nat} (h : w.mapTurned w' b) : w'.heap.size = w.heap.size := by
  obtain ⟨es, clock, es', clock', _, rfl⟩ := h
  simp [ChangeMaps.setBlock]
theorem turned_other {w w' : World} {b : Nat} (h : w.mapTurned w' b) {i : Nat} (hi : i ≠ b) : w'.heap[i]? = w.heap[i]? := by
  obtain ⟨es, clock, es', clock', hb, rfl⟩ := h
  exact ChangeMaps.heap_setBlock_other hb _ hi
end Go.Proofs.YtcicjklhbnipcaaGreatDoor
namespace Go.Proofs.YtcicjklhbnipcaaGreatDoor
set_option linter.unusedVariables false
set_option linter.unusedSimpArgs false

/-- An inode: its number, whether it is a directory, names that lead to it, handles that hold it, bytes, names in it, sorted. -/
structure NodeD where
  id : Int
  dir : Bool
  links : Int
  holds : Int
  data : ByteArray
  names : List (ByteArray × Int)

/-- A table: its quota, what is taken, the number that was given last, its inodes by their numbers. -/
structure TabD where
  quota : Int
  used : Int
  last : Int
  nodes : List NodeD

def NodeD.setNames (n : NodeD) (d : List (ByteArray × Int)) : NodeD := { n with names := d }
def NodeD.setLinks (n : NodeD) (k : Int) : NodeD := { n with links := k }
def NodeD.setHolds (n : NodeD) (k : Int) : NodeD := { n with holds := k }
def NodeD.setData (n : NodeD) (d : ByteArray) : NodeD := { n with data := d }

namespace In
/-- Bytes before other bytes; the same bytes. -/
def before (a b : ByteArray) : Bool := bytesBefore a.data.toList b.data.toList
def same (a b : ByteArray) : Bool := a.data.toList == b.data.toList
def find (l : List NodeD) (id : Int) : Option NodeD := l.find? fun n => n.id == id
def leads (d : List (ByteArray × Int)) (s : ByteArray) : Int :=
  match d.find? fun p => same p.1 s with
  | some p => p.2
  | none => 0
def put (x : ByteArray × Int) : List (ByteArray × Int) → List (ByteArray × Int)
  | [] => [x]
  | y :: r => if before x.1 y.1 then x :: y :: r else y :: put x r
def without (d : List (ByteArray × Int)) (s : ByteArray) : List (ByteArray × Int) := d.filter fun p => !same p.1 s
/-- A name that was not there, or was, in its place. -/
def with_ (d : List (ByteArray × Int)) (s : ByteArray) (id : Int) : List (ByteArray × Int) := put (s, id) (without d s)
def set (l : List NodeD) (n : NodeD) : List NodeD := l.map fun m => if m.id == n.id then n else m
def del (l : List NodeD) (id : Int) : List NodeD := l.filter fun m => !(m.id == id)

/-- An inode that is there. -/
def at_ (t : TabD) (id : Int) : NodeD :=
  match find t.nodes id with
  | some n => n
  | none => ⟨id, false, 0, 0, ByteArray.empty, []⟩
def setN (t : TabD) (n : NodeD) : TabD := { t with nodes := set t.nodes n }
def nameIn (t : TabD) (dir : Int) (s : ByteArray) (id : Int) : TabD := setN t ((at_ t dir).setNames (with_ (at_ t dir).names s id))
def nameOut (t : TabD) (dir : Int) (s : ByteArray) : TabD := setN t ((at_ t dir).setNames (without (at_ t dir).names s))
def linksUp (t : TabD) (id : Int) : TabD := setN t ((at_ t id).setLinks ((at_ t id).links + 1))
def linksDown (t : TabD) (id : Int) : TabD := setN t ((at_ t id).setLinks ((at_ t id).links - 1))
def holdsUp (t : TabD) (id : Int) : TabD := setN t ((at_ t id).setHolds ((at_ t id).holds + 1))
def holdsDown (t : TabD) (id : Int) : TabD := setN t ((at_ t id).setHolds ((at_ t id).holds - 1))
/-- What is asked first: is there an inode of that number and kind? -/
def getE (t : TabD) (id : Int) (dir : Bool) : Int :=
  match find t.nodes id with
  | none => 3
  | some n => if n.dir == dir then 0 else 12
def isName (s : ByteArray) : Bool := decide (1 ≤ s.size) && decide (s.size ≤ 32) && !(s.data.toList.any fun c => c == 0 || c == 47) && !(s.data.toList == [46]) && !(s.data.toList == [46, 46])
def placeE (t : TabD) (dir : Int) (s : ByteArray) : Int :=
  if getE t dir true == 0 then (if isName s then 0 else 1) else getE t dir true
def emptyE (t : TabD) (dir : Int) (s : ByteArray) : Int :=
  if placeE t dir s == 0 then (if leads (at_ t dir).names s == 0 then 0 else 4) else placeE t dir s
def gone (t : TabD) (id : Int) : TabD :=
  if (at_ t id).links == 0 && (at_ t id).holds == 0 then { t with used := t.used - (64 + (at_ t id).data.size), nodes := del t.nodes id } else t
def makeE (t : TabD) (dir : Int) (s : ByteArray) : Int :=
  if emptyE t dir s == 0 then (if decide (4096 ≤ (t.nodes.length : Int)) then 5 else if decide (t.quota - t.used < 64) then 6 else 0) else emptyE t dir s
def makeT (t : TabD) (dir : Int) (s : ByteArray) (isDir : Bool) : TabD :=
  ⟨t.quota, t.used + 64, t.last + 1, (nameIn t dir s (t.last + 1)).nodes ++ [⟨t.last + 1, isDir, 1, 0, ByteArray.empty, []⟩]⟩
def make (t : TabD) (dir : Int) (s : ByteArray) (isDir : Bool) : Int × Int × TabD :=
  if makeE t dir s == 0 then (t.last + 1, 0, makeT t dir s isDir) else (0, makeE t dir s, t)
def findE (t : TabD) (dir : Int) (s : ByteArray) : Int :=
  if placeE t dir s == 0 then (if leads (at_ t dir).names s == 0 then 3 else 0) else placeE t dir s
def findN (t : TabD) (dir : Int) (s : ByteArray) : Int := if findE t dir s == 0 then leads (at_ t dir).names s else 0
def linkE (t : TabD) (id dir : Int) (s : ByteArray) : Int := if getE t id false == 0 then emptyE t dir s else getE t id false
def linkT (t : TabD) (id dir : Int) (s : ByteArray) : TabD := linksUp (nameIn t dir s id) id
def link (t : TabD) (id dir : Int) (s : ByteArray) : Int × TabD := if linkE t id dir s == 0 then (0, linkT t id dir s) else (linkE t id dir s, t)
/-- A name taken out of a directory. -/
def loses (t : TabD) (dir : Int) (s : ByteArray) : TabD := gone (linksDown (nameOut t dir s) (leads (at_ t dir).names s)) (leads (at_ t dir).names s)
def unlinkE (t : TabD) (dir : Int) (s : ByteArray) : Int := if findE t dir s == 0 then getE t (findN t dir s) false else findE t dir s
def unlink (t : TabD) (dir : Int) (s : ByteArray) : Int × TabD := if unlinkE t dir s == 0 then (0, loses t dir s) else (unlinkE t dir s, t)
def removeE (t : TabD) (dir : Int) (s : ByteArray) : Int :=
  if findE t dir s == 0 then (if getE t (findN t dir s) true == 0 then (if decide (0 < (at_ t (findN t dir s)).names.length) then 7 else 0) else getE t (findN t dir s) true) else findE t dir s
def remove (t : TabD) (dir : Int) (s : ByteArray) : Int × TabD := if removeE t dir s == 0 then (0, loses t dir s) else (removeE t dir s, t)
def renameE (t : TabD) (dir : Int) (s : ByteArray) (to : Int) (as_ : ByteArray) : Int :=
  if unlinkE t dir s == 0 then
    (if placeE t to as_ == 0 then
      (if leads (at_ t to).names as_ == findN t dir s then 0 else if leads (at_ t to).names as_ == 0 then 0 else if (at_ t (leads (at_ t to).names as_)).dir then 12 else 0)
    else placeE t to as_)
  else unlinkE t dir s
def renameIn (t : TabD) (dir : Int) (s : ByteArray) (to : Int) (as_ : ByteArray) (id : Int) : TabD := nameIn (nameOut t dir s) to as_ id
def renameT (t : TabD) (dir : Int) (s : ByteArray) (to : Int) (as_ : ByteArray) : TabD :=
  if leads (at_ t to).names as_ == findN t dir s then t
  else if leads (at_ t to).names as_ == 0 then renameIn t dir s to as_ (findN t dir s)
  else renameIn (loses t to as_) dir s to as_ (findN t dir s)
def rename (t : TabD) (dir : Int) (s : ByteArray) (to : Int) (as_ : ByteArray) : Int × TabD := if renameE t dir s to as_ == 0 then (0, renameT t dir s to as_) else (renameE t dir s to as_, t)
def listE (t : TabD) (dir : Int) : Int := getE t dir true
def list (t : TabD) (dir : Int) : List ByteArray := if listE t dir == 0 then (at_ t dir).names.map Prod.fst else []
def fileE (t : TabD) (id n : Int) : Int := if getE t id false == 0 then (if decide (n < 0) then 1 else 0) else getE t id false
/-- A part of bytes. -/
def part (s : ByteArray) (at_ n : Int) : ByteArray := s.extract (min at_.toNat s.size) (min at_.toNat s.size + min n.toNat (s.size - min at_.toNat s.size))
def readE (t : TabD) (id a n : Int) : Int := fileE t id (min a n)
def read (t : TabD) (id a n : Int) : ByteArray := if readE t id a n == 0 then part (at_ t id).data a n else ByteArray.empty
def sizedE (t : TabD) (x : NodeD) (n : Int) : Int := if decide (1048576 < n) then 5 else if decide (t.quota - t.used < n - x.data.size) then 6 else 0
def noughts (n : Nat) : ByteArray := ⟨(List.replicate n 0).toArray⟩
/-- Bytes cut, or with noughts behind, so that they are so many. -/
def resized (s : ByteArray) (n : Nat) : ByteArray := (s ++ noughts (n - s.size)).extract 0 n
def dataOf (t : TabD) (id : Int) (v : ByteArray) : TabD := setN t ((at_ t id).setData v)
def sizedT (t : TabD) (id n : Int) : TabD :=
  ⟨t.quota, t.used + (n - (at_ t id).data.size), t.last, (dataOf t id (resized (at_ t id).data n.toNat)).nodes⟩
def writeE (t : TabD) (id a : Int) (s : ByteArray) : Int :=
  if fileE t id a == 0 then
    (if decide (1048576 < a) || decide (1048576 - a < s.size) then 5 else if s.size == 0 then 0 else sizedE t (at_ t id) (max (a + s.size) (at_ t id).data.size))
  else fileE t id a
/-- Bytes over other bytes. -/
def over (d : ByteArray) (a : Nat) (s : ByteArray) : ByteArray := d.extract 0 a ++ s ++ d.extract (a + s.size) d.size
def overT (t : TabD) (id a : Int) (s : ByteArray) : TabD := dataOf t id (over (at_ t id).data a.toNat s)
def writeT (t : TabD) (id a : Int) (s : ByteArray) : TabD :=
  if s.size == 0 then t else overT (sizedT t id (max (a + s.size) (at_ t id).data.size)) id a s
def write (t : TabD) (id a : Int) (s : ByteArray) : Int × TabD := if writeE t id a s == 0 then (0, writeT t id a s) else (writeE t id a s, t)
def truncE (t : TabD) (id n : Int) : Int := if fileE t id n == 0 then sizedE t (at_ t id) n else fileE t id n
def trunc (t : TabD) (id n : Int) : Int × TabD := if truncE t id n == 0 then (0, sizedT t id n) else (truncE t id n, t)
def holdE (t : TabD) (id : Int) : Int := if getE t id false == 0 then (if decide (1048576 ≤ (at_ t id).holds) then 5 else 0) else getE t id false
def hold (t : TabD) (id : Int) : Int × TabD := if holdE t id == 0 then (0, holdsUp t id) else (holdE t id, t)
def dropE (t : TabD) (id : Int) : Int :=
  match find t.nodes id with
  | none => 3
  | some n => if n.holds == 0 then 1 else 0
def drop (t : TabD) (id : Int) : Int × TabD := if dropE t id == 0 then (0, gone (holdsDown t id) id) else (dropE t id, t)
def new (quota : Int) : TabD := ⟨quota, 64, 1, [⟨1, true, 1, 0, ByteArray.empty, []⟩]⟩
def newE (quota : Int) : Int := if decide (quota < 64) || decide (1099511627776 < quota) then 1 else 0
end In
end Go.Proofs.YtcicjklhbnipcaaGreatDoor
namespace Go.Proofs.YtcicjklhbnipcaaGreatDoor
set_option linter.unusedVariables false
set_option linter.unusedSimpArgs false
open Go.RowKit Go.Maps Go.WideShapes

/-- A number fits into an int. -/
abbrev Fits (x : Int) : Prop := (Lit.int .i64 x).wf = true
theorem fits_of {x : Int} (h1 : -9223372036854775808 ≤ x) (h2 : x ≤ 9223372036854775807) : Fits x := WalkArith.wf_i64 ⟨h1, h2⟩
theorem fits_to {x : Int} (h : Fits x) : -9223372036854775808 ≤ x ∧ x ≤ 9223372036854775807 := by
  have h' : (decide (IntKind.i64.min ≤ x) && decide (x ≤ IntKind.i64.max)) = true := h
  rw [Bool.and_eq_true, decide_eq_true_eq, decide_eq_true_eq] at h'
  exact h'

theorem key_str : Keyed Tryz.prog 9 := string_keyed Tryz.underlying9
theorem key_int : Keyed Tryz.prog 3 := int_keyed Tryz.underlying3
def namesL (d : List (ByteArray × Int)) : List (Lit × Value) := d.map fun p => (.string p.1.data.toList, .int .i64 p.2)
def nodesL (β : Int → Nat × Nat) (l : List NodeD) : List (Lit × Value) := l.map fun n => (.int .i64 n.id, .pointer (some ⟨(β n.id).1, 0, none⟩))
def NamesAt (w : World) (m : Nat) (d : List (ByteArray × Int)) : Prop := MapAt Tryz.prog 9 w m (namesL d)
def NodesAt (w : World) (m : Nat) (β : Int → Nat × Nat) (l : List NodeD) : Prop := MapAt Tryz.prog 3 w m (nodesL β l)

/-! ### names: what the map's steps are on the plain list -/
theorem look_names (d : List (ByteArray × Int)) (s : ByteArray) : lookL (namesL d) (.string s.data.toList) (.int .i64 0) = .int .i64 (In.leads d s) := by
  unfold lookL namesL In.leads
  rw [List.find?_map]
  rw [show (fun p : Lit × Value => p.1.sameKey (.string s.data.toList)) ∘ (fun p : ByteArray × Int => (Lit.string p.1.data.toList, Value.int .i64 p.2)) = fun p => In.same p.1 s from rfl]
  cases d.find? fun p => In.same p.1 s <;> rfl
theorem del_names (d : List (ByteArray × Int)) (s : ByteArray) : delL (.string s.data.toList) (namesL d) = namesL (In.without d s) := by
  unfold delL namesL In.without
  rw [List.filter_map]
  rfl
theorem ins_names (s : ByteArray) (id : Int) : ∀ d : List (ByteArray × Int), insL (.string s.data.toList, .int .i64 id) (namesL d) = namesL (In.put (s, id) d)
  | [] => rfl
  | y :: r => by
    have ih := ins_names s id r
    unfold namesL at ih ⊢
    simp only [List.map_cons, insL, In.put]
    rw [ih]
    have e : (Lit.string s.data.toList).before (.string y.1.data.toList) = In.before s y.1 := rfl
    rw [e]
    split <;> rfl
theorem put_names (d : List (ByteArray × Int)) (s : ByteArray) (id : Int) : putL (.string s.data.toList) (.int .i64 id) (namesL d) = namesL (In.with_ d s id) := by
  unfold putL In.with_
  rw [del_names, ins_names]

/-! ### inodes: the same -/
theorem look_nodes (β : Int → Nat × Nat) (l : List NodeD) (id : Int) :
    lookL (nodesL β l) (.int .i64 id) (.pointer none) = match In.find l id with | some n => .pointer (some ⟨(β n.id).1, 0, none⟩) | none => .pointer none := by
  unfold lookL nodesL In.find
  rw [List.find?_map]
  rw [show (fun p : Lit × Value => p.1.sameKey (.int .i64 id)) ∘ (fun n : NodeD => (Lit.int .i64 n.id, Value.pointer (some ⟨(β n.id).1, 0, none⟩))) = fun n => n.id == id from by
    funext n
    show decide (IntKind.i64 = IntKind.i64 ∧ n.id = id) = (n.id == id)
    simp [Bool.beq_eq_decide_eq]]
  cases l.find? fun n => n.id == id <;> rfl
theorem del_nodes (β : Int → Nat × Nat) (l : List NodeD) (id : Int) : delL (.int .i64 id) (nodesL β l) = nodesL β (In.del l id) := by
  unfold delL nodesL In.del
  rw [List.filter_map]
  congr 2
  funext n
  show (!decide (IntKind.i64 = IntKind.i64 ∧ n.id = id)) = !(n.id == id)
  simp [Bool.beq_eq_decide_eq]

/-! ### the table -/
structure NodeAt (w : World) (b m : Nat) (n : NodeD) : Prop where
  row : w.heap[b]? = some (.cells #[.bool n.dir, .int .i64 n.links, .int .i64 n.holds, .string n.data, .map (some m)] 166 (0, 0))
  names : NamesAt w m n.names
def foot (g mb : Nat) (β : Int → Nat × Nat) (l : List NodeD) : List Nat := g :: mb :: l.flatMap fun n => [(β n.id).1, (β n.id).2]
structure TblAt (w : World) (g mb : Nat) (β : Int → Nat × Nat) (t : TabD) : Prop where
  row : w.heap[g]? = some (.cells #[.int .i64 t.quota, .int .i64 t.used, .int .i64 t.last, .map (some mb)] 162 (0, 0))
  map : NodesAt w mb β t.nodes
  node : ∀ n ∈ t.nodes, NodeAt w (β n.id).1 (β n.id).2 n
  apart : (foot g mb β t.nodes).Nodup

theorem NodeAt.on {w w' : World} {b m : Nat} {n : NodeD} (h : NodeAt w b m n) (hb : w'.heap[b]? = w.heap[b]?) (hm : w'.heap[m]? = w.heap[m]?) : NodeAt w' b m n := ⟨hb.trans h.row, MapAt.on h.names hm⟩
theorem mem_foot {g mb : Nat} {β : Int → Nat × Nat} {l : List NodeD} {x : Nat} : x ∈ foot g mb β l ↔ x = g ∨ x = mb ∨ ∃ n ∈ l, x = (β n.id).1 ∨ x = (β n.id).2 := by
  unfold foot
  simp only [List.mem_cons, List.mem_flatMap, List.not_mem_nil, or_false]
/-- All that matters are the table's own blocks. -/
theorem TblAt.on {w w' : World} {g mb : Nat} {β : Int → Nat × Nat} {t : TabD} (h : TblAt w g mb β t) (hs : ∀ k ∈ foot g mb β t.nodes, w'.heap[k]? = w.heap[k]?) : TblAt w' g mb β t where
  row := (hs g (mem_foot.2 (.inl rfl))).trans h.row
  map := MapAt.on h.map (hs mb (mem_foot.2 (.inr (.inl rfl))))
  node := fun n hn => (h.node n hn).on (hs _ (mem_foot.2 (.inr (.inr ⟨n, hn, .inl rfl⟩)))) (hs _ (mem_foot.2 (.inr (.inr ⟨n, hn, .inr rfl⟩))))
  apart := h.apart
theorem lt_of_get {w : World} {k : Nat} {o : Obj} (h : w.heap[k]? = some o) : k < w.heap.size := (Array.getElem?_eq_some_iff.1 h).1
theorem TblAt.lt {w : World} {g mb : Nat} {β : Int → Nat × Nat} {t : TabD} (h : TblAt w g mb β t) : ∀ k ∈ foot g mb β t.nodes, k < w.heap.size := fun k hk => by
  rcases mem_foot.1 hk with rfl | rfl | ⟨n, hn, rfl | rfl⟩
  · exact lt_of_get h.row
  · exact MapAt.lt h.map
  · exact lt_of_get (h.node n hn).row
  · exact MapAt.lt (h.node n hn).names
theorem TblAt.only {w w' : World} {F : List Nat} {g mb : Nat} {β : Int → Nat × Nat} {t : TabD} (h : TblAt w g mb β t) (ho : Only F w w') (hF : ∀ x ∈ F, x ∉ foot g mb β t.nodes) : TblAt w' g mb β t :=
  h.on fun k hk => ho.block k (h.lt k hk) fun hm => hF k hm hk
theorem TblAt.below {w w' : World} {g mb : Nat} {β : Int → Nat × Nat} {t : TabD} (h : TblAt w g mb β t) (hb : Below w.heap.size w w') : TblAt w' g mb β t :=
  h.on fun k hk => hb.block k (h.lt k hk)
theorem TblAt.ids {w : World} {g mb : Nat} {β : Int → Nat × Nat} {t : TabD} (h : TblAt w g mb β t) : t.nodes.Pairwise fun a b => a.id < b.id := by
  have := MapAt.sorted h.map key_int
  unfold nodesL at this
  rw [List.pairwise_map] at this
  exact this.imp fun h => by simpa [Lit.before] using h
theorem find_mem {l : List NodeD} {id : Int} {n : NodeD} (h : In.find l id = some n) : n ∈ l ∧ n.id = id := by
  refine ⟨List.mem_of_find?_eq_some h, ?_⟩
  have := List.find?_some h
  simpa using this
theorem find_of {l : List NodeD} (hs : l.Pairwise fun a b => a.id < b.id) {n : NodeD} (hn : n ∈ l) : In.find l n.id = some n := by
  induction l with
  | nil => cases hn
  | cons y r ih =>
    obtain ⟨h1, h2⟩ := List.pairwise_cons.1 hs
    unfold In.find
    rw [List.find?_cons]
    rcases List.mem_cons.1 hn with rfl | hn
    · simp
    · have : (y.id == n.id) = false := by rw [beq_eq_false_iff_ne]; have := h1 n hn; omega
      rw [this]
      exact ih h2 hn
theorem mem_set {l : List NodeD} {n m : NodeD} (h : m ∈ In.set l n) : m = n ∨ (m ∈ l ∧ m.id ≠ n.id) := by
  unfold In.set at h
  obtain ⟨x, hx, rfl⟩ := List.mem_map.1 h
  split
  · exact .inl rfl
  · rename_i hne
    exact .inr ⟨hx, by simpa using hne⟩
theorem nodesL_set (β : Int → Nat × Nat) (l : List NodeD) (n : NodeD) : nodesL β (In.set l n) = nodesL β l := by
  unfold nodesL In.set
  rw [List.map_map]
  refine List.map_congr_left fun m _ => ?_
  simp only [Function.comp]
  split
  · rename_i h
    rw [show m.id = n.id by simpa using h]
  · rfl
theorem foot_set (g mb : Nat) (β : Int → Nat × Nat) (l : List NodeD) (n : NodeD) : foot g mb β (In.set l n) = foot g mb β l := by
  unfold foot In.set
  rw [List.flatMap_map]
  congr 2
  rw [List.flatMap_def, List.flatMap_def]
  congr 1
  refine List.map_congr_left fun m _ => ?_
  split
  · rename_i h
    rw [show m.id = n.id by simpa using h]
  · rfl
/-- Two inodes' blocks are apart. -/
theorem flat_apart {β : Int → Nat × Nat} : ∀ {l : List NodeD}, (l.flatMap fun n => [(β n.id).1, (β n.id).2]).Nodup → (l.Pairwise fun a b => a.id < b.id) → ∀ {n m : NodeD}, n ∈ l → m ∈ l → m.id ≠ n.id →
    (β m.id).1 ≠ (β n.id).1 ∧ (β m.id).1 ≠ (β n.id).2 ∧ (β m.id).2 ≠ (β n.id).1 ∧ (β m.id).2 ≠ (β n.id).2
  | [], _, _, _, _, hn, _, _ => by cases hn
  | y :: r, hd, hs, n, m, hn, hm, hne => by
    rw [List.flatMap_cons] at hd
    obtain ⟨h1, h2, h3⟩ := List.nodup_append.1 hd
    obtain ⟨s1, s2⟩ := List.pairwise_cons.1 hs
    have inr : ∀ {x : NodeD}, x ∈ r → (β x.id).1 ∈ (r.flatMap fun n => [(β n.id).1, (β n.id).2]) ∧ (β x.id).2 ∈ (r.flatMap fun n => [(β n.id).1, (β n.id).2]) := fun {x} hx =>
      ⟨List.mem_flatMap.2 ⟨x, hx, by simp⟩, List.mem_flatMap.2 ⟨x, hx, by simp⟩⟩
    rcases List.mem_cons.1 hn with rfl | hn' <;> rcases List.mem_cons.1 hm with rfl | hm'
    · exact absurd rfl hne
    · have := inr hm'
      exact ⟨fun e => h3 (β n.id).1 (by simp) _ this.1 e.symm, fun e => h3 (β n.id).2 (by simp) _ this.1 e.symm, fun e => h3 (β n.id).1 (by simp) _ this.2 e.symm, fun e => h3 (β n.id).2 (by simp) _ this.2 e.symm⟩
    · have := inr hn'
      exact ⟨fun e => h3 (β m.id).1 (by simp) _ this.1 e, fun e => h3 (β m.id).1 (by simp) _ this.2 e, fun e => h3 (β m.id).2 (by simp) _ this.1 e, fun e => h3 (β m.id).2 (by simp) _ this.2 e⟩
    · exact flat_apart h2 s2 hn' hm' hne
section
variable {w : World} {g mb : Nat} {β : Int → Nat × Nat} {t : TabD}
theorem TblAt.apart_node (h : TblAt w g mb β t) {n m : NodeD} (hn : n ∈ t.nodes) (hm : m ∈ t.nodes) (hne : m.id ≠ n.id) :
    (β m.id).1 ≠ (β n.id).1 ∧ (β m.id).1 ≠ (β n.id).2 ∧ (β m.id).2 ≠ (β n.id).1 ∧ (β m.id).2 ≠ (β n.id).2 := by
  have hd := h.apart
  unfold foot at hd
  exact flat_apart (List.nodup_cons.1 (List.nodup_cons.1 hd).2).2 h.ids hn hm hne
theorem TblAt.apart_self (h : TblAt w g mb β t) {n : NodeD} (hn : n ∈ t.nodes) : g ≠ mb ∧ g ≠ (β n.id).1 ∧ g ≠ (β n.id).2 ∧ mb ≠ (β n.id).1 ∧ mb ≠ (β n.id).2 := by
  have hd := h.apart
  unfold foot at hd
  obtain ⟨h1, h2⟩ := List.nodup_cons.1 hd
  obtain ⟨h3, _⟩ := List.nodup_cons.1 h2
  simp only [List.mem_cons, not_or] at h1
  refine ⟨h1.1, fun e => h1.2 ?_, fun e => h1.2 ?_, fun e => h3 ?_, fun e => h3 ?_⟩ <;> rw [e] <;> exact List.mem_flatMap.2 ⟨n, hn, by simp⟩
theorem TblAt.apart_two (h : TblAt w g mb β t) {n : NodeD} (hn : n ∈ t.nodes) : (β n.id).1 ≠ (β n.id).2 := by
  intro e
  have h1 := (h.node n hn).row
  obtain ⟨es, clock, h2, _⟩ := (h.node n hn).names
  rw [e, h2] at h1
  cases h1
theorem TblAt.apart_mb (h : TblAt w g mb β t) : g ≠ mb := by
  have hd := h.apart
  unfold foot at hd
  have := (List.nodup_cons.1 hd).1
  simp only [List.mem_cons, not_or] at this
  exact this.1
/-- An inode's own block or its names have turned. -/
theorem TblAt.node_upd {w' : World} (h : TblAt w g mb β t) {n : NodeD} {o : NodeD} (hn : In.find t.nodes n.id = some o)
    (hw : ∀ k ∈ foot g mb β t.nodes, k ≠ (β n.id).1 → k ≠ (β n.id).2 → w'.heap[k]? = w.heap[k]?) (hN : NodeAt w' (β n.id).1 (β n.id).2 n) : TblAt w' g mb β (In.setN t n) := by
  obtain ⟨ho, hid⟩ := find_mem hn
  have ax := h.apart_self ho
  rw [hid] at ax
  refine ⟨?_, ?_, ?_, ?_⟩
  · exact (hw g (mem_foot.2 (.inl rfl)) ax.2.1 ax.2.2.1).trans h.row
  · show MapAt _ _ _ _ (nodesL β (In.set t.nodes n))
    rw [nodesL_set]
    exact MapAt.on h.map (hw mb (mem_foot.2 (.inr (.inl rfl))) ax.2.2.2.1 ax.2.2.2.2)
  · intro m hm
    rcases mem_set hm with rfl | ⟨hm, hne⟩
    · exact hN
    · have ap := h.apart_node ho hm (by rw [hid]; exact hne)
      rw [hid] at ap
      exact (h.node m hm).on (hw _ (mem_foot.2 (.inr (.inr ⟨m, hm, .inl rfl⟩))) ap.1 ap.2.1) (hw _ (mem_foot.2 (.inr (.inr ⟨m, hm, .inr rfl⟩))) ap.2.2.1 ap.2.2.2)
  · show (foot g mb β (In.set t.nodes n)).Nodup
    rw [foot_set]
    exact h.apart
/-- The table's own numbers have turned. -/
theorem TblAt.own_upd {w' : World} (h : TblAt w g mb β t) {q u l : Int} (hw : ∀ k ∈ foot g mb β t.nodes, k ≠ g → w'.heap[k]? = w.heap[k]?)
    (hr : w'.heap[g]? = some (.cells #[.int .i64 q, .int .i64 u, .int .i64 l, .map (some mb)] 162 (0, 0))) : TblAt w' g mb β ⟨q, u, l, t.nodes⟩ where
  row := hr
  map := MapAt.on h.map (hw mb (mem_foot.2 (.inr (.inl rfl))) (fun e => h.apart_mb e.symm))
  node := fun n hn => (h.node n hn).on (hw _ (mem_foot.2 (.inr (.inr ⟨n, hn, .inl rfl⟩))) (fun e => (h.apart_self hn).2.1 e.symm)) (hw _ (mem_foot.2 (.inr (.inr ⟨n, hn, .inr rfl⟩))) (fun e => (h.apart_self hn).2.2.1 e.symm))
  apart := h.apart
theorem mem_del {l : List NodeD} {id : Int} {m : NodeD} (h : m ∈ In.del l id) : m ∈ l ∧ m.id ≠ id := by
  unfold In.del at h
  obtain ⟨h1, h2⟩ := List.mem_filter.1 h
  exact ⟨h1, by simpa using h2⟩
theorem foot_del_sub (g mb : Nat) (β : Int → Nat × Nat) (l : List NodeD) (id : Int) : (foot g mb β (In.del l id)).Sublist (foot g mb β l) := by
  unfold foot In.del
  refine List.Sublist.cons_cons _ (List.Sublist.cons_cons _ ?_)
  induction l with
  | nil => exact List.Sublist.refl _
  | cons y r ih =>
    rw [List.filter_cons, List.flatMap_cons]
    split
    · rw [List.flatMap_cons]
      exact List.Sublist.append_left ih _
    · exact ih.trans (List.sublist_append_right _ _)
/-- An inode has gone out of the map. -/
theorem TblAt.del_upd {w' : World} (h : TblAt w g mb β t) {id : Int} (hw : ∀ k ∈ foot g mb β t.nodes, k ≠ mb → w'.heap[k]? = w.heap[k]?) (hm : MapAt Tryz.prog 3 w' mb (delL (.int .i64 id) (nodesL β t.nodes))) :
    TblAt w' g mb β { t with nodes := In.del t.nodes id } where
  row := (hw g (mem_foot.2 (.inl rfl)) h.apart_mb).trans h.row
  map := by rw [del_nodes] at hm; exact hm
  node := fun n hn => by
    have hn := (mem_del hn).1
    exact (h.node n hn).on (hw _ (mem_foot.2 (.inr (.inr ⟨n, hn, .inl rfl⟩))) (fun e => (h.apart_self hn).2.2.2.1 e.symm)) (hw _ (mem_foot.2 (.inr (.inr ⟨n, hn, .inr rfl⟩))) (fun e => (h.apart_self hn).2.2.2.2 e.symm))
  apart := h.apart.sublist (foot_del_sub _ _ _ _ _)
end

/-! ### steps -/
section
variable {w : World} {g mb : Nat} {β : Int → Nat × Nat} {t : TabD}
theorem TblAt.set_used (h : TblAt w g mb β t) (u : Int) : TblAt (w.setCell ⟨g, 1, none⟩ (.int .i64 u)) g mb β { t with used := u } :=
  h.own_upd (fun _ _ hk => set_other _ _ hk) (by rw [set_row h.row]; rfl)
theorem TblAt.set_last (h : TblAt w g mb β t) (l : Int) : TblAt (w.setCell ⟨g, 2, none⟩ (.int .i64 l)) g mb β { t with last := l } :=
  h.own_upd (fun _ _ hk => set_other _ _ hk) (by rw [set_row h.row]; rfl)
theorem TblAt.at {id : Int} {n : NodeD} (h : TblAt w g mb β t) (hn : In.find t.nodes id = some n) : NodeAt w (β id).1 (β id).2 n := by
  obtain ⟨h1, rfl⟩ := find_mem hn
  exact h.node n h1
theorem TblAt.set_links {id : Int} {n : NodeD} (h : TblAt w g mb β t) (hn : In.find t.nodes id = some n) (v : Int) : TblAt (w.setCell ⟨(β id).1, 1, none⟩ (.int .i64 v)) g mb β (In.setN t { n with links := v }) := by
  obtain rfl := (find_mem hn).2
  have hN := h.at hn
  have ne := h.apart_two (find_mem hn).1
  exact h.node_upd (n := { n with links := v }) hn (fun k _ hk _ => set_other _ _ hk) ⟨by rw [set_row hN.row]; rfl, MapAt.on hN.names (set_other _ _ (fun e => ne e.symm))⟩
theorem TblAt.set_holds {id : Int} {n : NodeD} (h : TblAt w g mb β t) (hn : In.find t.nodes id = some n) (v : Int) : TblAt (w.setCell ⟨(β id).1, 2, none⟩ (.int .i64 v)) g mb β (In.setN t { n with holds := v }) := by
  obtain rfl := (find_mem hn).2
  have hN := h.at hn
  have ne := h.apart_two (find_mem hn).1
  exact h.node_upd (n := { n with holds := v }) hn (fun k _ hk _ => set_other _ _ hk) ⟨by rw [set_row hN.row]; rfl, MapAt.on hN.names (set_other _ _ (fun e => ne e.symm))⟩
theorem TblAt.set_data {id : Int} {n : NodeD} (h : TblAt w g mb β t) (hn : In.find t.nodes id = some n) (v : ByteArray) : TblAt (w.setCell ⟨(β id).1, 3, none⟩ (.string v)) g mb β (In.setN t { n with data := v }) := by
  obtain rfl := (find_mem hn).2
  have hN := h.at hn
  have ne := h.apart_two (find_mem hn).1
  exact h.node_upd (n := { n with data := v }) hn (fun k _ hk _ => set_other _ _ hk) ⟨by rw [set_row hN.row]; rfl, MapAt.on hN.names (set_other _ _ (fun e => ne e.symm))⟩
theorem TblAt.set_names {w' : World} {id : Int} {n : NodeD} (h : TblAt w g mb β t) (hn : In.find t.nodes id = some n) {d : List (ByteArray × Int)} (hm : NamesAt w' (β id).2 d) (ht : w.mapTurned w' (β id).2) : TblAt w' g mb β (In.setN t { n with names := d }) := by
  obtain rfl := (find_mem hn).2
  have hN := h.at hn
  have ne := h.apart_two (find_mem hn).1
  exact h.node_upd (n := { n with names := d }) hn (fun k _ _ hk => turned_other ht hk) ⟨(turned_other ht ne).trans hN.row, hm⟩
theorem find_setN {t : TabD} {n : NodeD} {id : Int} (hn : (In.find t.nodes n.id).isSome = true) : In.find (In.setN t n).nodes id = if id = n.id then some n else In.find t.nodes id := by
  show In.find (In.set t.nodes n) id = _
  unfold In.set In.find at *
  generalize t.nodes = l at *
  induction l with
  | nil => cases hn
  | cons y r ih =>
    rw [List.map_cons, List.find?_cons, List.find?_cons]
    rw [List.find?_cons] at hn
    by_cases hy : y.id = n.id
    · have e1 : (y.id == n.id) = true := by simpa using hy
      rw [if_pos e1]
      by_cases hi : id = n.id
      · subst hi; simp
      · rw [if_neg hi]
        have e2 : (n.id == id) = false := by rw [beq_eq_false_iff_ne]; exact fun e => hi e.symm
        have e3 : (y.id == id) = false := by rw [hy]; exact e2
        rw [e2, e3]
        simp only
        rw [List.find?_map]
        have : ((fun m : NodeD => m.id == id) ∘ fun m => if m.id == n.id then n else m) = fun m => m.id == id := by
          funext m
          simp only [Function.comp]
          split
          · rename_i hm
            rw [show m.id = n.id by simpa using hm]
          · rfl
        rw [this]
        cases hf : r.find? fun m => m.id == id with
        | none => rfl
        | some x =>
          have hx := List.find?_some hf
          simp only [Option.map_some]
          rw [if_neg]
          intro hc
          have h1 : x.id = id := by simpa using hx
          have h2 : x.id = n.id := by simpa using hc
          exact hi (h1 ▸ h2)
    · have e1 : (y.id == n.id) = false := by rw [beq_eq_false_iff_ne]; exact hy
      rw [e1] at hn
      simp only at hn
      rw [e1]
      simp only [Bool.false_eq_true, if_false]
      by_cases hyi : y.id = id
      · have e2 : (y.id == id) = true := by simpa using hyi
        rw [e2]
        simp only
        rw [if_neg (fun e => hy (hyi.trans e))]
      · have e2 : (y.id == id) = false := by rw [beq_eq_false_iff_ne]; exact hyi
        rw [e2]
        exact ih hn
end
end Go.Proofs.YtcicjklhbnipcaaGreatDoor
namespace Go.Proofs.YtcicjklhbnipcaaGreatDoor
set_option linter.unusedVariables false
set_option linter.unusedSimpArgs false
open Go.RowKit Go.Maps

theorem given_yes {w : World} {g mb : Nat} {β : Int → Nat × Nat} {t : TabD} (h : TblAt w g mb β t) (hq : 0 < t.quota) : Calls Tryz.prog 119 #[.pointer (some ⟨g, 0, none⟩)] w fun e w' => e = .returned (.bool true) ∧ w = w' := by
  have c0 := cell_row h.row 0
  simp only [List.getElem?_toArray, List.getElem?_cons_zero] at c0
  clear h
  go_enter Tryz.func119, Tryz.ntmps119
  go_wp2_with fail
  go_ret
  exact ⟨rfl, rfl⟩
theorem zero_ptr (w : World) : (zeroValue 163).run Tryz.prog w = .ok (.pointer none) w := by kernel_rfl
theorem zero_int (w : World) : (zeroValue 3).run Tryz.prog w = .ok (.int .i64 0) w := by kernel_rfl
/-- What a table's map holds at a number. -/
def ptrAt (β : Int → Nat × Nat) (t : TabD) (id : Int) : Value := match In.find t.nodes id with | some n => .pointer (some ⟨(β n.id).1, 0, none⟩) | none => .pointer none
theorem look_at {w : World} {g mb : Nat} {β : Int → Nat × Nat} {t : TabD} (h : TblAt w g mb β t) {id : Int} (hid : Fits id) :
    (Instr.lookup 160 (.map (some mb)) (.int .i64 id) false).run Tryz.prog w = .ok (ptrAt β t id) w := by
  rw [MapAt.look h.map key_int Tryz.underlying160 (zero_ptr w) (keyOf_int_mk Tryz.underlying3 hid), look_nodes]
  rfl
theorem ptr_some {β : Int → Nat × Nat} {t : TabD} {id : Int} {n : NodeD} (h : In.find t.nodes id = some n) : ptrAt β t id = .pointer (some ⟨(β id).1, 0, none⟩) := by
  unfold ptrAt; rw [h]; simp only [(find_mem h).2]
theorem ptr_none {β : Int → Nat × Nat} {t : TabD} {id : Int} (h : In.find t.nodes id = none) : ptrAt β t id = .pointer none := by
  unfold ptrAt; rw [h]
theorem look_name {w : World} {m : Nat} {d : List (ByteArray × Int)} (h : NamesAt w m d) {s : ByteArray} (hs : s.size ≤ maxLen) :
    (Instr.lookup 164 (.map (some m)) (.string s) false).run Tryz.prog w = .ok (.int .i64 (In.leads d s)) w := by
  rw [MapAt.look h key_str Tryz.underlying164 (zero_int w) (WideMaps.keyOf_string_mk Tryz.underlying9 hs), look_names]

/-- It is an inode of that kind. -/
theorem get_yes {w : World} {g mb : Nat} {β : Int → Nat × Nat} {t : TabD} (h : TblAt w g mb β t) (hq : 0 < t.quota) {id : Int} (hid : Fits id) {dir : Bool} {n : NodeD} (hn : In.find t.nodes id = some n) (hd : n.dir = dir) :
    Calls Tryz.prog 165 #[.pointer (some ⟨g, 0, none⟩), .int .i64 id, .bool dir] w fun e w' => e = .returned (.tuple #[.pointer (some ⟨(β id).1, 0, none⟩), .int .i64 0]) ∧ w = w' := by
  have hg := given_yes h hq
  have hl := look_at h hid
  rw [ptr_some hn] at hl
  have c3 := cell_row h.row 3
  simp only [List.getElem?_toArray, List.getElem?_cons_zero, List.getElem?_cons_succ] at c3
  have d0 := cell_row (h.at hn).row 0
  simp only [List.getElem?_toArray, List.getElem?_cons_zero, hd] at d0
  clear h hn hd hq
  go_enter Tryz.func165, Tryz.ntmps165
  cases dir
  all_goals
    go_wp2_with (go_at_call 119; refine hg.mono ?_; rintro e w' ⟨rfl, rfl⟩)
    go_ret2
    exact ⟨rfl, rfl⟩
/-- It is none, or none of that kind. -/
theorem get_no {w : World} {g mb : Nat} {β : Int → Nat × Nat} {t : TabD} (h : TblAt w g mb β t) (hq : 0 < t.quota) {id : Int} (hid : Fits id) {dir : Bool} {E : Int} (hE : In.getE t id dir = E) (h0 : E ≠ 0) :
    Calls Tryz.prog 165 #[.pointer (some ⟨g, 0, none⟩), .int .i64 id, .bool dir] w fun e w' => e = .returned (.tuple #[.pointer none, .int .i64 E]) ∧ w = w' := by
  have hg := given_yes h hq
  have hl := look_at h hid
  have c3 := cell_row h.row 3
  simp only [List.getElem?_toArray, List.getElem?_cons_zero, List.getElem?_cons_succ] at c3
  unfold In.getE at hE
  cases hn : In.find t.nodes id with
  | none =>
    rw [hn] at hE
    subst hE
    rw [ptr_none hn] at hl
    clear h hn hq h0
    go_enter Tryz.func165, Tryz.ntmps165
    go_wp2_with (go_at_call 119; refine hg.mono ?_; rintro e w' ⟨rfl, rfl⟩)
    go_ret2
    exact ⟨rfl, rfl⟩
  | some n =>
    rw [hn] at hE
    rw [ptr_some hn] at hl
    have d0 := cell_row (h.at hn).row 0
    simp only [List.getElem?_toArray, List.getElem?_cons_zero] at d0
    obtain ⟨nd, hnd⟩ : ∃ x, n.dir = x := ⟨_, rfl⟩
    rw [hnd] at d0
    simp only [hnd] at hE
    clear h hn hq hnd
    cases nd <;> cases dir
    all_goals simp at hE
    all_goals first | (exact absurd hE.symm h0) | skip
    all_goals
      subst hE
      go_enter Tryz.func165, Tryz.ntmps165
      go_wp2_with (go_at_call 119; refine hg.mono ?_; rintro e w' ⟨rfl, rfl⟩)
      go_ret2
      exact ⟨rfl, rfl⟩
/-- What is no table, or one that New did not give. -/
def Bare (w : World) (p : Option Addr) : Prop := p = none ∨ ∃ g, p = some ⟨g, 0, none⟩ ∧ w.cell? ⟨g, 0, none⟩ = some (.int .i64 0)
theorem given_no {w : World} {p : Option Addr} (h : Bare w p) : Calls Tryz.prog 119 #[.pointer p] w fun e w' => e = .returned (.bool false) ∧ w = w' := by
  rcases h with rfl | ⟨g, rfl, c0⟩
  all_goals
    go_enter Tryz.func119, Tryz.ntmps119
    go_wp2_with fail
    go_ret
    exact ⟨rfl, rfl⟩
theorem get_bare {w : World} {p : Option Addr} (h : Bare w p) (id : Int) (dir : Bool) : Calls Tryz.prog 165 #[.pointer p, .int .i64 id, .bool dir] w fun e w' => e = .returned (.tuple #[.pointer none, .int .i64 1]) ∧ w = w' := by
  have hg := given_no h
  clear h
  go_enter Tryz.func165, Tryz.ntmps165
  go_wp2_with (go_at_call 119; refine hg.mono ?_; rintro e w' ⟨rfl, rfl⟩)
  go_ret2
  exact ⟨rfl, rfl⟩
end Go.Proofs.YtcicjklhbnipcaaGreatDoor
namespace Go.Proofs.YtcicjklhbnipcaaGreatDoor
set_option linter.unusedVariables false
set_option linter.unusedSimpArgs false
open Go.RowKit

structure Ext (B : Nat) (W : World) : Type where
  w : World
  b : Below B W w

instance (B : Nat) (W : World) : Nonempty (Ext B W) := ⟨⟨W, Below.refl B W⟩⟩

theorem wp_region_bel {P : Program} {id : Nat} {Q : Exit → Act → World → Prop} {a : Act} {w : World} {l : List Oper} (B : Nat) (hm : P.follows .mixedOrders = true) (hB : Region.lexB .any l.toArray = true)
    (h : wpQuiet P l.toArray (fun w' => ∃ x : Ext B w, w' = x.w) (fun a' => ∀ x : Ext B w, Q .normal a' x.w) l a) : (Code.region id l.toArray true).wp P Q a w := by
  refine wp_region_quiet (C := fun w' => ∃ x : Ext B w, w' = x.w) hm hB ⟨⟨w.drew, (Below.refl B w).drew⟩, rfl⟩ ?_
  have e : (fun a' => ∀ w', (∃ x : Ext B w, w' = x.w) → Q .normal a' w') = (fun a' => ∀ x : Ext B w, Q .normal a' x.w) := by
    funext a'
    exact propext ⟨fun h x => h _ ⟨x, rfl⟩, fun h w' ⟨x, hx⟩ => by rw [hx]; exact h x⟩
  rw [e]
  exact h

theorem Ext.step {B : Nat} {W : World} (hB : B ≤ W.heap.size) (x : Ext B W) {w' : World} (h : Below x.w.heap.size x.w w') : ∃ y : Ext B W, w' = y.w :=
  ⟨⟨w', x.b.trans (h.mono (Nat.le_trans hB x.b.size))⟩, rfl⟩

theorem Calls.bel_of {P : Program} {f : FuncId} {args : Array Value} {B : Nat} {W : World} {x : Ext B W} {v : Value} (hB : B ≤ W.heap.size)
    (h : Calls P f args x.w fun e w' => e = .returned v ∧ Below x.w.heap.size x.w w') : Calls P f args x.w fun e w'' => e = .returned v ∧ ∃ y : Ext B W, w'' = y.w :=
  h.mono fun _ _ ⟨he, hm⟩ => ⟨he, x.step hB hm⟩
theorem Calls.bel_same {P : Program} {f : FuncId} {args : Array Value} {B : Nat} {W : World} {x : Ext B W} {v : Value}
    (h : Calls P f args x.w fun e w' => e = .returned v ∧ x.w = w') : Calls P f args x.w fun e w'' => e = .returned v ∧ ∃ y : Ext B W, w'' = y.w :=
  h.mono fun _ _ ⟨he, hm⟩ => ⟨he, ⟨x, hm.symm⟩⟩

/-- The same for a region in the order of the text. -/
theorem wpList_of_quiet {P : Program} {ops : Array Oper} {C : World → Prop} {K : Act → Prop} {Q : Exit → Act → World → Prop} (hQ : ∀ a w, C w → K a → Q .normal a w) :
    ∀ (l : List Oper) (a : Act) (w : World), C w → wpQuiet P ops C K l a → wpList P ops Q l a w
  | [], a, w, hw, h => hQ a w hw h
  | o :: rest, a, w, hw, h => by
    unfold wpQuiet at h
    unfold wpList
    by_cases hwant : Region.wanted o (yielded ops a.tmps) = true
    · rw [if_pos hwant] at h ⊢
      exact .inl (Oper.wp_of_quiet hw (fun a' w' hw' h' => wpList_of_quiet hQ rest a' w' hw' h') h)
    · rw [if_neg hwant] at h ⊢
      exact wpList_of_quiet hQ rest _ w hw h
theorem wp_region_bel_plain {P : Program} {id : Nat} {Q : Exit → Act → World → Prop} {a : Act} {w : World} {l : List Oper} (B : Nat)
    (h : wpQuiet P l.toArray (fun w' => ∃ x : Ext B w, w' = x.w) (fun a' => ∀ x : Ext B w, Q .normal a' x.w) l a) : (Code.region id l.toArray false).wp P Q a w :=
  wp_region_lit (wpList_of_quiet (fun a' w' ⟨x, hx⟩ h => by rw [hx]; exact h x) l a w ⟨⟨w, Below.refl B w⟩, rfl⟩ h)
end Go.Proofs.YtcicjklhbnipcaaGreatDoor
