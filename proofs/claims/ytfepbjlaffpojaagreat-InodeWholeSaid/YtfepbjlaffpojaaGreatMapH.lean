/-
  A map's block as a sorted list of keys and values: whatever the values are. Made, carried, read, written, deleted from, measured. No program is named here.
-/
import Derived.Maps.RangeWalk
import Derived.Maps.OwnSet
import Derived.Maps.Ext
namespace Go.Proofs.YtfepbjlaffpojaaGreat
set_option linter.unusedVariables false
open Go.RowKit Go.Maps Go.WideShapes

/-- Any value stands for itself. -/
def anyElem : Value → Option (DataW Value × List MemPlace) := fun v => some (.held v, [])
def heldD (l : List (Lit × Value)) : DataW Value := .map (l.map fun p => (p.1, DataW.held p.2))
/-- Block 'b' is a map that holds just these keys and values. -/
def MapAt (P : Program) (k : TypeId) (w : World) (b : Nat) (l : List (Lit × Value)) : Prop := w.ownsMap P k anyElem b l.length (heldD l)
def lookL (l : List (Lit × Value)) (kl : Lit) (z : Value) : Value :=
  match l.find? fun p => p.1.sameKey kl with
  | some p => p.2
  | none => z
def insL (x : Lit × Value) : List (Lit × Value) → List (Lit × Value)
  | [] => [x]
  | y :: r => if x.1.before y.1 then x :: y :: r else y :: insL x r
def delL (kl : Lit) (l : List (Lit × Value)) : List (Lit × Value) := l.filter fun p => !p.1.sameKey kl
def putL (kl : Lit) (v : Value) (l : List (Lit × Value)) : List (Lit × Value) := insL (kl, v) (delL kl l)

theorem atKey_held (l : List (Lit × Value)) (kl : Lit) (z : Value) : (heldD l).atKey kl (.held z) = .held (lookL l kl z) := by
  unfold heldD lookL DataW.atKey
  simp only
  rw [List.find?_map]
  rw [show (fun p : Lit × DataW Value => p.1.sameKey kl) ∘ (fun p : Lit × Value => (p.1, DataW.held p.2)) = fun p => p.1.sameKey kl from rfl]
  cases l.find? fun p => p.1.sameKey kl <;> rfl
theorem insert_held (x : Lit × Value) : ∀ l : List (Lit × Value), DataW.insert (x.1, .held x.2) (l.map fun p => (p.1, DataW.held p.2)) = (insL x l).map fun p => (p.1, DataW.held p.2)
  | [] => rfl
  | y :: r => by
    unfold insL
    simp only [List.map_cons, DataW.insert]
    split
    · rfl
    · simp [insert_held x r]
theorem filter_held (kl : Lit) (l : List (Lit × Value)) : (l.map fun p => (p.1, DataW.held p.2)).filter (fun (p : Lit × DataW Value) => !p.1.sameKey kl) = (delL kl l).map fun p => (p.1, DataW.held p.2) := by
  unfold delL
  rw [List.filter_map]
  rfl
theorem put_held (kl : Lit) (v : Value) (l : List (Lit × Value)) : (heldD l).put kl (.held v) = heldD (putL kl v l) := by
  show DataW.map (DataW.insert (kl, .held v) ((l.map fun p => (p.1, DataW.held p.2)).filter fun p => !p.1.sameKey kl)) = _
  rw [filter_held, insert_held (kl, v)]
  rfl
theorem del_held (kl : Lit) (l : List (Lit × Value)) : (heldD l).del kl = heldD (delL kl l) := by
  show DataW.map ((l.map fun p => (p.1, DataW.held p.2)).filter fun p => !p.1.sameKey kl) = _
  rw [filter_held]
  rfl
theorem size_held (l : List (Lit × Value)) : Maps.size (heldD l) = l.length := by simp [heldD, Maps.size]

section
variable {P : Program} {k : TypeId} {w : World} {b n : Nat} {l : List (Lit × Value)}

theorem tight {D : DataW Value} (h : w.ownsMap P k anyElem b n D) : w.ownsMap P k anyElem b (Maps.size D) D := by
  obtain ⟨es, clock, hb, F, hs, rfl⟩ := h
  refine ⟨es, clock, hb, F, ?_, rfl⟩
  show es.size ≤ ((es.toList.map _).foldr DataW.insert []).length
  rw [length_sorted]
  simp
theorem MapAt.of {l : List (Lit × Value)} (h : w.ownsMap P k anyElem b n (heldD l)) : MapAt P k w b l := by
  have := tight h
  rwa [size_held] at this
theorem MapAt.made (w : World) : MapAt P k (w.alloc (.map #[] 0)) w.heap.size [] := World.ownsMap_made _ _ _ _
theorem MapAt.lt (h : MapAt P k w b l) : b < w.heap.size := World.ownsMap.lt h
/-- All that matters is the block. -/
theorem MapAt.on {w' : World} (h : MapAt P k w b l) (hb : w'.heap[b]? = w.heap[b]?) : MapAt P k w' b l := by
  obtain ⟨es, clock, h1, F, hs, hD⟩ := h
  exact ⟨es, clock, hb.trans h1, F, hs, hD⟩
theorem MapAt.sorted (h : MapAt P k w b l) (K : Keyed P k) : l.Pairwise fun p q => p.1.before q.1 = true := by
  obtain ⟨es, e, hp, _⟩ := World.ownsMap.canon h K
  simp only [heldD, DataW.map.injEq] at e
  subst e
  rw [List.pairwise_map] at hp
  exact hp
theorem MapAt.keys (h : MapAt P k w b l) (K : Keyed P k) : ∀ p ∈ l, WideAt.IsKeyLit p.1 := by
  obtain ⟨es, e, _, hk⟩ := World.ownsMap.canon h K
  simp only [heldD, DataW.map.injEq] at e
  subst e
  intro p hp
  exact hk (p.1, .held p.2) (List.mem_map.2 ⟨p, hp, rfl⟩)
theorem MapAt.look {t e : TypeId} (h : MapAt P k w b l) (K : Keyed P k) (ht : P.underlying t = some (.map k e)) {z : Value} (hz : (zeroValue e).run P w = .ok z w) {key : Value} {kl : Lit} (hkey : keyOf P k key = some kl) :
    (Instr.lookup t (.map (some b)) key false).run P w = .ok (lookL l kl z) w := by
  obtain ⟨v, ps, hr, hv⟩ := World.ownsMap.lookup h K ht hz (zd := .held z) (zp := []) rfl hkey
  rw [atKey_held] at hv
  simp only [anyElem, Option.some.injEq, Prod.mk.injEq, DataW.held.injEq] at hv
  rw [hr, hv.1]
theorem MapAt.store {t e : TypeId} (h : MapAt P k w b l) (K : Keyed P k) (ht : P.underlying t = some (.map k e)) (hn : l.length < maxLen) {key val : Value} {kl : Lit} (hkey : keyOf P k key = some kl) :
    ∃ w', (Instr.mapUpdate t (.map (some b)) key val).run P w = .ok () w' ∧ MapAt P k w' b (putL kl val l) ∧ w.mapTurned w' b := by
  obtain ⟨es, clock, hb, F, hs, hD⟩ := h
  obtain ⟨es', clock', hrun, F', hput, _⟩ := Maps.fit_store (R' := anyElem) K ht hb F (Nat.lt_of_le_of_lt hs hn) (fun _ _ _ _ hz => hz) (val := val) hkey rfl
  refine ⟨_, hrun, MapAt.of (n := es'.size) ⟨es', clock', ChangeMaps.heap_setBlock_same hb _, F', Nat.le_refl _, ?_⟩, es, clock, es', clock', hb, rfl⟩
  rw [hput, ← put_held, hD, DataW.put_eq]
theorem MapAt.drop {t e ty : TypeId} (h : MapAt P k w b l) (K : Keyed P k) (ht : P.underlying t = some (.map k e)) {key : Value} {kl : Lit} (hkey : keyOf P k key = some kl) :
    ∃ w', (Builtin.delete_ #[t, k] ty #[.map (some b), key]).run P w = .ok (.tuple #[]) w' ∧ MapAt P k w' b (delL kl l) ∧ w.mapTurned w' b := by
  obtain ⟨w', hrun, h1, h2⟩ := World.ownsMap.drop h K ht hkey ty
  rw [del_held] at h1
  exact ⟨w', hrun, MapAt.of h1, h2⟩
theorem MapAt.len {t e : TypeId} (h : MapAt P k w b l) (ht : P.underlying t = some (.map k e)) (ty : TypeId) : (Builtin.len_ #[t] ty #[.map (some b)]).run P w = .ok (.int .i64 l.length) w := by
  have := World.ownsMap.len h ht ty
  rwa [size_held] at this
end

/-- Of 'w' just the blocks of 'F' have turned, and there are new ones. -/
structure Only (F : List Nat) (w w' : World) : Prop where
  os : w'.os = w.os
  tape : w'.tape = w.tape
  output : w'.output = w.output
  size : w.heap.size ≤ w'.heap.size
  block : ∀ k, k < w.heap.size → k ∉ F → w'.heap[k]? = w.heap[k]?
theorem Only.refl (F : List Nat) (w : World) : Only F w w := ⟨rfl, rfl, rfl, Nat.le_refl _, fun _ _ _ => rfl⟩
theorem Only.trans {F : List Nat} {a b c : World} (h : Only F a b) (k : Only F b c) : Only F a c :=
  ⟨k.os.trans h.os, k.tape.trans h.tape, k.output.trans h.output, Nat.le_trans h.size k.size, fun i hi hn => (k.block i (Nat.lt_of_lt_of_le hi h.size) hn).trans (h.block i hi hn)⟩
/-- The second step may write what the first one made. -/
theorem Only.then {F F' : List Nat} {a b c : World} (h : Only F a b) (k : Only F' b c) (hF : ∀ x ∈ F', x ∈ F ∨ a.heap.size ≤ x) : Only F a c :=
  ⟨k.os.trans h.os, k.tape.trans h.tape, k.output.trans h.output, Nat.le_trans h.size k.size, fun i hi hn => (k.block i (Nat.lt_of_lt_of_le hi h.size) (fun hm => by rcases hF i hm with h1 | h1; exact hn h1; omega)).trans (h.block i hi hn)⟩
theorem Only.mono {F F' : List Nat} {a b : World} (h : Only F a b) (hF : ∀ x ∈ F, x ∈ F') : Only F' a b := ⟨h.os, h.tape, h.output, h.size, fun i hi hn => h.block i hi fun hm => hn (hF i hm)⟩
theorem Only.drew {F : List Nat} {a w : World} (h : Only F a w) : Only F a w.drew := ⟨h.os, h.tape, h.output, h.size, h.block⟩
theorem Only.alloc {F : List Nat} {a w : World} (h : Only F a w) (o : Obj) : Only F a (w.alloc o) :=
  h.trans ⟨rfl, rfl, rfl, by simp, fun k hk _ => Below.heap_alloc _ _ _ hk⟩
theorem Only.setCell {F : List Nat} {a w : World} (h : Only F a w) {p : Addr} (hp : p.block ∈ F ∨ a.heap.size ≤ p.block) (u : Value) : Only F a (w.setCell p u) :=
  ⟨h.os, h.tape, h.output, by simp only [World.setCell, Array.size_modify]; exact h.size, fun k hk hn => (Below.heap_setCell _ _ _ _ (fun e => by subst e; rcases hp with h1 | h1; exact hn h1; omega)).trans (h.block k hk hn)⟩
theorem Only.below {F : List Nat} {a w w' : World} (h : Only F a w) (hb : Below a.heap.size w w') : Only F a w' :=
  ⟨hb.os.trans h.os, hb.tape.trans h.tape, hb.output.trans h.output, Nat.le_trans h.size hb.size, fun k hk hn => (hb.block k hk).trans (h.block k hk hn)⟩
theorem Only.of_below {F : List Nat} {w w' : World} (hb : Below w.heap.size w w') : Only F w w' := (Only.refl F w).below hb
theorem Only.turned {F : List Nat} {a w w' : World} {b : Nat} (h : Only F a w) (ht : w.mapTurned w' b) (hb : b ∈ F ∨ a.heap.size ≤ b) : Only F a w' := by
  have g := ht.grown
  exact ⟨g.os.trans h.os, g.tape.trans h.tape, g.output.trans h.output, Nat.le_trans h.size g.size, fun k hk hn => (g.block k (Nat.lt_of_lt_of_le hk h.size) (fun e => by cases e; rcases hb with h1 | h1; exact hn h1; omega)).trans (h.block k hk hn)⟩
theorem Only.to_below {F : List Nat} {a w : World} (h : Only F a w) {B : Nat} (hB : B ≤ a.heap.size) (hF : ∀ x ∈ F, B ≤ x) : Below B a w :=
  ⟨h.os, h.tape, h.output, h.size, fun k hk => h.block k (by omega) (fun hm => by have := hF k hm; omega)⟩
theorem turned_size {w w' : World} {b : Nat} (h : w.mapTurned w' b) : w'.heap.size = w.heap.size := by
  obtain ⟨es, clock, es', clock', _, rfl⟩ := h
  simp [ChangeMaps.setBlock]
theorem turned_other {w w' : World} {b : Nat} (h : w.mapTurned w' b) {i : Nat} (hi : i ≠ b) : w'.heap[i]? = w.heap[i]? := by
  obtain ⟨es, clock, es', clock', hb, rfl⟩ := h
  exact ChangeMaps.heap_setBlock_other hb _ hi
end Go.Proofs.YtfepbjlaffpojaaGreat
