/-
  Layer 8: rows of inodes and of their names, as the call itself makes them: laid, appended to, read. No function is walked here.
-/
import Derived.Test.YtfepbjlaffpojaaGreatIterI
import Derived.Test.YtfepbjlaffpojaaGreatInoL
import Derived.Deep.AppendLies
namespace Go.Proofs.YtfepbjlaffpojaaGreat
set_option linter.unusedVariables false
open Go.RowKit Go.Maps

theorem own_fresh (w : World) (e : TypeId) (size n : Nat) (l : List Value) (hl : l.length = n * size) (hn : n ≤ maxLen) : (w.alloc (.cells l.toArray e)).ownsRow w.heap.size e size (.slice (some ⟨w.heap.size, 0, none⟩) n n) n l :=
  ⟨hl, .inr ⟨w.heap.size, n, l.toArray, rfl, Nat.le_refl _, heap_alloc_new w _, Nat.le_refl _, hn, by simpa using hl, by simp [← hl]⟩⟩
theorem flat_at {α : Type} (size : Nat) : ∀ (l : List (List α)) (i : Nat) (e : List α), (∀ x ∈ l, x.length = size) → l[i]? = some e → (l.flatten.drop (i * size)).take size = e
  | [], _, _, _, h => by simp at h
  | a :: r, 0, e, hl, h => by
    simp at h
    subst h
    have := hl a (by simp)
    simp [← this]
  | a :: r, i + 1, e, hl, h => by
    simp at h
    have ha := hl a (by simp)
    have := flat_at size r i e (fun x hx => hl x (by simp [hx])) h
    rw [List.flatten_cons, show (i + 1) * size = a.length + i * size by rw [ha]; rw [Nat.add_mul]; omega, ← List.drop_drop, List.drop_left]
    exact this
theorem flat_length {α : Type} (size : Nat) : ∀ (l : List (List α)), (∀ x ∈ l, x.length = size) → l.flatten.length = l.length * size
  | [], _ => by simp
  | a :: r, hl => by
    rw [List.flatten_cons, List.length_append, hl a (by simp), flat_length size r (fun x hx => hl x (by simp [hx])), List.length_cons, Nat.add_mul]; omega

/-- Cells that read as a list, element by element. -/
def CellsRead (size : Nat) {α : Type} (R : Rep α) (w : World) (B : Nat) (cells : List Value) (xs : List α) : Prop :=
  cells.length = xs.length * size ∧ ∀ i x, xs[i]? = some x → R w B ((cells.drop (i * size)).take size) x
theorem CellsRead.nil {size : Nat} {α : Type} {R : Rep α} {w : World} {B : Nat} : CellsRead size R w B [] ([] : List α) := ⟨by simp, fun i x h => by simp at h⟩
theorem CellsRead.go {size : Nat} {α : Type} {R : Rep α} (hR : Kept R) {w w' : World} {B B' : Nat} {cells : List Value} {xs : List α} (hs : Same B w w') (hB : B ≤ B') (h : CellsRead size R w B cells xs) : CellsRead size R w' B' cells xs :=
  ⟨h.1, fun i x hx => hR.go hs hB (h.2 i x hx)⟩
theorem CellsRead.append {size : Nat} {α : Type} {R : Rep α} {w : World} {B : Nat} {c1 c2 : List Value} {xs ys : List α} (h1 : CellsRead size R w B c1 xs) (h2 : CellsRead size R w B c2 ys) : CellsRead size R w B (c1 ++ c2) (xs ++ ys) := by
  refine ⟨by rw [List.length_append, List.length_append, h1.1, h2.1, Nat.add_mul], fun i x hx => ?_⟩
  by_cases hi : i < xs.length
  · rw [List.getElem?_append_left hi] at hx
    have := h1.2 i x hx
    have hle : (i + 1) * size ≤ c1.length := by rw [h1.1]; exact Nat.mul_le_mul_right _ hi
    rw [Nat.add_mul] at hle
    rw [List.drop_append_of_le_length (by omega), List.take_append_of_le_length (by rw [List.length_drop]; omega)]
    exact this
  · rw [List.getElem?_append_right (by omega)] at hx
    have := h2.2 (i - xs.length) x hx
    have hm : i * size = c1.length + (i - xs.length) * size := by
      rw [h1.1, ← Nat.add_mul]; congr 1; omega
    rw [hm, ← List.drop_drop, List.drop_left]
    exact this
/-- An own row that reads as a list. -/
theorem own_slice {size : Nat} {α : Type} {R : Rep α} {w : World} {base : Nat} {e : TypeId} {v : Value} {n : Nat} {cells : List Value} {xs : List α} (hsz : 0 < size) (h : w.ownsRow base e size v n cells) (hr : CellsRead size R w w.heap.size cells xs) :
    n = xs.length ∧ ∃ a cap, v = .slice a xs.length cap ∧ RSlice size R w w.heap.size [.slice a xs.length cap] xs := by
  have hn : n = xs.length := Nat.eq_of_mul_eq_mul_right hsz (by rw [← h.1, hr.1])
  subst hn
  refine ⟨rfl, ?_⟩
  rcases h.2 with ⟨rfl, h0⟩ | ⟨g, cap, cur, rfl, -, hg, h1, h2, h3, h4⟩
  · have : xs = [] := List.length_eq_zero_iff.1 h0
    subst this
    exact ⟨none, 0, rfl, slice_nil⟩
  · refine ⟨_, cap, rfl, slice_of_block hg ((Array.getElem?_eq_some_iff.1 hg).1) h1 h2 fun i x hx => ⟨_, ?_, fun j hj => ?_, hr.2 i x hx⟩⟩
    · have hi : i < xs.length := (List.getElem?_eq_some_iff.1 hx).1
      have hle : (i + 1) * size ≤ cells.length := by rw [hr.1]; exact Nat.mul_le_mul_right _ hi
      rw [Nat.add_mul] at hle
      rw [List.length_take, List.length_drop]; omega
    · have hi : i < xs.length := (List.getElem?_eq_some_iff.1 hx).1
      have hle : (i + 1) * size ≤ xs.length * size := Nat.mul_le_mul_right _ hi
      rw [Nat.add_mul] at hle
      rw [List.getElem?_take_of_lt hj, List.getElem?_drop, ← h4, List.getElem?_take_of_lt (by omega), Array.getElem?_toList]
theorem own_block {w : World} {base : Nat} {e : TypeId} {size : Nat} {v : Value} {n : Nat} {xs : List Value} (h : w.ownsRow base e size v n xs) : ∀ k, v.ownBlock = some k → base ≤ k ∧ k < w.heap.size := by
  intro k hk
  rcases h.2 with ⟨rfl, _⟩ | ⟨g, cap, cur, rfl, hg, hb, _⟩
  · simp [Value.ownBlock] at hk
  · simp [Value.ownBlock] at hk; subst hk; exact ⟨hg, (Array.getElem?_eq_some_iff.1 hb).1⟩
theorem own_mono {w : World} {base base' : Nat} {e : TypeId} {size : Nat} {v : Value} {n : Nat} {xs : List Value} (h : w.ownsRow base e size v n xs) (hb : base' ≤ base) : w.ownsRow base' e size v n xs := by
  obtain ⟨h1, h2⟩ := h
  refine ⟨h1, ?_⟩
  rcases h2 with h2 | ⟨g, cap, cur, e, hg, r⟩
  · exact .inl h2
  · exact .inr ⟨g, cap, cur, e, by omega, r⟩
theorem own_on {w w' : World} {base : Nat} {e : TypeId} {size : Nat} {v : Value} {n : Nat} {xs : List Value} (h : w.ownsRow base e size v n xs) (hb : ∀ k, v.ownBlock = some k → w'.heap[k]? = w.heap[k]?) : w'.ownsRow base e size v n xs := by
  obtain ⟨h1, h2⟩ := h
  refine ⟨h1, ?_⟩
  rcases h2 with h2 | ⟨g, cap, cur, rfl, hg, hgb, r⟩
  · exact .inl h2
  · exact .inr ⟨g, cap, cur, rfl, hg, (hb g rfl).trans hgb, r⟩
theorem own_below {w w' : World} {base : Nat} {e : TypeId} {size : Nat} {v : Value} {n : Nat} {xs : List Value} (h : w.ownsRow base e size v n xs) (hb : Below w.heap.size w w') : w'.ownsRow base e size v n xs :=
  own_on h fun k hk => hb.block k (own_block h k hk).2
theorem own_form {w : World} {base : Nat} {e : TypeId} {size : Nat} {v : Value} {n : Nat} {xs : List Value} (h : w.ownsRow base e size v n xs) : ∃ a c, v = .slice a n c := by
  rcases h.2 with ⟨rfl, rfl⟩ | ⟨g, cap, cur, rfl, _⟩
  · exact ⟨_, _, rfl⟩
  · exact ⟨_, _, rfl⟩

/-! ### names -/
def entryCells (d : List (ByteArray × Int)) : List Value := d.flatMap fun p => [.string p.1, .int .i64 p.2]
def REntry : Rep (ByteArray × Int) := fun _ _ cs p => cs = [.string p.1, .int .i64 p.2]
theorem kept_entry : Kept REntry := ⟨fun _ _ h => h⟩
theorem entries_read (w : World) (B : Nat) : ∀ d : List (ByteArray × Int), CellsRead 2 REntry w B (entryCells d) d
  | [] => CellsRead.nil
  | p :: r => by
    have h1 : CellsRead 2 REntry w B [.string p.1, .int .i64 p.2] [p] := ⟨rfl, fun i x hx => by
      match i, hx with
      | 0, hx => simp at hx; subst hx; rfl⟩
    exact h1.append (entries_read w B r)
theorem entry_take {d : List (ByteArray × Int)} {j : Nat} {p : ByteArray × Int} (h : d[j]? = some p) : entryCells (d.take (j + 1)) = entryCells (d.take j) ++ [.string p.1, .int .i64 p.2] := by
  unfold entryCells
  rw [List.take_add_one, h, List.flatMap_append]
  rfl

/-! ### inodes -/
def RNode : Rep NodeD := fun w B cs n => ∃ v, cs = [.int .i64 n.id, .bool n.dir, .int .i64 n.links, .int .i64 n.holds, .string n.data, v] ∧ RSlice 2 REntry w B [v] n.names
theorem kept_node : Kept RNode := ⟨fun hs hB h => by
  obtain ⟨v, h1, h2⟩ := h
  exact ⟨v, h1, (kept_slice kept_entry).go hs hB h2⟩⟩
def RNodes : Rep (List NodeD) := RSlice 6 RNode
theorem kept_nodes : Kept RNodes := kept_slice kept_node
/-- An inode's cells; its names lie in a row of their own, not in 'vb'. -/
def NodeRow (base : Nat) (vb : Option Nat) : Rep NodeD := fun w _ cs n => ∃ nv, cs = [.int .i64 n.id, .bool n.dir, .int .i64 n.links, .int .i64 n.holds, .string n.data, nv] ∧ w.ownsRow base 79 2 nv n.names.length (entryCells n.names) ∧ ∀ k, nv.ownBlock = some k → vb ≠ some k
theorem NodeRow.on {base : Nat} {vb vb' : Option Nat} {w w' : World} {B B' : Nat} {cs : List Value} {n : NodeD} (h : NodeRow base vb w B cs n) (hb : ∀ k, base ≤ k → k < w.heap.size → some k ≠ vb → w'.heap[k]? = w.heap[k]?) (hv : vb' = vb ∨ ∃ k, vb' = some k ∧ w.heap.size ≤ k) : NodeRow base vb' w' B' cs n := by
  obtain ⟨nv, h1, h2, h3⟩ := h
  refine ⟨nv, h1, own_on h2 fun k hk => hb k (own_block h2 k hk).1 (own_block h2 k hk).2 (fun e => h3 k hk e.symm), fun k hk => ?_⟩
  rcases hv with rfl | ⟨j, rfl, hj⟩
  · exact h3 k hk
  · have := (own_block h2 k hk).2
    intro e
    injection e with e
    omega
theorem NodeRow.reads {base : Nat} {vb : Option Nat} {w : World} {B : Nat} {cs : List Value} {n : NodeD} (h : NodeRow base vb w B cs n) : RNode w w.heap.size cs n := by
  obtain ⟨nv, h1, h2, _⟩ := h
  obtain ⟨_, a, c, rfl, hs⟩ := own_slice (by decide) h2 (entries_read w w.heap.size n.names)
  exact ⟨_, h1, hs⟩
/-- A list of inodes in a row of its own. -/
def OutAt (w : World) (base : Nat) (v : Value) (l : List NodeD) : Prop :=
  base ≤ w.heap.size ∧ ∃ cells, w.ownsRow base 73 6 v l.length cells ∧ CellsRead 6 (NodeRow base v.ownBlock) w 0 cells l
theorem OutAt.nil (w : World) : OutAt w w.heap.size (.slice none 0 0) [] := ⟨Nat.le_refl _, [], World.ownsRow_nil _ _ _ _, CellsRead.nil⟩
theorem OutAt.on {w w' : World} {base : Nat} {v : Value} {l : List NodeD} (h : OutAt w base v l) (hb : Below w.heap.size w w') : OutAt w' base v l := by
  obtain ⟨h0, cells, h1, h2, h3⟩ := h
  exact ⟨Nat.le_trans h0 hb.size, cells, own_below h1 hb, h2, fun i x hx => (h3 i x hx).on (fun k _ hk _ => hb.block k hk) (.inl rfl)⟩
/-- Blocks below its base may turn. -/
theorem OutAt.only {w w' : World} {base : Nat} {v : Value} {l : List NodeD} {F : List Nat} (h : OutAt w base v l) (hb : Only F w w') (hF : ∀ k ∈ F, k < base) : OutAt w' base v l := by
  obtain ⟨h0, cells, h1, h2, h3⟩ := h
  have hk : ∀ k, base ≤ k → k < w.heap.size → w'.heap[k]? = w.heap[k]? := fun k h1 h2 => hb.block k h2 fun hm => by have := hF k hm; omega
  exact ⟨Nat.le_trans h0 hb.size, cells, own_on h1 (fun k e => hk k (own_block h1 k e).1 (own_block h1 k e).2), h2, fun i x hx => (h3 i x hx).on (fun k a b _ => hk k a b) (.inl rfl)⟩
theorem OutAt.form {w : World} {base : Nat} {v : Value} {l : List NodeD} (h : OutAt w base v l) : ∃ a c, v = .slice a l.length c := by
  obtain ⟨_, cells, h1, _⟩ := h
  exact own_form h1
theorem OutAt.reads {w : World} {base : Nat} {v : Value} {l : List NodeD} (h : OutAt w base v l) : ∃ a c, v = .slice a l.length c ∧ RNodes w w.heap.size [.slice a l.length c] l := by
  obtain ⟨_, cells, h1, h2, h3⟩ := h
  exact (own_slice (by decide) h1 ⟨h2, fun i x hx => (h3 i x hx).reads⟩).2
theorem row_one {base : Nat} {vb : Option Nat} {w : World} {B : Nat} {cs : List Value} {n : NodeD} (h : NodeRow base vb w B cs n) : CellsRead 6 (NodeRow base vb) w 0 cs [n] := by
  obtain ⟨nv, h1, h2, h3⟩ := h
  subst h1
  exact ⟨rfl, fun i x hx => by
    match i, hx with
    | 0, hx => simp at hx; subst hx; exact ⟨nv, rfl, h2, h3⟩⟩
/-- One more. -/
theorem OutAt.add {w w' : World} {base : Nat} {v : Value} {l : List NodeD} {cells cs : List Value} {n : NodeD} {g cap : Nat} {H : Nat} (hcr : CellsRead 6 (NodeRow base v.ownBlock) w 0 cells l) (hn : NodeRow base v.ownBlock w 0 cs n) (hbase : base ≤ w.heap.size)
    (hown : w'.ownsRow base 73 6 (.slice (some ⟨g, 0, none⟩) (l.length + 1) cap) (l.length + 1) (cells ++ cs)) (hg : w.grownBy w' v.ownBlock) (hat : v.ownBlock = some g ∨ g = H) (hH : w.heap.size = H) : OutAt w' base (.slice (some ⟨g, 0, none⟩) (l.length + 1) cap) (l ++ [n]) := by
  have hv : (Value.slice (some ⟨g, 0, none⟩) (l.length + 1) cap).ownBlock = v.ownBlock ∨ ∃ k, (Value.slice (some ⟨g, 0, none⟩) (l.length + 1) cap).ownBlock = some k ∧ w.heap.size ≤ k := by
    rcases hat with h | h
    · exact .inl h.symm
    · exact .inr ⟨g, rfl, by omega⟩
  have hb : ∀ k, base ≤ k → k < w.heap.size → some k ≠ v.ownBlock → w'.heap[k]? = w.heap[k]? := fun k _ h1 h2 => hg.block k h1 h2
  refine ⟨Nat.le_trans hbase hg.size, cells ++ cs, by rw [List.length_append]; exact hown, ?_⟩
  have a1 : CellsRead 6 (NodeRow base (Value.slice (some ⟨g, 0, none⟩) (l.length + 1) cap).ownBlock) w' 0 cells l := ⟨hcr.1, fun i x hx => (hcr.2 i x hx).on hb hv⟩
  exact a1.append (row_one (B := 0) (hn.on hb hv))
/-- The struct that is being filled: block 'gb'; j of its names are in. -/
structure NodeIn (W9 : World) (gb : Nat) (n : NodeD) (j : Nat) (W : World) (v : Value) : Prop where
  only : Only [gb] W9 W
  row : W.heap[gb]? = some (.cells #[.int .i64 n.id, .bool n.dir, .int .i64 n.links, .int .i64 n.holds, .string n.data, v] 73 (0, 0))
  own : W.ownsRow W9.heap.size 79 2 v j (entryCells (n.names.take j))
  lt : gb < W9.heap.size
theorem NodeIn.add {W9 W w1 : World} {gb : Nat} {n : NodeD} {j : Nat} {v : Value} (h : NodeIn W9 gb n j W v) {p : ByteArray × Int} (hp : n.names[j]? = some p) {o : Obj} {g cap : Nat} (hown : w1.ownsRow W9.heap.size 79 2 (.slice (some ⟨g, 0, none⟩) (j + 1) cap) (j + 1) (entryCells (n.names.take j) ++ [.string p.1, .int .i64 p.2]))
    (hg : (W.drew.alloc o).grownBy w1 v.ownBlock) : NodeIn W9 gb n (j + 1) (w1.setCell ⟨gb, 5, none⟩ (.slice (some ⟨g, 0, none⟩) (j + 1) cap)) (.slice (some ⟨g, 0, none⟩) (j + 1) cap) := by
  have hb := fun k hk => (own_block h.own k hk).1
  have lt := h.lt
  have hs := h.only.size
  have o1 : Only [gb] W9 w1 := by
    have a := h.only.drew.alloc o
    have sa := a.size
    exact ⟨hg.os.trans a.os, hg.tape.trans a.tape, hg.output.trans a.output, Nat.le_trans sa hg.size, fun k hk hn => (hg.block k (by omega) (fun e => by have := hb k e.symm; omega)).trans (a.block k hk hn)⟩
  have hgg : W9.heap.size ≤ g := (own_block hown g rfl).1
  have hr : w1.heap[gb]? = W.heap[gb]? := (hg.block gb (by simp; omega) (fun e => by have := hb gb e.symm; omega)).trans (Below.heap_alloc _ _ gb (by show gb < W.heap.size; omega))
  refine ⟨o1.setCell (.inl (by simp)) _, ?_, ?_, lt⟩
  · rw [set_row (hr.trans h.row)]; rfl
  · rw [entry_take hp]
    refine own_on hown fun k hk => set_other _ _ ?_
    have hk : g = k := by simpa [Value.ownBlock] using hk
    omega
end Go.Proofs.YtfepbjlaffpojaaGreat
