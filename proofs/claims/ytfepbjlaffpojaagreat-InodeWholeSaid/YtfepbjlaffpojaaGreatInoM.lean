/-
  Layer 8: a table of inodes in memory: its own block, the map of its inodes, each inode's block and its map of names; and what each kind of step makes of it.
-/
import Derived.Test.YtfepbjlaffpojaaGreatMapH
import Derived.Test.YtfepbjlaffpojaaGreatInoP
import Derived.Test.YtfepbjlaffpojaaGreatBase0
import Derived.Test.YtfepbjlaffpojaaGreatProg
import Derived.KernelRfl
import Derived.Lib.Hide
import Derived.OneCell
namespace Go.Proofs.YtfepbjlaffpojaaGreat
set_option linter.unusedVariables false
open Go.RowKit Go.Maps Go.WideShapes

/-- A number fits into an int. -/
abbrev Fits (x : Int) : Prop := (Lit.int .i64 x).wf = true
theorem fits_of {x : Int} (h1 : -9223372036854775808 ≤ x) (h2 : x ≤ 9223372036854775807) : Fits x := WalkArith.wf_i64 ⟨h1, h2⟩
theorem fits_to {x : Int} (h : Fits x) : -9223372036854775808 ≤ x ∧ x ≤ 9223372036854775807 := by
  have h' : (decide (IntKind.i64.min ≤ x) && decide (x ≤ IntKind.i64.max)) = true := h
  rw [Bool.and_eq_true, decide_eq_true_eq, decide_eq_true_eq] at h'
  exact h'

theorem key_str : Keyed Tryz.prog 9 := string_keyed Tryz.underlying9
theorem key_int : Keyed Tryz.prog 3 := int_keyed Tryz.underlying3
def namesL (d : List (ByteArray × Int)) : List (Lit × Value) := d.map fun p => (.string p.1.data.toList, .int .i64 p.2)
def nodesL (β : Int → Nat × Nat) (l : List NodeD) : List (Lit × Value) := l.map fun n => (.int .i64 n.id, .pointer (some ⟨(β n.id).1, 0, none⟩))
def NamesAt (w : World) (m : Nat) (d : List (ByteArray × Int)) : Prop := MapAt Tryz.prog 9 w m (namesL d)
def NodesAt (w : World) (m : Nat) (β : Int → Nat × Nat) (l : List NodeD) : Prop := MapAt Tryz.prog 3 w m (nodesL β l)

/-! ### names: what the map's steps are on the plain list -/
theorem look_names (d : List (ByteArray × Int)) (s : ByteArray) : lookL (namesL d) (.string s.data.toList) (.int .i64 0) = .int .i64 (In.leads d s) := by
  unfold lookL namesL In.leads
  rw [List.find?_map]
  rw [show (fun p : Lit × Value => p.1.sameKey (.string s.data.toList)) ∘ (fun p : ByteArray × Int => (Lit.string p.1.data.toList, Value.int .i64 p.2)) = fun p => In.same p.1 s from rfl]
  cases d.find? fun p => In.same p.1 s <;> rfl
theorem del_names (d : List (ByteArray × Int)) (s : ByteArray) : delL (.string s.data.toList) (namesL d) = namesL (In.without d s) := by
  unfold delL namesL In.without
  rw [List.filter_map]
  rfl
theorem ins_names (s : ByteArray) (id : Int) : ∀ d : List (ByteArray × Int), insL (.string s.data.toList, .int .i64 id) (namesL d) = namesL (In.put (s, id) d)
  | [] => rfl
  | y :: r => by
    have ih := ins_names s id r
    unfold namesL at ih ⊢
    simp only [List.map_cons, insL, In.put]
    rw [ih]
    have e : (Lit.string s.data.toList).before (.string y.1.data.toList) = In.before s y.1 := rfl
    rw [e]
    split <;> rfl
theorem put_names (d : List (ByteArray × Int)) (s : ByteArray) (id : Int) : putL (.string s.data.toList) (.int .i64 id) (namesL d) = namesL (In.with_ d s id) := by
  unfold putL In.with_
  rw [del_names, ins_names]

/-! ### inodes: the same -/
theorem look_nodes (β : Int → Nat × Nat) (l : List NodeD) (id : Int) :
    lookL (nodesL β l) (.int .i64 id) (.pointer none) = match In.find l id with | some n => .pointer (some ⟨(β n.id).1, 0, none⟩) | none => .pointer none := by
  unfold lookL nodesL In.find
  rw [List.find?_map]
  rw [show (fun p : Lit × Value => p.1.sameKey (.int .i64 id)) ∘ (fun n : NodeD => (Lit.int .i64 n.id, Value.pointer (some ⟨(β n.id).1, 0, none⟩))) = fun n => n.id == id from by
    funext n
    show decide (IntKind.i64 = IntKind.i64 ∧ n.id = id) = (n.id == id)
    simp [Bool.beq_eq_decide_eq]]
  cases l.find? fun n => n.id == id <;> rfl
theorem del_nodes (β : Int → Nat × Nat) (l : List NodeD) (id : Int) : delL (.int .i64 id) (nodesL β l) = nodesL β (In.del l id) := by
  unfold delL nodesL In.del
  rw [List.filter_map]
  congr 2
  funext n
  show (!decide (IntKind.i64 = IntKind.i64 ∧ n.id = id)) = !(n.id == id)
  simp [Bool.beq_eq_decide_eq]

/-! ### the table -/
structure NodeAt (w : World) (b m : Nat) (n : NodeD) : Prop where
  row : w.heap[b]? = some (.cells #[.bool n.dir, .int .i64 n.links, .int .i64 n.holds, .string n.data, .map (some m)] 56 (0, 0))
  names : NamesAt w m n.names
def foot (g mb : Nat) (β : Int → Nat × Nat) (l : List NodeD) : List Nat := g :: mb :: l.flatMap fun n => [(β n.id).1, (β n.id).2]
structure TblAt (w : World) (g mb : Nat) (β : Int → Nat × Nat) (t : TabD) : Prop where
  row : w.heap[g]? = some (.cells #[.int .i64 t.quota, .int .i64 t.used, .int .i64 t.last, .map (some mb)] 50 (0, 0))
  map : NodesAt w mb β t.nodes
  node : ∀ n ∈ t.nodes, NodeAt w (β n.id).1 (β n.id).2 n
  apart : (foot g mb β t.nodes).Nodup

theorem NodeAt.on {w w' : World} {b m : Nat} {n : NodeD} (h : NodeAt w b m n) (hb : w'.heap[b]? = w.heap[b]?) (hm : w'.heap[m]? = w.heap[m]?) : NodeAt w' b m n := ⟨hb.trans h.row, MapAt.on h.names hm⟩
theorem mem_foot {g mb : Nat} {β : Int → Nat × Nat} {l : List NodeD} {x : Nat} : x ∈ foot g mb β l ↔ x = g ∨ x = mb ∨ ∃ n ∈ l, x = (β n.id).1 ∨ x = (β n.id).2 := by
  unfold foot
  simp only [List.mem_cons, List.mem_flatMap, List.not_mem_nil, or_false]
/-- All that matters are the table's own blocks. -/
theorem TblAt.on {w w' : World} {g mb : Nat} {β : Int → Nat × Nat} {t : TabD} (h : TblAt w g mb β t) (hs : ∀ k ∈ foot g mb β t.nodes, w'.heap[k]? = w.heap[k]?) : TblAt w' g mb β t where
  row := (hs g (mem_foot.2 (.inl rfl))).trans h.row
  map := MapAt.on h.map (hs mb (mem_foot.2 (.inr (.inl rfl))))
  node := fun n hn => (h.node n hn).on (hs _ (mem_foot.2 (.inr (.inr ⟨n, hn, .inl rfl⟩)))) (hs _ (mem_foot.2 (.inr (.inr ⟨n, hn, .inr rfl⟩))))
  apart := h.apart
theorem lt_of_get {w : World} {k : Nat} {o : Obj} (h : w.heap[k]? = some o) : k < w.heap.size := (Array.getElem?_eq_some_iff.1 h).1
theorem TblAt.lt {w : World} {g mb : Nat} {β : Int → Nat × Nat} {t : TabD} (h : TblAt w g mb β t) : ∀ k ∈ foot g mb β t.nodes, k < w.heap.size := fun k hk => by
  rcases mem_foot.1 hk with rfl | rfl | ⟨n, hn, rfl | rfl⟩
  · exact lt_of_get h.row
  · exact MapAt.lt h.map
  · exact lt_of_get (h.node n hn).row
  · exact MapAt.lt (h.node n hn).names
theorem TblAt.only {w w' : World} {F : List Nat} {g mb : Nat} {β : Int → Nat × Nat} {t : TabD} (h : TblAt w g mb β t) (ho : Only F w w') (hF : ∀ x ∈ F, x ∉ foot g mb β t.nodes) : TblAt w' g mb β t :=
  h.on fun k hk => ho.block k (h.lt k hk) fun hm => hF k hm hk
theorem TblAt.below {w w' : World} {g mb : Nat} {β : Int → Nat × Nat} {t : TabD} (h : TblAt w g mb β t) (hb : Below w.heap.size w w') : TblAt w' g mb β t :=
  h.on fun k hk => hb.block k (h.lt k hk)
theorem TblAt.ids {w : World} {g mb : Nat} {β : Int → Nat × Nat} {t : TabD} (h : TblAt w g mb β t) : t.nodes.Pairwise fun a b => a.id < b.id := by
  have := MapAt.sorted h.map key_int
  unfold nodesL at this
  rw [List.pairwise_map] at this
  exact this.imp fun h => by simpa [Lit.before] using h
theorem find_mem {l : List NodeD} {id : Int} {n : NodeD} (h : In.find l id = some n) : n ∈ l ∧ n.id = id := by
  refine ⟨List.mem_of_find?_eq_some h, ?_⟩
  have := List.find?_some h
  simpa using this
theorem find_of {l : List NodeD} (hs : l.Pairwise fun a b => a.id < b.id) {n : NodeD} (hn : n ∈ l) : In.find l n.id = some n := by
  induction l with
  | nil => cases hn
  | cons y r ih =>
    obtain ⟨h1, h2⟩ := List.pairwise_cons.1 hs
    unfold In.find
    rw [List.find?_cons]
    rcases List.mem_cons.1 hn with rfl | hn
    · simp
    · have : (y.id == n.id) = false := by rw [beq_eq_false_iff_ne]; have := h1 n hn; omega
      rw [this]
      exact ih h2 hn
theorem mem_set {l : List NodeD} {n m : NodeD} (h : m ∈ In.set l n) : m = n ∨ (m ∈ l ∧ m.id ≠ n.id) := by
  unfold In.set at h
  obtain ⟨x, hx, rfl⟩ := List.mem_map.1 h
  split
  · exact .inl rfl
  · rename_i hne
    exact .inr ⟨hx, by simpa using hne⟩
theorem nodesL_set (β : Int → Nat × Nat) (l : List NodeD) (n : NodeD) : nodesL β (In.set l n) = nodesL β l := by
  unfold nodesL In.set
  rw [List.map_map]
  refine List.map_congr_left fun m _ => ?_
  simp only [Function.comp]
  split
  · rename_i h
    rw [show m.id = n.id by simpa using h]
  · rfl
theorem foot_set (g mb : Nat) (β : Int → Nat × Nat) (l : List NodeD) (n : NodeD) : foot g mb β (In.set l n) = foot g mb β l := by
  unfold foot In.set
  rw [List.flatMap_map]
  congr 2
  rw [List.flatMap_def, List.flatMap_def]
  congr 1
  refine List.map_congr_left fun m _ => ?_
  split
  · rename_i h
    rw [show m.id = n.id by simpa using h]
  · rfl
/-- Two inodes' blocks are apart. -/
theorem flat_apart {β : Int → Nat × Nat} : ∀ {l : List NodeD}, (l.flatMap fun n => [(β n.id).1, (β n.id).2]).Nodup → (l.Pairwise fun a b => a.id < b.id) → ∀ {n m : NodeD}, n ∈ l → m ∈ l → m.id ≠ n.id →
    (β m.id).1 ≠ (β n.id).1 ∧ (β m.id).1 ≠ (β n.id).2 ∧ (β m.id).2 ≠ (β n.id).1 ∧ (β m.id).2 ≠ (β n.id).2
  | [], _, _, _, _, hn, _, _ => by cases hn
  | y :: r, hd, hs, n, m, hn, hm, hne => by
    rw [List.flatMap_cons] at hd
    obtain ⟨h1, h2, h3⟩ := List.nodup_append.1 hd
    obtain ⟨s1, s2⟩ := List.pairwise_cons.1 hs
    have inr : ∀ {x : NodeD}, x ∈ r → (β x.id).1 ∈ (r.flatMap fun n => [(β n.id).1, (β n.id).2]) ∧ (β x.id).2 ∈ (r.flatMap fun n => [(β n.id).1, (β n.id).2]) := fun {x} hx =>
      ⟨List.mem_flatMap.2 ⟨x, hx, by simp⟩, List.mem_flatMap.2 ⟨x, hx, by simp⟩⟩
    rcases List.mem_cons.1 hn with rfl | hn' <;> rcases List.mem_cons.1 hm with rfl | hm'
    · exact absurd rfl hne
    · have := inr hm'
      exact ⟨fun e => h3 (β n.id).1 (by simp) _ this.1 e.symm, fun e => h3 (β n.id).2 (by simp) _ this.1 e.symm, fun e => h3 (β n.id).1 (by simp) _ this.2 e.symm, fun e => h3 (β n.id).2 (by simp) _ this.2 e.symm⟩
    · have := inr hn'
      exact ⟨fun e => h3 (β m.id).1 (by simp) _ this.1 e, fun e => h3 (β m.id).1 (by simp) _ this.2 e, fun e => h3 (β m.id).2 (by simp) _ this.1 e, fun e => h3 (β m.id).2 (by simp) _ this.2 e⟩
    · exact flat_apart h2 s2 hn' hm' hne
section
variable {w : World} {g mb : Nat} {β : Int → Nat × Nat} {t : TabD}
theorem TblAt.apart_node (h : TblAt w g mb β t) {n m : NodeD} (hn : n ∈ t.nodes) (hm : m ∈ t.nodes) (hne : m.id ≠ n.id) :
    (β m.id).1 ≠ (β n.id).1 ∧ (β m.id).1 ≠ (β n.id).2 ∧ (β m.id).2 ≠ (β n.id).1 ∧ (β m.id).2 ≠ (β n.id).2 := by
  have hd := h.apart
  unfold foot at hd
  exact flat_apart (List.nodup_cons.1 (List.nodup_cons.1 hd).2).2 h.ids hn hm hne
theorem TblAt.apart_self (h : TblAt w g mb β t) {n : NodeD} (hn : n ∈ t.nodes) : g ≠ mb ∧ g ≠ (β n.id).1 ∧ g ≠ (β n.id).2 ∧ mb ≠ (β n.id).1 ∧ mb ≠ (β n.id).2 := by
  have hd := h.apart
  unfold foot at hd
  obtain ⟨h1, h2⟩ := List.nodup_cons.1 hd
  obtain ⟨h3, _⟩ := List.nodup_cons.1 h2
  simp only [List.mem_cons, not_or] at h1
  refine ⟨h1.1, fun e => h1.2 ?_, fun e => h1.2 ?_, fun e => h3 ?_, fun e => h3 ?_⟩ <;> rw [e] <;> exact List.mem_flatMap.2 ⟨n, hn, by simp⟩
theorem TblAt.apart_two (h : TblAt w g mb β t) {n : NodeD} (hn : n ∈ t.nodes) : (β n.id).1 ≠ (β n.id).2 := by
  intro e
  have h1 := (h.node n hn).row
  obtain ⟨es, clock, h2, _⟩ := (h.node n hn).names
  rw [e, h2] at h1
  cases h1
theorem TblAt.apart_mb (h : TblAt w g mb β t) : g ≠ mb := by
  have hd := h.apart
  unfold foot at hd
  have := (List.nodup_cons.1 hd).1
  simp only [List.mem_cons, not_or] at this
  exact this.1
/-- An inode's own block or its names have turned. -/
theorem TblAt.node_upd {w' : World} (h : TblAt w g mb β t) {n : NodeD} {o : NodeD} (hn : In.find t.nodes n.id = some o)
    (hw : ∀ k ∈ foot g mb β t.nodes, k ≠ (β n.id).1 → k ≠ (β n.id).2 → w'.heap[k]? = w.heap[k]?) (hN : NodeAt w' (β n.id).1 (β n.id).2 n) : TblAt w' g mb β (In.setN t n) := by
  obtain ⟨ho, hid⟩ := find_mem hn
  have ax := h.apart_self ho
  rw [hid] at ax
  refine ⟨?_, ?_, ?_, ?_⟩
  · exact (hw g (mem_foot.2 (.inl rfl)) ax.2.1 ax.2.2.1).trans h.row
  · show MapAt _ _ _ _ (nodesL β (In.set t.nodes n))
    rw [nodesL_set]
    exact MapAt.on h.map (hw mb (mem_foot.2 (.inr (.inl rfl))) ax.2.2.2.1 ax.2.2.2.2)
  · intro m hm
    rcases mem_set hm with rfl | ⟨hm, hne⟩
    · exact hN
    · have ap := h.apart_node ho hm (by rw [hid]; exact hne)
      rw [hid] at ap
      exact (h.node m hm).on (hw _ (mem_foot.2 (.inr (.inr ⟨m, hm, .inl rfl⟩))) ap.1 ap.2.1) (hw _ (mem_foot.2 (.inr (.inr ⟨m, hm, .inr rfl⟩))) ap.2.2.1 ap.2.2.2)
  · show (foot g mb β (In.set t.nodes n)).Nodup
    rw [foot_set]
    exact h.apart
/-- The table's own numbers have turned. -/
theorem TblAt.own_upd {w' : World} (h : TblAt w g mb β t) {q u l : Int} (hw : ∀ k ∈ foot g mb β t.nodes, k ≠ g → w'.heap[k]? = w.heap[k]?)
    (hr : w'.heap[g]? = some (.cells #[.int .i64 q, .int .i64 u, .int .i64 l, .map (some mb)] 50 (0, 0))) : TblAt w' g mb β ⟨q, u, l, t.nodes⟩ where
  row := hr
  map := MapAt.on h.map (hw mb (mem_foot.2 (.inr (.inl rfl))) (fun e => h.apart_mb e.symm))
  node := fun n hn => (h.node n hn).on (hw _ (mem_foot.2 (.inr (.inr ⟨n, hn, .inl rfl⟩))) (fun e => (h.apart_self hn).2.1 e.symm)) (hw _ (mem_foot.2 (.inr (.inr ⟨n, hn, .inr rfl⟩))) (fun e => (h.apart_self hn).2.2.1 e.symm))
  apart := h.apart
theorem mem_del {l : List NodeD} {id : Int} {m : NodeD} (h : m ∈ In.del l id) : m ∈ l ∧ m.id ≠ id := by
  unfold In.del at h
  obtain ⟨h1, h2⟩ := List.mem_filter.1 h
  exact ⟨h1, by simpa using h2⟩
theorem foot_del_sub (g mb : Nat) (β : Int → Nat × Nat) (l : List NodeD) (id : Int) : (foot g mb β (In.del l id)).Sublist (foot g mb β l) := by
  unfold foot In.del
  refine List.Sublist.cons_cons _ (List.Sublist.cons_cons _ ?_)
  induction l with
  | nil => exact List.Sublist.refl _
  | cons y r ih =>
    rw [List.filter_cons, List.flatMap_cons]
    split
    · rw [List.flatMap_cons]
      exact List.Sublist.append_left ih _
    · exact ih.trans (List.sublist_append_right _ _)
/-- An inode has gone out of the map. -/
theorem TblAt.del_upd {w' : World} (h : TblAt w g mb β t) {id : Int} (hw : ∀ k ∈ foot g mb β t.nodes, k ≠ mb → w'.heap[k]? = w.heap[k]?) (hm : MapAt Tryz.prog 3 w' mb (delL (.int .i64 id) (nodesL β t.nodes))) :
    TblAt w' g mb β { t with nodes := In.del t.nodes id } where
  row := (hw g (mem_foot.2 (.inl rfl)) h.apart_mb).trans h.row
  map := by rw [del_nodes] at hm; exact hm
  node := fun n hn => by
    have hn := (mem_del hn).1
    exact (h.node n hn).on (hw _ (mem_foot.2 (.inr (.inr ⟨n, hn, .inl rfl⟩))) (fun e => (h.apart_self hn).2.2.2.1 e.symm)) (hw _ (mem_foot.2 (.inr (.inr ⟨n, hn, .inr rfl⟩))) (fun e => (h.apart_self hn).2.2.2.2 e.symm))
  apart := h.apart.sublist (foot_del_sub _ _ _ _ _)
end

/-! ### steps -/
theorem cell_row {w : World} {b : Nat} {cs : Array Value} {T : TypeId} {fz : Nat × Nat} (h : w.heap[b]? = some (.cells cs T fz)) (j : Nat) : w.cell? ⟨b, j, none⟩ = cs[j]? := cell_of_row _ _ j _ _ _ h
theorem free_row {w : World} {b : Nat} {cs : Array Value} {T : TypeId} (h : w.heap[b]? = some (.cells cs T (0, 0))) (j : Nat) : w.frozen? ⟨b, j, none⟩ = false := by
  simp [World.frozen?, h]
theorem set_row {w : World} {b : Nat} {cs : Array Value} {T : TypeId} {fz : Nat × Nat} (h : w.heap[b]? = some (.cells cs T fz)) (j : Nat) (v : Value) : (w.setCell ⟨b, j, none⟩ v).heap[b]? = some (.cells (cs.setIfInBounds j v) T fz) := by
  simp only [World.setCell, Array.getElem?_modify, if_pos, h, Option.map_some]
  rfl
theorem set_other {w : World} {b : Nat} (j : Nat) (v : Value) {k : Nat} (hk : k ≠ b) : (w.setCell ⟨b, j, none⟩ v).heap[k]? = w.heap[k]? := Below.heap_setCell _ _ _ _ hk
section
variable {w : World} {g mb : Nat} {β : Int → Nat × Nat} {t : TabD}
theorem TblAt.set_used (h : TblAt w g mb β t) (u : Int) : TblAt (w.setCell ⟨g, 1, none⟩ (.int .i64 u)) g mb β { t with used := u } :=
  h.own_upd (fun _ _ hk => set_other _ _ hk) (by rw [set_row h.row]; rfl)
theorem TblAt.set_last (h : TblAt w g mb β t) (l : Int) : TblAt (w.setCell ⟨g, 2, none⟩ (.int .i64 l)) g mb β { t with last := l } :=
  h.own_upd (fun _ _ hk => set_other _ _ hk) (by rw [set_row h.row]; rfl)
theorem TblAt.at {id : Int} {n : NodeD} (h : TblAt w g mb β t) (hn : In.find t.nodes id = some n) : NodeAt w (β id).1 (β id).2 n := by
  obtain ⟨h1, rfl⟩ := find_mem hn
  exact h.node n h1
theorem TblAt.set_links {id : Int} {n : NodeD} (h : TblAt w g mb β t) (hn : In.find t.nodes id = some n) (v : Int) : TblAt (w.setCell ⟨(β id).1, 1, none⟩ (.int .i64 v)) g mb β (In.setN t { n with links := v }) := by
  obtain rfl := (find_mem hn).2
  have hN := h.at hn
  have ne := h.apart_two (find_mem hn).1
  exact h.node_upd (n := { n with links := v }) hn (fun k _ hk _ => set_other _ _ hk) ⟨by rw [set_row hN.row]; rfl, MapAt.on hN.names (set_other _ _ (fun e => ne e.symm))⟩
theorem TblAt.set_holds {id : Int} {n : NodeD} (h : TblAt w g mb β t) (hn : In.find t.nodes id = some n) (v : Int) : TblAt (w.setCell ⟨(β id).1, 2, none⟩ (.int .i64 v)) g mb β (In.setN t { n with holds := v }) := by
  obtain rfl := (find_mem hn).2
  have hN := h.at hn
  have ne := h.apart_two (find_mem hn).1
  exact h.node_upd (n := { n with holds := v }) hn (fun k _ hk _ => set_other _ _ hk) ⟨by rw [set_row hN.row]; rfl, MapAt.on hN.names (set_other _ _ (fun e => ne e.symm))⟩
theorem TblAt.set_data {id : Int} {n : NodeD} (h : TblAt w g mb β t) (hn : In.find t.nodes id = some n) (v : ByteArray) : TblAt (w.setCell ⟨(β id).1, 3, none⟩ (.string v)) g mb β (In.setN t { n with data := v }) := by
  obtain rfl := (find_mem hn).2
  have hN := h.at hn
  have ne := h.apart_two (find_mem hn).1
  exact h.node_upd (n := { n with data := v }) hn (fun k _ hk _ => set_other _ _ hk) ⟨by rw [set_row hN.row]; rfl, MapAt.on hN.names (set_other _ _ (fun e => ne e.symm))⟩
theorem TblAt.set_names {w' : World} {id : Int} {n : NodeD} (h : TblAt w g mb β t) (hn : In.find t.nodes id = some n) {d : List (ByteArray × Int)} (hm : NamesAt w' (β id).2 d) (ht : w.mapTurned w' (β id).2) : TblAt w' g mb β (In.setN t { n with names := d }) := by
  obtain rfl := (find_mem hn).2
  have hN := h.at hn
  have ne := h.apart_two (find_mem hn).1
  exact h.node_upd (n := { n with names := d }) hn (fun k _ _ hk => turned_other ht hk) ⟨(turned_other ht ne).trans hN.row, hm⟩
theorem find_setN {t : TabD} {n : NodeD} {id : Int} (hn : (In.find t.nodes n.id).isSome = true) : In.find (In.setN t n).nodes id = if id = n.id then some n else In.find t.nodes id := by
  show In.find (In.set t.nodes n) id = _
  unfold In.set In.find at *
  generalize t.nodes = l at *
  induction l with
  | nil => cases hn
  | cons y r ih =>
    rw [List.map_cons, List.find?_cons, List.find?_cons]
    rw [List.find?_cons] at hn
    by_cases hy : y.id = n.id
    · have e1 : (y.id == n.id) = true := by simpa using hy
      rw [if_pos e1]
      by_cases hi : id = n.id
      · subst hi; simp
      · rw [if_neg hi]
        have e2 : (n.id == id) = false := by rw [beq_eq_false_iff_ne]; exact fun e => hi e.symm
        have e3 : (y.id == id) = false := by rw [hy]; exact e2
        rw [e2, e3]
        simp only
        rw [List.find?_map]
        have : ((fun m : NodeD => m.id == id) ∘ fun m => if m.id == n.id then n else m) = fun m => m.id == id := by
          funext m
          simp only [Function.comp]
          split
          · rename_i hm
            rw [show m.id = n.id by simpa using hm]
          · rfl
        rw [this]
        cases hf : r.find? fun m => m.id == id with
        | none => rfl
        | some x =>
          have hx := List.find?_some hf
          simp only [Option.map_some]
          rw [if_neg]
          intro hc
          have h1 : x.id = id := by simpa using hx
          have h2 : x.id = n.id := by simpa using hc
          exact hi (h1 ▸ h2)
    · have e1 : (y.id == n.id) = false := by rw [beq_eq_false_iff_ne]; exact hy
      rw [e1] at hn
      simp only at hn
      rw [e1]
      simp only [Bool.false_eq_true, if_false]
      by_cases hyi : y.id = id
      · have e2 : (y.id == id) = true := by simpa using hyi
        rw [e2]
        simp only
        rw [if_neg (fun e => hy (hyi.trans e))]
      · have e2 : (y.id == id) = false := by rw [beq_eq_false_iff_ne]; exact hyi
        rw [e2]
        exact ih hn
end
end Go.Proofs.YtfepbjlaffpojaaGreat
