/-
  strings.Builder, as far as a call makes one itself and only writes it: copyCheck, WriteByte, WriteString, with a frame that says which blocks are left alone.
  (The proofs of copyCheck, WriteByte, WriteString follow the kit's own over this translation: the shelf could not lay them here, because the panicking arm of copyCheck is refused by the loader.)
-/
import Derived.Test.YtlniiaopindjnaaDoorBase0
import Derived.Lib.Builder
import Derived.Lib.AppendStr
import Derived.Lib.UnsafeStr
import Derived.Maps.AppendAt
import Derived.Laws.Externs
namespace Go.Proofs.YtlniiaopindjnaaDoor
set_option linter.unusedVariables false
open Go.RowKit

/-- The blocks of 'keep' are as they were; the streams too; no block has gone. -/
structure Under (keep : Nat → Prop) (w w' : World) : Prop where
  os : w'.os = w.os
  tape : w'.tape = w.tape
  output : w'.output = w.output
  size : w.heap.size ≤ w'.heap.size
  block : ∀ k, keep k → w'.heap[k]? = w.heap[k]?
theorem Under.refl (keep : Nat → Prop) (w : World) : Under keep w w := ⟨rfl, rfl, rfl, Nat.le_refl _, fun _ _ => rfl⟩
theorem Under.trans {keep : Nat → Prop} {a b c : World} (h : Under keep a b) (k : Under keep b c) : Under keep a c :=
  ⟨k.os.trans h.os, k.tape.trans h.tape, k.output.trans h.output, Nat.le_trans h.size k.size, fun i hi => (k.block i hi).trans (h.block i hi)⟩
theorem Under.below {keep : Nat → Prop} {w w' : World} {B : Nat} (h : Under keep w w') (hB : ∀ k, k < B → keep k) : Below B w w' := ⟨h.os, h.tape, h.output, h.size, fun k hk => h.block k (hB k hk)⟩
theorem Under.of_below {keep : Nat → Prop} {w w' : World} {B : Nat} (h : Below B w w') (hB : ∀ k, keep k → k < B) : Under keep w w' := ⟨h.os, h.tape, h.output, h.size, fun k hk => h.block k (hB k hk)⟩
theorem Under.setCell {keep : Nat → Prop} {a w : World} (h : Under keep a w) {p : Addr} (hp : ¬ keep p.block) (u : Value) : Under keep a (w.setCell p u) :=
  h.trans ⟨rfl, rfl, rfl, by simp [World.setCell], fun k hk => Below.heap_setCell _ _ _ _ (fun e => hp (e ▸ hk))⟩
theorem Under.alloc {keep : Nat → Prop} {a w : World} (h : Under keep a w) (hk : ∀ k, keep k → k < w.heap.size) (o : Obj) : Under keep a (w.alloc o) :=
  h.trans ⟨rfl, rfl, rfl, by simp, fun k hk' => Below.heap_alloc _ _ _ (hk k hk')⟩
theorem Under.grown {keep : Nat → Prop} {a w w' : World} {row : Option Nat} (h : Under keep a w) (hk : ∀ k, keep k → k < w.heap.size) (hg : w.grownBy w' row) (hr : ∀ k, row = some k → ¬ keep k) : Under keep a w' :=
  h.trans ⟨hg.os, hg.tape, hg.output, hg.size, fun k hk' => hg.block k (hk k hk') (fun e => hr k e.symm hk')⟩
theorem Under.cell {keep : Nat → Prop} {w w' : World} (h : Under keep w w') {b o : Nat} (hb : keep b) : w'.cell? ⟨b, o, none⟩ = w.cell? ⟨b, o, none⟩ := World.cell?_of_block (w := w) (h.block b hb)

/-- A builder in block b, none of the blocks of 'keep', that holds the cells bs. -/
def IsB (T e : TypeId) (keep : Nat → Prop) (b : Nat) (bs : List Value) (w : World) : Prop :=
  ¬ keep b ∧ (∀ k, keep k → k < w.heap.size) ∧ ∃ p v, (p = .pointer none ∨ p = .pointer (some ⟨b, 0, none⟩)) ∧ w.heap[b]? = some (.cells #[p, v] T (0, 0)) ∧ w.ownsRow 0 e 1 v bs.length bs ∧ v.ownBlock ≠ some b ∧ ∀ g, v.ownBlock = some g → ¬ keep g
/-- .. that has been written. -/
def IsBU (T e : TypeId) (keep : Nat → Prop) (b : Nat) (bs : List Value) (w : World) : Prop :=
  ¬ keep b ∧ (∀ k, keep k → k < w.heap.size) ∧ ∃ v, w.heap[b]? = some (.cells #[.pointer (some ⟨b, 0, none⟩), v] T (0, 0)) ∧ w.ownsRow 0 e 1 v bs.length bs ∧ v.ownBlock ≠ some b ∧ ∀ g, v.ownBlock = some g → ¬ keep g
theorem IsBU.is {T e : TypeId} {keep : Nat → Prop} {b : Nat} {bs : List Value} {w : World} (h : IsBU T e keep b bs w) : IsB T e keep b bs w :=
  ⟨h.1, h.2.1, by obtain ⟨v, h1, h2⟩ := h.2.2; exact ⟨_, v, .inr rfl, h1, h2⟩⟩
theorem own_ge {w : World} {B e size n : Nat} {v : Value} {xs : List Value} (h : w.ownsRow 0 e size v n xs) (hb : ∀ g, v.ownBlock = some g → B ≤ g) : w.ownsRow B e size v n xs := by
  obtain ⟨h1, h2⟩ := h
  refine ⟨h1, ?_⟩
  rcases h2 with h2 | ⟨g, cap, cur, rfl, hg, r⟩
  · exact .inl h2
  · exact .inr ⟨g, cap, cur, rfl, hb g rfl, r⟩
/-- As the shelf says it: where all blocks below B are kept. -/
theorem IsB.lib {T e : TypeId} {keep : Nat → Prop} {b B : Nat} {bs : List Value} {w : World} (h : IsB T e keep b bs w) (hB : ∀ k, k < B → keep k) : Lib.IsBuilder T e B b bs w := by
  obtain ⟨hb, -, p, v, hp, hbk, hown, hne, hg⟩ := h
  have ge : ∀ g, ¬ keep g → B ≤ g := fun g hg => by
    rcases Nat.lt_or_ge g B with h | h
    · exact absurd (hB g h) hg
    · exact h
  rcases hp with rfl | rfl
  · exact .inl ⟨ge b hb, v, hbk, own_ge hown (fun g h => ge g (hg g h)), hne⟩
  · exact .inr ⟨ge b hb, v, hbk, own_ge hown (fun g h => ge g (hg g h)), hne⟩
/-- A fresh builder: the zero value in a new block. -/
theorem IsB.fresh (T e : TypeId) (keep : Nat → Prop) (w : World) (hk : ∀ k, keep k → k < w.heap.size) : IsB T e keep w.heap.size [] (w.alloc (.cells #[.pointer none, .slice none 0 0] T)) :=
  ⟨fun h => absurd (hk _ h) (Nat.lt_irrefl _), fun k h => by simp; have := hk k h; omega, .pointer none, .slice none 0 0, .inl rfl, heap_alloc_new w _, World.ownsRow_nil _ _ _ _, by simp [Value.ownBlock], by simp [Value.ownBlock]⟩
theorem IsB.of_fresh {T e : TypeId} {keep : Nat → Prop} {b : Nat} {w : World} (hb : w.heap[b]? = some (.cells #[.pointer none, .slice none 0 0] T (0, 0))) (h1 : ¬ keep b) (h2 : ∀ k, keep k → k < w.heap.size) : IsB T e keep b [] w :=
  ⟨h1, h2, .pointer none, .slice none 0 0, .inl rfl, hb, World.ownsRow_nil _ _ _ _, by simp [Value.ownBlock], by simp [Value.ownBlock]⟩
/-- Nothing of the builder's has turned. -/
theorem IsB.kept {T e : TypeId} {keep : Nat → Prop} {b : Nat} {bs : List Value} {w w' : World} (h : IsB T e keep b bs w) (hs : w.heap.size ≤ w'.heap.size) (hb : ∀ k, k < w.heap.size → ¬ keep k → w'.heap[k]? = w.heap[k]?) : IsB T e keep b bs w' := by
  obtain ⟨h1, h2, p, v, hp, hbk, hown, hne, hg⟩ := h
  have lt : ∀ {k : Nat} {o : Obj}, w.heap[k]? = some o → k < w.heap.size := fun {k o} h => by
    rcases Nat.lt_or_ge k w.heap.size with h' | h'
    · exact h'
    · rw [Array.getElem?_eq_none h'] at h; cases h
  refine ⟨h1, fun k hk => Nat.lt_of_lt_of_le (h2 k hk) hs, p, v, hp, (hb b (lt hbk) h1).trans hbk, ?_, hne, hg⟩
  obtain ⟨o1, o2⟩ := hown
  refine ⟨o1, ?_⟩
  rcases o2 with o2 | ⟨g, cap, cur, rfl, hg0, hgg, r⟩
  · exact .inl o2
  · exact .inr ⟨g, cap, cur, rfl, hg0, (hb g (lt hgg) (hg g rfl)).trans hgg, r⟩
theorem IsB.alloc {T e : TypeId} {keep : Nat → Prop} {b : Nat} {bs : List Value} {w : World} (h : IsB T e keep b bs w) (o : Obj) : IsB T e keep b bs (w.alloc o) :=
  h.kept (by simp) (fun k hk _ => Below.heap_alloc _ _ _ hk)
theorem IsB.drew {T e : TypeId} {keep : Nat → Prop} {b : Nat} {bs : List Value} {w : World} (h : IsB T e keep b bs w) : IsB T e keep b bs w.drew := h
/-- Fewer blocks, or more, that are kept. -/
theorem IsB.turn {T e : TypeId} {keep keep' : Nat → Prop} {b : Nat} {bs : List Value} {w : World} (h : IsB T e keep b bs w) (hk : ∀ k, keep' k → keep k) : IsB T e keep' b bs w := by
  obtain ⟨h1, h2, p, v, hp, hbk, hown, hne, hg⟩ := h
  exact ⟨fun h => h1 (hk _ h), fun k h => h2 k (hk k h), p, v, hp, hbk, hown, hne, fun g h h' => hg g h (hk g h')⟩

/-- Where the new slice lies behind 'append(buf, s...)', s a string. -/
theorem run_append_string_loc {P : Program} (w : World) (base : Nat) (t u ty e : TypeId) (i : TypeInfo) (ht : P.underlying t = some (.slice e)) (hu : P.underlying u = some .string) (hi : P.info? e = some i) (hz : i.zero = some (.int .u8 0))
    (hsize : i.size = 1) (hby : i.bytes = 1) (v : Value) (n : Nat) (xs : List Value) (hown : w.ownsRow base e 1 v n xs) (s : ByteArray)
    (hbytes : n + s.size ≤ 140737488355328) {v' : Value} {w' : World} (hrun : (Builtin.append_ #[t, u] ty #[v, .string s]).run P w = .ok v' w') : v'.ownBlock = v.ownBlock ∨ v'.ownBlock = some w.heap.size := by
  have hxl : xs.length = n := by simpa using hown.1
  rcases hown.2 with ⟨rfl, rfl⟩ | ⟨g, cap, cur, rfl, hbg, hg, hnc, hcm, hcs, htake⟩
  · by_cases hm : s.size = 0
    · left
      have hf := Lib.run_firstCells_string (P := P) w 1 s
      rw [hm] at hf
      have hr : (Builtin.append_ #[t, u] ty #[.slice none 0 0, .string s]).run P w = .ok (.slice none 0 0) w := by
        simp [Builtin.append_, run_underlying ht, run_underlying hu, sizeOf, typeInfo, hi, hsize, Builtin.lenOf, hm, hf]
      rw [hr] at hrun
      injection hrun with e1 e2
      rw [← e1]
    · right
      have hr := run_append_nil_string (P := P) w t u ty e i (.int .u8 0) ht hu hi hz s (by omega) (by omega) (by rw [hby]; omega)
      rw [hr] at hrun
      injection hrun with e1 e2
      rw [← e1]
      rfl
  · by_cases hroom : n + s.size ≤ cap
    · left
      have hcs' : cur.size = cap := by simpa using hcs
      have hr := Lib.run_append_room_string (P := P) w t u ty e i ht hu hi hsize g n cap cur hg s hroom (by omega)
      rw [hr] at hrun
      injection hrun with e1 e2
      rw [← e1]
      rfl
    · right
      have holds : ∀ j u, xs[j]? = some u → w.cell? ((⟨g, 0, none⟩ : Addr).add j) = some u := hown.cells (g := g) rfl
      have hr := Lib.run_append_grow_string (P := P) w t u ty e i (.int .u8 0) ht hu hi hz ⟨g, 0, none⟩ n cap xs (by rw [hsize]; simpa using hxl) holds s (by omega) (by omega) (by rw [hby]; exact growslice_fits (by omega) (by omega))
      rw [hr] at hrun
      injection hrun with e1 e2
      rw [← e1]
      rfl
theorem wpList_append_string_at {P : Program} (w : World) {ops : Array Oper} {rest : List Oper} {o : Oper} {a : Act} {Q : Exit → Act → World → Prop} (hgd : o.guard = none) (sl x : Operand) (t u : TypeId)
    (ho : o.op = .call { callee := .builtin .append, args := #[sl, x], argTypes := #[t, u] })
    (base : Nat) (e : TypeId) (i : TypeInfo) (ht : P.underlying t = some (.slice e)) (hu : P.underlying u = some .string) (hi : P.info? e = some i) (hz : i.zero = some (.int .u8 0))
    (hsize : i.size = 1) (hby : i.bytes = 1)
    (v : Value) (n : Nat) (xs : List Value) (hs : a.eval sl = v) (hown : w.ownsRow base e 1 v n xs) (s : ByteArray) (hx : a.eval x = .string s)
    (h63 : n + s.size ≤ maxLen) (hbytes : n + s.size ≤ 140737488355328) (hbase : base ≤ w.heap.size)
    (h : ∀ v' w', w'.ownsRow base e 1 v' (n + s.size) (xs ++ Lib.strCells s) → w.grownBy w' v.ownBlock → (v'.ownBlock = v.ownBlock ∨ v'.ownBlock = some w.heap.size) → wpList P ops Q rest (a.put o.dst v') w') : wpList P ops Q (o :: rest) a w := by
  refine wpList_plain hgd fun K hK => ?_
  obtain ⟨v', w', hr, h2, h3, -⟩ := Lib.run_append_own_string (P := P) w base t u o.type e i ht hu hi hz hsize hby v n xs hown s h63 hbytes hbase
  have h4 := run_append_string_loc (P := P) w base t u o.type e i ht hu hi hz hsize hby v n xs hown s hbytes hr
  unfold Oper.wp execOp
  simp only [ho, resolve, invoke, builtin, Sem.run_bind, Sem.run_pure, Result.andThen_ok, List.map_toArray, List.map_cons, List.map_nil, hs, hx, hr]
  exact hK _ _ (h v' w' h2 h3 h4)

/-- A new buffer laid into the builder's second cell. -/
theorem isBU_put {T e : TypeId} {keep : Nat → Prop} {b : Nat} {v v' : Value} {bs' : List Value} {w : World} (hb : ¬ keep b) (hk : ∀ k, keep k → k < w.heap.size) (hbk : w.heap[b]? = some (.cells #[.pointer (some ⟨b, 0, none⟩), v] T (0, 0)))
    (hown : w.ownsRow 0 e 1 v' bs'.length bs') (hTe : T ≠ e) (hg : ∀ g, v'.ownBlock = some g → ¬ keep g) : IsBU T e keep b bs' (w.setCell ⟨b, 1, none⟩ v') := by
  have hne := Lib.ownBlock_ne hown hbk hTe
  refine ⟨hb, fun k h => by simpa [World.setCell] using hk k h, v', ?_, ?_, hne, hg⟩
  · simp [World.setCell, Array.getElem?_modify, hbk]
  · exact hown.kept (row := some b) ⟨rfl, rfl, rfl, by simp [World.setCell], fun k _ hk => Below.heap_setCell _ _ _ _ (fun e => hk (by simp [e]))⟩ (Or.inr hne)

theorem byte_info : (Tryd.prog.info? 5).map (fun i => (i.zero, i.size, i.bytes)) = some (some (.int .u8 0), 1, 1) := by kernel_rfl
theorem builder_size : (Tryd.prog.info? 55).map (·.size) = some 2 := by kernel_rfl
theorem builder_lies : liesAt Tryd.prog Tryd.prog.depth 55 (2 / Tryd.prog.cellsOf 55) 0 55 1 = true := by kernel_rfl

set_option maxHeartbeats 1000000 in
set_option maxRecDepth 100000 in
theorem copyCheck_used (b : Nat) (w : World) (h0 : w.cell? ⟨b, 0, none⟩ = some (.pointer (some ⟨b, 0, none⟩))) :
    Calls Tryd.prog 53 #[.pointer (some ⟨b, 0, none⟩)] w fun e w' => e = .returned (.tuple #[]) ∧ w = w' := by
  obtain ⟨j, hj, _⟩ := Option.map_eq_some_iff.1 builder_size
  go_enter Tryd.func53, Tryd.ntmps53
  go_wp2
  rw [Lib.run_neq_ptr_same w _ Tryd.underlying52 hj]
  go_wp2
  go_end0
  exact ⟨rfl, rfl⟩

set_option maxHeartbeats 1000000 in
set_option maxRecDepth 100000 in
theorem copyCheck_fresh (b : Nat) (w : World) (h0 : w.cell? ⟨b, 0, none⟩ = some (.pointer none)) (hsh : w.shape? b = some (55, 2)) (hfz : w.frozen? ⟨b, 0, none⟩ = false) :
    Calls Tryd.prog 53 #[.pointer (some ⟨b, 0, none⟩)] w fun e w' => e = .returned (.tuple #[]) ∧ w.setCell ⟨b, 0, none⟩ (.pointer (some ⟨b, 0, none⟩)) = w' := by
  obtain ⟨j, hj, hjs⟩ := Option.map_eq_some_iff.1 builder_size
  go_enter Tryd.func53, Tryd.ntmps53
  go_wp2
  rw [Lib.run_to_unsafe w ⟨b, 0, none⟩ Tryd.underlying52 Tryd.underlying90 hj (by rw [hjs]; decide) hsh (Nat.zero_lt_succ 1)]
  simp only [Result.andThen]
  rw [Oper.upon_value]
  go_wp2
  rw [run_callFunc_extern Tryd.func69 (by kernel_rfl) (by kernel_rfl) (by kernel_rfl) (e := Extern.AbiNoEscape.same) (by kernel_rfl)]
  rw [Lib.run_noEscape]
  simp only [Result.andThen]
  rw [Oper.upon_value]
  go_wp2
  rw [Lib.run_from_unsafe w ⟨b, 0, none⟩ Tryd.underlying90 Tryd.underlying52 hj hsh builder_lies]
  simp only [Result.andThen]
  rw [Oper.upon_value]
  go_wp2
  go_end0
  exact ⟨rfl, rfl⟩

theorem copyCheck_any (keep : Nat → Prop) (b : Nat) (bs : List Value) (w : World) (h : IsB 55 5 keep b bs w) :
    Calls Tryd.prog 53 #[.pointer (some ⟨b, 0, none⟩)] w fun e w' => e = .returned (.tuple #[]) ∧ IsBU 55 5 keep b bs w' ∧ Under keep w w' := by
  obtain ⟨h1, h2, p, v, hp, hbk, hown, hne, hg⟩ := h
  rcases hp with rfl | rfl
  · refine (copyCheck_fresh b w (by rw [Lib.cell_of_heap hbk]; rfl) (by simp [World.shape?, hbk]) (Lib.frozen_of_heap hbk 0)).mono ?_
    rintro e w' ⟨rfl, rfl⟩
    refine ⟨rfl, ⟨h1, fun k hk => by simpa [World.setCell] using h2 k hk, v, by simp [World.setCell, Array.getElem?_modify, hbk], ?_, hne, hg⟩, (Under.refl keep w).setCell (p := ⟨b, 0, none⟩) h1 _⟩
    exact hown.kept (row := some b) ⟨rfl, rfl, rfl, by simp [World.setCell], fun k _ hk => Below.heap_setCell _ _ _ _ (fun e => hk (by simp [e]))⟩ (Or.inr hne)
  · refine (copyCheck_used b w (by rw [Lib.cell_of_heap hbk]; rfl)).mono ?_
    rintro e w' ⟨rfl, rfl⟩
    exact ⟨rfl, ⟨h1, h2, v, hbk, hown, hne, hg⟩, Under.refl keep _⟩

set_option maxHeartbeats 2000000 in
set_option maxRecDepth 100000 in
theorem writeByte_any (keep : Nat → Prop) (b : Nat) (bs : List Value) (c : Int) (w : World) (h : IsB 55 5 keep b bs w) (hlen : bs.length + 1 ≤ 140737488355328) :
    Calls Tryd.prog 29 #[.pointer (some ⟨b, 0, none⟩), .int .u8 c] w fun e w' => e = .returned .nilIface ∧ IsB 55 5 keep b (bs ++ [.int .u8 c]) w' ∧ Under keep w w' := by
  obtain ⟨i0, hi, hz0, hz1, hz2⟩ := info_parts byte_info
  go_enter Tryd.func29, Tryd.ntmps29
  go_wp2_with (go_at_call 53; refine (copyCheck_any keep b bs _ h).mono ?_)
  rintro e w1 ⟨rfl, h1, hb1⟩
  obtain ⟨hB, hK, v, hbk, hown, hne, hgk⟩ := h1
  have c0 : w1.cell? ⟨b, 0, none⟩ = some (.pointer (some ⟨b, 0, none⟩)) := by rw [Lib.cell_of_heap hbk]; rfl
  have c1 : w1.cell? ⟨b, 1, none⟩ = some v := by rw [Lib.cell_of_heap hbk]; rfl
  go_wp2_with (at_builtin; refine wpList_append_own_at _ rfl _ _ 53 rfl 0 5 i0 (.int .u8 0) 1 1 Tryd.underlying53 hi hz0 hz1 hz2 rfl (by decide) _ _ _ rfl (hown.alloc _) ⟨w1.heap.size, 0, none⟩ 1 1 [.int .u8 c] rfl rfl ?c1 ?c2 ?c3 ?c4 ?c5 ?_)
  case c1 =>
    intro j u hj
    match j, hj with
    | 0, hj => simp at hj; subst hj; simp [Addr.add]
  case c2 => intro u hu; simp at hu; subst hu; rfl
  case c3 => unfold maxLen; omega
  case c4 => omega
  case c5 => simp
  intro v' w2 hown' hgrow _ hloc
  have hlt : b < w1.heap.size := by
    rcases Nat.lt_or_ge b w1.heap.size with h' | h'
    · exact h'
    · simp [Array.getElem?_eq_none h'] at hbk
  have hb2 : w2.heap[b]? = some (.cells #[.pointer (some ⟨b, 0, none⟩), v] 55 (0, 0)) := by
    rw [hgrow.block b (by simp; omega) (fun e => hne e.symm), Lib.alloc_old w1 _ b hlt]
    exact hbk
  have d0 : w2.cell? ⟨b, 0, none⟩ = some (.pointer (some ⟨b, 0, none⟩)) := by rw [Lib.cell_of_heap hb2]; rfl
  have d1 : w2.cell? ⟨b, 1, none⟩ = some v := by rw [Lib.cell_of_heap hb2]; rfl
  have f1 : w2.frozen? ⟨b, 1, none⟩ = false := Lib.frozen_of_heap hb2 1
  have hsz := hgrow.size
  have hgk' : ∀ g, v'.ownBlock = some g → ¬ keep g := by
    intro g hg hkg
    rcases hloc with e | e
    · rw [e] at hg; exact hgk g hg hkg
    · rw [e] at hg; simp at hg; have := hK g hkg; omega
  have hK2 : ∀ k, keep k → k < w2.heap.size := fun k hk => by have := hK k hk; simp at hsz; omega
  obtain ⟨g, cap, rfl⟩ : ∃ g cap, v' = .slice (some ⟨g, 0, none⟩) (bs.length + 1) cap := by
    rcases hown'.2 with ⟨_, h0⟩ | ⟨g, cap, cur, hv, _⟩
    · omega
    · exact ⟨g, cap, hv⟩
  go_wp2
  go_ret
  refine ⟨rfl, (isBU_put (T := 55) (e := 5) hB hK2 hb2 (bs' := bs ++ [.int .u8 c]) (by simpa using hown') (by decide) hgk').is, ?_⟩
  exact ((hb1.alloc hK _).grown (fun k hk => by have := hK k hk; simp; omega) hgrow hgk).setCell (p := ⟨b, 1, none⟩) hB _

set_option maxHeartbeats 2000000 in
set_option maxRecDepth 100000 in
theorem writeString_any (keep : Nat → Prop) (b : Nat) (bs : List Value) (s : ByteArray) (w : World) (h : IsB 55 5 keep b bs w) (hlen : bs.length + s.size ≤ 140737488355328) :
    Calls Tryd.prog 31 #[.pointer (some ⟨b, 0, none⟩), .string s] w fun e w' => e = .returned (.tuple #[.int .i64 s.size, .nilIface]) ∧ IsB 55 5 keep b (bs ++ Lib.strCells s) w' ∧ Under keep w w' := by
  obtain ⟨i0, hi, hz0, hz1, hz2⟩ := info_parts byte_info
  go_enter Tryd.func31, Tryd.ntmps31
  go_wp2_with (go_at_call 53; refine (copyCheck_any keep b bs _ h).mono ?_)
  rintro e w1 ⟨rfl, h1, hb1⟩
  obtain ⟨hB, hK, v, hbk, hown, hne, hgk⟩ := h1
  have c0 : w1.cell? ⟨b, 0, none⟩ = some (.pointer (some ⟨b, 0, none⟩)) := by rw [Lib.cell_of_heap hbk]; rfl
  have c1 : w1.cell? ⟨b, 1, none⟩ = some v := by rw [Lib.cell_of_heap hbk]; rfl
  go_wp2_with (at_builtin; refine wpList_append_string_at _ rfl _ _ 53 9 rfl 0 5 i0 Tryd.underlying53 Tryd.underlying9 hi hz0 hz1 hz2 _ _ _ rfl hown s rfl ?c3 ?c4 ?c5 ?_)
  case c3 => unfold maxLen; omega
  case c4 => omega
  case c5 => exact Nat.zero_le _
  intro v' w2 hown' hgrow hloc
  have hlt : b < w1.heap.size := by
    rcases Nat.lt_or_ge b w1.heap.size with h' | h'
    · exact h'
    · simp [Array.getElem?_eq_none h'] at hbk
  have hb2 : w2.heap[b]? = some (.cells #[.pointer (some ⟨b, 0, none⟩), v] 55 (0, 0)) := by
    rw [hgrow.block b hlt (fun e => hne e.symm)]
    exact hbk
  have d0 : w2.cell? ⟨b, 0, none⟩ = some (.pointer (some ⟨b, 0, none⟩)) := by rw [Lib.cell_of_heap hb2]; rfl
  have d1 : w2.cell? ⟨b, 1, none⟩ = some v := by rw [Lib.cell_of_heap hb2]; rfl
  have f1 : w2.frozen? ⟨b, 1, none⟩ = false := Lib.frozen_of_heap hb2 1
  have hsz := hgrow.size
  have hgk' : ∀ g, v'.ownBlock = some g → ¬ keep g := by
    intro g hg hkg
    rcases hloc with e | e
    · rw [e] at hg; exact hgk g hg hkg
    · rw [e] at hg; simp at hg; have := hK g hkg; omega
  have hK2 : ∀ k, keep k → k < w2.heap.size := fun k hk => by have := hK k hk; omega
  obtain ⟨ao, n', cap, rfl⟩ : ∃ ao n' cap, v' = .slice ao n' cap := by
    rcases hown'.2 with ⟨hv, _⟩ | ⟨g, cap, cur, hv, _⟩
    · exact ⟨_, _, _, hv⟩
    · exact ⟨_, _, _, hv⟩
  go_wp2
  go_ret2
  refine ⟨rfl, (isBU_put (T := 55) (e := 5) hB hK2 hb2 (bs' := bs ++ Lib.strCells s) (by simpa [Lib.strCells_length] using hown') (by decide) hgk').is, ?_⟩
  exact (hb1.grown hK hgrow hgk).setCell (p := ⟨b, 1, none⟩) hB _
end Go.Proofs.YtlniiaopindjnaaDoor
