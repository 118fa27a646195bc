/-
  Chunks of the memory: what a callee is handed to write, and hands back; maps as blocks that are known. No program is named here.
-/
import Derived.Test.YtcicjklhbnipcaaGreatDoorMem
import Derived.Test.YtcicjklhbnipcaaGreatDoorIno1
namespace Go.Proofs.YtcicjklhbnipcaaGreatDoor
set_option linter.unusedVariables false
set_option linter.unusedSimpArgs false
open Go.RowKit Go.Maps

def keysOf (L : List Ent) : List Nat := L.map (·.1)
def unflag (x : Ent) : Ent := (x.1, false, x.2.2)
def flagged (L : List Ent) : Prop := ∀ x ∈ L, x.2.1 = true
/-- A chunk stands in this world, all apart. -/
structure At (M : List Ent) (w : World) : Prop where
  has : Has M w
  nd : (keysOf M).Nodup
section
variable {w0 w w' : World} {F : List Nat} {L L' M M' : List Ent}
theorem At.below (h : At M w) (hb : Below w.heap.size w w') : At M w' := ⟨h.has.below hb, h.nd⟩
theorem At.lt (h : At M w) : ∀ k ∈ keysOf M, k < w.heap.size := fun k hk => by
  obtain ⟨x, hx, rfl⟩ := List.mem_map.1 hk
  exact h.has.lt hx
/-- One part of a list. -/
inductive Part : List Ent → List Ent → Prop where
  | all {M : List Ent} : Part M M
  | here {M R : List Ent} : Part (M ++ R) M
  | skip {x : Ent} {L M : List Ent} (h : Part L M) : Part (x :: L) M
  | past {N L M : List Ent} (h : Part L M) : Part (N ++ L) M
theorem Part.split {L M : List Ent} (h : Part L M) : ∃ A B, L = A ++ (M ++ B) := by
  induction h with
  | all => exact ⟨[], [], by simp⟩
  | here => exact ⟨[], _, rfl⟩
  | @skip x _ _ _ ih => obtain ⟨A, B, h1⟩ := ih; exact ⟨x :: A, B, by rw [h1]; rfl⟩
  | @past N _ _ _ ih => obtain ⟨A, B, h1⟩ := ih; exact ⟨N ++ A, B, by rw [h1, List.append_assoc]⟩
theorem St.part (h : St w0 F w L) (hs : Part L M) : At M w := by
  obtain ⟨A, B, rfl⟩ := hs.split
  refine ⟨fun x hx => h.holds x (by simp [hx]), ?_⟩
  have := h.nd
  simp only [List.map_append, List.nodup_append] at this
  exact this.2.1.1
theorem St.whole (h : St w0 F w L) : At L w := ⟨h.holds, h.nd⟩
/-- A call that writes a chunk begins. -/
theorem At.st (h : At M w) : St w (keysOf M) w M := ⟨Only.refl _ w, h.has, h.nd, fun _ hx _ => .inl (List.mem_map_of_mem hx)⟩
/-- A call that reads a chunk begins. -/
theorem At.ro (h : At M w) : St w [] w (M.map unflag) := by
  refine ⟨Only.refl _ w, fun x hx => ?_, ?_, fun x hx h1 => ?_⟩
  · obtain ⟨y, hy, rfl⟩ := List.mem_map.1 hx
    exact h.has y hy
  · rw [List.map_map]
    exact h.nd
  · obtain ⟨y, hy, rfl⟩ := List.mem_map.1 hx
    cases h1
/-- What is put in a chunk's place is handed back. -/
theorem St.backM (h : St w0 F w L) (hs : Swap L M M' L') (hw : flagged M) (h' : St w (keysOf M) w' M') (hw' : flagged M') : St w0 F w' L' := by
  obtain ⟨A, B, rfl, rfl⟩ := hs.split
  have hnd := h.nd
  simp only [List.map_append, List.nodup_append] at hnd
  obtain ⟨n1, ⟨n2, n3, n4⟩, n5⟩ := hnd
  have hkeep : ∀ x, x ∈ A ∨ x ∈ B → x.1 < w.heap.size ∧ x.1 ∉ keysOf M := fun x hx => by
    refine ⟨h.lt (by rcases hx with h | h <;> simp [h]), fun hm => ?_⟩
    rcases hx with hx | hx
    · exact n5 x.1 (List.mem_map_of_mem hx) x.1 (by rw [List.mem_append]; exact .inl hm) rfl
    · exact n4 x.1 hm x.1 (List.mem_map_of_mem hx) rfl
  have hown : ∀ x ∈ M', x.1 ∈ keysOf M ∨ w.heap.size ≤ x.1 := fun x hx => h'.own x hx (hw' x hx)
  refine ⟨h.only.then h'.only (fun k hk => ?_), fun x hx => ?_, ?_, fun x hx hx1 => ?_⟩
  · obtain ⟨x, hx, rfl⟩ := List.mem_map.1 hk
    exact h.own x (by simp [hx]) (hw x hx)
  · simp only [List.mem_append] at hx
    rcases hx with hx | hx | hx
    · rw [h'.only.block x.1 (hkeep x (.inl hx)).1 (hkeep x (.inl hx)).2]
      exact h.holds x (by simp [hx])
    · exact h'.holds x hx
    · rw [h'.only.block x.1 (hkeep x (.inr hx)).1 (hkeep x (.inr hx)).2]
      exact h.holds x (by simp [hx])
  · simp only [List.map_append, List.nodup_append]
    have hne : ∀ x, x ∈ A ∨ x ∈ B → ∀ y ∈ M', x.1 ≠ y.1 := fun x hx y hy e => by
      rcases hown y hy with h1 | h1
      · exact (hkeep x hx).2 (e ▸ h1)
      · have := (hkeep x hx).1
        omega
    refine ⟨n1, ⟨h'.nd, n3, fun a ha b hb => ?_⟩, fun a ha b hb => ?_⟩
    · obtain ⟨y, hy, rfl⟩ := List.mem_map.1 ha
      obtain ⟨x, hx, rfl⟩ := List.mem_map.1 hb
      exact (hne x (.inr hx) y hy).symm
    · obtain ⟨x, hx, rfl⟩ := List.mem_map.1 ha
      rcases List.mem_append.1 hb with hb | hb
      · obtain ⟨y, hy, rfl⟩ := List.mem_map.1 hb
        exact hne x (.inl hx) y hy
      · exact n5 x.1 (List.mem_map_of_mem hx) b (by rw [List.mem_append]; exact .inr hb)
  · simp only [List.mem_append] at hx
    rcases hx with hx | hx | hx
    · exact h.own x (by simp [hx]) hx1
    · rcases hown x hx with h1 | h1
      · obtain ⟨y, hy, e⟩ := List.mem_map.1 h1
        rw [← e]
        exact h.own y (by simp [hy]) (hw y hy)
      · exact .inr (Nat.le_trans h.only.size h1)
    · exact h.own x (by simp [hx]) hx1
/-- A callee made a chunk. -/
theorem St.madeM (h : St w0 F w L) (h' : St w [] w' M) (hw : flagged M) : St w0 F w' (M ++ L) := by
  have hbl : Below w.heap.size w w' := h'.only.to_below (Nat.le_refl _) (by simp)
  have h1 := h.below hbl
  refine ⟨h1.only, fun x hx => ?_, ?_, fun x hx hx1 => ?_⟩
  · rcases List.mem_append.1 hx with hx | hx
    · exact h'.holds x hx
    · exact h1.holds x hx
  · simp only [List.map_append, List.nodup_append]
    refine ⟨h'.nd, h.nd, fun a ha b hb e => ?_⟩
    obtain ⟨x, hx, rfl⟩ := List.mem_map.1 ha
    obtain ⟨y, hy, rfl⟩ := List.mem_map.1 hb
    have := h'.fresh (b := x.1) (r := x.2.2) (by have := hw x hx; rw [← this]; exact hx)
    have := h.lt hy
    omega
  · rcases List.mem_append.1 hx with hx | hx
    · have := h'.fresh (b := x.1) (r := x.2.2) (by have := hw x hx; rw [← this]; exact hx)
      exact .inr (Nat.le_trans h.only.size this)
    · exact h1.own x hx hx1
end
/-! ### maps -/
/-- An object that is a map of just these keys and values. -/
def MapObj (P : Program) (k : TypeId) (l : List (Lit × Value)) (o : Obj) : Prop := ∃ (w : World) (b : Nat), w.heap[b]? = some o ∧ MapAt P k w b l
abbrev mapR (P : Program) (k : TypeId) (l : List (Lit × Value)) : Res := .obj (MapObj P k l)
section
variable {P : Program} {k : TypeId} {w w' : World} {b : Nat} {l : List (Lit × Value)}
theorem mapR_at (h : (mapR P k l).holds w.heap[b]?) : MapAt P k w b l := by
  obtain ⟨o, ho, w1, b1, hb, hm⟩ := h
  obtain ⟨es, clock, h1, F, hs, hD⟩ := hm
  rw [hb] at h1
  exact ⟨es, clock, ho.trans h1, F, hs, hD⟩
theorem mapR_of (h : MapAt P k w b l) : (mapR P k l).holds w.heap[b]? := by
  have h0 := h
  obtain ⟨es, clock, h1, -⟩ := h0
  exact ⟨_, h1, w, b, h1, h⟩
end
section
variable {P : Program} {K : Act → World → Prop} {a : Act} {w w0 : World} {ops : Array Oper} {l : List (Oper × Nat)} {c : Nat} {o : Oper} {F : List Nat} {L L' Lr : List Ent} {b : Nat} {ty kt et : TypeId} {x y z : Operand} {ow : Bool} {S : World → Prop} {m : List (Lit × Value)} {kl : Lit} {key : Value}
theorem run_lookupM (hx : o.op = .lookup ty x y false) (hev : a.eval x = .map (some b)) (hy : a.eval y = key) (hr : (mapR P kt m).holds w.heap[b]?) (hK : Keyed P kt) (ht : P.underlying ty = some (.map kt et)) {zv : Value} (hz : ∀ w, (zeroValue et).run P w = .ok zv w) (hkey : keyOf P kt key = some kl) :
    (execOp a.eval o).run P w = .ok (.value (lookL m kl zv)) w := by
  have h := MapAt.look (mapR_at hr) hK ht (hz w) hkey
  unfold execOp
  simp only [hx, hev, hy, Sem.run_bind, h, Result.andThen_ok, Sem.run_pure]
/-- A map is looked into. -/
theorem St.lookup (hx : o.op = .lookup ty x y false) (hM : St w0 F w L) (hc : (c == 2 || c == 3) = true) (hw : Region.wanted o (yielded ops a.tmps) = true) (hev : a.eval x = .map (some b)) (hy : a.eval y = key) (hm : (b, ow, mapR P kt m) ∈ L) (hK : Keyed P kt) (ht : P.underlying ty = some (.map kt et)) {zv : Value} (hz : ∀ w, (zeroValue et).run P w = .ok zv w) (hkey : keyOf P kt key = some kl) {v : Value} (hv : lookL m kl zv = v)
    (h : wpSeq P ops K S l (a.put o.dst v) w) : wpSeq P ops K S ((o, c) :: l) a w :=
  wpSeq_yields hc hw (by rw [← hv]; exact run_lookupM hx hev hy (hM.holds _ hm) hK ht hz hkey) h
theorem St.lookup1 (hx : o.op = .lookup ty x y false) (hw : Region.wanted o (yielded ops a.tmps) = true) (hev : a.eval x = .map (some b)) (hy : a.eval y = key) (hm : (b, ow, mapR P kt m) ∈ Lr) (hK : Keyed P kt) (ht : P.underlying ty = some (.map kt et)) {zv : Value} (hz : ∀ w, (zeroValue et).run P w = .ok zv w) (hkey : keyOf P kt key = some kl) {v : Value} (hv : lookL m kl zv = v)
    (h : wpSeq P ops K (Held w0 F Lr) l (a.put o.dst v) w) : wpSeq P ops K (Held w0 F Lr) ((o, 1) :: l) a w :=
  wpSeq_at1 hw (fun w hS => by rw [← hv]; exact run_lookupM hx hev hy (hS.has _ hm) hK ht hz hkey) h
theorem only_turned {w w' : World} {b : Nat} (h : w.mapTurned w' b) : Only [b] w w' := by
  have g := h.grown
  exact ⟨g.os, g.tape, g.output, g.size, fun k hk hn => g.block k hk (fun e => by cases e; exact hn (by simp))⟩
/-- A map is written. -/
theorem St.mapUpdate (hx : o.op = .mapUpdate ty x y z) (hM : St w0 F w L) (hc : (c == 2 || c == 3) = true) (hw : Region.wanted o (yielded ops a.tmps) = true) (hev : a.eval x = .map (some b)) (hy : a.eval y = key) {val : Value} (hz : a.eval z = val) {m' : List (Lit × Value)} (hu : Upd L (b, true, mapR P kt m) (b, true, mapR P kt m') L') (hm' : putL kl val m = m') (hK : Keyed P kt) (ht : P.underlying ty = some (.map kt et)) (hn : m.length < maxLen) (hkey : keyOf P kt key = some kl)
    (hS : c = 2 → Rest L (b, true, mapR P kt m) Lr) (h : ∀ w', St w0 F w' L' → wpSeq P ops K (Held w0 F Lr) l (a.put o.dst undef) w') : wpSeq P ops K (Held w0 F Lr) ((o, c) :: l) a w := by
  subst hm'
  obtain ⟨w', hrun, hat, htn⟩ := MapAt.store (mapR_at (hM.holds _ hu.mem)) hK ht hn (val := val) hkey
  have hO := only_turned htn
  have hown : ∀ x ∈ [b], x ∈ F ∨ w0.heap.size ≤ x := fun x hx => by
    have e : x = b := by simpa using hx
    rw [e]; exact hM.own _ hu.mem rfl
  have hr : (execOp a.eval o).run P w = .ok .skip w' := by
    unfold execOp
    simp only [hx, hev, hy, hz, Sem.run_bind, hrun, Result.andThen_ok, Sem.run_pure]
  exact wpSeq_turns hc hw hr (.inr ⟨rfl, rfl⟩) (fun h2 hh => ⟨hh.only.then hO hown, hh.has.turn hO ((hS h2).apart hM.nd)⟩) (h _ (hM.turn hu hO (mapR_of hat)))
/-- A key goes out of a map. -/
theorem St.mapDelete (hx : o.op = .call { callee := .builtin .delete, args := #[x, y], argTypes := #[ty, kt] }) (hM : St w0 F w L) (hc : (c == 2 || c == 3) = true) (hw : Region.wanted o (yielded ops a.tmps) = true) (hev : a.eval x = .map (some b)) (hy : a.eval y = key) {m' : List (Lit × Value)} (hu : Upd L (b, true, mapR P kt m) (b, true, mapR P kt m') L') (hm' : delL kl m = m') (hK : Keyed P kt) (ht : P.underlying ty = some (.map kt et)) (hkey : keyOf P kt key = some kl)
    (hS : c = 2 → Rest L (b, true, mapR P kt m) Lr) (h : ∀ w', St w0 F w' L' → wpSeq P ops K (Held w0 F Lr) l (a.put o.dst (.tuple #[])) w') : wpSeq P ops K (Held w0 F Lr) ((o, c) :: l) a w := by
  subst hm'
  obtain ⟨w', hrun, hat, htn⟩ := MapAt.drop (ty := o.type) (mapR_at (hM.holds _ hu.mem)) hK ht hkey
  have hO := only_turned htn
  have hown : ∀ x ∈ [b], x ∈ F ∨ w0.heap.size ≤ x := fun x hx => by
    have e : x = b := by simpa using hx
    rw [e]; exact hM.own _ hu.mem rfl
  have hr : (execOp a.eval o).run P w = .ok (.value (.tuple #[])) w' := by
    unfold execOp
    simp only [hx, resolve, invoke, builtin, Sem.run_bind, Sem.run_pure, Result.andThen_ok, List.map_toArray, List.map_cons, List.map_nil, hev, hy, hrun]
  exact wpSeq_turns hc hw hr (.inl rfl) (fun h2 hh => ⟨hh.only.then hO hown, hh.has.turn hO ((hS h2).apart hM.nd)⟩) (h _ (hM.turn hu hO (mapR_of hat)))
/-- A new map. -/
theorem St.makeMap (hx : o.op = .makeMap ty none) (hM : St w0 F w L) (hc : (c == 2 || c == 3) = true) (hw : Region.wanted o (yielded ops a.tmps) = true) (hy : ∀ w : World, (execOp a.eval o).run P w = .ok (.value (.map (some w.heap.size))) (w.alloc (.map #[] 0)))
    (h : ∀ w' b, St w0 F w' ((b, true, mapR P kt []) :: L) → wpSeq P ops K (Held w0 F Lr) l (a.put o.dst (.map (some b))) w') : wpSeq P ops K (Held w0 F Lr) ((o, c) :: l) a w := by
  refine St.make hM hc hw (fun b => .map (some b)) (ob := .map #[] 0) hy ?_ h
  have := mapR_of (MapAt.made (P := P) (k := kt) w)
  rwa [heap_alloc_new] at this
end
section
variable {P : Program} {a : Act} {w : World} {ops : Array Oper} {l : List (Oper × Nat)} {o : Oper} {S : World → Prop} {K : Act → World → Prop}
/-- A function is called where nothing that is read whenever is left. -/
theorem St.call3 {f : FuncId} {ags : Array Operand} {ts : Array TypeId} (hx : o.op = .call { callee := .value (.func f), args := ags, argTypes := ts }) (hw : Region.wanted o (yielded ops a.tmps) = true) (hf : bodyB P f = true)
    (h : ∀ R : Ending → World → Prop, Shut (∀ v w', wpSeq P ops K S l (a.put o.dst v) w' → R (.returned v) w') → Calls P f (ags.map a.eval) w R) : wpSeq P ops K S ((o, 3) :: l) a w :=
  wpSeq_calls rfl hw (run_call w hx hf rfl) (h (fun e w' => ∃ v, e = .returned v ∧ wpSeq P ops K S l (a.put o.dst v) w') fun v w' h1 => ⟨v, rfl, h1⟩)
    fun _ _ ⟨v, h1, h2⟩ => ⟨v, h1, (fun e => by cases e), h2⟩
end
/-- An array whose elements are one cell each: how many. -/
def arrB (P : Program) (t : TypeId) (n : Nat) : Bool := match P.underlying t with | some (.array m e) => m == n && oneB P e | _ => false
section
variable {P : Program} {K : Act → World → Prop} {a : Act} {w : World} {ops : Array Oper} {l : List (Oper × Nat)} {c : Nat} {o : Oper} {ty : TypeId} {x y : Operand} {S : World → Prop}
theorem run_index1 (w : World) (hx : o.op = .index ty x y) {cs : Array Value} {k : Nat} (e1 : a.eval x = .agg cs) (e2 : a.eval y = .int .i64 (k : Int)) (hB : arrB P ty cs.size = true) {v : Value} (hv : cs[k]? = some v) : (execOp a.eval o).run P w = .ok (.value v) w := by
  have hk : k < cs.size := (Array.getElem?_eq_some_iff.1 hv).1
  unfold arrB at hB
  split at hB
  · rename_i m e hu
    simp only [Bool.and_eq_true, beq_iff_eq] at hB
    obtain ⟨rfl, hB⟩ := hB
    obtain ⟨d, u1, u2, u3⟩ := oneB_spec hB
    have hagg : (isAgg e).run P w = .ok false w := by
      unfold isAgg
      rw [Sem.run_bind, run_underlying u1 w]
      cases d <;> simp_all
    have hsz : (sizeOf e).run P w = .ok 1 w := by
      cases hq : P.info? e with
      | none => simp [hq] at u3
      | some i =>
        have hs : i.size = 1 := by simpa [hq] using u3
        simp [sizeOf, typeInfo, hq, hs]
    have hin : (0 : Int) ≤ (k : Int) ∧ (k : Int) < (cs.size : Int) := ⟨Int.natCast_nonneg k, by omega⟩
    have hr : (Instr.index ty (.agg cs) (.int .i64 (k : Int))).run P w = .ok v w := by
      unfold Instr.index
      simp only [asIntOf, Sem.run_bind, Sem.run_pure, Result.andThen_ok, run_underlying hu w, hin, and_self, if_true, hsz, part, hagg, Bool.false_eq_true, if_false, Int.toNat_natCast, Nat.mul_one, hv]
    unfold execOp
    simp only [hx, e1, e2, Sem.run_bind, hr, Result.andThen_ok, Sem.run_pure]
  · cases hB
/-- An array's element. -/
theorem St.index (hx : o.op = .index ty x y) (hc : (c == 0 || c == 2 || c == 3) = true) (hw : Region.wanted o (yielded ops a.tmps) = true) {cs : Array Value} (e1 : a.eval x = .agg cs) {k : Nat} (e2 : a.eval y = .int .i64 (k : Int)) (hB : arrB P ty cs.size = true) {v : Value} (hv : cs[k]? = some v) (h : wpSeq P ops K S l (a.put o.dst v) w) : wpSeq P ops K S ((o, c) :: l) a w :=
  St.soft hc hw (fun w => run_index1 w hx e1 e2 hB hv) h
theorem St.index0 (hx : o.op = .index ty x y) (hc : (c == 0 || c == 2 || c == 3) = true) (hw : Region.wanted o (yielded ops a.tmps) = true) {cs : Array Value} (e1 : a.eval x = .agg cs) {i : Int} (e2 : a.eval y = .int .i64 i) {k : Nat} (hi : i = (k : Int)) (hB : arrB P ty cs.size = true) {v : Value} (hv : cs[k]? = some v) (h : wpSeq P ops K S l (a.put o.dst v) w) : wpSeq P ops K S ((o, c) :: l) a w := by
  subst hi
  exact St.index hx hc hw e1 e2 hB hv h
end
end Go.Proofs.YtcicjklhbnipcaaGreatDoor
