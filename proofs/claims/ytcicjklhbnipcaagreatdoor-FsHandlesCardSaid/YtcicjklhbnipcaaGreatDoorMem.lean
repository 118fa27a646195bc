/-
  The memory as a list of blocks that are known, all apart; one law for each kind of operation. No program is named here.
-/
import Derived.Test.YtcicjklhbnipcaaGreatDoorIno1
import Derived.Test.YtcicjklhbnipcaaGreatDoorAgg
import Derived.Maps.AppendAt
import Derived.Laws.OwnMore
import Derived.LoopN
namespace Go.Proofs.YtcicjklhbnipcaaGreatDoor
set_option linter.unusedVariables false
set_option linter.unusedSimpArgs false
open Go.RowKit

/-- What a block is known to hold. -/
inductive Res where
  /-- just these cells -/
  | cells (cs : List Value) (t : TypeId)
  /-- 'n' cells, of which the first are these -/
  | pre (cs : List Value) (t : TypeId) (n : Nat)
  /-- these cells from 'off' on -/
  | part (off : Nat) (cs : List Value)
  | obj (p : Obj → Prop)
def Res.holds : Res → Option Obj → Prop
  | .cells cs t, o => o = some (.cells cs.toArray t (0, 0))
  | .pre cs t n, o => ∃ rest : List Value, o = some (.cells (cs ++ rest).toArray t (0, 0)) ∧ (cs ++ rest).length = n
  | .part off cs, o => ∃ cur t fr, o = some (.cells cur t fr) ∧ ∀ j, j < cs.length → cur[off + j]? = cs[j]?
  | .obj p, o => ∃ x, o = some x ∧ p x
/-- The cells that are known from the block's beginning on, and may be written. -/
def Res.known : Res → List Value
  | .cells cs _ => cs
  | .pre cs _ _ => cs
  | _ => []
def Res.put : Res → List Value → Res
  | .cells _ t, cs => .cells cs t
  | .pre _ t n, cs => .pre cs t n
  | r, _ => r
/-- A block, whether the call may write it, and what it holds. -/
abbrev Ent := Nat × Bool × Res
/-- Since 'w0' just the blocks of 'F' have turned; 'w' holds what 'L' says. -/
structure St (w0 : World) (F : List Nat) (w : World) (L : List Ent) : Prop where
  only : Only F w0 w
  holds : ∀ x ∈ L, x.2.2.holds w.heap[x.1]?
  nd : (L.map (·.1)).Nodup
  own : ∀ x ∈ L, x.2.1 = true → x.1 ∈ F ∨ w0.heap.size ≤ x.1
/-- A world holds what 'L' says. -/
def Has (L : List Ent) (w : World) : Prop := ∀ x ∈ L, x.2.2.holds w.heap[x.1]?
/-- Since 'w0' just the blocks of 'F' have turned, and it holds what 'L' says: what is kept while a region's order is open. -/
structure Held (w0 : World) (F : List Nat) (L : List Ent) (w : World) : Prop where
  only : Only F w0 w
  has : Has L w
/-- One entry of a list is turned. -/
inductive Upd : List Ent → Ent → Ent → List Ent → Prop where
  | head {x y : Ent} {L : List Ent} : Upd (x :: L) x y (y :: L)
  | tail {x y z : Ent} {L L' : List Ent} (h : Upd L x y L') : Upd (z :: L) x y (z :: L')
theorem Res.lt {r : Res} {w : World} {b : Nat} (h : r.holds w.heap[b]?) : b < w.heap.size := by
  cases r with
  | cells cs t => exact (Array.getElem?_eq_some_iff.1 (show w.heap[b]? = some _ from h)).1
  | pre cs t n => obtain ⟨rest, hx, -⟩ := h; exact (Array.getElem?_eq_some_iff.1 hx).1
  | part off cs => obtain ⟨cur, t, fr, hx, -⟩ := h; exact (Array.getElem?_eq_some_iff.1 hx).1
  | obj p => obtain ⟨x, hx, -⟩ := h; exact (Array.getElem?_eq_some_iff.1 hx).1
theorem Upd.mem {L L' : List Ent} {x y : Ent} (h : Upd L x y L') : x ∈ L := by
  induction h with
  | head => exact .head _
  | tail _ ih => exact .tail _ ih
theorem Upd.of_mem {L L' : List Ent} {x y z : Ent} (h : Upd L x y L') (hz : z ∈ L') : z = y ∨ z ∈ L := by
  induction h with
  | head => rcases List.mem_cons.1 hz with rfl | h; exact .inl rfl; exact .inr (.tail _ h)
  | tail _ ih =>
    rcases List.mem_cons.1 hz with rfl | h
    · exact .inr (.head _)
    · rcases ih h with h | h
      · exact .inl h
      · exact .inr (.tail _ h)
theorem Upd.keys {L L' : List Ent} {x y : Ent} (h : Upd L x y L') (hk : x.1 = y.1) : L'.map (·.1) = L.map (·.1) := by
  induction h with
  | head => simp [hk]
  | tail _ ih => simp [ih hk]
/-- An entry of the turned list that is not the turned one stood in the list, at another block. -/
theorem Upd.other {L L' : List Ent} {x y z : Ent} (h : Upd L x y L') (hnd : (L.map (·.1)).Nodup) (hz : z ∈ L') : z = y ∨ (z ∈ L ∧ z.1 ≠ x.1) := by
  induction h with
  | @head x y L =>
    rcases List.mem_cons.1 hz with rfl | h1
    · exact .inl rfl
    · refine .inr ⟨.tail _ h1, fun e => ?_⟩
      simp only [List.map_cons, List.nodup_cons] at hnd
      exact hnd.1 (e ▸ List.mem_map_of_mem h1)
  | @tail x y u L L' h ih =>
    simp only [List.map_cons, List.nodup_cons] at hnd
    rcases List.mem_cons.1 hz with rfl | h1
    · refine .inr ⟨.head _, fun e => ?_⟩
      exact hnd.1 (e ▸ List.mem_map_of_mem h.mem)
    · rcases ih hnd.2 h1 with h2 | h2
      · exact .inl h2
      · exact .inr ⟨.tail _ h2.1, h2.2⟩
/-- Some entries of a list, in their order. -/
inductive Sub : List Ent → List Ent → Prop where
  | nil {L : List Ent} : Sub [] L
  | skip {x : Ent} {M L : List Ent} (h : Sub M L) : Sub M (x :: L)
  | take {x : Ent} {M L : List Ent} (h : Sub M L) : Sub (x :: M) (x :: L)
theorem Sub.all : ∀ (L : List Ent), Sub L L
  | [] => .nil
  | _ :: L => .take (Sub.all L)
theorem Sub.mem {M L : List Ent} (h : Sub M L) : ∀ x ∈ M, x ∈ L := by
  induction h with
  | nil => exact nofun
  | skip _ ih => exact fun x hx => .tail _ (ih x hx)
  | take _ ih =>
    intro x hx
    rcases List.mem_cons.1 hx with rfl | hx
    · exact .head _
    · exact .tail _ (ih x hx)
/-- Some entries of a list, without that one. -/
inductive Rest : List Ent → Ent → List Ent → Prop where
  | here {x : Ent} {M L : List Ent} (h : Sub M L) : Rest (x :: L) x M
  | skip {x z : Ent} {M L : List Ent} (h : Rest L x M) : Rest (z :: L) x M
  | take {x z : Ent} {M L : List Ent} (h : Rest L x M) : Rest (z :: L) x (z :: M)
theorem Rest.mem {M L : List Ent} {x : Ent} (h : Rest L x M) : x ∈ L := by
  induction h with
  | here _ => exact .head _
  | skip _ ih => exact .tail _ ih
  | take _ ih => exact .tail _ ih
theorem Rest.apart {M L : List Ent} {x : Ent} (h : Rest L x M) (hnd : (L.map (·.1)).Nodup) : ∀ z ∈ M, z.1 ≠ x.1 := by
  induction h with
  | here hs =>
    simp only [List.map_cons, List.nodup_cons] at hnd
    exact fun z hz e => hnd.1 (e ▸ List.mem_map_of_mem (hs.mem z hz))
  | skip _ ih =>
    simp only [List.map_cons, List.nodup_cons] at hnd
    exact ih hnd.2
  | take h ih =>
    simp only [List.map_cons, List.nodup_cons] at hnd
    intro u hu
    rcases List.mem_cons.1 hu with rfl | hu
    · exact fun e => hnd.1 (e ▸ List.mem_map_of_mem h.mem)
    · exact ih hnd.2 u hu
section
variable {w0 w w' : World} {F : List Nat} {L L' : List Ent} {b : Nat} {r : Res}
theorem St.lt (h : St w0 F w L) {x : Ent} (hx : x ∈ L) : x.1 < w.heap.size := Res.lt (h.holds x hx)
theorem St.fresh (h : St w0 [] w L) (hx : (b, true, r) ∈ L) : w0.heap.size ≤ b := (h.own _ hx rfl).resolve_left (by simp)
theorem St.blk (h : St w0 F w L) {o : Bool} {cs : List Value} {t : TypeId} (hx : (b, o, .cells cs t) ∈ L) : Blk w b cs t := h.holds _ hx
theorem Has.lt (h : Has L w) {x : Ent} (hx : x ∈ L) : x.1 < w.heap.size := Res.lt (h x hx)
theorem St.start (w : World) (F : List Nat) : St w F w [] := ⟨Only.refl F w, nofun, List.nodup_nil, nofun⟩
theorem St.drew (h : St w0 F w L) : St w0 F w.drew L := ⟨h.only.drew, h.holds, h.nd, h.own⟩
theorem Has.drew (h : Has L w) : Has L w.drew := h
theorem St.held (h : St w0 F w L) {Lr : List Ent} (hs : ∀ x ∈ Lr, x ∈ L) : Held w0 F Lr w := ⟨h.only, fun x hx => h.holds x (hs x hx)⟩
theorem Held.drew (h : Held w0 F L w) : Held w0 F L w.drew := ⟨h.only.drew, h.has⟩
/-- What was there stands as it was. -/
theorem Has.below (h : Has L w) (hb : Below w.heap.size w w') : Has L w' := fun x hx => by rw [hb.block x.1 (h.lt hx)]; exact h x hx
theorem St.below (h : St w0 F w L) (hb : Below w.heap.size w w') : St w0 F w' L :=
  ⟨h.only.below (hb.mono h.only.size), Has.below h.holds hb, h.nd, h.own⟩
theorem Held.below (h : Held w0 F L w) (hb : Below w.heap.size w w') : Held w0 F L w' := ⟨h.only.below (hb.mono h.only.size), h.has.below hb⟩
/-- What was there at the beginning, and may not be written, stands. -/
theorem only_cell (h : Only F w0 w) {ad : Addr} {v : Value} (hc : w0.cell? ad = some v) (hF : ad.block ∉ F) : w.cell? ad = some v := by
  have hlt := World.block_lt_of_cell? w0 ad hc
  unfold World.cell? at hc ⊢
  rw [h.block ad.block hlt hF]
  exact hc
theorem St.old (h : St w0 [] w L) {ad : Addr} {v : Value} (hc : w0.cell? ad = some v) : w.cell? ad = some v := only_cell h.only hc (by simp)
theorem Held.old (h : Held w0 [] L w) {ad : Addr} {v : Value} (hc : w0.cell? ad = some v) : w.cell? ad = some v := only_cell h.only hc (by simp)
theorem St.oldRow (h : St w0 [] w L) {b q : Nat} {vs : List Value} (hc : w0.rangeAt b q vs) : w.rangeAt b q vs := fun j v hj => h.old (hc j v hj)
theorem Held.oldRow (h : Held w0 [] L w) {b q : Nat} {vs : List Value} (hc : w0.rangeAt b q vs) : w.rangeAt b q vs := fun j v hj => h.old (hc j v hj)
/-- A new block. -/
theorem Has.push (h : Has L w) (o : Obj) : Has L (w.alloc o) := h.below ((Below.refl _ w).alloc (Nat.le_refl _) o)
theorem St.push (h : St w0 F w L) (o : Obj) (hr : r.holds (some o)) : St w0 F (w.alloc o) ((w.heap.size, true, r) :: L) := by
  have h1 := h.below ((Below.refl _ w).alloc (Nat.le_refl _) o)
  refine ⟨h1.only, fun x hx => ?_, ?_, fun x hx => ?_⟩
  · rcases List.mem_cons.1 hx with rfl | hx
    · have : (w.alloc o).heap[w.heap.size]? = some o := heap_alloc_new w o
      simp only [this]
      exact hr
    · exact h1.holds x hx
  · simp only [List.map_cons, List.nodup_cons]
    refine ⟨fun hm => ?_, h.nd⟩
    obtain ⟨x, hx, e⟩ := List.mem_map.1 hm
    have := h.lt hx
    omega
  · rcases List.mem_cons.1 hx with rfl | hx
    · exact fun _ => .inr h.only.size
    · exact h.own x hx
/-- A block that was there all the time is known too. -/
theorem St.learn (h : St w0 F w L) {o : Bool} (hr : r.holds w.heap[b]?) (hn : ∀ x ∈ L, x.1 ≠ b) (ho : o = true → b ∈ F ∨ w0.heap.size ≤ b) : St w0 F w ((b, o, r) :: L) := by
  refine ⟨h.only, fun x hx => ?_, ?_, fun x hx => ?_⟩
  · rcases List.mem_cons.1 hx with rfl | hx
    · exact hr
    · exact h.holds x hx
  · simp only [List.map_cons, List.nodup_cons]
    exact ⟨fun hm => by obtain ⟨x, hx, e⟩ := List.mem_map.1 hm; exact hn x hx e, h.nd⟩
  · rcases List.mem_cons.1 hx with rfl | hx
    · exact ho
    · exact h.own x hx
/-- One block that may be written is turned. -/
theorem St.turn {o : Bool} {r' : Res} (h : St w0 F w L) (hu : Upd L (b, true, r) (b, o, r') L') (hO : Only [b] w w') (hr : r'.holds w'.heap[b]?) : St w0 F w' L' := by
  have hown : b ∈ F ∨ w0.heap.size ≤ b := h.own _ hu.mem rfl
  have hF : ∀ x ∈ [b], x ∈ F ∨ w0.heap.size ≤ x := fun x hx => by
    have e : x = b := by simpa using hx
    rw [e]; exact hown
  refine ⟨h.only.then hO hF, fun x hx => ?_, ?_, fun x hx hx1 => ?_⟩
  · rcases hu.other h.nd hx with rfl | ⟨hx, hne⟩
    · exact hr
    · rw [hO.block x.1 (h.lt hx) (by simpa using hne)]
      exact h.holds x hx
  · rw [hu.keys rfl]; exact h.nd
  · rcases hu.other h.nd hx with rfl | ⟨hx, hne⟩
    · exact hown
    · exact h.own x hx hx1
theorem Has.turn {b : Nat} (h : Has L w) (hO : Only [b] w w') (hb : ∀ x ∈ L, x.1 ≠ b) : Has L w' := fun x hx => by
  rw [hO.block x.1 (h.lt hx) (by simpa using hb x hx)]; exact h x hx
theorem only_setCell (b o : Nat) (v : Value) : Only [b] w (w.setCell ⟨b, o, none⟩ v) := (Only.refl [b] w).setCell (p := ⟨b, o, none⟩) (.inl (by simp)) v
theorem only_setCells (b : Nat) : ∀ (vs : List Value) (o : Nat) (w : World), Only [b] w (w.setCells b o vs)
  | [], _, w => Only.refl _ w
  | v :: r, o, w => (only_setCell b o v).trans (only_setCells b r (o + 1) _)
/-- What is no longer of use is forgotten. -/
theorem St.drop (h : St w0 F w L) (hs : ∀ x ∈ L', x ∈ L) (hnd : (L'.map (·.1)).Nodup) : St w0 F w L' := ⟨h.only, fun x hx => h.holds x (hs x hx), hnd, fun x hx => h.own x (hs x hx)⟩
theorem St.forget {x : Ent} (h : St w0 F w (x :: L)) : St w0 F w L := h.drop (fun _ h => .tail _ h) (by have := h.nd; simp only [List.map_cons, List.nodup_cons] at this; exact this.2)
end
theorem over_append : ∀ (vs cs rest : List Value) (q : Nat), q + vs.length ≤ cs.length → over (cs ++ rest) q vs = over cs q vs ++ rest
  | [], _, _, _, _ => rfl
  | v :: r, cs, rest, q, h => by
    simp only [List.length_cons] at h
    unfold over
    rw [List.set_append_left _ _ (by omega)]
    exact over_append r (cs.set q v) rest (q + 1) (by rw [List.length_set]; omega)
theorem over_length : ∀ (vs cs : List Value) (q : Nat), (over cs q vs).length = cs.length
  | [], _, _ => rfl
  | v :: r, cs, q => by unfold over; rw [over_length r]; simp
section
variable {w : World} {b q : Nat} {r : Res}
/-- A block of which cells are known from its beginning on. -/
theorem Res.whole (h : r.holds w.heap[b]?) (hk : q < r.known.length) : ∃ rest t, Blk w b (r.known ++ rest) t ∧ (∀ cs, cs.length = r.known.length → ∀ w' : World, Blk w' b (cs ++ rest) t → (r.put cs).holds w'.heap[b]?) := by
  cases r with
  | cells cs t =>
    refine ⟨[], t, ?_, fun cs' _ w' hw' => ?_⟩
    · unfold Blk; rw [List.append_nil]; exact h
    · rw [List.append_nil] at hw'; exact hw'
  | pre cs t n =>
    obtain ⟨rest, hx, hn⟩ := h
    refine ⟨rest, t, hx, fun cs' hl w' hw' => ⟨rest, hw', ?_⟩⟩
    simp only [Res.known] at hl
    rw [List.length_append] at hn ⊢
    omega
  | part off cs => exact absurd hk (by simp [Res.known])
  | obj p => exact absurd hk (by simp [Res.known])
theorem Res.cell (h : r.holds w.heap[b]?) {v : Value} (hv : r.known[q]? = some v) : w.cell? ⟨b, q, none⟩ = some v := by
  have hq : q < r.known.length := (List.getElem?_eq_some_iff.1 hv).1
  obtain ⟨rest, t, hb, -⟩ := Res.whole h hq
  rw [hb.cell, List.getElem?_append_left hq, hv]
theorem Res.range (h : r.holds w.heap[b]?) {n : Nat} (hl : q + n ≤ r.known.length) : w.rangeAt b q ((r.known.drop q).take n) := fun j v hv => by
  rw [List.getElem?_take] at hv
  split at hv
  · rw [List.getElem?_drop] at hv
    exact Res.cell h hv
  · cases hv
theorem Res.partCell {off : Nat} {cs : List Value} (h : (Res.part off cs).holds w.heap[b]?) {j : Nat} {v : Value} (hv : cs[j]? = some v) : w.cell? ⟨b, off + j, none⟩ = some v := by
  obtain ⟨cur, t, fr, hx, hc⟩ := h
  rw [cell_of_row w b (off + j) cur t fr hx, hc j (List.getElem?_eq_some_iff.1 hv).1, hv]
end
/-- A type whose variable is one cell. -/
def oneB (P : Program) (t : TypeId) : Bool := (match P.underlying t with | some d => !d.isRow | none => false) && ((P.info? t).map (·.size) == some 1)
/-- A function with a body. -/
def bodyB (P : Program) (f : FuncId) : Bool := match P.funcs[f]? with | some fn => fn.body.isSome && fn.name != "runtime.NumGoroutine" | none => false
section
variable {P : Program} {t : TypeId} {w : World}
theorem oneB_spec (h : oneB P t = true) : ∃ d, P.underlying t = some d ∧ d.isRow = false ∧ (P.info? t).map (·.size) = some 1 := by
  unfold oneB at h
  simp only [Bool.and_eq_true] at h
  obtain ⟨h1, h2⟩ := h
  cases hu : P.underlying t with
  | none => rw [hu] at h1; cases h1
  | some d => rw [hu] at h1; exact ⟨d, rfl, by simpa using h1, by simpa using h2⟩
theorem run_loadVar_one (h : oneB P t = true) {a : Addr} {v : Value} (hv : w.cell? a = some v) : (loadVar t a).run P w = .ok v w := by
  obtain ⟨d, h1, h2, -⟩ := oneB_spec h
  have hagg : (isAgg t).run P w = .ok false w := by
    unfold isAgg
    rw [Sem.run_bind, run_underlying h1 w]
    cases d <;> simp_all
  unfold loadVar
  rw [Sem.run_bind, hagg]
  simp [load, Sem.run, hv]
theorem run_storeVar_one (h : oneB P t = true) {a : Addr} {v u : Value} (hv : w.cell? a = some u) (hf : w.frozen? a = false) (h1 : v.oneCell' = true) : (storeVar t a v).run P w = .ok () (w.setCell a v) := by
  obtain ⟨d, -, -, h2⟩ := oneB_spec h
  cases hq : P.info? t with
  | none => simp [hq] at h2
  | some i =>
    have hs : i.size = 1 := by simpa [hq] using h2
    unfold storeVar
    cases v <;> simp_all [Value.oneCell', sizeOf, typeInfo, Value.cells, storeCells, store, Sem.run, Addr.add]
end
section
variable {P : Program} {K : Act → World → Prop} {a : Act} {w w0 : World} {ops : Array Oper} {l : List (Oper × Nat)} {c : Nat} {o : Oper} {F : List Nat} {L L' Lr : List Ent} {b q : Nat} {ty t : TypeId} {x y : Operand} {cs : List Value} {ow : Bool} {S : World → Prop}
/-- Operations that look at no memory. -/
def softOp : Op → Bool
  | .move _ | .assign _ | .pick .. | .nilCheck _ | .binOp .. | .unOp .. | .convert .. | .fieldAddr .. | .field .. | .index .. | .indexAddr .. | .extract .. | .slice .. | .build .. | .makeInterface .. | .makeFunc .. => true
  | .call { callee := .builtin .len, .. } | .call { callee := .builtin .min, .. } | .call { callee := .builtin .max, .. } | .call { callee := .builtin .cap, .. } => true
  | _ => false
/-- The types of this program that are structs, or arrays, and how many cells they have: looked up while a walk is made. -/
def rowTab : List (Nat × Nat) := [(7, 4), (8, 4), (13, 2), (14, 2), (18, 1), (19, 1), (30, 4), (31, 4), (33, 9), (34, 9), (35, 11), (36, 11), (43, 2), (44, 2), (59, 13), (60, 13), (71, 3), (72, 3), (75, 2), (76, 2), (80, 3), (81, 3), (89, 12), (90, 12), (100, 2), (101, 2), (104, 2), (105, 2), (111, 3), (112, 3), (116, 9), (117, 9), (123, 6), (124, 6), (126, 2), (127, 2), (137, 1), (138, 1), (145, 3), (146, 3), (147, 3), (148, 3), (151, 2), (152, 2), (155, 2), (156, 2), (157, 2), (158, 2), (161, 4), (162, 4), (165, 5), (166, 5), (169, 2), (170, 2), (251, 2), (255, 2), (256, 2), (292, 256), (293, 256), (303, 256), (304, 2), (305, 2), (306, 32), (307, 4), (308, 4), (309, 0), (310, 0), (311, 0), (317, 11), (318, 11)]
def sizeIn : List (Nat × Nat) → Nat → Option Nat
  | [], _ => none
  | (x, s) :: r, n => bif Nat.beq x n then some s else sizeIn r n
/-- The types of this program that are slices: their elements' types, cells and bytes. -/
def elemTab : List (Nat × Nat × Nat × Nat) := [(22, 36, 11, 112), (29, 9, 1, 16), (45, 23, 1, 8), (47, 112, 3, 40), (49, 3, 1, 8), (53, 60, 13, 128), (74, 148, 3, 24), (79, 138, 1, 8), (82, 54, 1, 8), (84, 90, 12, 120), (106, 85, 1, 8), (120, 124, 6, 72), (122, 127, 2, 24), (154, 158, 2, 16), (254, 5, 1, 1)]
def elemIn : List (Nat × Nat × Nat × Nat) → Nat → Option (Nat × Nat × Nat)
  | [], _ => none
  | (x, s) :: r, n => bif Nat.beq x n then some s else elemIn r n
/-- A value alone. -/
theorem St.pure (hk : softOp o.op = true) (hc : (c == 0 || c == 2 || c == 3) = true) {v : Value} (hw : Region.wanted o (yielded ops a.tmps) = true) (hy : ∀ w, (execOp a.eval o).run P w = .ok (.value v) w) (h : wpSeq P ops K S l (a.put o.dst v) w) : wpSeq P ops K S ((o, c) :: l) a w := by
  match c with
  | 0 => exact wpSeq_at0 hw hy h
  | 1 => cases hc
  | 2 => exact wpSeq_yields rfl hw (hy w) h
  | 3 => exact wpSeq_yields rfl hw (hy w) h
  | c + 4 => simp at hc
theorem run_load_one (hx : o.op = .load ty x) {ad : Addr} (hev : a.eval x = .pointer (some ad)) {w : World} {v : Value} (hv : w.cell? ad = some v) (h1 : oneB P ty = true) : (execOp a.eval o).run P w = .ok (.value v) w := by
  unfold execOp
  simp only [hx, hev, Instr.loadAt, Instr.sureAddr, Sem.run_bind, Sem.run_pure, Result.andThen_ok, run_loadVar_one h1 hv]
theorem run_load_row (hx : o.op = .load ty x) (hev : a.eval x = .pointer (some ⟨b, q, none⟩)) {w : World} (vs : List Value) (hv : w.rangeAt b q vs) (h1 : rowB P ty vs.length = true) : (execOp a.eval o).run P w = .ok (.value (.agg vs.toArray)) w := by
  obtain ⟨d, e1, e2, e3⟩ := rowB_spec h1
  unfold execOp
  simp only [hx, hev, Instr.loadAt, Instr.sureAddr, Sem.run_bind, Sem.run_pure, Result.andThen_ok, run_loadVar_mid w b q ty vs d hv e1 e2 e3]
/-- A cell is read. -/
theorem St.load (hx : o.op = .load ty x) (hM : St w0 F w L) (hc : (c == 2 || c == 3) = true) (hw : Region.wanted o (yielded ops a.tmps) = true) (hT : sizeIn rowTab ty = none) (hev : a.eval x = .pointer (some ⟨b, q, none⟩)) {r : Res} (hm : (b, ow, r) ∈ L) {v : Value} (hv : r.known[q]? = some v) (h1 : oneB P ty = true)
    (h : wpSeq P ops K S l (a.put o.dst v) w) : wpSeq P ops K S ((o, c) :: l) a w :=
  wpSeq_yields hc hw (run_load_one hx hev (Res.cell (hM.holds _ hm) hv) h1) h
theorem St.load1 (hx : o.op = .load ty x) (hw : Region.wanted o (yielded ops a.tmps) = true) (hT : sizeIn rowTab ty = none) (hev : a.eval x = .pointer (some ⟨b, q, none⟩)) {r : Res} (hm : (b, ow, r) ∈ Lr) {v : Value} (hv : r.known[q]? = some v) (h1 : oneB P ty = true)
    (h : wpSeq P ops K (Held w0 F Lr) l (a.put o.dst v) w) : wpSeq P ops K (Held w0 F Lr) ((o, 1) :: l) a w :=
  wpSeq_at1 hw (fun w hS => run_load_one hx hev (Res.cell (hS.has _ hm) hv) h1) h
/-- A cell of which a fact tells. -/
theorem St.loadF (hx : o.op = .load ty x) (hc : (c == 2 || c == 3) = true) (hw : Region.wanted o (yielded ops a.tmps) = true) (hT : sizeIn rowTab ty = none) {ad : Addr} (hev : a.eval x = .pointer (some ad)) {v : Value} (hv : w.cell? ad = some v) (h1 : oneB P ty = true)
    (h : wpSeq P ops K S l (a.put o.dst v) w) : wpSeq P ops K S ((o, c) :: l) a w :=
  wpSeq_yields hc hw (run_load_one hx hev hv h1) h
theorem St.loadF1 (hx : o.op = .load ty x) (hw : Region.wanted o (yielded ops a.tmps) = true) (hT : sizeIn rowTab ty = none) {ad : Addr} (hev : a.eval x = .pointer (some ad)) {v : Value} (hv : ∀ w, S w → w.cell? ad = some v) (h1 : oneB P ty = true)
    (h : wpSeq P ops K S l (a.put o.dst v) w) : wpSeq P ops K S ((o, 1) :: l) a w :=
  wpSeq_at1 hw (fun w hS => run_load_one hx hev (hv w hS) h1) h
/-- A struct, or an array, is read. -/
theorem St.loadRow (hx : o.op = .load ty x) (hM : St w0 F w L) (hc : (c == 2 || c == 3) = true) (hw : Region.wanted o (yielded ops a.tmps) = true) {n : Nat} (hT : sizeIn rowTab ty = some n) (hev : a.eval x = .pointer (some ⟨b, q, none⟩)) {r : Res} (hm : (b, ow, r) ∈ L) (hl : q + n ≤ r.known.length) (h1 : rowB P ty n = true)
    (h : wpSeq P ops K S l (a.put o.dst (.agg ((r.known.drop q).take n).toArray)) w) : wpSeq P ops K S ((o, c) :: l) a w := by
  have hn : ((r.known.drop q).take n).length = n := by rw [List.length_take, List.length_drop]; omega
  exact wpSeq_yields hc hw (run_load_row hx hev _ (Res.range (hM.holds _ hm) hl) (by rw [hn]; exact h1)) h
theorem St.loadRow1 (hx : o.op = .load ty x) (hw : Region.wanted o (yielded ops a.tmps) = true) {n : Nat} (hT : sizeIn rowTab ty = some n) (hev : a.eval x = .pointer (some ⟨b, q, none⟩)) {r : Res} (hm : (b, ow, r) ∈ Lr) (hl : q + n ≤ r.known.length) (h1 : rowB P ty n = true)
    (h : wpSeq P ops K (Held w0 F Lr) l (a.put o.dst (.agg ((r.known.drop q).take n).toArray)) w) : wpSeq P ops K (Held w0 F Lr) ((o, 1) :: l) a w := by
  have hn : ((r.known.drop q).take n).length = n := by rw [List.length_take, List.length_drop]; omega
  exact wpSeq_at1 hw (fun w hS => run_load_row hx hev _ (Res.range (hS.has _ hm) hl) (by rw [hn]; exact h1)) h
/-- A struct of which a fact tells. -/
theorem St.loadRowF (hx : o.op = .load ty x) (hc : (c == 2 || c == 3) = true) (hw : Region.wanted o (yielded ops a.tmps) = true) {n : Nat} (hT : sizeIn rowTab ty = some n) (hev : a.eval x = .pointer (some ⟨b, q, none⟩)) {vs : List Value} (hv : w.rangeAt b q vs) (h1 : rowB P ty vs.length = true)
    (h : wpSeq P ops K S l (a.put o.dst (.agg vs.toArray)) w) : wpSeq P ops K S ((o, c) :: l) a w :=
  wpSeq_yields hc hw (run_load_row hx hev vs hv h1) h
theorem St.loadRowF1 (hx : o.op = .load ty x) (hw : Region.wanted o (yielded ops a.tmps) = true) {n : Nat} (hT : sizeIn rowTab ty = some n) (hev : a.eval x = .pointer (some ⟨b, q, none⟩)) {vs : List Value} (hv : ∀ w, S w → w.rangeAt b q vs) (h1 : rowB P ty vs.length = true)
    (h : wpSeq P ops K S l (a.put o.dst (.agg vs.toArray)) w) : wpSeq P ops K S ((o, 1) :: l) a w :=
  wpSeq_at1 hw (fun w hS => run_load_row hx hev vs (hv w hS) h1) h
/-- A cell is written. -/
theorem St.store (hx : o.op = .store ty x y) (hM : St w0 F w L) (hc : (c == 2 || c == 3) = true) (hw : Region.wanted o (yielded ops a.tmps) = true) (hT : sizeIn rowTab ty = none) (hev : a.eval x = .pointer (some ⟨b, q, none⟩)) {v : Value} (hy : a.eval y = v) {r : Res} (hu : Upd L (b, true, r) (b, true, r.put (r.known.set q v)) L') (hq : q < r.known.length) (h1 : oneB P ty = true) (hv : v.oneCell' = true)
    (hS : c = 2 → Rest L (b, true, r) Lr) (h : ∀ w', St w0 F w' L' → wpSeq P ops K (Held w0 F Lr) l (a.put o.dst undef) w') : wpSeq P ops K (Held w0 F Lr) ((o, c) :: l) a w := by
  have hr : r.holds w.heap[b]? := hM.holds _ hu.mem
  have hown : ∀ x ∈ [b], x ∈ F ∨ w0.heap.size ≤ x := fun x hx => by
    have e : x = b := by simpa using hx
    rw [e]; exact hM.own _ hu.mem rfl
  obtain ⟨rest, t, hb, hput⟩ := Res.whole hr hq
  have hrun : (execOp a.eval o).run P w = .ok .skip (w.setCell ⟨b, q, none⟩ v) := by
    unfold execOp
    simp only [hx, hev, hy, Instr.storeAt, Instr.sureAddr, Sem.run_bind, Sem.run_pure, Result.andThen_ok, run_storeVar_one h1 (Res.cell hr (List.getElem?_eq_getElem hq)) (hb.free q) hv]
  have hres := hput (r.known.set q v) (by simp) (w.setCell ⟨b, q, none⟩ v) (by have := hb.setCell q v; rwa [List.set_append_left _ _ hq] at this)
  exact wpSeq_turns hc hw hrun (.inr ⟨rfl, rfl⟩) (fun h2 hh => ⟨hh.only.then (only_setCell b q v) hown, hh.has.turn (only_setCell b q v) ((hS h2).apart hM.nd)⟩) (h _ (hM.turn hu (only_setCell b q v) hres))
/-- A struct, or an array, is written. -/
theorem St.storeRow (hx : o.op = .store ty x y) (hM : St w0 F w L) (hc : (c == 2 || c == 3) = true) (hw : Region.wanted o (yielded ops a.tmps) = true) {n : Nat} (hT : sizeIn rowTab ty = some n) (hev : a.eval x = .pointer (some ⟨b, q, none⟩)) {vs : Array Value} (hy : a.eval y = .agg vs) {r : Res} (hu : Upd L (b, true, r) (b, true, r.put (over r.known q vs.toList)) L') (hq : q + vs.size ≤ r.known.length) (h0 : 0 < vs.size) (h1 : rowB P ty vs.size = true) (hv0 : vs.toList.all (·.oneCell') = true)
    (hS : c = 2 → Rest L (b, true, r) Lr) (h : ∀ w', St w0 F w' L' → wpSeq P ops K (Held w0 F Lr) l (a.put o.dst undef) w') : wpSeq P ops K (Held w0 F Lr) ((o, c) :: l) a w := by
  have hr : r.holds w.heap[b]? := hM.holds _ hu.mem
  have hown : ∀ x ∈ [b], x ∈ F ∨ w0.heap.size ≤ x := fun x hx => by
    have e : x = b := by simpa using hx
    rw [e]; exact hM.own _ hu.mem rfl
  obtain ⟨rest, t, hb, hput⟩ := Res.whole (q := q) hr (by omega)
  have hv : vs.all (·.oneCell') = true := by simpa using hv0
  obtain ⟨d, -, -, e3⟩ := rowB_spec h1
  have hrun : (execOp a.eval o).run P w = .ok .skip (w.setCells b q vs.toList) := by
    unfold execOp
    simp only [hx, hev, hy, Instr.storeAt, Instr.sureAddr, Sem.run_bind, Sem.run_pure, Result.andThen_ok, run_storeVar_mid w b q ty vs (hb.there q vs.size (by rw [List.length_append]; omega)) e3 hv]
  have hres := hput (over r.known q vs.toList) (over_length _ _ _) (w.setCells b q vs.toList) (by have := hb.setCells vs.toList q; rwa [over_append _ _ _ _ (by simpa using hq)] at this)
  exact wpSeq_turns hc hw hrun (.inr ⟨rfl, rfl⟩) (fun h2 hh => ⟨hh.only.then (only_setCells b vs.toList q w) hown, hh.has.turn (only_setCells b vs.toList q w) ((hS h2).apart hM.nd)⟩) (h _ (hM.turn hu (only_setCells b vs.toList q w) hres))
/-- A new block: what is handed back is told of its number. -/
theorem St.make (hM : St w0 F w L) (hc : (c == 2 || c == 3) = true) (hw : Region.wanted o (yielded ops a.tmps) = true) (v : Nat → Value) {ob : Obj} (hy : ∀ w, (execOp a.eval o).run P w = .ok (.value (v w.heap.size)) (w.alloc ob)) {r : Res} (hr : r.holds (some ob))
    (h : ∀ w' b, St w0 F w' ((b, true, r) :: L) → wpSeq P ops K (Held w0 F Lr) l (a.put o.dst (v b)) w') : wpSeq P ops K (Held w0 F Lr) ((o, c) :: l) a w :=
  wpSeq_turns hc hw (hy w) (.inl rfl) (fun _ hh => ⟨hh.only.alloc ob, hh.has.push ob⟩) (h _ _ (hM.push ob hr))
/-- A new struct. -/
theorem St.box (hx : o.op = .box ty x) (hM : St w0 F w L) (hc : (c == 2 || c == 3) = true) (hw : Region.wanted o (yielded ops a.tmps) = true) {v : Value} (hev : a.eval x = v)
    (h : ∀ w' b, St w0 F w' ((b, true, .cells v.cells.toList ty) :: L) → wpSeq P ops K (Held w0 F Lr) l (a.put o.dst (.pointer (some ⟨b, 0, none⟩))) w') : wpSeq P ops K (Held w0 F Lr) ((o, c) :: l) a w := by
  refine St.make hM hc hw (fun b => .pointer (some ⟨b, 0, none⟩)) (ob := .cells v.cells ty) (fun w => ?_) (by simp [Res.holds]) h
  unfold execOp
  simp only [hx, hev, Instr.box, newVar, newRow, newObj, Sem.run_bind, Sem.run_pure]
  simp [Sem.run]
theorem St.alloc (hx : o.op = .alloc ty) (hM : St w0 F w L) (hc : (c == 2 || c == 3) = true) (hw : Region.wanted o (yielded ops a.tmps) = true) {z : Value} (hz : ((P.info? ty).bind (·.zero)) = some z)
    (h : ∀ w' b, St w0 F w' ((b, true, .cells z.cells.toList ty) :: L) → wpSeq P ops K (Held w0 F Lr) l (a.put o.dst (.pointer (some ⟨b, 0, none⟩))) w') : wpSeq P ops K (Held w0 F Lr) ((o, c) :: l) a w := by
  refine St.make hM hc hw (fun b => .pointer (some ⟨b, 0, none⟩)) (ob := .cells z.cells ty) (fun w => ?_) (by simp [Res.holds]) h
  cases hq : P.info? ty with
  | none => rw [hq] at hz; cases hz
  | some i =>
    rw [hq] at hz
    simp only [Option.bind_some] at hz
    unfold execOp
    simp only [hx, Instr.alloc, zeroValue, typeInfo, Sem.run_bind, Sem.run_pure, Result.andThen_ok, run_program, hq, hz, newVar, newRow, newObj]
    simp [Sem.run]
theorem run_alloc (w : World) (hx : o.op = .alloc ty) {z : Value} (hz : ((P.info? ty).bind (·.zero)) = some z) : (execOp a.eval o).run P w = .ok (.value (.pointer (some ⟨w.heap.size, 0, none⟩))) (w.alloc (.cells z.cells ty)) := by
  cases hq : P.info? ty with
  | none => rw [hq] at hz; cases hz
  | some i =>
    rw [hq] at hz
    simp only [Option.bind_some] at hz
    unfold execOp
    simp only [hx, Instr.alloc, zeroValue, typeInfo, Sem.run_bind, Sem.run_pure, Result.andThen_ok, run_program, hq, hz, newVar, newRow, newObj]
    simp [Sem.run]
theorem St.perm (h : St w0 F w L) (hp : L.Perm L') : St w0 F w L' :=
  ⟨h.only, fun x hx => h.holds x (hp.mem_iff.2 hx), (hp.map (·.1)).nodup_iff.1 h.nd, fun x hx => h.own x (hp.mem_iff.2 hx)⟩
/-- Two variables are made, in either order. -/
theorem St.allocs {o' : Oper} {c : Nat} {ty' : TypeId} {z z' : Value} (hx : o.op = .alloc ty) (hx' : o'.op = .alloc ty') (hM : St w0 F w L) (hg : o.guard = none) (hg' : o'.guard = none) (hd : ∀ d, o.dst = some d → o'.dst ≠ some d) (hz : ((P.info? ty).bind (·.zero)) = some z) (hz' : ((P.info? ty').bind (·.zero)) = some z')
    (h : ∀ w' b b', St w0 F w' ((b', true, .cells z'.cells.toList ty') :: (b, true, .cells z.cells.toList ty) :: L) → wpSeq P ops K (Held w0 F Lr) l ((a.put o.dst (.pointer (some ⟨b, 0, none⟩))).put o'.dst (.pointer (some ⟨b', 0, none⟩))) w') : wpSeq P ops K (Held w0 F Lr) ((o, 4) :: (o', c) :: l) a w := by
  refine wpSeq_pair hg hg' ?_ ?_
  · unfold Oper.wp
    rw [run_alloc w hx hz]
    refine ⟨fun hh => ⟨hh.only.alloc _, hh.has.push _⟩, ?_⟩
    rw [run_alloc _ hx' hz']
    refine ⟨fun hh => ⟨hh.only.alloc _, hh.has.push _⟩, h _ _ _ ((hM.push _ (by simp [Res.holds])).push _ (by simp [Res.holds]))⟩
  · unfold Oper.wp
    rw [run_alloc w hx' hz']
    refine ⟨fun hh => ⟨hh.only.alloc _, hh.has.push _⟩, ?_⟩
    rw [run_alloc _ hx hz]
    refine ⟨fun hh => ⟨hh.only.alloc _, hh.has.push _⟩, ?_⟩
    rw [← Act.put_comm _ _ _ hd]
    exact h _ _ _ (((hM.push (r := .cells z'.cells.toList ty') _ (by simp [Res.holds])).push (r := .cells z.cells.toList ty) _ (by simp [Res.holds])).perm (List.Perm.swap _ _ _))
/-- A function is called by its name. -/
theorem run_call (w : World) {f : FuncId} {ags : Array Operand} {ts : Array TypeId} (hx : o.op = .call { callee := .value (.func f), args := ags, argTypes := ts }) (hf : bodyB P f = true) {args : Array Value} (hargs : ags.map a.eval = args) : (execOp a.eval o).run P w = .ok (.enter f args) w := by
  unfold bodyB at hf
  cases hq : P.funcs[f]? with
  | none => rw [hq] at hf; cases hf
  | some fn =>
    rw [hq] at hf
    simp only [Bool.and_eq_true, bne_iff_ne] at hf
    obtain ⟨g1, g2⟩ := hf
    have g3 : (fn.name == "runtime.NumGoroutine") = false := by simpa using g2
    have g4 : fn.body.isNone = false := by cases hb : fn.body <;> simp_all
    unfold execOp
    simp only [hx, resolve, Act.eval, Deferred.ofValue, Sem.run_bind, Sem.run_pure, Result.andThen_ok, invoke, callFunc, run_program, hq, g3, g4, Array.append_empty, hargs]
    simp
theorem St.call {f : FuncId} {ags : Array Operand} {ts : Array TypeId} (hx : o.op = .call { callee := .value (.func f), args := ags, argTypes := ts }) (hc : (c == 2 || c == 3) = true) (hw : Region.wanted o (yielded ops a.tmps) = true)  (hf : bodyB P f = true)
    (h : ∀ R : Ending → World → Prop, Shut (∀ v w', (S w → S w') → wpSeq P ops K S l (a.put o.dst v) w' → R (.returned v) w') → Calls P f (ags.map a.eval) w R) : wpSeq P ops K S ((o, c) :: l) a w :=
  wpSeq_calls hc hw (run_call w hx hf rfl) (h (fun e w' => ∃ v, e = .returned v ∧ (S w → S w') ∧ wpSeq P ops K S l (a.put o.dst v) w') fun v w' h1 h2 => ⟨v, rfl, h1, h2⟩)
    fun _ _ ⟨v, h1, h2, h3⟩ => ⟨v, h1, fun _ => h2, h3⟩
end
theorem getD_lit {α : Type} (l : List α) (n : Nat) (d : α) : l.toArray.getD n d = l.getD n d := by
  simp only [Array.getD, List.size_toArray, List.getD, List.getElem_toArray]
  split
  · rename_i h; rw [List.getElem?_eq_getElem h]; rfl
  · rename_i h; rw [List.getElem?_eq_none (by omega)]; rfl
section
variable {P : Program} {K : Act → World → Prop} {a : Act} {w w0 : World} {ops : Array Oper} {l : List (Oper × Nat)} {c : Nat} {o : Oper} {F : List Nat} {L Lr : List Ent} {ty t : TypeId} {x y : Operand} {S : World → Prop}
theorem run_callv (w : World) {x : Operand} {f : FuncId} {first caps : Array Value} {ags : Array Operand} {ts : Array TypeId} (hx : o.op = .call { callee := .value x, args := ags, argTypes := ts }) (hv : a.eval x = .func (.func f) first caps) (hf : bodyB P f = true) : (execOp a.eval o).run P w = .ok (.enter f (first ++ ags.map a.eval ++ caps)) w := by
  unfold bodyB at hf
  cases hq : P.funcs[f]? with
  | none => rw [hq] at hf; cases hf
  | some fn =>
    rw [hq] at hf
    simp only [Bool.and_eq_true, bne_iff_ne] at hf
    obtain ⟨g1, g2⟩ := hf
    have g3 : (fn.name == "runtime.NumGoroutine") = false := by simpa using g2
    have g4 : fn.body.isNone = false := by cases hb : fn.body <;> simp_all
    unfold execOp
    simp only [hx, resolve, hv, Deferred.ofValue, Sem.run_bind, Sem.run_pure, Result.andThen_ok, invoke, callFunc, run_program, hq, g3, g4]
    simp
/-- A function value is called. -/
theorem St.callv {x : Operand} {ags : Array Operand} {ts : Array TypeId} (hx : o.op = .call { callee := .value x, args := ags, argTypes := ts }) {f : FuncId} {first caps : Array Value} (hv : a.eval x = .func (.func f) first caps) (hc : (c == 2 || c == 3) = true) (hw : Region.wanted o (yielded ops a.tmps) = true) (hf : bodyB P f = true)
    (h : ∀ R : Ending → World → Prop, Shut (∀ v w', (S w → S w') → wpSeq P ops K S l (a.put o.dst v) w' → R (.returned v) w') → Calls P f (first ++ ags.map a.eval ++ caps) w R) : wpSeq P ops K S ((o, c) :: l) a w :=
  wpSeq_calls hc hw (run_callv w hx hv hf) (h (fun e w' => ∃ v, e = .returned v ∧ (S w → S w') ∧ wpSeq P ops K S l (a.put o.dst v) w') fun v w' h1 h2 => ⟨v, rfl, h1, h2⟩)
    fun _ _ ⟨v, h1, h2, h3⟩ => ⟨v, h1, fun _ => h2, h3⟩
theorem ba_size (x : Array UInt8) : (ByteArray.mk x).size = x.size := rfl
theorem run_cat (w : World) (hx : o.op = .binOp .add ty x y t) {s u : ByteArray} (e1 : a.eval x = .string s) (e2 : a.eval y = .string u) (h : s.size + u.size ≤ 9223372036854775807) : (execOp a.eval o).run P w = .ok (.value (.string (s ++ u))) w := by
  have h1 : ¬ ((s.size + u.size : Nat) : Int) > IntKind.i64.max := by
    have : IntKind.i64.max = 9223372036854775807 := by decide
    omega
  unfold execOp
  simp only [hx, e1, e2, eqGuard, binOp, Op.stringOp, h1, Bool.not_false, if_true, if_false, Sem.run_bind, Sem.run_pure, Result.andThen_ok]
/-- Texts put together. -/
theorem St.cat (hx : o.op = .binOp .add ty x y t) (hc : (c == 0 || c == 2 || c == 3) = true) (hw : Region.wanted o (yielded ops a.tmps) = true) {s u : ByteArray} (e1 : a.eval x = .string s) (e2 : a.eval y = .string u) (hl : s.size + u.size ≤ 9223372036854775807) (h : wpSeq P ops K S l (a.put o.dst (.string (s ++ u))) w) : wpSeq P ops K S ((o, c) :: l) a w := by
  match c with
  | 0 => exact wpSeq_at0 hw (fun w => run_cat w hx e1 e2 hl) h
  | 1 => cases hc
  | 2 => exact wpSeq_yields rfl hw (run_cat w hx e1 e2 hl) h
  | 3 => exact wpSeq_yields rfl hw (run_cat w hx e1 e2 hl) h
  | c + 4 => simp at hc
theorem wrap_in (n : Int) (h : -9223372036854775808 ≤ n ∧ n ≤ 9223372036854775807) : IntKind.i64.wrap n = n := by rw [IntKind.wrap_i64]; omega
theorem run_addI (w : World) (hx : o.op = .binOp .add ty x y t) {n m : Int} (e1 : a.eval x = .int .i64 n) (e2 : a.eval y = .int .i64 m) (h : -9223372036854775808 ≤ n + m ∧ n + m ≤ 9223372036854775807) : (execOp a.eval o).run P w = .ok (.value (.int .i64 (n + m))) w := by
  unfold execOp
  simp only [hx, e1, e2, eqGuard, binOp, Op.intArith, wrap_in _ h, ne_eq, not_true_eq_false, Bool.not_false, if_true, if_false, Sem.run_bind, Sem.run_pure, Result.andThen_ok]
/-- One more. -/
theorem St.inc (hx : o.op = .binOp .add ty x y t) (hc : (c == 0 || c == 2 || c == 3) = true) (hw : Region.wanted o (yielded ops a.tmps) = true) {k : Nat} (e2 : a.eval y = .int .i64 1) (e1 : a.eval x = .int .i64 (k : Int)) (hl : k + 1 ≤ 9223372036854775807) (h : wpSeq P ops K S l (a.put o.dst (.int .i64 ((k + 1 : Nat) : Int))) w) : wpSeq P ops K S ((o, c) :: l) a w := by
  have hr : ∀ w, (execOp a.eval o).run P w = .ok (.value (.int .i64 ((k + 1 : Nat) : Int))) w := fun w => by
    have := run_addI (P := P) (a := a) (o := o) w hx e1 e2 (by omega)
    rw [this]
    simp
  match c with
  | 0 => exact wpSeq_at0 hw hr h
  | 1 => cases hc
  | 2 => exact wpSeq_yields rfl hw (hr w) h
  | 3 => exact wpSeq_yields rfl hw (hr w) h
  | c + 4 => simp at hc
theorem run_move (w : World) (hx : o.op = .move x) {v : Value} (e : a.eval x = v) : (execOp a.eval o).run P w = .ok (.value v) w := by
  unfold execOp
  simp only [hx, e, Sem.run_pure]
theorem run_assign (w : World) (hx : o.op = .assign x) {v : Value} (e : a.eval x = v) : (execOp a.eval o).run P w = .ok (.value v) w := by
  unfold execOp
  simp only [hx, e, Sem.run_pure]
theorem St.soft (hc : (c == 0 || c == 2 || c == 3) = true) (hw : Region.wanted o (yielded ops a.tmps) = true) {v : Value} (hr : ∀ w, (execOp a.eval o).run P w = .ok (.value v) w) (h : wpSeq P ops K S l (a.put o.dst v) w) : wpSeq P ops K S ((o, c) :: l) a w := by
  match c with
  | 0 => exact wpSeq_at0 hw hr h
  | 1 => cases hc
  | 2 => exact wpSeq_yields rfl hw (hr w) h
  | 3 => exact wpSeq_yields rfl hw (hr w) h
  | c + 4 => simp at hc
/-- A copy. -/
theorem St.move (hx : o.op = .move x) (hc : (c == 0 || c == 2 || c == 3) = true) (hw : Region.wanted o (yielded ops a.tmps) = true) {v : Value} (e : a.eval x = v) (h : wpSeq P ops K S l (a.put o.dst v) w) : wpSeq P ops K S ((o, c) :: l) a w := St.soft hc hw (fun w => run_move w hx e) h
/-- A copy, by either word. -/
theorem St.copy (hx : o.op = .move x ∨ o.op = .assign x) (hc : (c == 0 || c == 2 || c == 3) = true) (hw : Region.wanted o (yielded ops a.tmps) = true) {v : Value} (e : a.eval x = v) (h : wpSeq P ops K S l (a.put o.dst v) w) : wpSeq P ops K S ((o, c) :: l) a w := St.soft hc hw (fun w => hx.elim (fun hx => run_move w hx e) (fun hx => run_assign w hx e)) h
theorem St.assign (hx : o.op = .assign x) (hc : (c == 0 || c == 2 || c == 3) = true) (hw : Region.wanted o (yielded ops a.tmps) = true) {v : Value} (e : a.eval x = v) (h : wpSeq P ops K S l (a.put o.dst v) w) : wpSeq P ops K S ((o, c) :: l) a w := St.soft hc hw (fun w => run_assign w hx e) h
/-- A slice of parts that are told. -/
theorem St.buildSlice {n : Nat} {ps : Array (Nat × Operand)} (hx : o.op = .buildSlice ty n ps) (hM : St w0 F w L) (hc : (c == 2 || c == 3) = true) (hw : Region.wanted o (yielded ops a.tmps) = true) {cells : Array Value} {e : TypeId} (hy : ∀ w : World, (execOp a.eval o).run P w = .ok (.value (.slice (some ⟨w.heap.size, 0, none⟩) n n)) (w.alloc (.cells cells e)))
    (h : ∀ w' b, St w0 F w' ((b, true, .cells cells.toList e) :: L) → wpSeq P ops K (Held w0 F Lr) l (a.put o.dst (.slice (some ⟨b, 0, none⟩) n n)) w') : wpSeq P ops K (Held w0 F Lr) ((o, c) :: l) a w :=
  St.make hM hc hw (fun b => .slice (some ⟨b, 0, none⟩) n n) hy (by simp [Res.holds]) h
end
/-! ### Slices of the call's own, that grow -/
/-- A slice of the call's own: nil, or block 'g' with room for 'cap' elements. -/
def slV : Option (Nat × Nat) → Nat → Value
  | none, _ => .slice none 0 0
  | some (g, cap), n => .slice (some ⟨g, 0, none⟩) n cap
def slL : Option (Nat × Nat) → List Value → TypeId → Nat → List Ent
  | none, _, _, _ => []
  | some (g, cap), xs, e, size => [(g, true, .pre xs e (cap * size))]
/-- 'n' elements, of 'size' cells each: no block is none of them. -/
def SlOK (s : Option (Nat × Nat)) (n : Nat) (xs : List Value) (size : Nat) : Prop :=
  xs.length = n * size ∧ match s with
    | none => n = 0
    | some (_, cap) => n ≤ cap ∧ cap ≤ maxLen
/-- One part of a list is turned. -/
inductive Swap : List Ent → List Ent → List Ent → List Ent → Prop where
  | all {M M' : List Ent} : Swap M M M' M'
  | here {M M' R : List Ent} : Swap (M ++ R) M M' (M' ++ R)
  | skip {x : Ent} {L M M' L' : List Ent} (h : Swap L M M' L') : Swap (x :: L) M M' (x :: L')
  | past {N L M M' L' : List Ent} (h : Swap L M M' L') : Swap (N ++ L) M M' (N ++ L')
theorem Swap.one {x : Ent} {M' R : List Ent} : Swap (x :: R) [x] M' (M' ++ R) := Swap.here (M := [x])
theorem Swap.split {L M M' L' : List Ent} (h : Swap L M M' L') : ∃ A B, L = A ++ (M ++ B) ∧ L' = A ++ (M' ++ B) := by
  induction h with
  | all => exact ⟨[], [], by simp, by simp⟩
  | here => exact ⟨[], _, rfl, rfl⟩
  | @skip x _ _ _ _ _ ih => obtain ⟨A, B, h1, h2⟩ := ih; exact ⟨x :: A, B, by rw [h1]; rfl, by rw [h2]; rfl⟩
  | @past N _ _ _ _ _ ih => obtain ⟨A, B, h1, h2⟩ := ih; exact ⟨N ++ A, B, by rw [h1, List.append_assoc], by rw [h2, List.append_assoc]⟩
/-- What append asks of a slice's type: its elements' type, cells and bytes. -/
def appB (P : Program) (t e : TypeId) (size bytes : Nat) : Bool :=
  (match P.underlying t with | some (.slice e') => e' == e | _ => false) &&
  (match P.info? e with | some i => i.size == size && i.bytes == bytes && (match i.zero with | some z => z.cells.size == size | none => false) | none => false) && decide (0 < size)
section
variable {P : Program} {K : Act → World → Prop} {a : Act} {w w0 : World} {ops : Array Oper} {l : List (Oper × Nat)} {c : Nat} {o : Oper} {F : List Nat} {L Lr : List Ent} {t e : TypeId} {x y : Operand}
theorem appB_spec {size bytes : Nat} (h : appB P t e size bytes = true) : ∃ i z, P.underlying t = some (.slice e) ∧ P.info? e = some i ∧ i.zero = some z ∧ i.size = size ∧ i.bytes = bytes ∧ z.cells.size = size ∧ 0 < size := by
  unfold appB at h
  simp only [Bool.and_eq_true, decide_eq_true_eq] at h
  obtain ⟨⟨h1, h2⟩, h3⟩ := h
  split at h1
  · rename_i e' hu
    have he : e' = e := by simpa using h1
    subst he
    split at h2
    · rename_i i hi
      simp only [Bool.and_eq_true, beq_iff_eq] at h2
      obtain ⟨⟨g1, g2⟩, g3⟩ := h2
      split at g3
      · rename_i z hz
        exact ⟨i, z, hu, hi, hz, g1, g2, by simpa using g3, h3⟩
      · cases g3
    · cases h2
  · cases h1
theorem ownsRow_of {s : Option (Nat × Nat)} {n size : Nat} {xs : List Value} (h : ∀ z ∈ slL s xs e size, z.2.2.holds w.heap[z.1]?) (hk : SlOK s n xs size) : w.ownsRow 0 e size (slV s n) n xs := by
  obtain ⟨hl, hk⟩ := hk
  refine ⟨hl, ?_⟩
  match s with
  | none => exact .inl ⟨rfl, hk⟩
  | some (g, cap) =>
    obtain ⟨rest, hb, hn⟩ := h _ (List.mem_singleton.2 rfl)
    refine .inr ⟨g, cap, (xs ++ rest).toArray, rfl, Nat.zero_le _, hb, hk.1, hk.2, by simpa using hn, ?_⟩
    rw [← hl]
    simp
theorem of_ownsRow {v : Value} {n size : Nat} {xs : List Value} (h : w.ownsRow 0 e size v n xs) : ∃ s, v = slV s n ∧ SlOK s n xs size ∧ (∀ z ∈ slL s xs e size, z.2.2.holds w.heap[z.1]?) ∧ v.ownBlock = s.map (·.1) := by
  obtain ⟨hl, h⟩ := h
  rcases h with ⟨rfl, rfl⟩ | ⟨g, cap, cur, rfl, -, hb, h1, h2, h3, h4⟩
  · exact ⟨none, rfl, ⟨hl, rfl⟩, nofun, rfl⟩
  · refine ⟨some (g, cap), rfl, ⟨hl, h1, h2⟩, fun z hz => ?_, rfl⟩
    obtain rfl := List.mem_singleton.1 hz
    refine ⟨cur.toList.drop (n * size), ?_, ?_⟩
    · rw [← h4, List.take_append_drop]; simpa using hb
    · rw [← h4, List.take_append_drop]; simpa using h3
theorem St.news (hM : St w0 F w L) {b : Nat} {ow : Bool} {r : Res} (hm : (b, ow, r) ∈ L) : ∀ j u, r.known[j]? = some u → w.cell? ((⟨b, 0, none⟩ : Addr).add j) = some u := fun j u hu => by
  rw [Addr.add_mid, Nat.zero_add]
  exact Res.cell (hM.holds _ hm) hu
/-- What an append makes of what is known. -/
theorem St.appendCore (hM : St w0 F w L) (hc : (c == 2 || c == 3) = true) (hw : Region.wanted o (yielded ops a.tmps) = true) {s : Option (Nat × Nat)} {n m size : Nat} {xs news : List Value} {L' : Option (Nat × Nat) → List Ent} (hL : ∀ s', Swap L (slL s xs e size) (slL s' (xs ++ news) e size) (L' s')) {v' : Value} {w' : World}
    (hrun0 : (execOp a.eval o).run P w = .ok (.value v') w') (ho' : w'.ownsRow 0 e size v' (n + m) (xs ++ news)) (hg : w.grownBy w' (slV s n).ownBlock) (hat : v'.ownBlock = (slV s n).ownBlock ∨ v'.ownBlock = some w.heap.size)
    (hS : c = 2 → Lr = [] ∨ s = none) (h : ∀ w' s', St w0 F w' (L' s') → SlOK s' (n + m) (xs ++ news) size → (0 < n + m → s' ≠ none) → (s ≠ none → s' ≠ none) → wpSeq P ops K (Held w0 F Lr) l (a.put o.dst (slV s' (n + m))) w') : wpSeq P ops K (Held w0 F Lr) ((o, c) :: l) a w := by
  obtain ⟨s', rfl, hk', hh', hb'⟩ := of_ownsRow ho'
  have hrun : (execOp a.eval o).run P w = .ok (.value (slV s' (n + m))) w' := hrun0
  have hob : (slV s n).ownBlock = s.map (·.1) := by cases s <;> rfl
  have hO : Only ((s.map (·.1)).toList) w w' := ⟨hg.os, hg.tape, hg.output, hg.size, fun k hk hn => hg.block k hk (fun e => by rw [hob] at e; exact hn (by rw [← e]; simp))⟩
  obtain ⟨A', B', hA', hL'⟩ := (hL s').split
  have hM' : St w0 F w' (L' s') := by
    have hnd := hM.nd
    rw [hA'] at hnd
    have hsown : ∀ k, s.map (·.1) = some k → (k ∈ F ∨ w0.heap.size ≤ k) ∧ k < w.heap.size := fun k hk => by
      match s with
      | none => cases hk
      | some (g, cp) =>
        obtain rfl : g = k := by simpa using hk
        have hm : (g, true, Res.pre xs e (cp * size)) ∈ L := by rw [hA']; simp [slL]
        exact ⟨hM.own _ hm rfl, hM.lt hm⟩
    have hsnew : ∀ k, s'.map (·.1) = some k → (k ∈ F ∨ w0.heap.size ≤ k) ∧ (s.map (·.1) = some k ∨ k = w.heap.size) := fun k hk => by
      rw [hb', hob] at hat
      rcases hat with h1 | h1
      · rw [h1] at hk; exact ⟨(hsown k hk).1, .inl hk⟩
      · rw [h1] at hk; obtain rfl : w.heap.size = k := by simpa using hk
        exact ⟨.inr hM.only.size, .inr rfl⟩
    have hrestne : ∀ z, z ∈ A' ∨ z ∈ B' → (∀ k, s.map (·.1) = some k → z.1 ≠ k) ∧ z ∈ L := fun z hz => by
      refine ⟨fun k hk => ?_, by rw [hA']; rcases hz with h | h <;> simp [h]⟩
      match s with
      | none => cases hk
      | some (g, cp) =>
        obtain rfl : g = k := by simpa using hk
        simp only [slL, List.map_append, List.map_cons, List.map_nil, List.nodup_append, List.mem_append, List.mem_cons, List.mem_map] at hnd
        obtain ⟨-, ⟨-, -, h2⟩, h3⟩ := hnd
        rcases hz with h | h
        · exact fun e => h3 z.1 ⟨z, h, rfl⟩ g (.inl (.inl rfl)) e
        · exact fun e => h2 g (.inl rfl) z.1 ⟨z, h, rfl⟩ e.symm
    refine ⟨hM.only.then hO (fun k hk => (hsown k (by simpa using hk)).1), fun z hz => ?_, ?_, fun z hz h1 => ?_⟩
    · rw [hL'] at hz
      rcases List.mem_append.1 hz with hz | hz
      · obtain ⟨hne, hzL⟩ := hrestne z (.inl hz)
        rw [hO.block z.1 (hM.lt hzL) (fun hm => hne z.1 (by simpa using hm) rfl)]
        exact hM.holds z hzL
      · rcases List.mem_append.1 hz with hz | hz
        · exact hh' z hz
        · obtain ⟨hne, hzL⟩ := hrestne z (.inr hz)
          rw [hO.block z.1 (hM.lt hzL) (fun hm => hne z.1 (by simpa using hm) rfl)]
          exact hM.holds z hzL
    · rw [hL']
      cases hse : s' with
      | none =>
        simp only [slL, List.nil_append]
        have : (A' ++ B').Sublist (A' ++ (slL s xs e size ++ B')) := List.Sublist.append_left (List.sublist_append_right _ _) _
        exact List.Sublist.nodup (this.map _) hnd
      | some gc =>
        obtain ⟨g', cp'⟩ := gc
        have hn := hsnew g' (by rw [hse]; rfl)
        have hfree : ∀ z, z ∈ A' ∨ z ∈ B' → z.1 ≠ g' := fun z hz e => by
          obtain ⟨hne, hzL⟩ := hrestne z hz
          rcases hn.2 with h2 | h2
          · exact hne g' h2 e
          · have := hM.lt hzL
            omega
        have hAB : ((A' ++ B').map (·.1)).Nodup := by
          have : (A' ++ B').Sublist (A' ++ (slL s xs e size ++ B')) := List.Sublist.append_left (List.sublist_append_right _ _) _
          exact List.Sublist.nodup (this.map _) hnd
        simp only [List.map_append, List.nodup_append, List.mem_map] at hAB
        simp only [slL, List.map_append, List.map_cons, List.map_nil, List.nodup_append, List.mem_append, List.mem_cons, List.mem_map, List.cons_append, List.nil_append, List.nodup_cons]
        refine ⟨hAB.1, ⟨fun ⟨z, hz, e⟩ => hfree z (.inr hz) e, hAB.2.1⟩, fun k hk u hu => ?_⟩
        obtain ⟨z, hz, rfl⟩ := hk
        rcases hu with rfl | hu
        · exact hfree z (.inl hz)
        · exact hAB.2.2 z.1 ⟨z, hz, rfl⟩ u hu
    · rw [hL'] at hz
      rcases List.mem_append.1 hz with hz | hz
      · exact hM.own z (hrestne z (.inl hz)).2 h1
      · rcases List.mem_append.1 hz with hz | hz
        · cases hse : s' with
          | none => rw [hse] at hz; cases hz
          | some gc =>
            obtain ⟨g', cp'⟩ := gc
            rw [hse] at hz
            obtain rfl := List.mem_singleton.1 hz
            exact (hsnew g' (by rw [hse]; rfl)).1
        · exact hM.own z (hrestne z (.inr hz)).2 h1
  refine wpSeq_turns hc hw hrun (.inl rfl) (fun h2 hh => ?_) (h w' s' hM' hk' (fun hp e => ?_) fun hs0 e => ?_)
  · refine ⟨hM'.only, ?_⟩
    rcases hS h2 with rfl | rfl
    · exact nofun
    · exact hh.has.below (hO.to_below (Nat.le_refl _) (by simp))
  · subst e
    have := hk'.2
    simp only at this
    omega
  · subst e
    rw [hb', hob] at hat
    rcases hat with h1 | h1
    · cases s with
      | none => exact hs0 rfl
      | some _ => cases h1
    · cases h1
/-- Elements are appended to a slice of the call's own. -/
theorem St.append (hx : o.op = .call { callee := .builtin .append, args := #[x, y], argTypes := #[t, t] }) (hM : St w0 F w L) (hc : (c == 2 || c == 3) = true) (hw : Region.wanted o (yielded ops a.tmps) = true) {s : Option (Nat × Nat)} {n : Nat} (hs : a.eval x = slV s n) {ad : Addr} {m cap : Nat} (hy : a.eval y = .slice (some ad) m cap) {size bytes : Nat} (hE : elemIn elemTab t = some (e, size, bytes)) (hB : appB P t e size bytes = true)
    {xs news : List Value} {L' : Option (Nat × Nat) → List Ent} (hL : ∀ s', Swap L (slL s xs e size) (slL s' (xs ++ news) e size) (L' s')) (hk : SlOK s n xs size) (hl : news.length = m * size) (hnews : ∀ j u, news[j]? = some u → w.cell? (ad.add j) = some u) (h1 : news.all (·.oneCell') = true) (h63 : n + m ≤ maxLen) (hby : (n + m) * bytes ≤ 140737488355328)
    (hS : c = 2 → Lr = [] ∨ s = none) (h : ∀ w' s', St w0 F w' (L' s') → SlOK s' (n + m) (xs ++ news) size → (0 < n + m → s' ≠ none) → wpSeq P ops K (Held w0 F Lr) l (a.put o.dst (slV s' (n + m))) w') : wpSeq P ops K (Held w0 F Lr) ((o, c) :: l) a w := by
  obtain ⟨i, z, e1, e2, e3, e4, e5, e6, e7⟩ := appB_spec hB
  obtain ⟨A, B, hA, -⟩ := (hL none).split
  have hown : w.ownsRow 0 e size (slV s n) n xs := ownsRow_of (fun z hz => hM.holds z (by rw [hA]; simp [hz])) hk
  obtain ⟨v', w', hr, ho', hg, -, hat⟩ := run_append_own_at (P := P) w 0 t o.type e i z size bytes e1 e2 e3 e4 e5 e6 e7 (slV s n) n xs hown ad m cap news hl hnews (by simpa using h1) h63 hby (Nat.zero_le _)
  refine St.appendCore (v' := v') (w' := w') hM hc hw hL ?_ ho' hg hat hS fun w' s' a1 a2 a3 _ => h w' s' a1 a2 a3
  unfold execOp
  simp only [hx, resolve, invoke, builtin, Sem.run_bind, Sem.run_pure, Result.andThen_ok, List.map_toArray, List.map_cons, List.map_nil, hs, hy, hr]
/-- Elements that are read are appended, or none. -/
theorem St.appendAny (hx : o.op = .call { callee := .builtin .append, args := #[x, y], argTypes := #[t, t] }) (hM : St w0 F w L) (hc : (c == 2 || c == 3) = true) (hw : Region.wanted o (yielded ops a.tmps) = true) {s : Option (Nat × Nat)} {n : Nat} (hs : a.eval x = slV s n) {na : Option Addr} {m cap : Nat} (hy : a.eval y = .slice na m cap) {size bytes : Nat} (hE : elemIn elemTab t = some (e, size, bytes)) (hB : appB P t e size bytes = true)
    {xs news : List Value} {L' : Option (Nat × Nat) → List Ent} (hL : ∀ s', Swap L (slL s xs e size) (slL s' (xs ++ news) e size) (L' s')) (hk : SlOK s n xs size) (hnone : na = none → m = 0 ∧ cap = 0) (hl : news.length = m * size) (hnews : ∀ ad, na = some ad → ∀ j u, news[j]? = some u → w.cell? (ad.add j) = some u) (h1 : news.all (·.oneCell') = true) (h63 : n + m ≤ maxLen) (hby : (n + m) * bytes ≤ 140737488355328)
    (hS : c = 2 → Lr = [] ∨ s = none) (h : ∀ w' s', St w0 F w' (L' s') → SlOK s' (n + m) (xs ++ news) size → (0 < n + m → s' ≠ none) → (s ≠ none → s' ≠ none) → wpSeq P ops K (Held w0 F Lr) l (a.put o.dst (slV s' (n + m))) w') : wpSeq P ops K (Held w0 F Lr) ((o, c) :: l) a w := by
  obtain ⟨i, z, e1, e2, e3, e4, e5, e6, e7⟩ := appB_spec hB
  obtain ⟨A, B, hA, -⟩ := (hL none).split
  have hown : w.ownsRow 0 e size (slV s n) n xs := ownsRow_of (fun z hz => hM.holds z (by rw [hA]; simp [hz])) hk
  cases na with
  | some ad =>
    obtain ⟨v', w', hr, ho', hg, -, hat⟩ := run_append_own_at (P := P) w 0 t o.type e i z size bytes e1 e2 e3 e4 e5 e6 e7 (slV s n) n xs hown ad m cap news hl (hnews ad rfl) (by simpa using h1) h63 hby (Nat.zero_le _)
    refine St.appendCore (v' := v') (w' := w') hM hc hw hL ?_ ho' hg hat hS h
    unfold execOp
    simp only [hx, resolve, invoke, builtin, Sem.run_bind, Sem.run_pure, Result.andThen_ok, List.map_toArray, List.map_cons, List.map_nil, hs, hy, hr]
  | none =>
    obtain ⟨rfl, rfl⟩ := hnone rfl
    obtain rfl : news = [] := List.length_eq_zero_iff.1 (by omega)
    have hr := run_append_owned_none (P := P) (w := w) 0 t o.type e i size e1 e2 (slV s n) n xs hown
    refine St.appendCore (v' := slV s n) (w' := w) hM hc hw hL ?_ (by simpa using hown) ⟨rfl, rfl, rfl, Nat.le_refl _, fun _ _ _ => rfl⟩ (.inl rfl) hS h
    unfold execOp
    simp only [hx, resolve, invoke, builtin, Sem.run_bind, Sem.run_pure, Result.andThen_ok, List.map_toArray, List.map_cons, List.map_nil, hs, hy, hr]
/-- What is known of a block is told otherwise. -/
theorem St.weaken {b : Nat} {ow : Bool} {r r' : Res} (hM : St w0 F w L) {L' : List Ent} (hu : Upd L (b, ow, r) (b, ow, r') L') (hr : r.holds w.heap[b]? → r'.holds w.heap[b]?) : St w0 F w L' := by
  refine ⟨hM.only, fun x hx => ?_, ?_, fun x hx hx1 => ?_⟩
  · rcases hu.of_mem hx with rfl | hx
    · exact hr (hM.holds _ hu.mem)
    · exact hM.holds x hx
  · rw [hu.keys rfl]; exact hM.nd
  · rcases hu.of_mem hx with rfl | hx
    · exact hM.own (b, ow, r) hu.mem hx1
    · exact hM.own x hx hx1
theorem Res.toPre {b : Nat} {cs : List Value} {ty : TypeId} {n : Nat} (hn : n = cs.length) (h : (Res.cells cs ty).holds w.heap[b]?) : (Res.pre cs ty n).holds w.heap[b]? := ⟨[], by simpa [Res.holds] using h, by simp [hn]⟩
end
/-! ### Code -/
section
variable {P : Program} {Q : Exit → Act → World → Prop} {a : Act} {w w0 : World} {x y : Code} {F : List Nat} {L : List Ent}
theorem rounds_shut {n : Nat} (h : ∀ K : Act → World → Prop, Shut (∀ a w, Code.rounds P x Q n a w → K a w) → x.wp P (Exit.then K Q) a w) : Code.rounds P x Q (n + 1) a w := h _ fun _ _ h => h
theorem wp_seq_shut (h : ∀ K : Act → World → Prop, Shut (∀ a w, y.wp P Q a w → K a w) → x.wp P (Exit.then K Q) a w) : (Code.seq x y).wp P Q a w := wp_seq (h _ fun _ _ h => h)
/-- A region in the order of the text. -/
theorem wp_text {id : Nat} {os : List Oper} (hM : St w0 F w L) (h : ∀ K : Act → World → Prop, Shut (∀ a w, Q .normal a w → K a w) → wpSeq P os.toArray K (Held w0 F []) (inText os) a w) : (Code.region id os.toArray false).wp P Q a w := wp_region_text _ h
/-- A region that draws: what of all that is known is read by what may come up whenever. -/
theorem wp_drawn {id : Nat} {os : List Oper} {Lr : List Ent} (hM : St w0 F w L) (hs : Sub Lr L) (fl : List Nat) (l : List (Nat × Nat)) (hm : P.follows .mixedOrders = true) (hB : ((Region.noSelect os.toArray && (l.length == os.toArray.size && schOK .any os.toArray fl l (Array.replicate os.toArray.size false) true)) && l.all fun x => decide (x.1 < os.length)) = true)
    (h : ∀ w, St w0 F w L → ∀ K : Act → World → Prop, Shut (∀ a w, Q .normal a w → K a w) → wpSeq P os.toArray K (Held w0 F Lr) (opsOf os l) a w) : (Code.region id os.toArray true).wp P Q a w :=
  wp_region_order (Held w0 F Lr) fl l hm hB (hM.held hs.mem).drew (h _ hM.drew)
end
/-! ### What is handed back -/
inductive Outs (P : Program) (L : List Ent) (tmps : Array Value) : List ResultVar → List Value → Prop where
  | nil : Outs P L tmps [] []
  | tmp {t : Tmp} {v : Value} {rs : List ResultVar} {vs : List Value} (h : tmps.getD t undef = v) (r : Outs P L tmps rs vs) : Outs P L tmps (.tmp t :: rs) (v :: vs)
  | one {t : Tmp} {ty : TypeId} {b q : Nat} {ow : Bool} {x : Res} {v : Value} {rs : List ResultVar} {vs : List Value} (hT : sizeIn rowTab ty = none) (h : tmps.getD t undef = .pointer (some ⟨b, q, none⟩)) (hm : (b, ow, x) ∈ L) (hv : x.known[q]? = some v) (h1 : oneB P ty = true) (r : Outs P L tmps rs vs) : Outs P L tmps (.cell t ty :: rs) (v :: vs)
  | row {t : Tmp} {ty ty' : TypeId} {b : Nat} {ow : Bool} {cs : List Value} {rs : List ResultVar} {vs : List Value} {n : Nat} (hT : sizeIn rowTab ty = some n) (h : tmps.getD t undef = .pointer (some ⟨b, 0, none⟩)) (hm : (b, ow, .cells cs ty') ∈ L) (h1 : rowB P ty cs.length = true) (r : Outs P L tmps rs vs) : Outs P L tmps (.cell t ty :: rs) (.agg cs.toArray :: vs)
def tup : List Value → Value
  | [v] => v
  | vs => .tuple vs.toArray
section
variable {P : Program} {w w0 : World} {F : List Nat} {L : List Ent} {a : Act} {fn : Func} {R : Ending → World → Prop} {rs : List ResultVar} {vs : List Value}
def outOf (tmps : Array Value) : ResultVar → Sem Value
  | .tmp t => Pure.pure (tmps.getD t undef)
  | .cell a t => do loadVar t (← asAddr (tmps.getD a undef))
theorem results_eq (fn : Func) (tmps : Array Value) : results fn tmps = (do
    let vs ← fn.results.mapM (outOf tmps)
    Pure.pure (if h : vs.size = 1 then vs[0] else .tuple vs)) := by
  unfold results
  congr 2
theorem run_outs {tmps : Array Value} (hM : St w0 F w L) (h : Outs P L tmps rs vs) : (rs.mapM (m := Sem) (outOf tmps)).run P w = .ok vs w := by
  induction h with
  | nil => rfl
  | @tmp t v rs vs h r ih =>
    rw [List.mapM_cons, Sem.run_bind]
    simp only [outOf, h, Sem.run_pure, Result.andThen_ok, Sem.run_bind, ih]
  | @one t ty b q ow x v rs vs hT h hm hv h1 r ih =>
    have hA : (asAddr (tmps.getD t undef)).run P w = .ok ⟨b, q, none⟩ w := by rw [h]; rfl
    rw [List.mapM_cons, Sem.run_bind]
    simp only [outOf, hA, Sem.run_pure, Result.andThen_ok, Sem.run_bind, ih, run_loadVar_one h1 (Res.cell (hM.holds _ hm) hv)]
  | @row t ty ty' b ow cs rs vs n hT h hm h1 r ih =>
    obtain ⟨d, e1, e2, e3⟩ := rowB_spec h1
    have hA : (asAddr (tmps.getD t undef)).run P w = .ok ⟨b, 0, none⟩ w := by rw [h]; rfl
    rw [List.mapM_cons, Sem.run_bind]
    simp only [outOf, hA, Sem.run_pure, Result.andThen_ok, Sem.run_bind, ih, run_loadVar_mid w b 0 ty cs d (hM.blk hm).range e1 e2 e3]
theorem run_results (hM : St w0 F w L) (hr : fn.results = rs.toArray) (h : Outs P L a.tmps rs vs) : (results fn a.tmps).run P w = .ok (tup vs) w := by
  rw [results_eq, hr, Sem.run_bind, List.mapM_toArray, Sem.run_map, run_outs hM h]
  match vs with
  | [] => rfl
  | [v] => rfl
  | v :: u :: r => rfl
theorem St.ret (hM : St w0 F w L) (hr : fn.results = rs.toArray) (h : Outs P L a.tmps rs vs) (hd : a.defers = []) (hR : R (.returned (tup vs)) w) : bodyPost P fn R .ret a w := ⟨hd, _, run_results hM hr h, hR⟩
theorem St.fin (hM : St w0 F w L) (hr : fn.results = rs.toArray) (h : Outs P L a.tmps rs vs) (hd : a.defers = []) (hR : R (.returned (tup vs)) w) : bodyPost P fn R .normal a w := ⟨hd, _, run_results hM hr h, hR⟩
end
/-! ### Calls that turn what is known -/
section
variable {w0 w w' : World} {F G : List Nat} {L L' M : List Ent} {b : Nat}
/-- What a callee is handed. -/
theorem St.lend (h : St w0 F w L) (hs : ∀ x ∈ M, x ∈ L) (hnd : (M.map (·.1)).Nodup) (hG : ∀ x ∈ M, x.2.1 = true → x.1 ∈ G) : St w G w M :=
  ⟨Only.refl G w, fun x hx => h.holds x (hs x hx), hnd, fun x hx h1 => .inl (hG x hx h1)⟩
/-- One block, to be written. -/
theorem St.lend1 (h : St w0 F w L) {r : Res} (hm : (b, true, r) ∈ L) : St w [b] w [(b, true, r)] := by
  refine h.lend (fun x hx => ?_) (by simp) (fun x hx _ => ?_)
  · rcases List.mem_singleton.1 hx with rfl
    exact hm
  · rcases List.mem_singleton.1 hx with rfl
    exact List.mem_singleton.2 rfl
/-- One block, to be read. -/
theorem St.show1 (h : St w0 F w L) {r : Res} {o : Bool} (hm : (b, o, r) ∈ L) : St w [] w [(b, false, r)] := by
  refine ⟨Only.refl [] w, fun x hx => ?_, by simp, fun x hx h1 => ?_⟩
  · rcases List.mem_singleton.1 hx with rfl
    exact h.holds (b, o, r) hm
  · rcases List.mem_singleton.1 hx with rfl
    cases h1
/-- An entry is taken out. -/
inductive Del : List Ent → Ent → List Ent → Prop where
  | head {x : Ent} {L : List Ent} : Del (x :: L) x L
  | tail {x y : Ent} {L L' : List Ent} (h : Del L x L') : Del (y :: L) x (y :: L')
/-- Some entries, to be read. -/
inductive View : List Ent → List Ent → Prop where
  | nil {L : List Ent} : View [] L
  | cons {b : Nat} {o : Bool} {r : Res} {L L' M : List Ent} (h : Del L (b, o, r) L') (t : View M L') : View ((b, false, r) :: M) L
theorem Del.mem {L L' : List Ent} {x : Ent} (h : Del L x L') : x ∈ L ∧ (∀ y ∈ L', y ∈ L) ∧ ((L.map (·.1)).Nodup → (L'.map (·.1)).Nodup ∧ ∀ y ∈ L', y.1 ≠ x.1) := by
  induction h with
  | @head x L =>
    refine ⟨.head _, fun y h => .tail _ h, fun hnd => ?_⟩
    simp only [List.map_cons, List.nodup_cons] at hnd
    exact ⟨hnd.2, fun y hy e => hnd.1 (e ▸ List.mem_map_of_mem hy)⟩
  | @tail x y L L' h ih =>
    obtain ⟨h1, h2, h3⟩ := ih
    refine ⟨.tail _ h1, fun z hz => ?_, fun hnd => ?_⟩
    · rcases List.mem_cons.1 hz with rfl | hz
      · exact .head _
      · exact .tail _ (h2 z hz)
    · simp only [List.map_cons, List.nodup_cons] at hnd
      obtain ⟨g1, g2⟩ := h3 hnd.2
      refine ⟨?_, fun z hz => ?_⟩
      · simp only [List.map_cons, List.nodup_cons]
        refine ⟨fun hm => ?_, g1⟩
        obtain ⟨u, hu, e⟩ := List.mem_map.1 hm
        exact hnd.1 (e ▸ List.mem_map_of_mem (h2 u hu))
      · rcases List.mem_cons.1 hz with rfl | hz
        · exact fun e => hnd.1 (e ▸ List.mem_map_of_mem h1)
        · exact g2 z hz
theorem View.spec {M L : List Ent} (h : View M L) (hnd : (L.map (·.1)).Nodup) : (∀ x ∈ M, x.2.1 = false ∧ ∃ o, (x.1, o, x.2.2) ∈ L) ∧ (M.map (·.1)).Nodup := by
  induction h with
  | nil => exact ⟨nofun, List.nodup_nil⟩
  | @cons b o r L L' M hd _ ih =>
    obtain ⟨h1, h2, h3⟩ := hd.mem
    obtain ⟨g1, g2⟩ := h3 hnd
    obtain ⟨i1, i2⟩ := ih g1
    refine ⟨fun x hx => ?_, ?_⟩
    · rcases List.mem_cons.1 hx with rfl | hx
      · exact ⟨rfl, o, h1⟩
      · obtain ⟨j1, o', j2⟩ := i1 x hx
        exact ⟨j1, o', h2 _ j2⟩
    · simp only [List.map_cons, List.nodup_cons]
      refine ⟨fun hm => ?_, i2⟩
      obtain ⟨u, hu, e⟩ := List.mem_map.1 hm
      obtain ⟨-, o', j2⟩ := i1 u hu
      exact g2 _ j2 e
theorem St.view (h : St w0 F w L) (hv : View M L) : St w [] w M := by
  obtain ⟨h1, h2⟩ := hv.spec h.nd
  refine ⟨Only.refl [] w, fun x hx => ?_, h2, fun x hx hx1 => ?_⟩
  · obtain ⟨-, o, hm⟩ := h1 x hx
    exact h.holds (x.1, o, x.2.2) hm
  · rw [(h1 x hx).1] at hx1; cases hx1
/-- A callee turned one block. -/
theorem St.back1 (h : St w0 F w L) {r r' : Res} {o : Bool} (hu : Upd L (b, true, r) (b, true, r') L') (h' : St w [b] w' [(b, o, r')]) : St w0 F w' L' :=
  h.turn hu h'.only (h'.holds (b, o, r') (by simp))
/-- A callee made one block. -/
theorem St.made1 (h : St w0 F w L) {r : Res} {o : Bool} (hb : w.heap.size ≤ b) (h' : St w [] w' [(b, o, r)]) : St w0 F w' ((b, true, r) :: L) := by
  have hbl : Below w.heap.size w w' := h'.only.to_below (Nat.le_refl _) (by simp)
  refine (h.below hbl).learn (h'.holds (b, o, r) (by simp)) (fun x hx e => ?_) (fun _ => .inr (Nat.le_trans h.only.size hb))
  have := h.lt hx
  omega
theorem St.to_below (h : St w0 [] w L) : Below w0.heap.size w0 w := h.only.to_below (Nat.le_refl _) (by simp)
end
end Go.Proofs.YtcicjklhbnipcaaGreatDoor
