/-
  Texts laid one behind the other: what MorZ asks for.
-/
import Derived.Test.YtcicjklhbnipcaaGreatDoorPkMoB
import Derived.Laws.StructEq
namespace Go.Proofs.YtcicjklhbnipcaaGreatDoor
set_option linter.unusedVariables false
set_option linter.unusedSimpArgs false
open Go.RowKit Go.Maps

/-- A file system: its inodes, and the handles of owners, by their numbers. -/
structure FsD where
  t : TabD
  h : List (Int × List Int)
/-- What an operation is answered. -/
structure ResD where
  err : Int
  n : Int
  data : ByteArray
  names : List ByteArray
namespace Fs
def z9 : List Int := [0, 0, 0, 0, 0, 0, 0, 0, 0]
def hOf (h : List (Int × List Int)) (o : Int) : List Int :=
  match h.find? fun p => p.1 == o with
  | some p => p.2
  | none => z9
def ins (x : Int × List Int) : List (Int × List Int) → List (Int × List Int)
  | [] => [x]
  | y :: r => if x.1 < y.1 then x :: y :: r else y :: ins x r
def del (h : List (Int × List Int)) (o : Int) : List (Int × List Int) := h.filter fun p => !(p.1 == o)
def put (h : List (Int × List Int)) (o : Int) (l : List Int) : List (Int × List Int) := ins (o, l) (del h o)
/-- The least free handle; 0: there is none. -/
def free (d : FsD) (o : Int) : Nat := (1 + Lib.idxOf ((hOf d.h o).drop 1) 0).toNat
/-- What names lead to. -/
def walkL (t : TabD) : Int → List ByteArray → Int × Int
  | id, [] => (id, 0)
  | id, s :: r => if In.findE t id s = 0 then walkL t (In.findN t id s) r else (0, In.findE t id s)
def walk (d : FsD) (p : ByteArray) : Int × Int := walkL d.t 1 (Pt.parts p)
def at_ (d : FsD) (p : ByteArray) : (Int × ByteArray) × Int := (((walk d (Pt.split p).1).1, (Pt.split p).2), (walk d (Pt.split p).1).2)
def errR (e : Int) : ResD := ⟨e, 0, ⟨#[]⟩, []⟩
def gives (d : FsD) (o id : Int) : ResD × FsD :=
  if (In.hold d.t id).1 = 0 then (⟨0, (free d o : Int), ⟨#[]⟩, []⟩, ⟨(In.hold d.t id).2, put d.h o ((hOf d.h o).set (free d o) id)⟩)
  else (errR (In.hold d.t id).1, ⟨(In.hold d.t id).2, d.h⟩)
/-- An owner has these handles; who has none goes. -/
def shut (h : List (Int × List Int)) (o : Int) (l : List Int) : List (Int × List Int) := if l = z9 then del (put h o l) o else put h o l
theorem shut_yes {l : List Int} (e : l = z9) (h : List (Int × List Int)) (o : Int) : shut h o l = del (put h o l) o := if_pos e
theorem shut_no {l : List Int} (e : ¬ l = z9) (h : List (Int × List Int)) (o : Int) : shut h o l = put h o l := if_neg e
def closes (d : FsD) (o : Int) (n : Nat) : FsD := ⟨(In.drop d.t ((hOf d.h o).getD n 0)).2, shut d.h o ((hOf d.h o).set n 0)⟩
/-- Which file a handle holds. -/
def held (d : FsD) (o H : Int) : Int := if 1 ≤ H ∧ H ≤ 8 then (hOf d.h o).getD H.toNat 0 else 0
def handled (d : FsD) (o : Int) (p : OpD) : ResD × FsD :=
  if held d o p.h = 0 then (errR 13, d)
  else if p.kind = 5 then (errR 0, closes d o p.h.toNat)
  else if p.kind = 6 then (⟨In.readE d.t (held d o p.h) p.at_ p.n, 0, In.read d.t (held d o p.h) p.at_ p.n, []⟩, d)
  else if p.kind = 7 then (errR (In.write d.t (held d o p.h) p.at_ p.data).1, ⟨(In.write d.t (held d o p.h) p.at_ p.data).2, d.h⟩)
  else if p.kind = 8 then (errR (In.trunc d.t (held d o p.h) p.n).1, ⟨(In.trunc d.t (held d o p.h) p.n).2, d.h⟩)
  else (⟨In.readE d.t (held d o p.h) 0 1048576, (In.read d.t (held d o p.h) 0 1048576).size, ⟨#[]⟩, []⟩, d)
def opens (d : FsD) (o : Int) (p : OpD) : ResD × FsD :=
  if free d o = 0 then (errR 5, d)
  else if (at_ d p.path).2 ≠ 0 then (errR (at_ d p.path).2, d)
  else if p.kind = 3 then
    (if (In.make d.t (at_ d p.path).1.1 (at_ d p.path).1.2 false).2.1 ≠ 0 then (errR (In.make d.t (at_ d p.path).1.1 (at_ d p.path).1.2 false).2.1, ⟨(In.make d.t (at_ d p.path).1.1 (at_ d p.path).1.2 false).2.2, d.h⟩)
     else gives ⟨(In.make d.t (at_ d p.path).1.1 (at_ d p.path).1.2 false).2.2, d.h⟩ o (In.make d.t (at_ d p.path).1.1 (at_ d p.path).1.2 false).1)
  else if In.findE d.t (at_ d p.path).1.1 (at_ d p.path).1.2 ≠ 0 then (errR (In.findE d.t (at_ d p.path).1.1 (at_ d p.path).1.2), d)
  else gives d o (In.findN d.t (at_ d p.path).1.1 (at_ d p.path).1.2)
/-- An operation on names. -/
def namedAt (d : FsD) (p : OpD) (dir : Int) (s : ByteArray) : Int × TabD :=
  if p.kind = 1 then ((In.make d.t dir s true).2.1, (In.make d.t dir s true).2.2)
  else if p.kind = 2 then In.remove d.t dir s
  else if p.kind = 11 then In.unlink d.t dir s
  else if p.kind = 10 then
    (if In.findE d.t dir s ≠ 0 then (In.findE d.t dir s, d.t)
     else if (at_ d p.dest).2 ≠ 0 then ((at_ d p.dest).2, d.t)
     else In.link d.t (In.findN d.t dir s) (at_ d p.dest).1.1 (at_ d p.dest).1.2)
  else if (at_ d p.dest).2 ≠ 0 then ((at_ d p.dest).2, d.t)
  else In.rename d.t dir s (at_ d p.dest).1.1 (at_ d p.dest).1.2
def named (d : FsD) (p : OpD) : Int × TabD := if (at_ d p.path).2 ≠ 0 then ((at_ d p.path).2, d.t) else namedAt d p (at_ d p.path).1.1 (at_ d p.path).1.2
def lists (d : FsD) (p : ByteArray) : ResD :=
  if (walk d p).2 ≠ 0 then errR (walk d p).2 else ⟨In.listE d.t (walk d p).1, 0, ⟨#[]⟩, In.list d.t (walk d p).1⟩
def do_ (d : FsD) (o : Int) (p : OpD) : ResD × FsD :=
  if Pt.right p = false then (errR 1, d)
  else if p.kind = 3 ∨ p.kind = 4 then opens d o p
  else if p.kind = 5 ∨ p.kind = 6 ∨ p.kind = 7 ∨ p.kind = 8 ∨ p.kind = 9 then handled d o p
  else if p.kind = 13 then (lists d p.path, d)
  else (errR (named d p).1, ⟨(named d p).2, d.h⟩)
/-- Handles of an owner are closed, from this one on. -/
def exitL (o : Int) : List Int → Nat → FsD → FsD
  | [], _, d => d
  | i :: r, n, d => exitL o r (n + 1) (if i ≠ 0 then closes d o n else d)
def exit (d : FsD) (o : Int) : FsD := exitL o (hOf d.h o) 0 d
def new (q : Int) : FsD := ⟨In.new q, []⟩
/-- What is always so. -/
structure Inv (N : Nat) (d : FsD) : Prop where
  tbl : In.Inv N d.t
  rows : ∀ p ∈ d.h, p.2.length = 9 ∧ ∀ i ∈ p.2, 0 ≤ i ∧ i ≤ 4611686018427387904
  len : d.h.length ≤ N
end Fs
/-! ### handles in memory -/
def rowV (l : List Int) : Value := .agg (l.map (Value.int .i64)).toArray
def handL (h : List (Int × List Int)) : List (Lit × Value) := h.map fun p => (.int .i64 p.1, rowV p.2)
theorem look_hand (h : List (Int × List Int)) (o : Int) : lookL (handL h) (.int .i64 o) (rowV Fs.z9) = rowV (Fs.hOf h o) := by
  unfold lookL handL Fs.hOf
  rw [List.find?_map]
  rw [show (fun p : Lit × Value => p.1.sameKey (.int .i64 o)) ∘ (fun p : Int × List Int => (Lit.int .i64 p.1, rowV p.2)) = fun p => p.1 == o from by
    funext p
    show decide (IntKind.i64 = IntKind.i64 ∧ p.1 = o) = (p.1 == o)
    simp [Bool.beq_eq_decide_eq]]
  cases h.find? fun p => p.1 == o <;> rfl
theorem del_hand (h : List (Int × List Int)) (o : Int) : delL (.int .i64 o) (handL h) = handL (Fs.del h o) := by
  unfold delL handL Fs.del
  rw [List.filter_map]
  congr 2
  funext p
  show (!decide (IntKind.i64 = IntKind.i64 ∧ p.1 = o)) = !(p.1 == o)
  simp [Bool.beq_eq_decide_eq]
theorem ins_hand (o : Int) (l : List Int) : ∀ h : List (Int × List Int), insL (.int .i64 o, rowV l) (handL h) = handL (Fs.ins (o, l) h)
  | [] => rfl
  | y :: r => by
    have ih := ins_hand o l r
    unfold handL at ih ⊢
    simp only [List.map_cons, insL, Fs.ins]
    rw [ih]
    have e : (Lit.int .i64 o).before (.int .i64 y.1) = decide (o < y.1) := by simp [Lit.before]
    rw [e]
    by_cases h : o < y.1
    · simp [h]
    · simp [h]
theorem put_hand (h : List (Int × List Int)) (o : Int) (l : List Int) : putL (.int .i64 o) (rowV l) (handL h) = handL (Fs.put h o l) := by
  unfold putL Fs.put
  rw [del_hand, ins_hand]
namespace Fs
theorem hOf_row {N : Nat} {d : FsD} (h : Inv N d) (o : Int) : (hOf d.h o).length = 9 ∧ ∀ i ∈ hOf d.h o, 0 ≤ i ∧ i ≤ 4611686018427387904 := by
  unfold hOf
  cases hf : d.h.find? fun p => p.1 == o with
  | none =>
    refine ⟨rfl, fun i hi => ?_⟩
    unfold z9 at hi
    simp at hi
    omega
  | some p => exact h.rows p (List.mem_of_find?_eq_some hf)
theorem mem_ins {x p : Int × List Int} : ∀ {h}, p ∈ ins x h ↔ p = x ∨ p ∈ h
  | [] => by simp [ins]
  | y :: r => by
    unfold ins
    split
    · simp
    · simp only [List.mem_cons, mem_ins (h := r)]
      constructor <;> (intro h; rcases h with h | h | h <;> simp [h])
theorem len_ins (x : Int × List Int) : ∀ h, (ins x h).length = h.length + 1
  | [] => rfl
  | y :: r => by
    unfold ins
    split
    · simp
    · simp [len_ins x r]
theorem len_put (h : List (Int × List Int)) (o : Int) (l : List Int) : (put h o l).length ≤ h.length + 1 := by
  unfold put
  rw [len_ins]
  have : (del h o).length ≤ h.length := List.length_filter_le _ _
  omega
theorem rows_put {h : List (Int × List Int)} (hr : ∀ p ∈ h, p.2.length = 9 ∧ ∀ i ∈ p.2, 0 ≤ i ∧ i ≤ 4611686018427387904) {o : Int} {l : List Int} (hl : l.length = 9 ∧ ∀ i ∈ l, 0 ≤ i ∧ i ≤ 4611686018427387904) :
    ∀ p ∈ put h o l, p.2.length = 9 ∧ ∀ i ∈ p.2, 0 ≤ i ∧ i ≤ 4611686018427387904 := fun p hp => by
  rcases mem_ins.1 hp with rfl | hp
  · exact hl
  · exact hr p (List.mem_filter.1 hp).1
theorem rows_del {h : List (Int × List Int)} (hr : ∀ p ∈ h, p.2.length = 9 ∧ ∀ i ∈ p.2, 0 ≤ i ∧ i ≤ 4611686018427387904) (o : Int) : ∀ p ∈ del h o, p.2.length = 9 ∧ ∀ i ∈ p.2, 0 ≤ i ∧ i ≤ 4611686018427387904 := fun p hp => hr p (List.mem_filter.1 hp).1
theorem idxFrom_lt (x : Int) : ∀ (l : List Int) (i : Nat), -1 ≤ Lib.idxFrom l x i ∧ Lib.idxFrom l x i < (i + l.length : Nat)
  | [], i => by simp [Lib.idxFrom]; omega
  | y :: r, i => by
    have ih := idxFrom_lt x r (i + 1)
    unfold Lib.idxFrom
    split
    · simp only [List.length_cons]; omega
    · simp only [List.length_cons]; omega
theorem idx_lt {d : FsD} {N : Nat} (h : Inv N d) (o : Int) : -1 ≤ Lib.idxOf ((hOf d.h o).drop 1) 0 ∧ Lib.idxOf ((hOf d.h o).drop 1) 0 < 8 := by
  have h9 := (hOf_row h o).1
  have := idxFrom_lt 0 ((hOf d.h o).drop 1) 0
  rw [List.length_drop, h9] at this
  unfold Lib.idxOf
  omega
theorem free_le {d : FsD} {N : Nat} (h : Inv N d) (o : Int) : free d o ≤ 8 := by
  have := idx_lt h o
  unfold free
  omega
end Fs
end Go.Proofs.YtcicjklhbnipcaaGreatDoor
namespace Go.Proofs.YtcicjklhbnipcaaGreatDoor
set_option linter.unusedVariables false
set_option linter.unusedSimpArgs false
open Go.RowKit Go.Maps

def nodeL (β : Int → Nat × Nat) (n : NodeD) : List Ent :=
  [((β n.id).1, true, .cells [.bool n.dir, .int .i64 n.links, .int .i64 n.holds, .string n.data, .map (some (β n.id).2)] 166), ((β n.id).2, true, mapR Tryz.prog 9 (namesL n.names))]
def tblE (g mb : Nat) (t : TabD) : Ent := (g, true, .cells [.int .i64 t.quota, .int .i64 t.used, .int .i64 t.last, .map (some mb)] 162)
/-- A table's blocks. -/
def tblL (g mb : Nat) (β : Int → Nat × Nat) (t : TabD) : List Ent := tblE g mb t :: (mb, true, mapR Tryz.prog 3 (nodesL β t.nodes)) :: t.nodes.flatMap (nodeL β)
section
variable {w w' : World} {g mb : Nat} {β : Int → Nat × Nat} {t t' : TabD}
theorem tblL_keys : keysOf (tblL g mb β t) = foot g mb β t.nodes := by
  unfold keysOf tblL foot tblE
  simp only [List.map_cons, List.cons.injEq, true_and]
  rw [List.map_flatMap]
  rfl
theorem tblL_flag : flagged (tblL g mb β t) := fun x hx => by
  unfold tblL at hx
  rcases List.mem_cons.1 hx with rfl | hx
  · rfl
  rcases List.mem_cons.1 hx with rfl | hx
  · rfl
  obtain ⟨n, hn, hx⟩ := List.mem_flatMap.1 hx
  unfold nodeL at hx
  simp only [List.mem_cons, List.not_mem_nil, or_false] at hx
  rcases hx with rfl | rfl <;> rfl
theorem TblAt.at_ (h : TblAt w g mb β t) : At (tblL g mb β t) w := by
  refine ⟨fun x hx => ?_, by rw [tblL_keys]; exact h.apart⟩
  unfold tblL at hx
  rcases List.mem_cons.1 hx with rfl | hx
  · exact h.row
  rcases List.mem_cons.1 hx with rfl | hx
  · exact mapR_of h.map
  obtain ⟨n, hn, hx⟩ := List.mem_flatMap.1 hx
  unfold nodeL at hx
  simp only [List.mem_cons, List.not_mem_nil, or_false] at hx
  rcases hx with rfl | rfl
  · exact (h.node n hn).row
  · exact mapR_of (h.node n hn).names
theorem At.tbl (h : At (tblL g mb β t) w) : TblAt w g mb β t where
  row := h.has (tblE g mb t) (by unfold tblL; exact .head _)
  map := mapR_at (k := 3) (P := Tryz.prog) (h.has (mb, true, mapR Tryz.prog 3 (nodesL β t.nodes)) (by unfold tblL; exact .tail _ (.head _)))
  node := fun n hn => by
    have h1 := h.has ((β n.id).1, true, .cells [.bool n.dir, .int .i64 n.links, .int .i64 n.holds, .string n.data, .map (some (β n.id).2)] 166) (by
      unfold tblL; refine .tail _ (.tail _ (List.mem_flatMap.2 ⟨n, hn, ?_⟩)); unfold nodeL; exact .head _)
    have h2 := h.has ((β n.id).2, true, mapR Tryz.prog 9 (namesL n.names)) (by
      unfold tblL; refine .tail _ (.tail _ (List.mem_flatMap.2 ⟨n, hn, ?_⟩)); unfold nodeL; exact .tail _ (.head _))
    exact ⟨h1, mapR_at h2⟩
  apart := by have := h.nd; rwa [tblL_keys] at this
theorem Goes.st (h : Goes w g mb β t w' t') : ∃ β', St w (keysOf (tblL g mb β t)) w' (tblL g mb β' t') := by
  obtain ⟨β', h1, h2, h3⟩ := h
  refine ⟨β', by rw [tblL_keys]; exact h2, h1.at_.has, h1.at_.nd, fun x hx _ => ?_⟩
  rw [tblL_keys]
  refine h3 x.1 ?_
  rw [← tblL_keys]
  exact List.mem_map_of_mem hx
theorem Step.st (h : Step w w' g mb β t t') : ∃ β', St w (keysOf (tblL g mb β t)) w' (tblL g mb β' t') := h.goes.st
end
end Go.Proofs.YtcicjklhbnipcaaGreatDoor
namespace Go.Proofs.YtcicjklhbnipcaaGreatDoor
set_option linter.unusedVariables false
set_option linter.unusedSimpArgs false
open Go.RowKit Go.Maps

/-- Where a file system lies, but for its inodes. -/
structure FsX where
  f : Nat
  hb : Nat
  g : Nat
  mb : Nat
def fsL (x : FsX) (β : Int → Nat × Nat) (d : FsD) : List Ent := (x.f, true, .cells [.pointer (some ⟨x.g, 0, none⟩), .map (some x.hb)] 44) :: (x.hb, true, mapR Tryz.prog 3 (handL d.h)) :: tblL x.g x.mb β d.t
theorem fsL_flag (x : FsX) (β : Int → Nat × Nat) (d : FsD) : flagged (fsL x β d) := fun y hy => by
  unfold fsL at hy
  rcases List.mem_cons.1 hy with rfl | hy
  · rfl
  rcases List.mem_cons.1 hy with rfl | hy
  · rfl
  exact tblL_flag y hy
/-- A file system that is right stands here. -/
structure FsAt (N : Nat) (x : FsX) (β : Int → Nat × Nat) (d : FsD) (w : World) : Prop where
  at_ : At (fsL x β d) w
  inv : Fs.Inv N d
  mx : Mx w
  zero : 0 ∉ keysOf (fsL x β d)
section
variable {N : Nat} {x : FsX} {β : Int → Nat × Nat} {d : FsD} {w w' w0 : World} {F : List Nat} {L L' M' : List Ent}
theorem FsAt.below (h : FsAt N x β d w) (hb : Below w.heap.size w w') : FsAt N x β d w' := ⟨h.at_.below hb, h.inv, h.mx.below hb, h.zero⟩
theorem FsAt.tbl (h : FsAt N x β d w) : TblAt w x.g x.mb β d.t := by
  refine At.tbl ⟨fun y hy => h.at_.has y (by unfold fsL; exact .tail _ (.tail _ hy)), ?_⟩
  have := h.at_.nd
  unfold fsL keysOf at this
  simp only [List.map_cons, List.nodup_cons] at this
  exact this.2.2
/-- The file system that a state holds. -/
theorem St.fs (hM : St w0 F w L) (hs : Part L (fsL x β d)) (hI : Fs.Inv N d) (hm : Mx w0) (h0 : 0 ∉ F) : FsAt N x β d w := by
  refine ⟨hM.part hs, hI, hM.mx hm h0, fun h => ?_⟩
  obtain ⟨y, hy, e⟩ := List.mem_map.1 h
  obtain ⟨A, B, rfl⟩ := hs.split
  rcases hM.own y (by simp [hy]) (fsL_flag x β d y hy) with h1 | h1
  · rw [e] at h1; exact h0 h1
  · have := hm.pos
    omega
theorem zero_cell (w : World) : (zeroValue 117).run Tryz.prog w = .ok (rowV Fs.z9) w := by kernel_rfl
set_option maxHeartbeats 4000000 in
set_option maxRecDepth 100000 in
theorem fgiven_any (h : FsAt N x β d w) : Calls Tryz.prog 61 #[.pointer (some ⟨x.f, 0, none⟩)] w fun e w' => e = .returned (.bool true) ∧ w = w' := by
  have hM := h.at_.ro
  unfold fsL at hM
  simp only [List.map_cons, unflag] at hM
  clear h
  go_enter Tryz.func61, Tryz.ntmps61
  (repeat (first | ((with_reducible show wpSeq _ _ _ _ _ _ _); first | ((with_reducible refine wpSeq_nil ?_); refine hKr.out _ _ ?_; clear hKr Kr) | ((first | (refine St.copy (v := ?_) (by first | exact .inl rfl | exact .inr rfl) rfl rfl ?_ ?_; rotate_left; (focus ((try simp only [Act.eval, getD_lit, List.getD_cons_zero, List.getD_cons_succ]); with_reducible rfl))) | (refine St.pure (v := ?_) rfl rfl rfl (fun w => ?_) ?_; rotate_left; (focus (go_simp; all_goals with_reducible rfl))) | refine St.load rfl hM rfl rfl rfl rfl (by repeat constructor) (by rfl) (by kernel_rfl) ?_); (try simp only [Act.put, List.setIfInBounds_toArray, List.set_cons_zero, List.set_cons_succ]))) | (first | (refine wp_seq_shut (fun K hK => ?_)) | (refine wp_text hM (fun Kr hKr => ?_); simp only [inText]) | ((refine hK.out _ _ ?_); clear hK K))))
  (refine wp_ret ?_; (try simp only [Exit.then, Exit.inBlock]); refine St.ret hM rfl (by repeat (first | exact Outs.nil | apply Outs.tmp rfl)) rfl ?_)
  exact ⟨rfl, rfl⟩
theorem Pt.split_small (p : ByteArray) : (Pt.split p).1.size ≤ p.size ∧ (Pt.split p).2.size ≤ p.size := by
  unfold Pt.split
  split
  · exact ⟨Nat.zero_le _, Nat.le_refl _⟩
  · simp only [ByteArray.size_extract]
    omega
theorem row9 {l : List Int} (h : l.length = 9) : ∃ a0 a1 a2 a3 a4 a5 a6 a7 a8, l = [a0, a1, a2, a3, a4, a5, a6, a7, a8] := by
  match l, h with
  | [a0, a1, a2, a3, a4, a5, a6, a7, a8], _ => exact ⟨a0, a1, a2, a3, a4, a5, a6, a7, a8, rfl⟩
set_option maxHeartbeats 4000000 in
set_option maxRecDepth 100000 in
theorem free_any (h : FsAt N x β d w) {o : Int} (ho : Fits o) : Calls Tryz.prog 104 #[.pointer (some ⟨x.f, 0, none⟩), .int .i64 o] w fun e w' => e = .returned (.int .i64 (Fs.free d o)) ∧ Below w.heap.size w w' := by
  have hM := h.at_.ro
  unfold fsL at hM
  simp only [List.map_cons, unflag] at hM
  have hi := Fs.idx_lt h.inv o
  have hfr : ((Fs.free d o : Nat) : Int) = 1 + Lib.idxOf ((Fs.hOf d.h o).drop 1) 0 := by unfold Fs.free; omega
  rw [hfr]
  obtain ⟨a0, a1, a2, a3, a4, a5, a6, a7, a8, hl⟩ := row9 (Fs.hOf_row h.inv o).1
  have hrow : rowV (Fs.hOf d.h o) = .agg #[.int .i64 a0, .int .i64 a1, .int .i64 a2, .int .i64 a3, .int .i64 a4, .int .i64 a5, .int .i64 a6, .int .i64 a7, .int .i64 a8] := by rw [hl]; rfl
  rw [hl] at hi ⊢
  simp only [List.drop_succ_cons, List.drop_zero] at hi ⊢
  clear h hfr hl
  have C := Lib.hid (fun b W hc => Tryz.slices_Index_int b 1 8 8 [a1, a2, a3, a4, a5, a6, a7, a8] 0 W (Nat.le_refl _) (by decide) hc)
  rw [show ([a1, a2, a3, a4, a5, a6, a7, a8] : List Int).take 8 = [a1, a2, a3, a4, a5, a6, a7, a8] from rfl] at C
  generalize hI : Lib.idxOf [a1, a2, a3, a4, a5, a6, a7, a8] 0 = r at *
  clear hI
  have hw : IntKind.i64.wrap (1 + r) = 1 + r := wrap_in _ (by omega)
  have hmx : max 0 (1 + r) = 1 + r := by omega
  go_enter Tryz.func104, Tryz.ntmps104
  (repeat (first | ((with_reducible show wpSeq _ _ _ _ _ _ _); first | ((with_reducible refine wpSeq_nil ?_); refine hKr.out _ _ ?_; clear hKr Kr) | ((first | (refine St.copy (v := ?_) (by first | exact .inl rfl | exact .inr rfl) rfl rfl ?_ ?_; rotate_left; (focus ((try simp only [Act.eval, getD_lit, List.getD_cons_zero, List.getD_cons_succ]); with_reducible rfl))) | (refine St.pure (v := ?_) rfl rfl rfl (fun w => ?_) ?_; rotate_left; (focus (go_simp; all_goals with_reducible rfl))) | refine St.load rfl hM rfl rfl rfl rfl (by repeat constructor) (by rfl) (by kernel_rfl) ?_); (try simp only [Act.put, List.setIfInBounds_toArray, List.set_cons_zero, List.set_cons_succ]))) | (first | (refine wp_seq_shut (fun K hK => ?_)) | (refine wp_text hM (fun Kr hKr => ?_); simp only [inText]) | ((refine hK.out _ _ ?_); clear hK K))))
  ((refine St.lookup rfl hM rfl rfl rfl rfl (by repeat constructor) key_int Tryz.underlying42 zero_cell (keyOf_int_mk Tryz.underlying3 (by assumption)) ((look_hand _ _).trans (by assumption)) ?_); (try simp only [Act.put, List.setIfInBounds_toArray, List.set_cons_zero, List.set_cons_succ]))
  (repeat (first | ((with_reducible show wpSeq _ _ _ _ _ _ _); first | ((with_reducible refine wpSeq_nil ?_); refine hKr.out _ _ ?_; clear hKr Kr) | ((first | (refine St.pure (v := ?_) rfl rfl rfl (fun w => ?_) ?_; rotate_left; (focus (go_simp; all_goals with_reducible rfl))) | ((((refine St.storeRow rfl hM rfl rfl rfl rfl rfl (by repeat constructor) (Nat.le_of_ble_eq_true rfl) (Nat.le_of_ble_eq_true rfl) (by kernel_rfl) rfl ?_ ?_); (focus ((intro h; cases h; done))); clear hM; intro w hM)); (try simp only [Res.put, Res.known, Act.eval, Value.cells, getD_lit, List.getD_cons_zero, List.getD_cons_succ, List.toList_toArray, List.set_cons_zero, List.set_cons_succ, over, Nat.reduceAdd] at hM))); (try simp only [Act.put, List.setIfInBounds_toArray, List.set_cons_zero, List.set_cons_succ])) | (((refine St.alloc (ty := 117) (z := .agg #[.int .i64 0, .int .i64 0, .int .i64 0, .int .i64 0, .int .i64 0, .int .i64 0, .int .i64 0, .int .i64 0, .int .i64 0]) rfl hM rfl rfl (by kernel_rfl) ?_); clear hM; intro w bk hM); (try simp only [Res.put, Res.known, Act.eval, Value.cells, getD_lit, List.getD_cons_zero, List.getD_cons_succ, List.toList_toArray, List.set_cons_zero, List.set_cons_succ, over, Nat.reduceAdd] at hM); (try simp only [Act.put, List.setIfInBounds_toArray, List.set_cons_zero, List.set_cons_succ]))) | (first | (refine wp_seq_shut (fun K hK => ?_)) | (refine wp_text hM (fun Kr hKr => ?_); simp only [inText]) | ((refine hK.out _ _ ?_); clear hK K))))
  (refine St.call rfl rfl rfl (by kernel_rfl) (fun R hR => ?_); simp only [List.map_toArray, List.map_cons, List.map_nil, Act.eval, getD_lit, List.getD_cons_zero, List.getD_cons_succ])
  refine (C.out bk _ (fun j hj => Res.cell (hM.holds _ (.head _)) (by
    have : j = 0 ∨ j = 1 ∨ j = 2 ∨ j = 3 ∨ j = 4 ∨ j = 5 ∨ j = 6 ∨ j = 7 := by simp only [List.length_cons, List.length_nil] at hj; omega
    rcases this with rfl | rfl | rfl | rfl | rfl | rfl | rfl | rfl <;> rfl))).mono ?_
  (rintro e w' ⟨rfl, rfl⟩; refine hR.out _ _ (fun h => h) ?_; clear hR R; (try simp only [Act.put, List.setIfInBounds_toArray, List.set_cons_zero, List.set_cons_succ]))
  (repeat (first | ((with_reducible show wpSeq _ _ _ _ _ _ _); first | ((with_reducible refine wpSeq_nil ?_); refine hKr.out _ _ ?_; clear hKr Kr) | ((first | (refine St.copy (v := ?_) (by exact .inr rfl) rfl rfl ?_ ?_; rotate_left; (focus ((try simp only [Act.eval, getD_lit, List.getD_cons_zero, List.getD_cons_succ]); with_reducible rfl))) | (refine St.pure (v := ?_) rfl rfl rfl (fun w => ?_) ?_; rotate_left; (focus (go_simp; all_goals with_reducible rfl)))); (try simp only [Act.put, List.setIfInBounds_toArray, List.set_cons_zero, List.set_cons_succ]))) | (((refine hK.out _ _ ?_); clear hK K))))
  (refine wp_ret ?_; (try simp only [Exit.then, Exit.inBlock]); refine St.ret hM rfl (by repeat (first | exact Outs.nil | apply Outs.tmp rfl)) rfl ?_)
  exact ⟨rfl, hM.to_below⟩
theorem find_pos {M : Nat} {t : TabD} (I : In.Inv M t) {id : Int} {s : ByteArray} (h : In.findE t id s = 0) : 1 ≤ In.findN t id s ∧ In.findN t id s ≤ M := by
  obtain ⟨e, h1, h2, h3, h4⟩ := In.findE_ok h
  obtain ⟨p, hp, h5⟩ := leads_mem h3
  obtain ⟨n, hn⟩ := I.leads e (find_mem h1).1 p hp
  obtain ⟨hm, hi⟩ := find_mem hn
  have h6 := I.pos n hm
  have h7 := I.last
  rw [h4, ← h5, ← hi]
  omega
theorem walkL_pos {M : Nat} {t : TabD} (I : In.Inv M t) : ∀ (l : List ByteArray) (id : Int), 0 ≤ id ∧ id ≤ M → 0 ≤ (Fs.walkL t id l).1 ∧ (Fs.walkL t id l).1 ≤ M
  | [], id, h => h
  | s :: r, id, h => by
    unfold Fs.walkL
    split
    · rename_i h0
      have := find_pos I h0
      exact walkL_pos I r _ (by omega)
    · show (0 : Int) ≤ 0 ∧ (0 : Int) ≤ M
      omega
set_option maxHeartbeats 4000000 in
set_option maxRecDepth 100000 in
theorem walk_any (h : FsAt N x β d w) (hN : N ≤ 1000000000) (p : ByteArray) (hp : p.size ≤ 1000000) : Calls Tryz.prog 112 #[.pointer (some ⟨x.f, 0, none⟩), .string p] w fun e w' => e = .returned (.tuple #[.int .i64 (Fs.walk d p).1, .int .i64 (Fs.walk d p).2]) ∧ Below w.heap.size w w' := by
  have hM := h.at_.ro
  unfold fsL at hM
  simp only [List.map_cons, unflag] at hM
  have HF := Lib.hid h
  have CP := Lib.hid (Parts_any p w hp h.mx)
  have hsm := Pt.parts_small p
  have hlen : (Pt.parts p).length ≤ 1000001 := Pt.parts_len p hp
  obtain ⟨R0, hR0⟩ : ∃ R0, Fs.walk d p = R0 := ⟨_, rfl⟩
  rw [hR0]
  unfold Fs.walk at hR0
  generalize Pt.parts p = ps at *
  have HS := Lib.hid hsm
  have HR := Lib.hid hR0
  clear hsm hR0 h
  go_enter Tryz.func112, Tryz.ntmps112
  (repeat (first | ((with_reducible show wpSeq _ _ _ _ _ _ _); first | ((with_reducible refine wpSeq_nil ?_); refine hKr.out _ _ ?_; clear hKr Kr) | (((refine St.copy (v := ?_) (by first | exact .inl rfl | exact .inr rfl) rfl rfl ?_ ?_; rotate_left; (focus ((try simp only [Act.eval, getD_lit, List.getD_cons_zero, List.getD_cons_succ]); with_reducible rfl)))); (try simp only [Act.put, List.setIfInBounds_toArray, List.set_cons_zero, List.set_cons_succ]))) | (first | (refine wp_seq_shut (fun K hK => ?_)) | (refine wp_text hM (fun Kr hKr => ?_); simp only [inText]) | ((refine hK.out _ _ ?_); clear hK K))))
  (refine St.call rfl rfl rfl (by kernel_rfl) (fun R hR => ?_); simp only [List.map_toArray, List.map_cons, List.map_nil, Act.eval, getD_lit, List.getD_cons_zero, List.getD_cons_succ])
  refine CP.out.mono ?_
  rintro e w' ⟨s, rfl, hk, hN⟩
  refine hR.out _ _ (fun h => h.below hN.to_below) ?_; clear hR R; replace hM := hM.madeM hN (txL_flag _ _); clear hN CP
  obtain ⟨sa, sc, hsv, hsa⟩ := slV_open hk
  rw [hsv]
  have HK := Lib.hid hk
  clear hk hsv
  (try simp only [Act.put, List.setIfInBounds_toArray, List.set_cons_zero, List.set_cons_succ])
  (repeat (first | ((with_reducible show wpSeq _ _ _ _ _ _ _); first | ((with_reducible refine wpSeq_nil ?_); refine hKr.out _ _ ?_; clear hKr Kr) | ((first | (refine St.copy (v := ?_) (by exact .inl rfl) rfl rfl ?_ ?_; rotate_left; (focus ((try simp only [Act.eval, getD_lit, List.getD_cons_zero, List.getD_cons_succ]); with_reducible rfl))) | (refine St.pure (v := ?_) rfl rfl rfl (fun w => ?_) ?_; rotate_left; (focus (go_simp; all_goals with_reducible rfl)))); (try simp only [Act.put, List.setIfInBounds_toArray, List.set_cons_zero, List.set_cons_succ]))) | (first | refine wp_block ?_ | ((refine hK.out _ _ ?_); clear hK K))))
  go_loopw [6, 14] (fun v i wr => ∃ (k : Nat) (id : Int), k ≤ ps.length ∧ i = .int .i64 k ∧ v = .int .i64 id ∧ (0 ≤ id ∧ id ≤ N) ∧ Fs.walkL d.t id (ps.drop k) = R0 ∧ St w [] wr (txL s ps ++ ((x.f, false, Res.cells [.pointer (some ⟨x.g, 0, none⟩), .map (some x.hb)] 44) :: (x.hb, false, mapR Tryz.prog 3 (handL d.h)) :: List.map unflag (tblL x.g x.mb β d.t)))) (fun _ i _ => ps.length - (intOf i).toNat)
  case atStart => exact ⟨0, 1, by omega, rfl, rfl, ⟨by decide, by have := HF.out.inv.tbl.last; omega⟩, by rw [List.drop_zero]; exact HR.out, hM⟩
  case round =>
    clear hM
    obtain ⟨k, id, hk, rfl, rfl, hid, hwl, hM⟩ := hrel
    have HW := Lib.hid hwl
    have HID := Lib.hid hid
    clear hwl hid
    by_cases hlt : k < ps.length
    · obtain ⟨y, hy⟩ := get_at hlt
      cases s with
      | none => exact absurd HK.out.2 (by omega)
      | some gc =>
      obtain ⟨g, cap⟩ := gc
      obtain ⟨rfl, rfl⟩ := hsa g cap rfl
      have hy' : (ps.map Value.string)[k]? = some (.string y) := by rw [List.getElem?_map, hy]; rfl
      have k1 : (k : Int) < (ps.length : Int) := by omega
      have hys : y.size ≤ maxLen := Nat.le_trans (HS.out y (List.mem_of_getElem? hy)) (by unfold maxLen; omega)
      have C := Lib.hid (fun (W : World) (hb : Below w.heap.size w W) => Find_any (HF.out.below hb).tbl (fit_inv HF.out.inv.tbl hN).q0 (dir := id) (fits_of (by have := HID.out; omega) (by have := HID.out; omega)) hys)
      have hw' := HW.out
      rw [Pt.drop_at hy] at hw'
      unfold Fs.walkL at hw'
      have HW' := Lib.hid hw'
      clear hw' hy hlt hys
      simp only [slL, List.singleton_append, List.cons_append, List.nil_append] at hM
      by_cases h0 : In.findE d.t id y = 0
      · have hp := find_pos HF.out.inv.tbl h0
        have HP := Lib.hid hp
        have e := HW'.out
        rw [if_pos h0] at e
        have HE := Lib.hid e
        rw [h0] at C
        clear hp h0 e
        generalize In.findN d.t id y = id2 at *
        (repeat (first | (first | ((with_reducible show wpSeq _ _ _ _ _ _ _); first | ((with_reducible refine wpSeq_nil ?_); refine hKr.out _ _ ?_; clear hKr Kr) | ((first | (refine St.copy (v := ?_) (by first | exact .inl rfl | exact .inr rfl) rfl rfl ?_ ?_; rotate_left; (focus ((try simp only [Act.eval, getD_lit, List.getD_cons_zero, List.getD_cons_succ]); with_reducible rfl))) | refine St.inc rfl rfl rfl rfl rfl (by omega) ?_ | (refine St.pure (v := ?_) rfl rfl rfl (fun w => ?_) ?_; rotate_left; (focus (go_simp; all_goals with_reducible rfl))) | refine St.load rfl hM rfl rfl rfl rfl (by repeat constructor) (by first | rfl | assumption) (by kernel_rfl) ?_); (try simp only [Act.put, List.setIfInBounds_toArray, List.set_cons_zero, List.set_cons_succ]))) | (first | (refine wp_seq_shut (fun K hK => ?_)) | (refine wp_text hM (fun Kr hKr => ?_); simp only [inText]) | refine wp_block ?_ | refine wp_skip ?_ | (first | refine wp_cond_true rfl ?_ | refine wp_cond_false rfl ?_) | ((refine hK.out _ _ ?_); clear hK K))) | ((refine St.call rfl rfl rfl (by kernel_rfl) (fun R hR => ?_); simp only [List.map_toArray, List.map_cons, List.map_nil, Act.eval, getD_lit, List.getD_cons_zero, List.getD_cons_succ]); ((with_reducible refine (C.out _ hM.to_below).mono ?_); (rintro e w' ⟨rfl, hb⟩; refine hR.out _ _ (fun h => h.below hb) ?_; clear hR R; replace hM := hM.below hb; clear hb; (try simp only [Act.put, List.setIfInBounds_toArray, List.set_cons_zero, List.set_cons_succ]))))))
        (refine ⟨?_, ?_⟩; (focus (repeat (first | exact ⟨⟨k + 1, id2, by omega, rfl, rfl, ⟨by have := HP.out; omega, HP.out.2⟩, HE.out, hM⟩, rfl⟩ | apply Exists.intro))); (simp only [getD_lit, List.getD_cons_zero, List.getD_cons_succ, intOf]; omega))
      · have e := HW'.out
        rw [if_neg h0] at e
        have q0 := bne0_true h0
        subst e
        clear h0 HW' HW HR
        generalize In.findE d.t id y = E at *
        generalize In.findN d.t id y = id2 at *
        (repeat (first | (first | ((with_reducible show wpSeq _ _ _ _ _ _ _); first | ((with_reducible refine wpSeq_nil ?_); refine hKr.out _ _ ?_; clear hKr Kr) | ((first | (refine St.copy (v := ?_) (by first | exact .inl rfl | exact .inr rfl) rfl rfl ?_ ?_; rotate_left; (focus ((try simp only [Act.eval, getD_lit, List.getD_cons_zero, List.getD_cons_succ]); with_reducible rfl))) | (refine St.pure (v := ?_) rfl rfl rfl (fun w => ?_) ?_; rotate_left; (focus (go_simp; all_goals with_reducible rfl))) | refine St.load rfl hM rfl rfl rfl rfl (by repeat constructor) (by first | rfl | assumption) (by kernel_rfl) ?_); (try simp only [Act.put, List.setIfInBounds_toArray, List.set_cons_zero, List.set_cons_succ]))) | (first | (refine wp_seq_shut (fun K hK => ?_)) | (refine wp_text hM (fun Kr hKr => ?_); simp only [inText]) | refine wp_block ?_ | refine wp_skip ?_ | (refine wp_cond_true rfl ?_) | ((refine hK.out _ _ ?_); clear hK K))) | ((refine St.call rfl rfl rfl (by kernel_rfl) (fun R hR => ?_); simp only [List.map_toArray, List.map_cons, List.map_nil, Act.eval, getD_lit, List.getD_cons_zero, List.getD_cons_succ]); ((with_reducible refine (C.out _ hM.to_below).mono ?_); (rintro e w' ⟨rfl, hb⟩; refine hR.out _ _ (fun h => h.below hb) ?_; clear hR R; replace hM := hM.below hb; clear hb; (try simp only [Act.put, List.setIfInBounds_toArray, List.set_cons_zero, List.set_cons_succ]))))))
        (refine wp_ret ?_; (try simp only [Exit.then, Exit.inBlock]); refine St.ret hM rfl (by repeat (first | exact Outs.nil | apply Outs.tmp rfl)) rfl ?_)
        exact ⟨rfl, hM.to_below⟩
    · have k0 : ¬ ((k : Int) < (ps.length : Int)) := by omega
      obtain rfl : k = ps.length := by omega
      have e := HW.out
      rw [List.drop_length] at e
      subst e
      clear hlt hk HW HR
      (repeat (first | ((with_reducible show wpSeq _ _ _ _ _ _ _); first | ((with_reducible refine wpSeq_nil ?_); refine hKr.out _ _ ?_; clear hKr Kr) | ((first | (refine St.copy (v := ?_) (by first | exact .inl rfl | exact .inr rfl) rfl rfl ?_ ?_; rotate_left; (focus ((try simp only [Act.eval, getD_lit, List.getD_cons_zero, List.getD_cons_succ]); with_reducible rfl))) | (refine St.pure (v := ?_) rfl rfl rfl (fun w => ?_) ?_; rotate_left; (focus (go_simp; all_goals with_reducible rfl)))); (try simp only [Act.put, List.setIfInBounds_toArray, List.set_cons_zero, List.set_cons_succ]))) | (first | (refine wp_seq_shut (fun K hK => ?_)) | (refine wp_text hM (fun Kr hKr => ?_); simp only [inText]) | (refine wp_cond_false rfl ?_) | (refine wp_exit ?_; simp only [Exit.then, Exit.inBlock, if_true, if_false, reduceCtorEq, Nat.reduceEqDiff, Nat.succ_ne_zero]) | ((first | refine hK.out _ _ ?_ | (clear hK K; refine hK.out _ _ ?_)); clear hK K))))
      (refine wp_ret ?_; (try simp only [Exit.then, Exit.inBlock]); refine St.ret hM rfl (by repeat (first | exact Outs.nil | apply Outs.tmp rfl)) rfl ?_)
      exact ⟨rfl, hM.to_below⟩
set_option maxHeartbeats 4000000 in
set_option maxRecDepth 100000 in
theorem fat_any (h : FsAt N x β d w) (hN : N ≤ 1000000000) (p : ByteArray) (hp : p.size ≤ 1000000) : Calls Tryz.prog 105 #[.pointer (some ⟨x.f, 0, none⟩), .string p] w fun e w' => e = .returned (.tuple #[.agg #[.int .i64 (Fs.at_ d p).1.1, .string (Fs.at_ d p).1.2], .int .i64 (Fs.at_ d p).2]) ∧ Below w.heap.size w w' := by
  have hM := h.at_.ro
  unfold fsL at hM
  simp only [List.map_cons, unflag] at hM
  have CS := Lib.hid (fun W : World => Split_any p W hp)
  have CW := Lib.hid (fun (W : World) (hb : Below w.heap.size w W) => walk_any (h.below hb) hN (Pt.split p).1 (Nat.le_trans (Pt.split_small p).1 hp))
  unfold Fs.at_
  generalize Fs.walk d (Pt.split p).1 = r at *
  generalize Pt.split p = q at *
  obtain ⟨q1, q2⟩ := q
  obtain ⟨r1, r2⟩ := r
  simp only at CS CW ⊢
  clear h hp
  go_enter Tryz.func105, Tryz.ntmps105
  (repeat (first | (first | ((with_reducible show wpSeq _ _ _ _ _ _ _); first | ((with_reducible refine wpSeq_nil ?_); refine hKr.out _ _ ?_; clear hKr Kr) | ((first | (refine St.copy (v := ?_) (by first | exact .inl rfl | exact .inr rfl) rfl rfl ?_ ?_; rotate_left; (focus ((try simp only [Act.eval, getD_lit, List.getD_cons_zero, List.getD_cons_succ]); with_reducible rfl))) | (refine St.pure (v := ?_) rfl rfl rfl (fun w => ?_) ?_; rotate_left; (focus (go_simp; all_goals with_reducible rfl))) | ((((refine St.storeRow rfl hM rfl rfl rfl rfl rfl (by repeat constructor) (Nat.le_of_ble_eq_true rfl) (Nat.le_of_ble_eq_true rfl) (by kernel_rfl) rfl ?_ ?_); (focus ((intro h; cases h; done))); clear hM; intro w hM)); (try simp only [Res.put, Res.known, Act.eval, Value.cells, getD_lit, List.getD_cons_zero, List.getD_cons_succ, List.toList_toArray, List.set_cons_zero, List.set_cons_succ, over, Nat.reduceAdd] at hM))); (try simp only [Act.put, List.setIfInBounds_toArray, List.set_cons_zero, List.set_cons_succ])) | (((refine St.alloc (ty := 170) (z := .agg #[.int .i64 0, .string ⟨#[]⟩]) rfl hM rfl rfl (by kernel_rfl) ?_); clear hM; intro w bk hM); (try simp only [Res.put, Res.known, Act.eval, Value.cells, getD_lit, List.getD_cons_zero, List.getD_cons_succ, List.toList_toArray, List.set_cons_zero, List.set_cons_succ, over, Nat.reduceAdd] at hM); (try simp only [Act.put, List.setIfInBounds_toArray, List.set_cons_zero, List.set_cons_succ]))) | (first | (refine wp_seq_shut (fun K hK => ?_)) | (refine wp_text hM (fun Kr hKr => ?_); simp only [inText]) | ((refine hK.out _ _ ?_); clear hK K))) | ((refine St.call rfl rfl rfl (by kernel_rfl) (fun R hR => ?_); simp only [List.map_toArray, List.map_cons, List.map_nil, Act.eval, getD_lit, List.getD_cons_zero, List.getD_cons_succ]); first | ((with_reducible refine (CS.out _).mono ?_); (rintro e w' ⟨rfl, hb⟩; refine hR.out _ _ (fun h => h.below hb) ?_; clear hR R; replace hM := hM.below hb; clear hb; (try simp only [Act.put, List.setIfInBounds_toArray, List.set_cons_zero, List.set_cons_succ]))) | ((with_reducible refine (CW.out _ hM.to_below).mono ?_); (rintro e w' ⟨rfl, hb⟩; refine hR.out _ _ (fun h => h.below hb) ?_; clear hR R; replace hM := hM.below hb; clear hb; (try simp only [Act.put, List.setIfInBounds_toArray, List.set_cons_zero, List.set_cons_succ]))))))
  (refine wp_ret ?_; (try simp only [Exit.then, Exit.inBlock]); refine St.ret hM rfl (by repeat (first | exact Outs.nil | apply Outs.tmp rfl | (apply Outs.row rfl rfl (by repeat constructor) (by kernel_rfl)))) rfl ?_)
  exact ⟨rfl, hM.to_below⟩
end
end Go.Proofs.YtcicjklhbnipcaaGreatDoor
namespace Go.Proofs.YtcicjklhbnipcaaGreatDoor
set_option linter.unusedVariables false
set_option linter.unusedSimpArgs false
open Go.RowKit Go.Maps
theorem eq_hand (a0 a1 a2 a3 a4 a5 a6 a7 a8 : Int) (w : World) : (Op.equalIn 10000 117 (.agg #[.int .i64 a0, .int .i64 a1, .int .i64 a2, .int .i64 a3, .int .i64 a4, .int .i64 a5, .int .i64 a6, .int .i64 a7, .int .i64 a8]) (.agg #[.int .i64 0, .int .i64 0, .int .i64 0, .int .i64 0, .int .i64 0, .int .i64 0, .int .i64 0, .int .i64 0, .int .i64 0])).run Tryz.prog w = .ok (a0 == 0 && (a1 == 0 && (a2 == 0 && (a3 == 0 && (a4 == 0 && (a5 == 0 && (a6 == 0 && (a7 == 0 && a8 == 0)))))))) w := by
  have u3 := Tryz.underlying3
  have hagg : ∀ w, (isAgg 3).run Tryz.prog w = .ok false w := fun w => by
    unfold isAgg
    rw [Sem.run_bind, run_underlying u3 w]
    rfl
  have hsz : ∀ w, (sizeOf 3).run Tryz.prog w = .ok 1 w := fun w => by kernel_rfl
  rw [show (10000 : Nat) = 9999 + 1 from rfl, Op.equalIn]
  simp only [Sem.run_bind, run_underlying Tryz.underlying117, Result.andThen_ok]
  simp only [Std.Legacy.Range.forIn_eq_forIn_range', Std.Legacy.Range.size, Nat.sub_zero, Nat.add_sub_cancel, Nat.div_one, List.range'_succ, List.range'_zero, List.forIn_cons, List.forIn_nil]
  go_simp
  repeat' split
  all_goals simp_all
theorem hand_zero (a0 a1 a2 a3 a4 a5 a6 a7 a8 : Int) : (a0 == 0 && (a1 == 0 && (a2 == 0 && (a3 == 0 && (a4 == 0 && (a5 == 0 && (a6 == 0 && (a7 == 0 && a8 == 0)))))))) = decide ([a0, a1, a2, a3, a4, a5, a6, a7, a8] = Fs.z9) := by
  rw [Bool.eq_iff_iff]
  simp [Fs.z9]
section
variable {K : Act → World → Prop} {a : Act} {w w0 : World} {ops : Array Oper} {l : List (Oper × Nat)} {c : Nat} {o : Oper} {t : TypeId} {x y : Operand} {S : World → Prop}
/-- Are an owner's handles none? -/
theorem St.eqHand (hx : o.op = .binOp .eql 117 x y t) (hc : (c == 0 || c == 2 || c == 3) = true) (hw : Region.wanted o (yielded ops a.tmps) = true) {a0 a1 a2 a3 a4 a5 a6 a7 a8 : Int} (e1 : a.eval x = .agg #[.int .i64 a0, .int .i64 a1, .int .i64 a2, .int .i64 a3, .int .i64 a4, .int .i64 a5, .int .i64 a6, .int .i64 a7, .int .i64 a8]) (e2 : a.eval y = .agg #[.int .i64 0, .int .i64 0, .int .i64 0, .int .i64 0, .int .i64 0, .int .i64 0, .int .i64 0, .int .i64 0, .int .i64 0]) {b : Bool} (hb : decide ([a0, a1, a2, a3, a4, a5, a6, a7, a8] = Fs.z9) = b) (h : wpSeq Tryz.prog ops K S l (a.put o.dst (.bool b)) w) : wpSeq Tryz.prog ops K S ((o, c) :: l) a w := by
  refine St.soft hc hw (fun w => ?_) h
  rw [← hb, ← hand_zero]
  unfold execOp
  simp only [hx, e1, e2, Sem.run_bind, run_eql_struct, eq_hand, Result.andThen_ok, Sem.run_pure]
  go_simp
end
section
variable {N : Nat} {x : FsX} {β : Int → Nat × Nat} {d : FsD} {w w' w0 : World} {F : List Nat} {L L' M' : List Ent}
theorem hand_len {h : List (Int × List Int)} {N : Nat} (hl : h.length ≤ N) (hN : N ≤ 1000000000) : (handL h).length < maxLen := by unfold handL maxLen; rw [List.length_map]; omega
/-- What a call makes of a file system. -/
def FsGoes (w : World) (x : FsX) (β : Int → Nat × Nat) (d : FsD) (w' : World) (d' : FsD) : Prop := ∃ β', St w (keysOf (fsL x β d)) w' (fsL x β' d')
set_option maxHeartbeats 8000000 in
set_option maxRecDepth 100000 in
theorem closes_any (h : FsAt N x β d w) (hN : N ≤ 1000000000) {o : Int} (ho : Fits o) {n : Nat} (hn : n ≤ 8) :
    Calls Tryz.prog 67 #[.pointer (some ⟨x.f, 0, none⟩), .int .i64 o, .int .i64 n] w fun e w' => e = .returned (.tuple #[]) ∧ FsGoes w x β d w' (Fs.closes d o n) := by
  have hM := h.at_.st
  unfold FsGoes
  obtain ⟨F, hF⟩ : ∃ F, keysOf (fsL x β d) = F := ⟨_, rfl⟩
  rw [hF] at hM ⊢
  have F0 : 0 ∉ F := hF ▸ h.zero
  clear hF
  have hlen := hand_len h.inv.len hN
  have FI := fit_inv h.inv.tbl hN
  have hrw := Fs.hOf_row h.inv o
  unfold Fs.closes
  obtain ⟨a0, a1, a2, a3, a4, a5, a6, a7, a8, hl⟩ := row9 hrw.1
  have hrow : rowV (Fs.hOf d.h o) = .agg #[.int .i64 a0, .int .i64 a1, .int .i64 a2, .int .i64 a3, .int .i64 a4, .int .i64 a5, .int .i64 a6, .int .i64 a7, .int .i64 a8] := by rw [hl]; rfl
  rw [hl] at hrw ⊢
  clear h hl
  have hc : n = 0 ∨ n = 1 ∨ n = 2 ∨ n = 3 ∨ n = 4 ∨ n = 5 ∨ n = 6 ∨ n = 7 ∨ n = 8 := by omega
  clear hn
  unfold fsL at hM
  rcases hc with rfl | rfl | rfl | rfl | rfl | rfl | rfl | rfl | rfl
  · simp only [List.getD_cons_zero, List.getD_cons_succ, List.set_cons_zero, List.set_cons_succ]
    have hid : Fits a0 := fits_of (by have := (hrw.2 a0 (by simp)).1; omega) (by have := (hrw.2 a0 (by simp)).2; omega)
    clear hrw
    go_enter Tryz.func67, Tryz.ntmps67
    (repeat (first | ((with_reducible show wpSeq _ _ _ _ _ _ _); ((first | (refine St.copy (v := ?_) (by exact .inl rfl) rfl rfl ?_ ?_; rotate_left; (focus ((try simp only [Act.eval, getD_lit, List.getD_cons_zero, List.getD_cons_succ]); with_reducible rfl))) | (refine St.pure (v := ?_) rfl rfl rfl (fun w => ?_) ?_; rotate_left; (focus (go_simp; all_goals with_reducible rfl))) | refine St.load rfl hM rfl rfl rfl rfl (by repeat constructor) (by rfl) (by kernel_rfl) ?_); (try simp only [Act.put, List.setIfInBounds_toArray, List.set_cons_zero, List.set_cons_succ]))) | (first | (refine wp_seq_shut (fun K hK => ?_)) | (refine wp_text hM (fun Kr hKr => ?_); simp only [inText]))))
    ((refine St.lookup rfl hM rfl rfl rfl rfl (by repeat constructor) key_int Tryz.underlying42 zero_cell (keyOf_int_mk Tryz.underlying3 (by assumption)) ((look_hand _ _).trans (by assumption)) ?_); (try simp only [Act.put, List.setIfInBounds_toArray, List.set_cons_zero, List.set_cons_succ]))
    (repeat (first | ((with_reducible show wpSeq _ _ _ _ _ _ _); first | ((with_reducible refine wpSeq_nil ?_); refine hKr.out _ _ ?_; clear hKr Kr) | ((first | (refine St.copy (v := ?_) (by exact .inl rfl) rfl rfl ?_ ?_; rotate_left; (focus ((try simp only [Act.eval, getD_lit, List.getD_cons_zero, List.getD_cons_succ]); with_reducible rfl))) | (refine St.pure (v := ?_) rfl rfl rfl (fun w => ?_) ?_; rotate_left; (focus (go_simp; all_goals with_reducible rfl))) | refine St.load rfl hM rfl rfl rfl rfl (by repeat constructor) (by rfl) (by kernel_rfl) ?_ | refine St.load1 rfl rfl rfl rfl (by repeat constructor) (by rfl) (by kernel_rfl) ?_ | ((((refine St.storeRow rfl hM rfl rfl rfl rfl rfl (by repeat constructor) (Nat.le_of_ble_eq_true rfl) (Nat.le_of_ble_eq_true rfl) (by kernel_rfl) rfl ?_ ?_); (focus ((intro h; cases h; done))); clear hM; intro w hM)); (try simp only [Res.put, Res.known, Act.eval, Value.cells, getD_lit, List.getD_cons_zero, List.getD_cons_succ, List.toList_toArray, List.set_cons_zero, List.set_cons_succ, over, Nat.reduceAdd] at hM))); (try simp only [Act.put, List.setIfInBounds_toArray, List.set_cons_zero, List.set_cons_succ])) | (((refine St.alloc (ty := 117) (z := .agg #[.int .i64 0, .int .i64 0, .int .i64 0, .int .i64 0, .int .i64 0, .int .i64 0, .int .i64 0, .int .i64 0, .int .i64 0]) rfl hM rfl rfl (by kernel_rfl) ?_); clear hM; intro w bk hM); (try simp only [Res.put, Res.known, Act.eval, Value.cells, getD_lit, List.getD_cons_zero, List.getD_cons_succ, List.toList_toArray, List.set_cons_zero, List.set_cons_succ, over, Nat.reduceAdd] at hM); (try simp only [Act.put, List.setIfInBounds_toArray, List.set_cons_zero, List.set_cons_succ]))) | (first | (refine wp_seq_shut (fun K hK => ?_)) | ((refine hK.out _ _ ?_); clear hK K)) | ((refine wp_drawn (id := 1) hM (Sub.all _) [3] [(0, 0), (1, 0), (2, 0), (3, 1), (4, 2), (5, 2), (6, 2), (7, 3)] (by kernel_rfl) (by kernel_rfl) ?_); (clear hM; intro w hM Kr hKr); simp only [opsOf, List.getD_cons_zero, List.getD_cons_succ])))
    (refine St.call3 rfl rfl (by kernel_rfl) (fun R hR => ?_); simp only [List.map_toArray, List.map_cons, List.map_nil, Act.eval, getD_lit, List.getD_cons_zero, List.getD_cons_succ])
    refine (Drop_any (hM.part (M := tblL x.g x.mb β d.t) (by repeat (first | exact Part.all | apply Part.skip))).tbl FI hid).mono ?_
    (rintro e w' ⟨rfl, hS⟩; obtain ⟨β, hN⟩ := hS.st; replace hM := hM.backM (by repeat (first | exact Swap.all | apply Swap.skip)) tblL_flag hN tblL_flag; clear hN hS; refine hR.out _ _ ?_; clear hR R; (try simp only [Act.put, List.setIfInBounds_toArray, List.set_cons_zero, List.set_cons_succ]))
    (repeat (first | ((with_reducible show wpSeq _ _ _ _ _ _ _); first | ((with_reducible refine wpSeq_nil ?_); refine hKr.out _ _ ?_; clear hKr Kr) | ((first | (refine St.copy (v := ?_) (by exact .inl rfl) rfl rfl ?_ ?_; rotate_left; (focus ((try simp only [Act.eval, getD_lit, List.getD_cons_zero, List.getD_cons_succ]); with_reducible rfl))) | (refine St.pure (v := ?_) rfl rfl rfl (fun w => ?_) ?_; rotate_left; (focus (go_simp; all_goals with_reducible rfl))) | refine St.load1 rfl rfl rfl rfl (by repeat constructor) (by rfl) (by kernel_rfl) ?_ | ((refine St.loadRow rfl hM rfl rfl rfl rfl (by repeat constructor) (Nat.le_of_ble_eq_true rfl) (by kernel_rfl) ?_); (try simp only [Res.known, List.drop_succ_cons, List.drop_zero, List.take_succ_cons, List.take_zero])) | ((((refine St.store rfl hM rfl rfl rfl rfl rfl (by repeat constructor) (Nat.le_of_ble_eq_true rfl) (by kernel_rfl) rfl ?_ ?_); (focus ((intro h; cases h; done))); clear hM; intro w hM)); (try simp only [Res.put, Res.known, Act.eval, Value.cells, getD_lit, List.getD_cons_zero, List.getD_cons_succ, List.toList_toArray, List.set_cons_zero, List.set_cons_succ, over, Nat.reduceAdd] at hM))); (try simp only [Act.put, List.setIfInBounds_toArray, List.set_cons_zero, List.set_cons_succ]))) | (first | (refine wp_seq_shut (fun K hK => ?_)) | (refine wp_text hM (fun Kr hKr => ?_); simp only [inText]) | ((refine hK.out _ _ ?_); clear hK K)) | ((refine wp_drawn (id := 3) hM (Sub.all _) [3] [(0, 0), (1, 0), (2, 0), (3, 1), (4, 0), (5, 2), (6, 3)] (by kernel_rfl) (by kernel_rfl) ?_); (clear hM; intro w hM Kr hKr); simp only [opsOf, List.getD_cons_zero, List.getD_cons_succ])))
    (refine St.mapUpdate rfl hM rfl rfl rfl rfl rfl (by repeat constructor) (put_hand _ _ [0, a1, a2, a3, a4, a5, a6, a7, a8]) key_int Tryz.underlying42 (by assumption) (keyOf_int_mk Tryz.underlying3 (by assumption)) ?_ ?_; (focus ((intro h; cases h; done))); clear hM; intro w hM; (try simp only [Act.put, List.setIfInBounds_toArray, List.set_cons_zero, List.set_cons_succ]))
    (repeat (first | ((with_reducible show wpSeq _ _ _ _ _ _ _); first | ((with_reducible refine wpSeq_nil ?_); refine hKr.out _ _ ?_; clear hKr Kr) | ((first | (refine St.pure (v := ?_) rfl rfl rfl (fun w => ?_) ?_; rotate_left; (focus (go_simp; all_goals with_reducible rfl))) | ((refine St.loadRow rfl hM rfl rfl rfl rfl (by repeat constructor) (Nat.le_of_ble_eq_true rfl) (by kernel_rfl) ?_); (try simp only [Res.known, List.drop_succ_cons, List.drop_zero, List.take_succ_cons, List.take_zero]))); (try simp only [Act.put, List.setIfInBounds_toArray, List.set_cons_zero, List.set_cons_succ]))) | (first | (refine wp_seq_shut (fun K hK => ?_)) | (refine wp_text hM (fun Kr hKr => ?_); simp only [inText]) | ((refine hK.out _ _ ?_); clear hK K))))
    by_cases hz : [0, a1, a2, a3, a4, a5, a6, a7, a8] = Fs.z9
    · have HZ := Lib.hid hz
      refine St.eqHand rfl rfl rfl rfl rfl (decide_eq_true hz) ?_
      clear hz
      (try simp only [Act.put, List.setIfInBounds_toArray, List.set_cons_zero, List.set_cons_succ])
      (repeat (first | ((with_reducible show wpSeq _ _ _ _ _ _ _); first | ((with_reducible refine wpSeq_nil ?_); refine hKr.out _ _ ?_; clear hKr Kr) | ((first | (refine St.copy (v := ?_) (by exact .inl rfl) rfl rfl ?_ ?_; rotate_left; (focus ((try simp only [Act.eval, getD_lit, List.getD_cons_zero, List.getD_cons_succ]); with_reducible rfl))) | (refine St.pure (v := ?_) rfl rfl rfl (fun w => ?_) ?_; rotate_left; (focus (go_simp; all_goals with_reducible rfl))) | refine St.load rfl hM rfl rfl rfl rfl (by repeat constructor) (by rfl) (by kernel_rfl) ?_); (try simp only [Act.put, List.setIfInBounds_toArray, List.set_cons_zero, List.set_cons_succ]))) | (first | (refine wp_text hM (fun Kr hKr => ?_); simp only [inText]) | (refine wp_cond_true rfl ?_) | ((refine hK.out _ _ ?_); clear hK K))))
      (refine St.mapDelete rfl hM rfl rfl rfl rfl (by repeat constructor) (del_hand _ _) key_int Tryz.underlying42 (keyOf_int_mk Tryz.underlying3 (by assumption)) ?_ ?_; (focus ((intro h; cases h; done))); clear hM; intro w hM; (try simp only [Act.put, List.setIfInBounds_toArray, List.set_cons_zero, List.set_cons_succ]))
      (repeat (((with_reducible show wpSeq _ _ _ _ _ _ _); ((with_reducible refine wpSeq_nil ?_); refine hKr.out _ _ ?_; clear hKr Kr))))
      ((refine St.fin hM rfl (by repeat (exact Outs.nil)) rfl ?_))
      refine ⟨rfl, β, ?_⟩
      rw [Fs.shut_yes HZ.out]
      exact hM.forget
    · have HZ := Lib.hid hz
      refine St.eqHand rfl rfl rfl rfl rfl (decide_eq_false hz) ?_
      clear hz
      (try simp only [Act.put, List.setIfInBounds_toArray, List.set_cons_zero, List.set_cons_succ])
      (repeat (first | ((with_reducible show wpSeq _ _ _ _ _ _ _); ((with_reducible refine wpSeq_nil ?_); refine hKr.out _ _ ?_; clear hKr Kr)) | (first | refine wp_skip ?_ | (refine wp_cond_false rfl ?_) | ((refine hK.out _ _ ?_); clear hK K))))
      ((refine St.fin hM rfl (by repeat (exact Outs.nil)) rfl ?_))
      refine ⟨rfl, β, ?_⟩
      rw [Fs.shut_no HZ.out]
      exact hM.forget
  · simp only [List.getD_cons_zero, List.getD_cons_succ, List.set_cons_zero, List.set_cons_succ]
    have hid : Fits a1 := fits_of (by have := (hrw.2 a1 (by simp)).1; omega) (by have := (hrw.2 a1 (by simp)).2; omega)
    clear hrw
    go_enter Tryz.func67, Tryz.ntmps67
    (repeat (first | ((with_reducible show wpSeq _ _ _ _ _ _ _); ((first | (refine St.copy (v := ?_) (by exact .inl rfl) rfl rfl ?_ ?_; rotate_left; (focus ((try simp only [Act.eval, getD_lit, List.getD_cons_zero, List.getD_cons_succ]); with_reducible rfl))) | (refine St.pure (v := ?_) rfl rfl rfl (fun w => ?_) ?_; rotate_left; (focus (go_simp; all_goals with_reducible rfl))) | refine St.load rfl hM rfl rfl rfl rfl (by repeat constructor) (by rfl) (by kernel_rfl) ?_); (try simp only [Act.put, List.setIfInBounds_toArray, List.set_cons_zero, List.set_cons_succ]))) | (first | (refine wp_seq_shut (fun K hK => ?_)) | (refine wp_text hM (fun Kr hKr => ?_); simp only [inText]))))
    ((refine St.lookup rfl hM rfl rfl rfl rfl (by repeat constructor) key_int Tryz.underlying42 zero_cell (keyOf_int_mk Tryz.underlying3 (by assumption)) ((look_hand _ _).trans (by assumption)) ?_); (try simp only [Act.put, List.setIfInBounds_toArray, List.set_cons_zero, List.set_cons_succ]))
    (repeat (first | ((with_reducible show wpSeq _ _ _ _ _ _ _); first | ((with_reducible refine wpSeq_nil ?_); refine hKr.out _ _ ?_; clear hKr Kr) | ((first | (refine St.copy (v := ?_) (by exact .inl rfl) rfl rfl ?_ ?_; rotate_left; (focus ((try simp only [Act.eval, getD_lit, List.getD_cons_zero, List.getD_cons_succ]); with_reducible rfl))) | (refine St.pure (v := ?_) rfl rfl rfl (fun w => ?_) ?_; rotate_left; (focus (go_simp; all_goals with_reducible rfl))) | refine St.load rfl hM rfl rfl rfl rfl (by repeat constructor) (by rfl) (by kernel_rfl) ?_ | refine St.load1 rfl rfl rfl rfl (by repeat constructor) (by rfl) (by kernel_rfl) ?_ | ((((refine St.storeRow rfl hM rfl rfl rfl rfl rfl (by repeat constructor) (Nat.le_of_ble_eq_true rfl) (Nat.le_of_ble_eq_true rfl) (by kernel_rfl) rfl ?_ ?_); (focus ((intro h; cases h; done))); clear hM; intro w hM)); (try simp only [Res.put, Res.known, Act.eval, Value.cells, getD_lit, List.getD_cons_zero, List.getD_cons_succ, List.toList_toArray, List.set_cons_zero, List.set_cons_succ, over, Nat.reduceAdd] at hM))); (try simp only [Act.put, List.setIfInBounds_toArray, List.set_cons_zero, List.set_cons_succ])) | (((refine St.alloc (ty := 117) (z := .agg #[.int .i64 0, .int .i64 0, .int .i64 0, .int .i64 0, .int .i64 0, .int .i64 0, .int .i64 0, .int .i64 0, .int .i64 0]) rfl hM rfl rfl (by kernel_rfl) ?_); clear hM; intro w bk hM); (try simp only [Res.put, Res.known, Act.eval, Value.cells, getD_lit, List.getD_cons_zero, List.getD_cons_succ, List.toList_toArray, List.set_cons_zero, List.set_cons_succ, over, Nat.reduceAdd] at hM); (try simp only [Act.put, List.setIfInBounds_toArray, List.set_cons_zero, List.set_cons_succ]))) | (first | (refine wp_seq_shut (fun K hK => ?_)) | ((refine hK.out _ _ ?_); clear hK K)) | ((refine wp_drawn (id := 1) hM (Sub.all _) [3] [(0, 0), (1, 0), (2, 0), (3, 1), (4, 2), (5, 2), (6, 2), (7, 3)] (by kernel_rfl) (by kernel_rfl) ?_); (clear hM; intro w hM Kr hKr); simp only [opsOf, List.getD_cons_zero, List.getD_cons_succ])))
    (refine St.call3 rfl rfl (by kernel_rfl) (fun R hR => ?_); simp only [List.map_toArray, List.map_cons, List.map_nil, Act.eval, getD_lit, List.getD_cons_zero, List.getD_cons_succ])
    refine (Drop_any (hM.part (M := tblL x.g x.mb β d.t) (by repeat (first | exact Part.all | apply Part.skip))).tbl FI hid).mono ?_
    (rintro e w' ⟨rfl, hS⟩; obtain ⟨β, hN⟩ := hS.st; replace hM := hM.backM (by repeat (first | exact Swap.all | apply Swap.skip)) tblL_flag hN tblL_flag; clear hN hS; refine hR.out _ _ ?_; clear hR R; (try simp only [Act.put, List.setIfInBounds_toArray, List.set_cons_zero, List.set_cons_succ]))
    (repeat (first | ((with_reducible show wpSeq _ _ _ _ _ _ _); first | ((with_reducible refine wpSeq_nil ?_); refine hKr.out _ _ ?_; clear hKr Kr) | ((first | (refine St.copy (v := ?_) (by exact .inl rfl) rfl rfl ?_ ?_; rotate_left; (focus ((try simp only [Act.eval, getD_lit, List.getD_cons_zero, List.getD_cons_succ]); with_reducible rfl))) | (refine St.pure (v := ?_) rfl rfl rfl (fun w => ?_) ?_; rotate_left; (focus (go_simp; all_goals with_reducible rfl))) | refine St.load1 rfl rfl rfl rfl (by repeat constructor) (by rfl) (by kernel_rfl) ?_ | ((refine St.loadRow rfl hM rfl rfl rfl rfl (by repeat constructor) (Nat.le_of_ble_eq_true rfl) (by kernel_rfl) ?_); (try simp only [Res.known, List.drop_succ_cons, List.drop_zero, List.take_succ_cons, List.take_zero])) | ((((refine St.store rfl hM rfl rfl rfl rfl rfl (by repeat constructor) (Nat.le_of_ble_eq_true rfl) (by kernel_rfl) rfl ?_ ?_); (focus ((intro h; cases h; done))); clear hM; intro w hM)); (try simp only [Res.put, Res.known, Act.eval, Value.cells, getD_lit, List.getD_cons_zero, List.getD_cons_succ, List.toList_toArray, List.set_cons_zero, List.set_cons_succ, over, Nat.reduceAdd] at hM))); (try simp only [Act.put, List.setIfInBounds_toArray, List.set_cons_zero, List.set_cons_succ]))) | (first | (refine wp_seq_shut (fun K hK => ?_)) | (refine wp_text hM (fun Kr hKr => ?_); simp only [inText]) | ((refine hK.out _ _ ?_); clear hK K)) | ((refine wp_drawn (id := 3) hM (Sub.all _) [3] [(0, 0), (1, 0), (2, 0), (3, 1), (4, 0), (5, 2), (6, 3)] (by kernel_rfl) (by kernel_rfl) ?_); (clear hM; intro w hM Kr hKr); simp only [opsOf, List.getD_cons_zero, List.getD_cons_succ])))
    (refine St.mapUpdate rfl hM rfl rfl rfl rfl rfl (by repeat constructor) (put_hand _ _ [a0, 0, a2, a3, a4, a5, a6, a7, a8]) key_int Tryz.underlying42 (by assumption) (keyOf_int_mk Tryz.underlying3 (by assumption)) ?_ ?_; (focus ((intro h; cases h; done))); clear hM; intro w hM; (try simp only [Act.put, List.setIfInBounds_toArray, List.set_cons_zero, List.set_cons_succ]))
    (repeat (first | ((with_reducible show wpSeq _ _ _ _ _ _ _); first | ((with_reducible refine wpSeq_nil ?_); refine hKr.out _ _ ?_; clear hKr Kr) | ((first | (refine St.pure (v := ?_) rfl rfl rfl (fun w => ?_) ?_; rotate_left; (focus (go_simp; all_goals with_reducible rfl))) | ((refine St.loadRow rfl hM rfl rfl rfl rfl (by repeat constructor) (Nat.le_of_ble_eq_true rfl) (by kernel_rfl) ?_); (try simp only [Res.known, List.drop_succ_cons, List.drop_zero, List.take_succ_cons, List.take_zero]))); (try simp only [Act.put, List.setIfInBounds_toArray, List.set_cons_zero, List.set_cons_succ]))) | (first | (refine wp_seq_shut (fun K hK => ?_)) | (refine wp_text hM (fun Kr hKr => ?_); simp only [inText]) | ((refine hK.out _ _ ?_); clear hK K))))
    by_cases hz : [a0, 0, a2, a3, a4, a5, a6, a7, a8] = Fs.z9
    · have HZ := Lib.hid hz
      refine St.eqHand rfl rfl rfl rfl rfl (decide_eq_true hz) ?_
      clear hz
      (try simp only [Act.put, List.setIfInBounds_toArray, List.set_cons_zero, List.set_cons_succ])
      (repeat (first | ((with_reducible show wpSeq _ _ _ _ _ _ _); first | ((with_reducible refine wpSeq_nil ?_); refine hKr.out _ _ ?_; clear hKr Kr) | ((first | (refine St.copy (v := ?_) (by exact .inl rfl) rfl rfl ?_ ?_; rotate_left; (focus ((try simp only [Act.eval, getD_lit, List.getD_cons_zero, List.getD_cons_succ]); with_reducible rfl))) | (refine St.pure (v := ?_) rfl rfl rfl (fun w => ?_) ?_; rotate_left; (focus (go_simp; all_goals with_reducible rfl))) | refine St.load rfl hM rfl rfl rfl rfl (by repeat constructor) (by rfl) (by kernel_rfl) ?_); (try simp only [Act.put, List.setIfInBounds_toArray, List.set_cons_zero, List.set_cons_succ]))) | (first | (refine wp_text hM (fun Kr hKr => ?_); simp only [inText]) | (refine wp_cond_true rfl ?_) | ((refine hK.out _ _ ?_); clear hK K))))
      (refine St.mapDelete rfl hM rfl rfl rfl rfl (by repeat constructor) (del_hand _ _) key_int Tryz.underlying42 (keyOf_int_mk Tryz.underlying3 (by assumption)) ?_ ?_; (focus ((intro h; cases h; done))); clear hM; intro w hM; (try simp only [Act.put, List.setIfInBounds_toArray, List.set_cons_zero, List.set_cons_succ]))
      (repeat (((with_reducible show wpSeq _ _ _ _ _ _ _); ((with_reducible refine wpSeq_nil ?_); refine hKr.out _ _ ?_; clear hKr Kr))))
      ((refine St.fin hM rfl (by repeat (exact Outs.nil)) rfl ?_))
      refine ⟨rfl, β, ?_⟩
      rw [Fs.shut_yes HZ.out]
      exact hM.forget
    · have HZ := Lib.hid hz
      refine St.eqHand rfl rfl rfl rfl rfl (decide_eq_false hz) ?_
      clear hz
      (try simp only [Act.put, List.setIfInBounds_toArray, List.set_cons_zero, List.set_cons_succ])
      (repeat (first | ((with_reducible show wpSeq _ _ _ _ _ _ _); ((with_reducible refine wpSeq_nil ?_); refine hKr.out _ _ ?_; clear hKr Kr)) | (first | refine wp_skip ?_ | (refine wp_cond_false rfl ?_) | ((refine hK.out _ _ ?_); clear hK K))))
      ((refine St.fin hM rfl (by repeat (exact Outs.nil)) rfl ?_))
      refine ⟨rfl, β, ?_⟩
      rw [Fs.shut_no HZ.out]
      exact hM.forget
  · simp only [List.getD_cons_zero, List.getD_cons_succ, List.set_cons_zero, List.set_cons_succ]
    have hid : Fits a2 := fits_of (by have := (hrw.2 a2 (by simp)).1; omega) (by have := (hrw.2 a2 (by simp)).2; omega)
    clear hrw
    go_enter Tryz.func67, Tryz.ntmps67
    (repeat (first | ((with_reducible show wpSeq _ _ _ _ _ _ _); ((first | (refine St.copy (v := ?_) (by exact .inl rfl) rfl rfl ?_ ?_; rotate_left; (focus ((try simp only [Act.eval, getD_lit, List.getD_cons_zero, List.getD_cons_succ]); with_reducible rfl))) | (refine St.pure (v := ?_) rfl rfl rfl (fun w => ?_) ?_; rotate_left; (focus (go_simp; all_goals with_reducible rfl))) | refine St.load rfl hM rfl rfl rfl rfl (by repeat constructor) (by rfl) (by kernel_rfl) ?_); (try simp only [Act.put, List.setIfInBounds_toArray, List.set_cons_zero, List.set_cons_succ]))) | (first | (refine wp_seq_shut (fun K hK => ?_)) | (refine wp_text hM (fun Kr hKr => ?_); simp only [inText]))))
    ((refine St.lookup rfl hM rfl rfl rfl rfl (by repeat constructor) key_int Tryz.underlying42 zero_cell (keyOf_int_mk Tryz.underlying3 (by assumption)) ((look_hand _ _).trans (by assumption)) ?_); (try simp only [Act.put, List.setIfInBounds_toArray, List.set_cons_zero, List.set_cons_succ]))
    (repeat (first | ((with_reducible show wpSeq _ _ _ _ _ _ _); first | ((with_reducible refine wpSeq_nil ?_); refine hKr.out _ _ ?_; clear hKr Kr) | ((first | (refine St.copy (v := ?_) (by exact .inl rfl) rfl rfl ?_ ?_; rotate_left; (focus ((try simp only [Act.eval, getD_lit, List.getD_cons_zero, List.getD_cons_succ]); with_reducible rfl))) | (refine St.pure (v := ?_) rfl rfl rfl (fun w => ?_) ?_; rotate_left; (focus (go_simp; all_goals with_reducible rfl))) | refine St.load rfl hM rfl rfl rfl rfl (by repeat constructor) (by rfl) (by kernel_rfl) ?_ | refine St.load1 rfl rfl rfl rfl (by repeat constructor) (by rfl) (by kernel_rfl) ?_ | ((((refine St.storeRow rfl hM rfl rfl rfl rfl rfl (by repeat constructor) (Nat.le_of_ble_eq_true rfl) (Nat.le_of_ble_eq_true rfl) (by kernel_rfl) rfl ?_ ?_); (focus ((intro h; cases h; done))); clear hM; intro w hM)); (try simp only [Res.put, Res.known, Act.eval, Value.cells, getD_lit, List.getD_cons_zero, List.getD_cons_succ, List.toList_toArray, List.set_cons_zero, List.set_cons_succ, over, Nat.reduceAdd] at hM))); (try simp only [Act.put, List.setIfInBounds_toArray, List.set_cons_zero, List.set_cons_succ])) | (((refine St.alloc (ty := 117) (z := .agg #[.int .i64 0, .int .i64 0, .int .i64 0, .int .i64 0, .int .i64 0, .int .i64 0, .int .i64 0, .int .i64 0, .int .i64 0]) rfl hM rfl rfl (by kernel_rfl) ?_); clear hM; intro w bk hM); (try simp only [Res.put, Res.known, Act.eval, Value.cells, getD_lit, List.getD_cons_zero, List.getD_cons_succ, List.toList_toArray, List.set_cons_zero, List.set_cons_succ, over, Nat.reduceAdd] at hM); (try simp only [Act.put, List.setIfInBounds_toArray, List.set_cons_zero, List.set_cons_succ]))) | (first | (refine wp_seq_shut (fun K hK => ?_)) | ((refine hK.out _ _ ?_); clear hK K)) | ((refine wp_drawn (id := 1) hM (Sub.all _) [3] [(0, 0), (1, 0), (2, 0), (3, 1), (4, 2), (5, 2), (6, 2), (7, 3)] (by kernel_rfl) (by kernel_rfl) ?_); (clear hM; intro w hM Kr hKr); simp only [opsOf, List.getD_cons_zero, List.getD_cons_succ])))
    (refine St.call3 rfl rfl (by kernel_rfl) (fun R hR => ?_); simp only [List.map_toArray, List.map_cons, List.map_nil, Act.eval, getD_lit, List.getD_cons_zero, List.getD_cons_succ])
    refine (Drop_any (hM.part (M := tblL x.g x.mb β d.t) (by repeat (first | exact Part.all | apply Part.skip))).tbl FI hid).mono ?_
    (rintro e w' ⟨rfl, hS⟩; obtain ⟨β, hN⟩ := hS.st; replace hM := hM.backM (by repeat (first | exact Swap.all | apply Swap.skip)) tblL_flag hN tblL_flag; clear hN hS; refine hR.out _ _ ?_; clear hR R; (try simp only [Act.put, List.setIfInBounds_toArray, List.set_cons_zero, List.set_cons_succ]))
    (repeat (first | ((with_reducible show wpSeq _ _ _ _ _ _ _); first | ((with_reducible refine wpSeq_nil ?_); refine hKr.out _ _ ?_; clear hKr Kr) | ((first | (refine St.copy (v := ?_) (by exact .inl rfl) rfl rfl ?_ ?_; rotate_left; (focus ((try simp only [Act.eval, getD_lit, List.getD_cons_zero, List.getD_cons_succ]); with_reducible rfl))) | (refine St.pure (v := ?_) rfl rfl rfl (fun w => ?_) ?_; rotate_left; (focus (go_simp; all_goals with_reducible rfl))) | refine St.load1 rfl rfl rfl rfl (by repeat constructor) (by rfl) (by kernel_rfl) ?_ | ((refine St.loadRow rfl hM rfl rfl rfl rfl (by repeat constructor) (Nat.le_of_ble_eq_true rfl) (by kernel_rfl) ?_); (try simp only [Res.known, List.drop_succ_cons, List.drop_zero, List.take_succ_cons, List.take_zero])) | ((((refine St.store rfl hM rfl rfl rfl rfl rfl (by repeat constructor) (Nat.le_of_ble_eq_true rfl) (by kernel_rfl) rfl ?_ ?_); (focus ((intro h; cases h; done))); clear hM; intro w hM)); (try simp only [Res.put, Res.known, Act.eval, Value.cells, getD_lit, List.getD_cons_zero, List.getD_cons_succ, List.toList_toArray, List.set_cons_zero, List.set_cons_succ, over, Nat.reduceAdd] at hM))); (try simp only [Act.put, List.setIfInBounds_toArray, List.set_cons_zero, List.set_cons_succ]))) | (first | (refine wp_seq_shut (fun K hK => ?_)) | (refine wp_text hM (fun Kr hKr => ?_); simp only [inText]) | ((refine hK.out _ _ ?_); clear hK K)) | ((refine wp_drawn (id := 3) hM (Sub.all _) [3] [(0, 0), (1, 0), (2, 0), (3, 1), (4, 0), (5, 2), (6, 3)] (by kernel_rfl) (by kernel_rfl) ?_); (clear hM; intro w hM Kr hKr); simp only [opsOf, List.getD_cons_zero, List.getD_cons_succ])))
    (refine St.mapUpdate rfl hM rfl rfl rfl rfl rfl (by repeat constructor) (put_hand _ _ [a0, a1, 0, a3, a4, a5, a6, a7, a8]) key_int Tryz.underlying42 (by assumption) (keyOf_int_mk Tryz.underlying3 (by assumption)) ?_ ?_; (focus ((intro h; cases h; done))); clear hM; intro w hM; (try simp only [Act.put, List.setIfInBounds_toArray, List.set_cons_zero, List.set_cons_succ]))
    (repeat (first | ((with_reducible show wpSeq _ _ _ _ _ _ _); first | ((with_reducible refine wpSeq_nil ?_); refine hKr.out _ _ ?_; clear hKr Kr) | ((first | (refine St.pure (v := ?_) rfl rfl rfl (fun w => ?_) ?_; rotate_left; (focus (go_simp; all_goals with_reducible rfl))) | ((refine St.loadRow rfl hM rfl rfl rfl rfl (by repeat constructor) (Nat.le_of_ble_eq_true rfl) (by kernel_rfl) ?_); (try simp only [Res.known, List.drop_succ_cons, List.drop_zero, List.take_succ_cons, List.take_zero]))); (try simp only [Act.put, List.setIfInBounds_toArray, List.set_cons_zero, List.set_cons_succ]))) | (first | (refine wp_seq_shut (fun K hK => ?_)) | (refine wp_text hM (fun Kr hKr => ?_); simp only [inText]) | ((refine hK.out _ _ ?_); clear hK K))))
    by_cases hz : [a0, a1, 0, a3, a4, a5, a6, a7, a8] = Fs.z9
    · have HZ := Lib.hid hz
      refine St.eqHand rfl rfl rfl rfl rfl (decide_eq_true hz) ?_
      clear hz
      (try simp only [Act.put, List.setIfInBounds_toArray, List.set_cons_zero, List.set_cons_succ])
      (repeat (first | ((with_reducible show wpSeq _ _ _ _ _ _ _); first | ((with_reducible refine wpSeq_nil ?_); refine hKr.out _ _ ?_; clear hKr Kr) | ((first | (refine St.copy (v := ?_) (by exact .inl rfl) rfl rfl ?_ ?_; rotate_left; (focus ((try simp only [Act.eval, getD_lit, List.getD_cons_zero, List.getD_cons_succ]); with_reducible rfl))) | (refine St.pure (v := ?_) rfl rfl rfl (fun w => ?_) ?_; rotate_left; (focus (go_simp; all_goals with_reducible rfl))) | refine St.load rfl hM rfl rfl rfl rfl (by repeat constructor) (by rfl) (by kernel_rfl) ?_); (try simp only [Act.put, List.setIfInBounds_toArray, List.set_cons_zero, List.set_cons_succ]))) | (first | (refine wp_text hM (fun Kr hKr => ?_); simp only [inText]) | (refine wp_cond_true rfl ?_) | ((refine hK.out _ _ ?_); clear hK K))))
      (refine St.mapDelete rfl hM rfl rfl rfl rfl (by repeat constructor) (del_hand _ _) key_int Tryz.underlying42 (keyOf_int_mk Tryz.underlying3 (by assumption)) ?_ ?_; (focus ((intro h; cases h; done))); clear hM; intro w hM; (try simp only [Act.put, List.setIfInBounds_toArray, List.set_cons_zero, List.set_cons_succ]))
      (repeat (((with_reducible show wpSeq _ _ _ _ _ _ _); ((with_reducible refine wpSeq_nil ?_); refine hKr.out _ _ ?_; clear hKr Kr))))
      ((refine St.fin hM rfl (by repeat (exact Outs.nil)) rfl ?_))
      refine ⟨rfl, β, ?_⟩
      rw [Fs.shut_yes HZ.out]
      exact hM.forget
    · have HZ := Lib.hid hz
      refine St.eqHand rfl rfl rfl rfl rfl (decide_eq_false hz) ?_
      clear hz
      (try simp only [Act.put, List.setIfInBounds_toArray, List.set_cons_zero, List.set_cons_succ])
      (repeat (first | ((with_reducible show wpSeq _ _ _ _ _ _ _); ((with_reducible refine wpSeq_nil ?_); refine hKr.out _ _ ?_; clear hKr Kr)) | (first | refine wp_skip ?_ | (refine wp_cond_false rfl ?_) | ((refine hK.out _ _ ?_); clear hK K))))
      ((refine St.fin hM rfl (by repeat (exact Outs.nil)) rfl ?_))
      refine ⟨rfl, β, ?_⟩
      rw [Fs.shut_no HZ.out]
      exact hM.forget
  · simp only [List.getD_cons_zero, List.getD_cons_succ, List.set_cons_zero, List.set_cons_succ]
    have hid : Fits a3 := fits_of (by have := (hrw.2 a3 (by simp)).1; omega) (by have := (hrw.2 a3 (by simp)).2; omega)
    clear hrw
    go_enter Tryz.func67, Tryz.ntmps67
    (repeat (first | ((with_reducible show wpSeq _ _ _ _ _ _ _); ((first | (refine St.copy (v := ?_) (by exact .inl rfl) rfl rfl ?_ ?_; rotate_left; (focus ((try simp only [Act.eval, getD_lit, List.getD_cons_zero, List.getD_cons_succ]); with_reducible rfl))) | (refine St.pure (v := ?_) rfl rfl rfl (fun w => ?_) ?_; rotate_left; (focus (go_simp; all_goals with_reducible rfl))) | refine St.load rfl hM rfl rfl rfl rfl (by repeat constructor) (by rfl) (by kernel_rfl) ?_); (try simp only [Act.put, List.setIfInBounds_toArray, List.set_cons_zero, List.set_cons_succ]))) | (first | (refine wp_seq_shut (fun K hK => ?_)) | (refine wp_text hM (fun Kr hKr => ?_); simp only [inText]))))
    ((refine St.lookup rfl hM rfl rfl rfl rfl (by repeat constructor) key_int Tryz.underlying42 zero_cell (keyOf_int_mk Tryz.underlying3 (by assumption)) ((look_hand _ _).trans (by assumption)) ?_); (try simp only [Act.put, List.setIfInBounds_toArray, List.set_cons_zero, List.set_cons_succ]))
    (repeat (first | ((with_reducible show wpSeq _ _ _ _ _ _ _); first | ((with_reducible refine wpSeq_nil ?_); refine hKr.out _ _ ?_; clear hKr Kr) | ((first | (refine St.copy (v := ?_) (by exact .inl rfl) rfl rfl ?_ ?_; rotate_left; (focus ((try simp only [Act.eval, getD_lit, List.getD_cons_zero, List.getD_cons_succ]); with_reducible rfl))) | (refine St.pure (v := ?_) rfl rfl rfl (fun w => ?_) ?_; rotate_left; (focus (go_simp; all_goals with_reducible rfl))) | refine St.load rfl hM rfl rfl rfl rfl (by repeat constructor) (by rfl) (by kernel_rfl) ?_ | refine St.load1 rfl rfl rfl rfl (by repeat constructor) (by rfl) (by kernel_rfl) ?_ | ((((refine St.storeRow rfl hM rfl rfl rfl rfl rfl (by repeat constructor) (Nat.le_of_ble_eq_true rfl) (Nat.le_of_ble_eq_true rfl) (by kernel_rfl) rfl ?_ ?_); (focus ((intro h; cases h; done))); clear hM; intro w hM)); (try simp only [Res.put, Res.known, Act.eval, Value.cells, getD_lit, List.getD_cons_zero, List.getD_cons_succ, List.toList_toArray, List.set_cons_zero, List.set_cons_succ, over, Nat.reduceAdd] at hM))); (try simp only [Act.put, List.setIfInBounds_toArray, List.set_cons_zero, List.set_cons_succ])) | (((refine St.alloc (ty := 117) (z := .agg #[.int .i64 0, .int .i64 0, .int .i64 0, .int .i64 0, .int .i64 0, .int .i64 0, .int .i64 0, .int .i64 0, .int .i64 0]) rfl hM rfl rfl (by kernel_rfl) ?_); clear hM; intro w bk hM); (try simp only [Res.put, Res.known, Act.eval, Value.cells, getD_lit, List.getD_cons_zero, List.getD_cons_succ, List.toList_toArray, List.set_cons_zero, List.set_cons_succ, over, Nat.reduceAdd] at hM); (try simp only [Act.put, List.setIfInBounds_toArray, List.set_cons_zero, List.set_cons_succ]))) | (first | (refine wp_seq_shut (fun K hK => ?_)) | ((refine hK.out _ _ ?_); clear hK K)) | ((refine wp_drawn (id := 1) hM (Sub.all _) [3] [(0, 0), (1, 0), (2, 0), (3, 1), (4, 2), (5, 2), (6, 2), (7, 3)] (by kernel_rfl) (by kernel_rfl) ?_); (clear hM; intro w hM Kr hKr); simp only [opsOf, List.getD_cons_zero, List.getD_cons_succ])))
    (refine St.call3 rfl rfl (by kernel_rfl) (fun R hR => ?_); simp only [List.map_toArray, List.map_cons, List.map_nil, Act.eval, getD_lit, List.getD_cons_zero, List.getD_cons_succ])
    refine (Drop_any (hM.part (M := tblL x.g x.mb β d.t) (by repeat (first | exact Part.all | apply Part.skip))).tbl FI hid).mono ?_
    (rintro e w' ⟨rfl, hS⟩; obtain ⟨β, hN⟩ := hS.st; replace hM := hM.backM (by repeat (first | exact Swap.all | apply Swap.skip)) tblL_flag hN tblL_flag; clear hN hS; refine hR.out _ _ ?_; clear hR R; (try simp only [Act.put, List.setIfInBounds_toArray, List.set_cons_zero, List.set_cons_succ]))
    (repeat (first | ((with_reducible show wpSeq _ _ _ _ _ _ _); first | ((with_reducible refine wpSeq_nil ?_); refine hKr.out _ _ ?_; clear hKr Kr) | ((first | (refine St.copy (v := ?_) (by exact .inl rfl) rfl rfl ?_ ?_; rotate_left; (focus ((try simp only [Act.eval, getD_lit, List.getD_cons_zero, List.getD_cons_succ]); with_reducible rfl))) | (refine St.pure (v := ?_) rfl rfl rfl (fun w => ?_) ?_; rotate_left; (focus (go_simp; all_goals with_reducible rfl))) | refine St.load1 rfl rfl rfl rfl (by repeat constructor) (by rfl) (by kernel_rfl) ?_ | ((refine St.loadRow rfl hM rfl rfl rfl rfl (by repeat constructor) (Nat.le_of_ble_eq_true rfl) (by kernel_rfl) ?_); (try simp only [Res.known, List.drop_succ_cons, List.drop_zero, List.take_succ_cons, List.take_zero])) | ((((refine St.store rfl hM rfl rfl rfl rfl rfl (by repeat constructor) (Nat.le_of_ble_eq_true rfl) (by kernel_rfl) rfl ?_ ?_); (focus ((intro h; cases h; done))); clear hM; intro w hM)); (try simp only [Res.put, Res.known, Act.eval, Value.cells, getD_lit, List.getD_cons_zero, List.getD_cons_succ, List.toList_toArray, List.set_cons_zero, List.set_cons_succ, over, Nat.reduceAdd] at hM))); (try simp only [Act.put, List.setIfInBounds_toArray, List.set_cons_zero, List.set_cons_succ]))) | (first | (refine wp_seq_shut (fun K hK => ?_)) | (refine wp_text hM (fun Kr hKr => ?_); simp only [inText]) | ((refine hK.out _ _ ?_); clear hK K)) | ((refine wp_drawn (id := 3) hM (Sub.all _) [3] [(0, 0), (1, 0), (2, 0), (3, 1), (4, 0), (5, 2), (6, 3)] (by kernel_rfl) (by kernel_rfl) ?_); (clear hM; intro w hM Kr hKr); simp only [opsOf, List.getD_cons_zero, List.getD_cons_succ])))
    (refine St.mapUpdate rfl hM rfl rfl rfl rfl rfl (by repeat constructor) (put_hand _ _ [a0, a1, a2, 0, a4, a5, a6, a7, a8]) key_int Tryz.underlying42 (by assumption) (keyOf_int_mk Tryz.underlying3 (by assumption)) ?_ ?_; (focus ((intro h; cases h; done))); clear hM; intro w hM; (try simp only [Act.put, List.setIfInBounds_toArray, List.set_cons_zero, List.set_cons_succ]))
    (repeat (first | ((with_reducible show wpSeq _ _ _ _ _ _ _); first | ((with_reducible refine wpSeq_nil ?_); refine hKr.out _ _ ?_; clear hKr Kr) | ((first | (refine St.pure (v := ?_) rfl rfl rfl (fun w => ?_) ?_; rotate_left; (focus (go_simp; all_goals with_reducible rfl))) | ((refine St.loadRow rfl hM rfl rfl rfl rfl (by repeat constructor) (Nat.le_of_ble_eq_true rfl) (by kernel_rfl) ?_); (try simp only [Res.known, List.drop_succ_cons, List.drop_zero, List.take_succ_cons, List.take_zero]))); (try simp only [Act.put, List.setIfInBounds_toArray, List.set_cons_zero, List.set_cons_succ]))) | (first | (refine wp_seq_shut (fun K hK => ?_)) | (refine wp_text hM (fun Kr hKr => ?_); simp only [inText]) | ((refine hK.out _ _ ?_); clear hK K))))
    by_cases hz : [a0, a1, a2, 0, a4, a5, a6, a7, a8] = Fs.z9
    · have HZ := Lib.hid hz
      refine St.eqHand rfl rfl rfl rfl rfl (decide_eq_true hz) ?_
      clear hz
      (try simp only [Act.put, List.setIfInBounds_toArray, List.set_cons_zero, List.set_cons_succ])
      (repeat (first | ((with_reducible show wpSeq _ _ _ _ _ _ _); first | ((with_reducible refine wpSeq_nil ?_); refine hKr.out _ _ ?_; clear hKr Kr) | ((first | (refine St.copy (v := ?_) (by exact .inl rfl) rfl rfl ?_ ?_; rotate_left; (focus ((try simp only [Act.eval, getD_lit, List.getD_cons_zero, List.getD_cons_succ]); with_reducible rfl))) | (refine St.pure (v := ?_) rfl rfl rfl (fun w => ?_) ?_; rotate_left; (focus (go_simp; all_goals with_reducible rfl))) | refine St.load rfl hM rfl rfl rfl rfl (by repeat constructor) (by rfl) (by kernel_rfl) ?_); (try simp only [Act.put, List.setIfInBounds_toArray, List.set_cons_zero, List.set_cons_succ]))) | (first | (refine wp_text hM (fun Kr hKr => ?_); simp only [inText]) | (refine wp_cond_true rfl ?_) | ((refine hK.out _ _ ?_); clear hK K))))
      (refine St.mapDelete rfl hM rfl rfl rfl rfl (by repeat constructor) (del_hand _ _) key_int Tryz.underlying42 (keyOf_int_mk Tryz.underlying3 (by assumption)) ?_ ?_; (focus ((intro h; cases h; done))); clear hM; intro w hM; (try simp only [Act.put, List.setIfInBounds_toArray, List.set_cons_zero, List.set_cons_succ]))
      (repeat (((with_reducible show wpSeq _ _ _ _ _ _ _); ((with_reducible refine wpSeq_nil ?_); refine hKr.out _ _ ?_; clear hKr Kr))))
      ((refine St.fin hM rfl (by repeat (exact Outs.nil)) rfl ?_))
      refine ⟨rfl, β, ?_⟩
      rw [Fs.shut_yes HZ.out]
      exact hM.forget
    · have HZ := Lib.hid hz
      refine St.eqHand rfl rfl rfl rfl rfl (decide_eq_false hz) ?_
      clear hz
      (try simp only [Act.put, List.setIfInBounds_toArray, List.set_cons_zero, List.set_cons_succ])
      (repeat (first | ((with_reducible show wpSeq _ _ _ _ _ _ _); ((with_reducible refine wpSeq_nil ?_); refine hKr.out _ _ ?_; clear hKr Kr)) | (first | refine wp_skip ?_ | (refine wp_cond_false rfl ?_) | ((refine hK.out _ _ ?_); clear hK K))))
      ((refine St.fin hM rfl (by repeat (exact Outs.nil)) rfl ?_))
      refine ⟨rfl, β, ?_⟩
      rw [Fs.shut_no HZ.out]
      exact hM.forget
  · simp only [List.getD_cons_zero, List.getD_cons_succ, List.set_cons_zero, List.set_cons_succ]
    have hid : Fits a4 := fits_of (by have := (hrw.2 a4 (by simp)).1; omega) (by have := (hrw.2 a4 (by simp)).2; omega)
    clear hrw
    go_enter Tryz.func67, Tryz.ntmps67
    (repeat (first | ((with_reducible show wpSeq _ _ _ _ _ _ _); ((first | (refine St.copy (v := ?_) (by exact .inl rfl) rfl rfl ?_ ?_; rotate_left; (focus ((try simp only [Act.eval, getD_lit, List.getD_cons_zero, List.getD_cons_succ]); with_reducible rfl))) | (refine St.pure (v := ?_) rfl rfl rfl (fun w => ?_) ?_; rotate_left; (focus (go_simp; all_goals with_reducible rfl))) | refine St.load rfl hM rfl rfl rfl rfl (by repeat constructor) (by rfl) (by kernel_rfl) ?_); (try simp only [Act.put, List.setIfInBounds_toArray, List.set_cons_zero, List.set_cons_succ]))) | (first | (refine wp_seq_shut (fun K hK => ?_)) | (refine wp_text hM (fun Kr hKr => ?_); simp only [inText]))))
    ((refine St.lookup rfl hM rfl rfl rfl rfl (by repeat constructor) key_int Tryz.underlying42 zero_cell (keyOf_int_mk Tryz.underlying3 (by assumption)) ((look_hand _ _).trans (by assumption)) ?_); (try simp only [Act.put, List.setIfInBounds_toArray, List.set_cons_zero, List.set_cons_succ]))
    (repeat (first | ((with_reducible show wpSeq _ _ _ _ _ _ _); first | ((with_reducible refine wpSeq_nil ?_); refine hKr.out _ _ ?_; clear hKr Kr) | ((first | (refine St.copy (v := ?_) (by exact .inl rfl) rfl rfl ?_ ?_; rotate_left; (focus ((try simp only [Act.eval, getD_lit, List.getD_cons_zero, List.getD_cons_succ]); with_reducible rfl))) | (refine St.pure (v := ?_) rfl rfl rfl (fun w => ?_) ?_; rotate_left; (focus (go_simp; all_goals with_reducible rfl))) | refine St.load rfl hM rfl rfl rfl rfl (by repeat constructor) (by rfl) (by kernel_rfl) ?_ | refine St.load1 rfl rfl rfl rfl (by repeat constructor) (by rfl) (by kernel_rfl) ?_ | ((((refine St.storeRow rfl hM rfl rfl rfl rfl rfl (by repeat constructor) (Nat.le_of_ble_eq_true rfl) (Nat.le_of_ble_eq_true rfl) (by kernel_rfl) rfl ?_ ?_); (focus ((intro h; cases h; done))); clear hM; intro w hM)); (try simp only [Res.put, Res.known, Act.eval, Value.cells, getD_lit, List.getD_cons_zero, List.getD_cons_succ, List.toList_toArray, List.set_cons_zero, List.set_cons_succ, over, Nat.reduceAdd] at hM))); (try simp only [Act.put, List.setIfInBounds_toArray, List.set_cons_zero, List.set_cons_succ])) | (((refine St.alloc (ty := 117) (z := .agg #[.int .i64 0, .int .i64 0, .int .i64 0, .int .i64 0, .int .i64 0, .int .i64 0, .int .i64 0, .int .i64 0, .int .i64 0]) rfl hM rfl rfl (by kernel_rfl) ?_); clear hM; intro w bk hM); (try simp only [Res.put, Res.known, Act.eval, Value.cells, getD_lit, List.getD_cons_zero, List.getD_cons_succ, List.toList_toArray, List.set_cons_zero, List.set_cons_succ, over, Nat.reduceAdd] at hM); (try simp only [Act.put, List.setIfInBounds_toArray, List.set_cons_zero, List.set_cons_succ]))) | (first | (refine wp_seq_shut (fun K hK => ?_)) | ((refine hK.out _ _ ?_); clear hK K)) | ((refine wp_drawn (id := 1) hM (Sub.all _) [3] [(0, 0), (1, 0), (2, 0), (3, 1), (4, 2), (5, 2), (6, 2), (7, 3)] (by kernel_rfl) (by kernel_rfl) ?_); (clear hM; intro w hM Kr hKr); simp only [opsOf, List.getD_cons_zero, List.getD_cons_succ])))
    (refine St.call3 rfl rfl (by kernel_rfl) (fun R hR => ?_); simp only [List.map_toArray, List.map_cons, List.map_nil, Act.eval, getD_lit, List.getD_cons_zero, List.getD_cons_succ])
    refine (Drop_any (hM.part (M := tblL x.g x.mb β d.t) (by repeat (first | exact Part.all | apply Part.skip))).tbl FI hid).mono ?_
    (rintro e w' ⟨rfl, hS⟩; obtain ⟨β, hN⟩ := hS.st; replace hM := hM.backM (by repeat (first | exact Swap.all | apply Swap.skip)) tblL_flag hN tblL_flag; clear hN hS; refine hR.out _ _ ?_; clear hR R; (try simp only [Act.put, List.setIfInBounds_toArray, List.set_cons_zero, List.set_cons_succ]))
    (repeat (first | ((with_reducible show wpSeq _ _ _ _ _ _ _); first | ((with_reducible refine wpSeq_nil ?_); refine hKr.out _ _ ?_; clear hKr Kr) | ((first | (refine St.copy (v := ?_) (by exact .inl rfl) rfl rfl ?_ ?_; rotate_left; (focus ((try simp only [Act.eval, getD_lit, List.getD_cons_zero, List.getD_cons_succ]); with_reducible rfl))) | (refine St.pure (v := ?_) rfl rfl rfl (fun w => ?_) ?_; rotate_left; (focus (go_simp; all_goals with_reducible rfl))) | refine St.load1 rfl rfl rfl rfl (by repeat constructor) (by rfl) (by kernel_rfl) ?_ | ((refine St.loadRow rfl hM rfl rfl rfl rfl (by repeat constructor) (Nat.le_of_ble_eq_true rfl) (by kernel_rfl) ?_); (try simp only [Res.known, List.drop_succ_cons, List.drop_zero, List.take_succ_cons, List.take_zero])) | ((((refine St.store rfl hM rfl rfl rfl rfl rfl (by repeat constructor) (Nat.le_of_ble_eq_true rfl) (by kernel_rfl) rfl ?_ ?_); (focus ((intro h; cases h; done))); clear hM; intro w hM)); (try simp only [Res.put, Res.known, Act.eval, Value.cells, getD_lit, List.getD_cons_zero, List.getD_cons_succ, List.toList_toArray, List.set_cons_zero, List.set_cons_succ, over, Nat.reduceAdd] at hM))); (try simp only [Act.put, List.setIfInBounds_toArray, List.set_cons_zero, List.set_cons_succ]))) | (first | (refine wp_seq_shut (fun K hK => ?_)) | (refine wp_text hM (fun Kr hKr => ?_); simp only [inText]) | ((refine hK.out _ _ ?_); clear hK K)) | ((refine wp_drawn (id := 3) hM (Sub.all _) [3] [(0, 0), (1, 0), (2, 0), (3, 1), (4, 0), (5, 2), (6, 3)] (by kernel_rfl) (by kernel_rfl) ?_); (clear hM; intro w hM Kr hKr); simp only [opsOf, List.getD_cons_zero, List.getD_cons_succ])))
    (refine St.mapUpdate rfl hM rfl rfl rfl rfl rfl (by repeat constructor) (put_hand _ _ [a0, a1, a2, a3, 0, a5, a6, a7, a8]) key_int Tryz.underlying42 (by assumption) (keyOf_int_mk Tryz.underlying3 (by assumption)) ?_ ?_; (focus ((intro h; cases h; done))); clear hM; intro w hM; (try simp only [Act.put, List.setIfInBounds_toArray, List.set_cons_zero, List.set_cons_succ]))
    (repeat (first | ((with_reducible show wpSeq _ _ _ _ _ _ _); first | ((with_reducible refine wpSeq_nil ?_); refine hKr.out _ _ ?_; clear hKr Kr) | ((first | (refine St.pure (v := ?_) rfl rfl rfl (fun w => ?_) ?_; rotate_left; (focus (go_simp; all_goals with_reducible rfl))) | ((refine St.loadRow rfl hM rfl rfl rfl rfl (by repeat constructor) (Nat.le_of_ble_eq_true rfl) (by kernel_rfl) ?_); (try simp only [Res.known, List.drop_succ_cons, List.drop_zero, List.take_succ_cons, List.take_zero]))); (try simp only [Act.put, List.setIfInBounds_toArray, List.set_cons_zero, List.set_cons_succ]))) | (first | (refine wp_seq_shut (fun K hK => ?_)) | (refine wp_text hM (fun Kr hKr => ?_); simp only [inText]) | ((refine hK.out _ _ ?_); clear hK K))))
    by_cases hz : [a0, a1, a2, a3, 0, a5, a6, a7, a8] = Fs.z9
    · have HZ := Lib.hid hz
      refine St.eqHand rfl rfl rfl rfl rfl (decide_eq_true hz) ?_
      clear hz
      (try simp only [Act.put, List.setIfInBounds_toArray, List.set_cons_zero, List.set_cons_succ])
      (repeat (first | ((with_reducible show wpSeq _ _ _ _ _ _ _); first | ((with_reducible refine wpSeq_nil ?_); refine hKr.out _ _ ?_; clear hKr Kr) | ((first | (refine St.copy (v := ?_) (by exact .inl rfl) rfl rfl ?_ ?_; rotate_left; (focus ((try simp only [Act.eval, getD_lit, List.getD_cons_zero, List.getD_cons_succ]); with_reducible rfl))) | (refine St.pure (v := ?_) rfl rfl rfl (fun w => ?_) ?_; rotate_left; (focus (go_simp; all_goals with_reducible rfl))) | refine St.load rfl hM rfl rfl rfl rfl (by repeat constructor) (by rfl) (by kernel_rfl) ?_); (try simp only [Act.put, List.setIfInBounds_toArray, List.set_cons_zero, List.set_cons_succ]))) | (first | (refine wp_text hM (fun Kr hKr => ?_); simp only [inText]) | (refine wp_cond_true rfl ?_) | ((refine hK.out _ _ ?_); clear hK K))))
      (refine St.mapDelete rfl hM rfl rfl rfl rfl (by repeat constructor) (del_hand _ _) key_int Tryz.underlying42 (keyOf_int_mk Tryz.underlying3 (by assumption)) ?_ ?_; (focus ((intro h; cases h; done))); clear hM; intro w hM; (try simp only [Act.put, List.setIfInBounds_toArray, List.set_cons_zero, List.set_cons_succ]))
      (repeat (((with_reducible show wpSeq _ _ _ _ _ _ _); ((with_reducible refine wpSeq_nil ?_); refine hKr.out _ _ ?_; clear hKr Kr))))
      ((refine St.fin hM rfl (by repeat (exact Outs.nil)) rfl ?_))
      refine ⟨rfl, β, ?_⟩
      rw [Fs.shut_yes HZ.out]
      exact hM.forget
    · have HZ := Lib.hid hz
      refine St.eqHand rfl rfl rfl rfl rfl (decide_eq_false hz) ?_
      clear hz
      (try simp only [Act.put, List.setIfInBounds_toArray, List.set_cons_zero, List.set_cons_succ])
      (repeat (first | ((with_reducible show wpSeq _ _ _ _ _ _ _); ((with_reducible refine wpSeq_nil ?_); refine hKr.out _ _ ?_; clear hKr Kr)) | (first | refine wp_skip ?_ | (refine wp_cond_false rfl ?_) | ((refine hK.out _ _ ?_); clear hK K))))
      ((refine St.fin hM rfl (by repeat (exact Outs.nil)) rfl ?_))
      refine ⟨rfl, β, ?_⟩
      rw [Fs.shut_no HZ.out]
      exact hM.forget
  · simp only [List.getD_cons_zero, List.getD_cons_succ, List.set_cons_zero, List.set_cons_succ]
    have hid : Fits a5 := fits_of (by have := (hrw.2 a5 (by simp)).1; omega) (by have := (hrw.2 a5 (by simp)).2; omega)
    clear hrw
    go_enter Tryz.func67, Tryz.ntmps67
    (repeat (first | ((with_reducible show wpSeq _ _ _ _ _ _ _); ((first | (refine St.copy (v := ?_) (by exact .inl rfl) rfl rfl ?_ ?_; rotate_left; (focus ((try simp only [Act.eval, getD_lit, List.getD_cons_zero, List.getD_cons_succ]); with_reducible rfl))) | (refine St.pure (v := ?_) rfl rfl rfl (fun w => ?_) ?_; rotate_left; (focus (go_simp; all_goals with_reducible rfl))) | refine St.load rfl hM rfl rfl rfl rfl (by repeat constructor) (by rfl) (by kernel_rfl) ?_); (try simp only [Act.put, List.setIfInBounds_toArray, List.set_cons_zero, List.set_cons_succ]))) | (first | (refine wp_seq_shut (fun K hK => ?_)) | (refine wp_text hM (fun Kr hKr => ?_); simp only [inText]))))
    ((refine St.lookup rfl hM rfl rfl rfl rfl (by repeat constructor) key_int Tryz.underlying42 zero_cell (keyOf_int_mk Tryz.underlying3 (by assumption)) ((look_hand _ _).trans (by assumption)) ?_); (try simp only [Act.put, List.setIfInBounds_toArray, List.set_cons_zero, List.set_cons_succ]))
    (repeat (first | ((with_reducible show wpSeq _ _ _ _ _ _ _); first | ((with_reducible refine wpSeq_nil ?_); refine hKr.out _ _ ?_; clear hKr Kr) | ((first | (refine St.copy (v := ?_) (by exact .inl rfl) rfl rfl ?_ ?_; rotate_left; (focus ((try simp only [Act.eval, getD_lit, List.getD_cons_zero, List.getD_cons_succ]); with_reducible rfl))) | (refine St.pure (v := ?_) rfl rfl rfl (fun w => ?_) ?_; rotate_left; (focus (go_simp; all_goals with_reducible rfl))) | refine St.load rfl hM rfl rfl rfl rfl (by repeat constructor) (by rfl) (by kernel_rfl) ?_ | refine St.load1 rfl rfl rfl rfl (by repeat constructor) (by rfl) (by kernel_rfl) ?_ | ((((refine St.storeRow rfl hM rfl rfl rfl rfl rfl (by repeat constructor) (Nat.le_of_ble_eq_true rfl) (Nat.le_of_ble_eq_true rfl) (by kernel_rfl) rfl ?_ ?_); (focus ((intro h; cases h; done))); clear hM; intro w hM)); (try simp only [Res.put, Res.known, Act.eval, Value.cells, getD_lit, List.getD_cons_zero, List.getD_cons_succ, List.toList_toArray, List.set_cons_zero, List.set_cons_succ, over, Nat.reduceAdd] at hM))); (try simp only [Act.put, List.setIfInBounds_toArray, List.set_cons_zero, List.set_cons_succ])) | (((refine St.alloc (ty := 117) (z := .agg #[.int .i64 0, .int .i64 0, .int .i64 0, .int .i64 0, .int .i64 0, .int .i64 0, .int .i64 0, .int .i64 0, .int .i64 0]) rfl hM rfl rfl (by kernel_rfl) ?_); clear hM; intro w bk hM); (try simp only [Res.put, Res.known, Act.eval, Value.cells, getD_lit, List.getD_cons_zero, List.getD_cons_succ, List.toList_toArray, List.set_cons_zero, List.set_cons_succ, over, Nat.reduceAdd] at hM); (try simp only [Act.put, List.setIfInBounds_toArray, List.set_cons_zero, List.set_cons_succ]))) | (first | (refine wp_seq_shut (fun K hK => ?_)) | ((refine hK.out _ _ ?_); clear hK K)) | ((refine wp_drawn (id := 1) hM (Sub.all _) [3] [(0, 0), (1, 0), (2, 0), (3, 1), (4, 2), (5, 2), (6, 2), (7, 3)] (by kernel_rfl) (by kernel_rfl) ?_); (clear hM; intro w hM Kr hKr); simp only [opsOf, List.getD_cons_zero, List.getD_cons_succ])))
    (refine St.call3 rfl rfl (by kernel_rfl) (fun R hR => ?_); simp only [List.map_toArray, List.map_cons, List.map_nil, Act.eval, getD_lit, List.getD_cons_zero, List.getD_cons_succ])
    refine (Drop_any (hM.part (M := tblL x.g x.mb β d.t) (by repeat (first | exact Part.all | apply Part.skip))).tbl FI hid).mono ?_
    (rintro e w' ⟨rfl, hS⟩; obtain ⟨β, hN⟩ := hS.st; replace hM := hM.backM (by repeat (first | exact Swap.all | apply Swap.skip)) tblL_flag hN tblL_flag; clear hN hS; refine hR.out _ _ ?_; clear hR R; (try simp only [Act.put, List.setIfInBounds_toArray, List.set_cons_zero, List.set_cons_succ]))
    (repeat (first | ((with_reducible show wpSeq _ _ _ _ _ _ _); first | ((with_reducible refine wpSeq_nil ?_); refine hKr.out _ _ ?_; clear hKr Kr) | ((first | (refine St.copy (v := ?_) (by exact .inl rfl) rfl rfl ?_ ?_; rotate_left; (focus ((try simp only [Act.eval, getD_lit, List.getD_cons_zero, List.getD_cons_succ]); with_reducible rfl))) | (refine St.pure (v := ?_) rfl rfl rfl (fun w => ?_) ?_; rotate_left; (focus (go_simp; all_goals with_reducible rfl))) | refine St.load1 rfl rfl rfl rfl (by repeat constructor) (by rfl) (by kernel_rfl) ?_ | ((refine St.loadRow rfl hM rfl rfl rfl rfl (by repeat constructor) (Nat.le_of_ble_eq_true rfl) (by kernel_rfl) ?_); (try simp only [Res.known, List.drop_succ_cons, List.drop_zero, List.take_succ_cons, List.take_zero])) | ((((refine St.store rfl hM rfl rfl rfl rfl rfl (by repeat constructor) (Nat.le_of_ble_eq_true rfl) (by kernel_rfl) rfl ?_ ?_); (focus ((intro h; cases h; done))); clear hM; intro w hM)); (try simp only [Res.put, Res.known, Act.eval, Value.cells, getD_lit, List.getD_cons_zero, List.getD_cons_succ, List.toList_toArray, List.set_cons_zero, List.set_cons_succ, over, Nat.reduceAdd] at hM))); (try simp only [Act.put, List.setIfInBounds_toArray, List.set_cons_zero, List.set_cons_succ]))) | (first | (refine wp_seq_shut (fun K hK => ?_)) | (refine wp_text hM (fun Kr hKr => ?_); simp only [inText]) | ((refine hK.out _ _ ?_); clear hK K)) | ((refine wp_drawn (id := 3) hM (Sub.all _) [3] [(0, 0), (1, 0), (2, 0), (3, 1), (4, 0), (5, 2), (6, 3)] (by kernel_rfl) (by kernel_rfl) ?_); (clear hM; intro w hM Kr hKr); simp only [opsOf, List.getD_cons_zero, List.getD_cons_succ])))
    (refine St.mapUpdate rfl hM rfl rfl rfl rfl rfl (by repeat constructor) (put_hand _ _ [a0, a1, a2, a3, a4, 0, a6, a7, a8]) key_int Tryz.underlying42 (by assumption) (keyOf_int_mk Tryz.underlying3 (by assumption)) ?_ ?_; (focus ((intro h; cases h; done))); clear hM; intro w hM; (try simp only [Act.put, List.setIfInBounds_toArray, List.set_cons_zero, List.set_cons_succ]))
    (repeat (first | ((with_reducible show wpSeq _ _ _ _ _ _ _); first | ((with_reducible refine wpSeq_nil ?_); refine hKr.out _ _ ?_; clear hKr Kr) | ((first | (refine St.pure (v := ?_) rfl rfl rfl (fun w => ?_) ?_; rotate_left; (focus (go_simp; all_goals with_reducible rfl))) | ((refine St.loadRow rfl hM rfl rfl rfl rfl (by repeat constructor) (Nat.le_of_ble_eq_true rfl) (by kernel_rfl) ?_); (try simp only [Res.known, List.drop_succ_cons, List.drop_zero, List.take_succ_cons, List.take_zero]))); (try simp only [Act.put, List.setIfInBounds_toArray, List.set_cons_zero, List.set_cons_succ]))) | (first | (refine wp_seq_shut (fun K hK => ?_)) | (refine wp_text hM (fun Kr hKr => ?_); simp only [inText]) | ((refine hK.out _ _ ?_); clear hK K))))
    by_cases hz : [a0, a1, a2, a3, a4, 0, a6, a7, a8] = Fs.z9
    · have HZ := Lib.hid hz
      refine St.eqHand rfl rfl rfl rfl rfl (decide_eq_true hz) ?_
      clear hz
      (try simp only [Act.put, List.setIfInBounds_toArray, List.set_cons_zero, List.set_cons_succ])
      (repeat (first | ((with_reducible show wpSeq _ _ _ _ _ _ _); first | ((with_reducible refine wpSeq_nil ?_); refine hKr.out _ _ ?_; clear hKr Kr) | ((first | (refine St.copy (v := ?_) (by exact .inl rfl) rfl rfl ?_ ?_; rotate_left; (focus ((try simp only [Act.eval, getD_lit, List.getD_cons_zero, List.getD_cons_succ]); with_reducible rfl))) | (refine St.pure (v := ?_) rfl rfl rfl (fun w => ?_) ?_; rotate_left; (focus (go_simp; all_goals with_reducible rfl))) | refine St.load rfl hM rfl rfl rfl rfl (by repeat constructor) (by rfl) (by kernel_rfl) ?_); (try simp only [Act.put, List.setIfInBounds_toArray, List.set_cons_zero, List.set_cons_succ]))) | (first | (refine wp_text hM (fun Kr hKr => ?_); simp only [inText]) | (refine wp_cond_true rfl ?_) | ((refine hK.out _ _ ?_); clear hK K))))
      (refine St.mapDelete rfl hM rfl rfl rfl rfl (by repeat constructor) (del_hand _ _) key_int Tryz.underlying42 (keyOf_int_mk Tryz.underlying3 (by assumption)) ?_ ?_; (focus ((intro h; cases h; done))); clear hM; intro w hM; (try simp only [Act.put, List.setIfInBounds_toArray, List.set_cons_zero, List.set_cons_succ]))
      (repeat (((with_reducible show wpSeq _ _ _ _ _ _ _); ((with_reducible refine wpSeq_nil ?_); refine hKr.out _ _ ?_; clear hKr Kr))))
      ((refine St.fin hM rfl (by repeat (exact Outs.nil)) rfl ?_))
      refine ⟨rfl, β, ?_⟩
      rw [Fs.shut_yes HZ.out]
      exact hM.forget
    · have HZ := Lib.hid hz
      refine St.eqHand rfl rfl rfl rfl rfl (decide_eq_false hz) ?_
      clear hz
      (try simp only [Act.put, List.setIfInBounds_toArray, List.set_cons_zero, List.set_cons_succ])
      (repeat (first | ((with_reducible show wpSeq _ _ _ _ _ _ _); ((with_reducible refine wpSeq_nil ?_); refine hKr.out _ _ ?_; clear hKr Kr)) | (first | refine wp_skip ?_ | (refine wp_cond_false rfl ?_) | ((refine hK.out _ _ ?_); clear hK K))))
      ((refine St.fin hM rfl (by repeat (exact Outs.nil)) rfl ?_))
      refine ⟨rfl, β, ?_⟩
      rw [Fs.shut_no HZ.out]
      exact hM.forget
  · simp only [List.getD_cons_zero, List.getD_cons_succ, List.set_cons_zero, List.set_cons_succ]
    have hid : Fits a6 := fits_of (by have := (hrw.2 a6 (by simp)).1; omega) (by have := (hrw.2 a6 (by simp)).2; omega)
    clear hrw
    go_enter Tryz.func67, Tryz.ntmps67
    (repeat (first | ((with_reducible show wpSeq _ _ _ _ _ _ _); ((first | (refine St.copy (v := ?_) (by exact .inl rfl) rfl rfl ?_ ?_; rotate_left; (focus ((try simp only [Act.eval, getD_lit, List.getD_cons_zero, List.getD_cons_succ]); with_reducible rfl))) | (refine St.pure (v := ?_) rfl rfl rfl (fun w => ?_) ?_; rotate_left; (focus (go_simp; all_goals with_reducible rfl))) | refine St.load rfl hM rfl rfl rfl rfl (by repeat constructor) (by rfl) (by kernel_rfl) ?_); (try simp only [Act.put, List.setIfInBounds_toArray, List.set_cons_zero, List.set_cons_succ]))) | (first | (refine wp_seq_shut (fun K hK => ?_)) | (refine wp_text hM (fun Kr hKr => ?_); simp only [inText]))))
    ((refine St.lookup rfl hM rfl rfl rfl rfl (by repeat constructor) key_int Tryz.underlying42 zero_cell (keyOf_int_mk Tryz.underlying3 (by assumption)) ((look_hand _ _).trans (by assumption)) ?_); (try simp only [Act.put, List.setIfInBounds_toArray, List.set_cons_zero, List.set_cons_succ]))
    (repeat (first | ((with_reducible show wpSeq _ _ _ _ _ _ _); first | ((with_reducible refine wpSeq_nil ?_); refine hKr.out _ _ ?_; clear hKr Kr) | ((first | (refine St.copy (v := ?_) (by exact .inl rfl) rfl rfl ?_ ?_; rotate_left; (focus ((try simp only [Act.eval, getD_lit, List.getD_cons_zero, List.getD_cons_succ]); with_reducible rfl))) | (refine St.pure (v := ?_) rfl rfl rfl (fun w => ?_) ?_; rotate_left; (focus (go_simp; all_goals with_reducible rfl))) | refine St.load rfl hM rfl rfl rfl rfl (by repeat constructor) (by rfl) (by kernel_rfl) ?_ | refine St.load1 rfl rfl rfl rfl (by repeat constructor) (by rfl) (by kernel_rfl) ?_ | ((((refine St.storeRow rfl hM rfl rfl rfl rfl rfl (by repeat constructor) (Nat.le_of_ble_eq_true rfl) (Nat.le_of_ble_eq_true rfl) (by kernel_rfl) rfl ?_ ?_); (focus ((intro h; cases h; done))); clear hM; intro w hM)); (try simp only [Res.put, Res.known, Act.eval, Value.cells, getD_lit, List.getD_cons_zero, List.getD_cons_succ, List.toList_toArray, List.set_cons_zero, List.set_cons_succ, over, Nat.reduceAdd] at hM))); (try simp only [Act.put, List.setIfInBounds_toArray, List.set_cons_zero, List.set_cons_succ])) | (((refine St.alloc (ty := 117) (z := .agg #[.int .i64 0, .int .i64 0, .int .i64 0, .int .i64 0, .int .i64 0, .int .i64 0, .int .i64 0, .int .i64 0, .int .i64 0]) rfl hM rfl rfl (by kernel_rfl) ?_); clear hM; intro w bk hM); (try simp only [Res.put, Res.known, Act.eval, Value.cells, getD_lit, List.getD_cons_zero, List.getD_cons_succ, List.toList_toArray, List.set_cons_zero, List.set_cons_succ, over, Nat.reduceAdd] at hM); (try simp only [Act.put, List.setIfInBounds_toArray, List.set_cons_zero, List.set_cons_succ]))) | (first | (refine wp_seq_shut (fun K hK => ?_)) | ((refine hK.out _ _ ?_); clear hK K)) | ((refine wp_drawn (id := 1) hM (Sub.all _) [3] [(0, 0), (1, 0), (2, 0), (3, 1), (4, 2), (5, 2), (6, 2), (7, 3)] (by kernel_rfl) (by kernel_rfl) ?_); (clear hM; intro w hM Kr hKr); simp only [opsOf, List.getD_cons_zero, List.getD_cons_succ])))
    (refine St.call3 rfl rfl (by kernel_rfl) (fun R hR => ?_); simp only [List.map_toArray, List.map_cons, List.map_nil, Act.eval, getD_lit, List.getD_cons_zero, List.getD_cons_succ])
    refine (Drop_any (hM.part (M := tblL x.g x.mb β d.t) (by repeat (first | exact Part.all | apply Part.skip))).tbl FI hid).mono ?_
    (rintro e w' ⟨rfl, hS⟩; obtain ⟨β, hN⟩ := hS.st; replace hM := hM.backM (by repeat (first | exact Swap.all | apply Swap.skip)) tblL_flag hN tblL_flag; clear hN hS; refine hR.out _ _ ?_; clear hR R; (try simp only [Act.put, List.setIfInBounds_toArray, List.set_cons_zero, List.set_cons_succ]))
    (repeat (first | ((with_reducible show wpSeq _ _ _ _ _ _ _); first | ((with_reducible refine wpSeq_nil ?_); refine hKr.out _ _ ?_; clear hKr Kr) | ((first | (refine St.copy (v := ?_) (by exact .inl rfl) rfl rfl ?_ ?_; rotate_left; (focus ((try simp only [Act.eval, getD_lit, List.getD_cons_zero, List.getD_cons_succ]); with_reducible rfl))) | (refine St.pure (v := ?_) rfl rfl rfl (fun w => ?_) ?_; rotate_left; (focus (go_simp; all_goals with_reducible rfl))) | refine St.load1 rfl rfl rfl rfl (by repeat constructor) (by rfl) (by kernel_rfl) ?_ | ((refine St.loadRow rfl hM rfl rfl rfl rfl (by repeat constructor) (Nat.le_of_ble_eq_true rfl) (by kernel_rfl) ?_); (try simp only [Res.known, List.drop_succ_cons, List.drop_zero, List.take_succ_cons, List.take_zero])) | ((((refine St.store rfl hM rfl rfl rfl rfl rfl (by repeat constructor) (Nat.le_of_ble_eq_true rfl) (by kernel_rfl) rfl ?_ ?_); (focus ((intro h; cases h; done))); clear hM; intro w hM)); (try simp only [Res.put, Res.known, Act.eval, Value.cells, getD_lit, List.getD_cons_zero, List.getD_cons_succ, List.toList_toArray, List.set_cons_zero, List.set_cons_succ, over, Nat.reduceAdd] at hM))); (try simp only [Act.put, List.setIfInBounds_toArray, List.set_cons_zero, List.set_cons_succ]))) | (first | (refine wp_seq_shut (fun K hK => ?_)) | (refine wp_text hM (fun Kr hKr => ?_); simp only [inText]) | ((refine hK.out _ _ ?_); clear hK K)) | ((refine wp_drawn (id := 3) hM (Sub.all _) [3] [(0, 0), (1, 0), (2, 0), (3, 1), (4, 0), (5, 2), (6, 3)] (by kernel_rfl) (by kernel_rfl) ?_); (clear hM; intro w hM Kr hKr); simp only [opsOf, List.getD_cons_zero, List.getD_cons_succ])))
    (refine St.mapUpdate rfl hM rfl rfl rfl rfl rfl (by repeat constructor) (put_hand _ _ [a0, a1, a2, a3, a4, a5, 0, a7, a8]) key_int Tryz.underlying42 (by assumption) (keyOf_int_mk Tryz.underlying3 (by assumption)) ?_ ?_; (focus ((intro h; cases h; done))); clear hM; intro w hM; (try simp only [Act.put, List.setIfInBounds_toArray, List.set_cons_zero, List.set_cons_succ]))
    (repeat (first | ((with_reducible show wpSeq _ _ _ _ _ _ _); first | ((with_reducible refine wpSeq_nil ?_); refine hKr.out _ _ ?_; clear hKr Kr) | ((first | (refine St.pure (v := ?_) rfl rfl rfl (fun w => ?_) ?_; rotate_left; (focus (go_simp; all_goals with_reducible rfl))) | ((refine St.loadRow rfl hM rfl rfl rfl rfl (by repeat constructor) (Nat.le_of_ble_eq_true rfl) (by kernel_rfl) ?_); (try simp only [Res.known, List.drop_succ_cons, List.drop_zero, List.take_succ_cons, List.take_zero]))); (try simp only [Act.put, List.setIfInBounds_toArray, List.set_cons_zero, List.set_cons_succ]))) | (first | (refine wp_seq_shut (fun K hK => ?_)) | (refine wp_text hM (fun Kr hKr => ?_); simp only [inText]) | ((refine hK.out _ _ ?_); clear hK K))))
    by_cases hz : [a0, a1, a2, a3, a4, a5, 0, a7, a8] = Fs.z9
    · have HZ := Lib.hid hz
      refine St.eqHand rfl rfl rfl rfl rfl (decide_eq_true hz) ?_
      clear hz
      (try simp only [Act.put, List.setIfInBounds_toArray, List.set_cons_zero, List.set_cons_succ])
      (repeat (first | ((with_reducible show wpSeq _ _ _ _ _ _ _); first | ((with_reducible refine wpSeq_nil ?_); refine hKr.out _ _ ?_; clear hKr Kr) | ((first | (refine St.copy (v := ?_) (by exact .inl rfl) rfl rfl ?_ ?_; rotate_left; (focus ((try simp only [Act.eval, getD_lit, List.getD_cons_zero, List.getD_cons_succ]); with_reducible rfl))) | (refine St.pure (v := ?_) rfl rfl rfl (fun w => ?_) ?_; rotate_left; (focus (go_simp; all_goals with_reducible rfl))) | refine St.load rfl hM rfl rfl rfl rfl (by repeat constructor) (by rfl) (by kernel_rfl) ?_); (try simp only [Act.put, List.setIfInBounds_toArray, List.set_cons_zero, List.set_cons_succ]))) | (first | (refine wp_text hM (fun Kr hKr => ?_); simp only [inText]) | (refine wp_cond_true rfl ?_) | ((refine hK.out _ _ ?_); clear hK K))))
      (refine St.mapDelete rfl hM rfl rfl rfl rfl (by repeat constructor) (del_hand _ _) key_int Tryz.underlying42 (keyOf_int_mk Tryz.underlying3 (by assumption)) ?_ ?_; (focus ((intro h; cases h; done))); clear hM; intro w hM; (try simp only [Act.put, List.setIfInBounds_toArray, List.set_cons_zero, List.set_cons_succ]))
      (repeat (((with_reducible show wpSeq _ _ _ _ _ _ _); ((with_reducible refine wpSeq_nil ?_); refine hKr.out _ _ ?_; clear hKr Kr))))
      ((refine St.fin hM rfl (by repeat (exact Outs.nil)) rfl ?_))
      refine ⟨rfl, β, ?_⟩
      rw [Fs.shut_yes HZ.out]
      exact hM.forget
    · have HZ := Lib.hid hz
      refine St.eqHand rfl rfl rfl rfl rfl (decide_eq_false hz) ?_
      clear hz
      (try simp only [Act.put, List.setIfInBounds_toArray, List.set_cons_zero, List.set_cons_succ])
      (repeat (first | ((with_reducible show wpSeq _ _ _ _ _ _ _); ((with_reducible refine wpSeq_nil ?_); refine hKr.out _ _ ?_; clear hKr Kr)) | (first | refine wp_skip ?_ | (refine wp_cond_false rfl ?_) | ((refine hK.out _ _ ?_); clear hK K))))
      ((refine St.fin hM rfl (by repeat (exact Outs.nil)) rfl ?_))
      refine ⟨rfl, β, ?_⟩
      rw [Fs.shut_no HZ.out]
      exact hM.forget
  · simp only [List.getD_cons_zero, List.getD_cons_succ, List.set_cons_zero, List.set_cons_succ]
    have hid : Fits a7 := fits_of (by have := (hrw.2 a7 (by simp)).1; omega) (by have := (hrw.2 a7 (by simp)).2; omega)
    clear hrw
    go_enter Tryz.func67, Tryz.ntmps67
    (repeat (first | ((with_reducible show wpSeq _ _ _ _ _ _ _); ((first | (refine St.copy (v := ?_) (by exact .inl rfl) rfl rfl ?_ ?_; rotate_left; (focus ((try simp only [Act.eval, getD_lit, List.getD_cons_zero, List.getD_cons_succ]); with_reducible rfl))) | (refine St.pure (v := ?_) rfl rfl rfl (fun w => ?_) ?_; rotate_left; (focus (go_simp; all_goals with_reducible rfl))) | refine St.load rfl hM rfl rfl rfl rfl (by repeat constructor) (by rfl) (by kernel_rfl) ?_); (try simp only [Act.put, List.setIfInBounds_toArray, List.set_cons_zero, List.set_cons_succ]))) | (first | (refine wp_seq_shut (fun K hK => ?_)) | (refine wp_text hM (fun Kr hKr => ?_); simp only [inText]))))
    ((refine St.lookup rfl hM rfl rfl rfl rfl (by repeat constructor) key_int Tryz.underlying42 zero_cell (keyOf_int_mk Tryz.underlying3 (by assumption)) ((look_hand _ _).trans (by assumption)) ?_); (try simp only [Act.put, List.setIfInBounds_toArray, List.set_cons_zero, List.set_cons_succ]))
    (repeat (first | ((with_reducible show wpSeq _ _ _ _ _ _ _); first | ((with_reducible refine wpSeq_nil ?_); refine hKr.out _ _ ?_; clear hKr Kr) | ((first | (refine St.copy (v := ?_) (by exact .inl rfl) rfl rfl ?_ ?_; rotate_left; (focus ((try simp only [Act.eval, getD_lit, List.getD_cons_zero, List.getD_cons_succ]); with_reducible rfl))) | (refine St.pure (v := ?_) rfl rfl rfl (fun w => ?_) ?_; rotate_left; (focus (go_simp; all_goals with_reducible rfl))) | refine St.load rfl hM rfl rfl rfl rfl (by repeat constructor) (by rfl) (by kernel_rfl) ?_ | refine St.load1 rfl rfl rfl rfl (by repeat constructor) (by rfl) (by kernel_rfl) ?_ | ((((refine St.storeRow rfl hM rfl rfl rfl rfl rfl (by repeat constructor) (Nat.le_of_ble_eq_true rfl) (Nat.le_of_ble_eq_true rfl) (by kernel_rfl) rfl ?_ ?_); (focus ((intro h; cases h; done))); clear hM; intro w hM)); (try simp only [Res.put, Res.known, Act.eval, Value.cells, getD_lit, List.getD_cons_zero, List.getD_cons_succ, List.toList_toArray, List.set_cons_zero, List.set_cons_succ, over, Nat.reduceAdd] at hM))); (try simp only [Act.put, List.setIfInBounds_toArray, List.set_cons_zero, List.set_cons_succ])) | (((refine St.alloc (ty := 117) (z := .agg #[.int .i64 0, .int .i64 0, .int .i64 0, .int .i64 0, .int .i64 0, .int .i64 0, .int .i64 0, .int .i64 0, .int .i64 0]) rfl hM rfl rfl (by kernel_rfl) ?_); clear hM; intro w bk hM); (try simp only [Res.put, Res.known, Act.eval, Value.cells, getD_lit, List.getD_cons_zero, List.getD_cons_succ, List.toList_toArray, List.set_cons_zero, List.set_cons_succ, over, Nat.reduceAdd] at hM); (try simp only [Act.put, List.setIfInBounds_toArray, List.set_cons_zero, List.set_cons_succ]))) | (first | (refine wp_seq_shut (fun K hK => ?_)) | ((refine hK.out _ _ ?_); clear hK K)) | ((refine wp_drawn (id := 1) hM (Sub.all _) [3] [(0, 0), (1, 0), (2, 0), (3, 1), (4, 2), (5, 2), (6, 2), (7, 3)] (by kernel_rfl) (by kernel_rfl) ?_); (clear hM; intro w hM Kr hKr); simp only [opsOf, List.getD_cons_zero, List.getD_cons_succ])))
    (refine St.call3 rfl rfl (by kernel_rfl) (fun R hR => ?_); simp only [List.map_toArray, List.map_cons, List.map_nil, Act.eval, getD_lit, List.getD_cons_zero, List.getD_cons_succ])
    refine (Drop_any (hM.part (M := tblL x.g x.mb β d.t) (by repeat (first | exact Part.all | apply Part.skip))).tbl FI hid).mono ?_
    (rintro e w' ⟨rfl, hS⟩; obtain ⟨β, hN⟩ := hS.st; replace hM := hM.backM (by repeat (first | exact Swap.all | apply Swap.skip)) tblL_flag hN tblL_flag; clear hN hS; refine hR.out _ _ ?_; clear hR R; (try simp only [Act.put, List.setIfInBounds_toArray, List.set_cons_zero, List.set_cons_succ]))
    (repeat (first | ((with_reducible show wpSeq _ _ _ _ _ _ _); first | ((with_reducible refine wpSeq_nil ?_); refine hKr.out _ _ ?_; clear hKr Kr) | ((first | (refine St.copy (v := ?_) (by exact .inl rfl) rfl rfl ?_ ?_; rotate_left; (focus ((try simp only [Act.eval, getD_lit, List.getD_cons_zero, List.getD_cons_succ]); with_reducible rfl))) | (refine St.pure (v := ?_) rfl rfl rfl (fun w => ?_) ?_; rotate_left; (focus (go_simp; all_goals with_reducible rfl))) | refine St.load1 rfl rfl rfl rfl (by repeat constructor) (by rfl) (by kernel_rfl) ?_ | ((refine St.loadRow rfl hM rfl rfl rfl rfl (by repeat constructor) (Nat.le_of_ble_eq_true rfl) (by kernel_rfl) ?_); (try simp only [Res.known, List.drop_succ_cons, List.drop_zero, List.take_succ_cons, List.take_zero])) | ((((refine St.store rfl hM rfl rfl rfl rfl rfl (by repeat constructor) (Nat.le_of_ble_eq_true rfl) (by kernel_rfl) rfl ?_ ?_); (focus ((intro h; cases h; done))); clear hM; intro w hM)); (try simp only [Res.put, Res.known, Act.eval, Value.cells, getD_lit, List.getD_cons_zero, List.getD_cons_succ, List.toList_toArray, List.set_cons_zero, List.set_cons_succ, over, Nat.reduceAdd] at hM))); (try simp only [Act.put, List.setIfInBounds_toArray, List.set_cons_zero, List.set_cons_succ]))) | (first | (refine wp_seq_shut (fun K hK => ?_)) | (refine wp_text hM (fun Kr hKr => ?_); simp only [inText]) | ((refine hK.out _ _ ?_); clear hK K)) | ((refine wp_drawn (id := 3) hM (Sub.all _) [3] [(0, 0), (1, 0), (2, 0), (3, 1), (4, 0), (5, 2), (6, 3)] (by kernel_rfl) (by kernel_rfl) ?_); (clear hM; intro w hM Kr hKr); simp only [opsOf, List.getD_cons_zero, List.getD_cons_succ])))
    (refine St.mapUpdate rfl hM rfl rfl rfl rfl rfl (by repeat constructor) (put_hand _ _ [a0, a1, a2, a3, a4, a5, a6, 0, a8]) key_int Tryz.underlying42 (by assumption) (keyOf_int_mk Tryz.underlying3 (by assumption)) ?_ ?_; (focus ((intro h; cases h; done))); clear hM; intro w hM; (try simp only [Act.put, List.setIfInBounds_toArray, List.set_cons_zero, List.set_cons_succ]))
    (repeat (first | ((with_reducible show wpSeq _ _ _ _ _ _ _); first | ((with_reducible refine wpSeq_nil ?_); refine hKr.out _ _ ?_; clear hKr Kr) | ((first | (refine St.pure (v := ?_) rfl rfl rfl (fun w => ?_) ?_; rotate_left; (focus (go_simp; all_goals with_reducible rfl))) | ((refine St.loadRow rfl hM rfl rfl rfl rfl (by repeat constructor) (Nat.le_of_ble_eq_true rfl) (by kernel_rfl) ?_); (try simp only [Res.known, List.drop_succ_cons, List.drop_zero, List.take_succ_cons, List.take_zero]))); (try simp only [Act.put, List.setIfInBounds_toArray, List.set_cons_zero, List.set_cons_succ]))) | (first | (refine wp_seq_shut (fun K hK => ?_)) | (refine wp_text hM (fun Kr hKr => ?_); simp only [inText]) | ((refine hK.out _ _ ?_); clear hK K))))
    by_cases hz : [a0, a1, a2, a3, a4, a5, a6, 0, a8] = Fs.z9
    · have HZ := Lib.hid hz
      refine St.eqHand rfl rfl rfl rfl rfl (decide_eq_true hz) ?_
      clear hz
      (try simp only [Act.put, List.setIfInBounds_toArray, List.set_cons_zero, List.set_cons_succ])
      (repeat (first | ((with_reducible show wpSeq _ _ _ _ _ _ _); first | ((with_reducible refine wpSeq_nil ?_); refine hKr.out _ _ ?_; clear hKr Kr) | ((first | (refine St.copy (v := ?_) (by exact .inl rfl) rfl rfl ?_ ?_; rotate_left; (focus ((try simp only [Act.eval, getD_lit, List.getD_cons_zero, List.getD_cons_succ]); with_reducible rfl))) | (refine St.pure (v := ?_) rfl rfl rfl (fun w => ?_) ?_; rotate_left; (focus (go_simp; all_goals with_reducible rfl))) | refine St.load rfl hM rfl rfl rfl rfl (by repeat constructor) (by rfl) (by kernel_rfl) ?_); (try simp only [Act.put, List.setIfInBounds_toArray, List.set_cons_zero, List.set_cons_succ]))) | (first | (refine wp_text hM (fun Kr hKr => ?_); simp only [inText]) | (refine wp_cond_true rfl ?_) | ((refine hK.out _ _ ?_); clear hK K))))
      (refine St.mapDelete rfl hM rfl rfl rfl rfl (by repeat constructor) (del_hand _ _) key_int Tryz.underlying42 (keyOf_int_mk Tryz.underlying3 (by assumption)) ?_ ?_; (focus ((intro h; cases h; done))); clear hM; intro w hM; (try simp only [Act.put, List.setIfInBounds_toArray, List.set_cons_zero, List.set_cons_succ]))
      (repeat (((with_reducible show wpSeq _ _ _ _ _ _ _); ((with_reducible refine wpSeq_nil ?_); refine hKr.out _ _ ?_; clear hKr Kr))))
      ((refine St.fin hM rfl (by repeat (exact Outs.nil)) rfl ?_))
      refine ⟨rfl, β, ?_⟩
      rw [Fs.shut_yes HZ.out]
      exact hM.forget
    · have HZ := Lib.hid hz
      refine St.eqHand rfl rfl rfl rfl rfl (decide_eq_false hz) ?_
      clear hz
      (try simp only [Act.put, List.setIfInBounds_toArray, List.set_cons_zero, List.set_cons_succ])
      (repeat (first | ((with_reducible show wpSeq _ _ _ _ _ _ _); ((with_reducible refine wpSeq_nil ?_); refine hKr.out _ _ ?_; clear hKr Kr)) | (first | refine wp_skip ?_ | (refine wp_cond_false rfl ?_) | ((refine hK.out _ _ ?_); clear hK K))))
      ((refine St.fin hM rfl (by repeat (exact Outs.nil)) rfl ?_))
      refine ⟨rfl, β, ?_⟩
      rw [Fs.shut_no HZ.out]
      exact hM.forget
  · simp only [List.getD_cons_zero, List.getD_cons_succ, List.set_cons_zero, List.set_cons_succ]
    have hid : Fits a8 := fits_of (by have := (hrw.2 a8 (by simp)).1; omega) (by have := (hrw.2 a8 (by simp)).2; omega)
    clear hrw
    go_enter Tryz.func67, Tryz.ntmps67
    (repeat (first | ((with_reducible show wpSeq _ _ _ _ _ _ _); ((first | (refine St.copy (v := ?_) (by exact .inl rfl) rfl rfl ?_ ?_; rotate_left; (focus ((try simp only [Act.eval, getD_lit, List.getD_cons_zero, List.getD_cons_succ]); with_reducible rfl))) | (refine St.pure (v := ?_) rfl rfl rfl (fun w => ?_) ?_; rotate_left; (focus (go_simp; all_goals with_reducible rfl))) | refine St.load rfl hM rfl rfl rfl rfl (by repeat constructor) (by rfl) (by kernel_rfl) ?_); (try simp only [Act.put, List.setIfInBounds_toArray, List.set_cons_zero, List.set_cons_succ]))) | (first | (refine wp_seq_shut (fun K hK => ?_)) | (refine wp_text hM (fun Kr hKr => ?_); simp only [inText]))))
    ((refine St.lookup rfl hM rfl rfl rfl rfl (by repeat constructor) key_int Tryz.underlying42 zero_cell (keyOf_int_mk Tryz.underlying3 (by assumption)) ((look_hand _ _).trans (by assumption)) ?_); (try simp only [Act.put, List.setIfInBounds_toArray, List.set_cons_zero, List.set_cons_succ]))
    (repeat (first | ((with_reducible show wpSeq _ _ _ _ _ _ _); first | ((with_reducible refine wpSeq_nil ?_); refine hKr.out _ _ ?_; clear hKr Kr) | ((first | (refine St.copy (v := ?_) (by exact .inl rfl) rfl rfl ?_ ?_; rotate_left; (focus ((try simp only [Act.eval, getD_lit, List.getD_cons_zero, List.getD_cons_succ]); with_reducible rfl))) | (refine St.pure (v := ?_) rfl rfl rfl (fun w => ?_) ?_; rotate_left; (focus (go_simp; all_goals with_reducible rfl))) | refine St.load rfl hM rfl rfl rfl rfl (by repeat constructor) (by rfl) (by kernel_rfl) ?_ | refine St.load1 rfl rfl rfl rfl (by repeat constructor) (by rfl) (by kernel_rfl) ?_ | ((((refine St.storeRow rfl hM rfl rfl rfl rfl rfl (by repeat constructor) (Nat.le_of_ble_eq_true rfl) (Nat.le_of_ble_eq_true rfl) (by kernel_rfl) rfl ?_ ?_); (focus ((intro h; cases h; done))); clear hM; intro w hM)); (try simp only [Res.put, Res.known, Act.eval, Value.cells, getD_lit, List.getD_cons_zero, List.getD_cons_succ, List.toList_toArray, List.set_cons_zero, List.set_cons_succ, over, Nat.reduceAdd] at hM))); (try simp only [Act.put, List.setIfInBounds_toArray, List.set_cons_zero, List.set_cons_succ])) | (((refine St.alloc (ty := 117) (z := .agg #[.int .i64 0, .int .i64 0, .int .i64 0, .int .i64 0, .int .i64 0, .int .i64 0, .int .i64 0, .int .i64 0, .int .i64 0]) rfl hM rfl rfl (by kernel_rfl) ?_); clear hM; intro w bk hM); (try simp only [Res.put, Res.known, Act.eval, Value.cells, getD_lit, List.getD_cons_zero, List.getD_cons_succ, List.toList_toArray, List.set_cons_zero, List.set_cons_succ, over, Nat.reduceAdd] at hM); (try simp only [Act.put, List.setIfInBounds_toArray, List.set_cons_zero, List.set_cons_succ]))) | (first | (refine wp_seq_shut (fun K hK => ?_)) | ((refine hK.out _ _ ?_); clear hK K)) | ((refine wp_drawn (id := 1) hM (Sub.all _) [3] [(0, 0), (1, 0), (2, 0), (3, 1), (4, 2), (5, 2), (6, 2), (7, 3)] (by kernel_rfl) (by kernel_rfl) ?_); (clear hM; intro w hM Kr hKr); simp only [opsOf, List.getD_cons_zero, List.getD_cons_succ])))
    (refine St.call3 rfl rfl (by kernel_rfl) (fun R hR => ?_); simp only [List.map_toArray, List.map_cons, List.map_nil, Act.eval, getD_lit, List.getD_cons_zero, List.getD_cons_succ])
    refine (Drop_any (hM.part (M := tblL x.g x.mb β d.t) (by repeat (first | exact Part.all | apply Part.skip))).tbl FI hid).mono ?_
    (rintro e w' ⟨rfl, hS⟩; obtain ⟨β, hN⟩ := hS.st; replace hM := hM.backM (by repeat (first | exact Swap.all | apply Swap.skip)) tblL_flag hN tblL_flag; clear hN hS; refine hR.out _ _ ?_; clear hR R; (try simp only [Act.put, List.setIfInBounds_toArray, List.set_cons_zero, List.set_cons_succ]))
    (repeat (first | ((with_reducible show wpSeq _ _ _ _ _ _ _); first | ((with_reducible refine wpSeq_nil ?_); refine hKr.out _ _ ?_; clear hKr Kr) | ((first | (refine St.copy (v := ?_) (by exact .inl rfl) rfl rfl ?_ ?_; rotate_left; (focus ((try simp only [Act.eval, getD_lit, List.getD_cons_zero, List.getD_cons_succ]); with_reducible rfl))) | (refine St.pure (v := ?_) rfl rfl rfl (fun w => ?_) ?_; rotate_left; (focus (go_simp; all_goals with_reducible rfl))) | refine St.load1 rfl rfl rfl rfl (by repeat constructor) (by rfl) (by kernel_rfl) ?_ | ((refine St.loadRow rfl hM rfl rfl rfl rfl (by repeat constructor) (Nat.le_of_ble_eq_true rfl) (by kernel_rfl) ?_); (try simp only [Res.known, List.drop_succ_cons, List.drop_zero, List.take_succ_cons, List.take_zero])) | ((((refine St.store rfl hM rfl rfl rfl rfl rfl (by repeat constructor) (Nat.le_of_ble_eq_true rfl) (by kernel_rfl) rfl ?_ ?_); (focus ((intro h; cases h; done))); clear hM; intro w hM)); (try simp only [Res.put, Res.known, Act.eval, Value.cells, getD_lit, List.getD_cons_zero, List.getD_cons_succ, List.toList_toArray, List.set_cons_zero, List.set_cons_succ, over, Nat.reduceAdd] at hM))); (try simp only [Act.put, List.setIfInBounds_toArray, List.set_cons_zero, List.set_cons_succ]))) | (first | (refine wp_seq_shut (fun K hK => ?_)) | (refine wp_text hM (fun Kr hKr => ?_); simp only [inText]) | ((refine hK.out _ _ ?_); clear hK K)) | ((refine wp_drawn (id := 3) hM (Sub.all _) [3] [(0, 0), (1, 0), (2, 0), (3, 1), (4, 0), (5, 2), (6, 3)] (by kernel_rfl) (by kernel_rfl) ?_); (clear hM; intro w hM Kr hKr); simp only [opsOf, List.getD_cons_zero, List.getD_cons_succ])))
    (refine St.mapUpdate rfl hM rfl rfl rfl rfl rfl (by repeat constructor) (put_hand _ _ [a0, a1, a2, a3, a4, a5, a6, a7, 0]) key_int Tryz.underlying42 (by assumption) (keyOf_int_mk Tryz.underlying3 (by assumption)) ?_ ?_; (focus ((intro h; cases h; done))); clear hM; intro w hM; (try simp only [Act.put, List.setIfInBounds_toArray, List.set_cons_zero, List.set_cons_succ]))
    (repeat (first | ((with_reducible show wpSeq _ _ _ _ _ _ _); first | ((with_reducible refine wpSeq_nil ?_); refine hKr.out _ _ ?_; clear hKr Kr) | ((first | (refine St.pure (v := ?_) rfl rfl rfl (fun w => ?_) ?_; rotate_left; (focus (go_simp; all_goals with_reducible rfl))) | ((refine St.loadRow rfl hM rfl rfl rfl rfl (by repeat constructor) (Nat.le_of_ble_eq_true rfl) (by kernel_rfl) ?_); (try simp only [Res.known, List.drop_succ_cons, List.drop_zero, List.take_succ_cons, List.take_zero]))); (try simp only [Act.put, List.setIfInBounds_toArray, List.set_cons_zero, List.set_cons_succ]))) | (first | (refine wp_seq_shut (fun K hK => ?_)) | (refine wp_text hM (fun Kr hKr => ?_); simp only [inText]) | ((refine hK.out _ _ ?_); clear hK K))))
    by_cases hz : [a0, a1, a2, a3, a4, a5, a6, a7, 0] = Fs.z9
    · have HZ := Lib.hid hz
      refine St.eqHand rfl rfl rfl rfl rfl (decide_eq_true hz) ?_
      clear hz
      (try simp only [Act.put, List.setIfInBounds_toArray, List.set_cons_zero, List.set_cons_succ])
      (repeat (first | ((with_reducible show wpSeq _ _ _ _ _ _ _); first | ((with_reducible refine wpSeq_nil ?_); refine hKr.out _ _ ?_; clear hKr Kr) | ((first | (refine St.copy (v := ?_) (by exact .inl rfl) rfl rfl ?_ ?_; rotate_left; (focus ((try simp only [Act.eval, getD_lit, List.getD_cons_zero, List.getD_cons_succ]); with_reducible rfl))) | (refine St.pure (v := ?_) rfl rfl rfl (fun w => ?_) ?_; rotate_left; (focus (go_simp; all_goals with_reducible rfl))) | refine St.load rfl hM rfl rfl rfl rfl (by repeat constructor) (by rfl) (by kernel_rfl) ?_); (try simp only [Act.put, List.setIfInBounds_toArray, List.set_cons_zero, List.set_cons_succ]))) | (first | (refine wp_text hM (fun Kr hKr => ?_); simp only [inText]) | (refine wp_cond_true rfl ?_) | ((refine hK.out _ _ ?_); clear hK K))))
      (refine St.mapDelete rfl hM rfl rfl rfl rfl (by repeat constructor) (del_hand _ _) key_int Tryz.underlying42 (keyOf_int_mk Tryz.underlying3 (by assumption)) ?_ ?_; (focus ((intro h; cases h; done))); clear hM; intro w hM; (try simp only [Act.put, List.setIfInBounds_toArray, List.set_cons_zero, List.set_cons_succ]))
      (repeat (((with_reducible show wpSeq _ _ _ _ _ _ _); ((with_reducible refine wpSeq_nil ?_); refine hKr.out _ _ ?_; clear hKr Kr))))
      ((refine St.fin hM rfl (by repeat (exact Outs.nil)) rfl ?_))
      refine ⟨rfl, β, ?_⟩
      rw [Fs.shut_yes HZ.out]
      exact hM.forget
    · have HZ := Lib.hid hz
      refine St.eqHand rfl rfl rfl rfl rfl (decide_eq_false hz) ?_
      clear hz
      (try simp only [Act.put, List.setIfInBounds_toArray, List.set_cons_zero, List.set_cons_succ])
      (repeat (first | ((with_reducible show wpSeq _ _ _ _ _ _ _); ((with_reducible refine wpSeq_nil ?_); refine hKr.out _ _ ?_; clear hKr Kr)) | (first | refine wp_skip ?_ | (refine wp_cond_false rfl ?_) | ((refine hK.out _ _ ?_); clear hK K))))
      ((refine St.fin hM rfl (by repeat (exact Outs.nil)) rfl ?_))
      refine ⟨rfl, β, ?_⟩
      rw [Fs.shut_no HZ.out]
      exact hM.forget
end
end Go.Proofs.YtcicjklhbnipcaaGreatDoor
namespace Go.Proofs.YtcicjklhbnipcaaGreatDoor
set_option linter.unusedVariables false
set_option linter.unusedSimpArgs false
open Go.RowKit Go.Maps
section
variable {N : Nat} {x : FsX} {β : Int → Nat × Nat} {d : FsD} {w w' w0 : World} {F : List Nat} {L L' M' : List Ent}
/-- An answer without names. -/
def resV (r : ResD) : Value := .agg #[.int .i64 r.err, .int .i64 r.n, .string r.data, .slice none 0 0]
theorem gives_no {d : FsD} {o id : Int} (h : (In.hold d.t id).1 ≠ 0) : Fs.gives d o id = (Fs.errR (In.hold d.t id).1, ⟨(In.hold d.t id).2, d.h⟩) := if_neg h
theorem gives_yes {d : FsD} {o id : Int} (h : (In.hold d.t id).1 = 0) : Fs.gives d o id = (⟨0, (Fs.free d o : Int), ⟨#[]⟩, []⟩, ⟨(In.hold d.t id).2, Fs.put d.h o ((Fs.hOf d.h o).set (Fs.free d o) id)⟩) := if_pos h
set_option maxHeartbeats 8000000 in
set_option maxRecDepth 100000 in
theorem gives_any (h : FsAt N x β d w) (hN : N ≤ 1000000000) {o : Int} (ho : Fits o) {id : Int} (hid : Fits id) :
    Calls Tryz.prog 108 #[.pointer (some ⟨x.f, 0, none⟩), .int .i64 o, .int .i64 id] w fun e w' => e = .returned (resV (Fs.gives d o id).1) ∧ FsGoes w x β d w' (Fs.gives d o id).2 := by
  have hM := h.at_.st
  unfold FsGoes
  obtain ⟨F, hF⟩ : ∃ F, keysOf (fsL x β d) = F := ⟨_, rfl⟩
  rw [hF] at hM ⊢
  have F0 : 0 ∉ F := hF ▸ h.zero
  clear hF
  have hlen := hand_len h.inv.len hN
  have FI := fit_inv h.inv.tbl hN
  have I1 : Fs.Inv N ⟨(In.hold d.t id).2, d.h⟩ := ⟨In.inv_hold h.inv.tbl id, h.inv.rows, h.inv.len⟩
  have HMX := Lib.hid h.mx
  have hrw := Fs.hOf_row h.inv o
  by_cases hE : (In.hold d.t id).1 = 0
  · rw [gives_yes hE]
    have hfl := Fs.free_le h.inv o
    have CF := Lib.hid (fun (W : World) (β' : Int → Nat × Nat) (hA : FsAt N x β' ⟨(In.hold d.t id).2, d.h⟩ W) => free_any hA ho)
    rw [show Fs.free ⟨(In.hold d.t id).2, d.h⟩ o = Fs.free d o from rfl] at CF
    have CH := Lib.hid (fun (W : World) (β' : Int → Nat × Nat) (hT : TblAt W x.g x.mb β' d.t) => Hold_any hT FI hid)
    unfold RStep at CH
    rw [hE] at CH
    generalize (In.hold d.t id).2 = t1 at *
    generalize Fs.free d o = n at *
    obtain ⟨a0, a1, a2, a3, a4, a5, a6, a7, a8, hl⟩ := row9 hrw.1
    have hrow : rowV (Fs.hOf d.h o) = .agg #[.int .i64 a0, .int .i64 a1, .int .i64 a2, .int .i64 a3, .int .i64 a4, .int .i64 a5, .int .i64 a6, .int .i64 a7, .int .i64 a8] := by rw [hl]; rfl
    rw [hl]
    clear h hl hE hrw
    have hc : n = 0 ∨ n = 1 ∨ n = 2 ∨ n = 3 ∨ n = 4 ∨ n = 5 ∨ n = 6 ∨ n = 7 ∨ n = 8 := by omega
    clear hfl
    unfold fsL at hM
    rcases hc with rfl | rfl | rfl | rfl | rfl | rfl | rfl | rfl | rfl
    · simp only [List.set_cons_zero, List.set_cons_succ]
      go_enter Tryz.func108, Tryz.ntmps108
      (repeat (first | ((with_reducible show wpSeq _ _ _ _ _ _ _); first | ((with_reducible refine wpSeq_nil ?_); refine hKr.out _ _ ?_; clear hKr Kr) | ((first | (refine St.copy (v := ?_) (by exact .inl rfl) rfl rfl ?_ ?_; rotate_left; (focus ((try simp only [Act.eval, getD_lit, List.getD_cons_zero, List.getD_cons_succ]); with_reducible rfl))) | (refine St.pure (v := ?_) rfl rfl rfl (fun w => ?_) ?_; rotate_left; (focus (go_simp; all_goals with_reducible rfl))) | refine St.load rfl hM rfl rfl rfl rfl (by repeat constructor) (by rfl) (by kernel_rfl) ?_); (try simp only [Act.put, List.setIfInBounds_toArray, List.set_cons_zero, List.set_cons_succ])) | (((refine St.alloc (ty := 31) (z := .agg #[.int .i64 0, .int .i64 0, .string ⟨#[]⟩, .slice none 0 0]) rfl hM rfl rfl (by kernel_rfl) ?_); clear hM; intro w bk hM); (try simp only [Res.put, Res.known, Act.eval, Value.cells, getD_lit, List.getD_cons_zero, List.getD_cons_succ, List.toList_toArray, List.set_cons_zero, List.set_cons_succ, over, Nat.reduceAdd] at hM); (try simp only [Act.put, List.setIfInBounds_toArray, List.set_cons_zero, List.set_cons_succ]))) | (first | (refine wp_seq_shut (fun K hK => ?_)) | (refine wp_text hM (fun Kr hKr => ?_); simp only [inText]) | ((refine hK.out _ _ ?_); clear hK K))))
      (refine St.call3 rfl rfl (by kernel_rfl) (fun R hR => ?_); simp only [List.map_toArray, List.map_cons, List.map_nil, Act.eval, getD_lit, List.getD_cons_zero, List.getD_cons_succ])
      refine (CH.out _ _ (hM.part (M := tblL x.g x.mb β d.t) (by repeat (first | exact Part.all | apply Part.skip))).tbl).mono ?_
      (rintro e w' ⟨rfl, hS⟩; obtain ⟨β, hN⟩ := hS.st; replace hM := hM.backM (by repeat (first | exact Swap.all | apply Swap.skip)) tblL_flag hN tblL_flag; clear hN hS; refine hR.out _ _ ?_; clear hR R; (try simp only [Act.put, List.setIfInBounds_toArray, List.set_cons_zero, List.set_cons_succ]))
      (repeat (first | ((with_reducible show wpSeq _ _ _ _ _ _ _); first | ((with_reducible refine wpSeq_nil ?_); refine hKr.out _ _ ?_; clear hKr Kr) | ((first | (refine St.copy (v := ?_) (by first | exact .inl rfl | exact .inr rfl) rfl rfl ?_ ?_; rotate_left; (focus ((try simp only [Act.eval, getD_lit, List.getD_cons_zero, List.getD_cons_succ]); with_reducible rfl))) | (refine St.pure (v := ?_) rfl rfl rfl (fun w => ?_) ?_; rotate_left; (focus (go_simp; all_goals with_reducible rfl)))); (try simp only [Act.put, List.setIfInBounds_toArray, List.set_cons_zero, List.set_cons_succ]))) | (first | (refine wp_seq_shut (fun K hK => ?_)) | (refine wp_text hM (fun Kr hKr => ?_); simp only [inText]) | refine wp_skip ?_ | (refine wp_cond_false rfl ?_) | ((refine hK.out _ _ ?_); clear hK K))))
      (refine St.call3 rfl rfl (by kernel_rfl) (fun R hR => ?_); simp only [List.map_toArray, List.map_cons, List.map_nil, Act.eval, getD_lit, List.getD_cons_zero, List.getD_cons_succ])
      refine (CF.out _ β (hM.fs (by repeat (first | exact Part.all | apply Part.skip)) I1 HMX.out F0)).mono ?_
      rintro e w' ⟨rfl, hb⟩; refine hR.out _ _ ?_; clear hR R; replace hM := hM.below hb; clear hb; (try simp only [Act.put, List.setIfInBounds_toArray, List.set_cons_zero, List.set_cons_succ])
      (repeat (first | ((with_reducible show wpSeq _ _ _ _ _ _ _); first | ((with_reducible refine wpSeq_nil ?_); refine hKr.out _ _ ?_; clear hKr Kr) | ((first | (refine St.copy (v := ?_) (by first | exact .inl rfl | exact .inr rfl) rfl rfl ?_ ?_; rotate_left; (focus ((try simp only [Act.eval, getD_lit, List.getD_cons_zero, List.getD_cons_succ]); with_reducible rfl))) | (refine St.pure (v := ?_) rfl rfl rfl (fun w => ?_) ?_; rotate_left; (focus (go_simp; all_goals with_reducible rfl))) | refine St.load rfl hM rfl rfl rfl rfl (by repeat constructor) (by rfl) (by kernel_rfl) ?_); (try simp only [Act.put, List.setIfInBounds_toArray, List.set_cons_zero, List.set_cons_succ]))) | (first | (refine wp_seq_shut (fun K hK => ?_)) | (refine wp_text hM (fun Kr hKr => ?_); simp only [inText]) | ((refine hK.out _ _ ?_); clear hK K))))
      ((refine St.lookup rfl hM rfl rfl rfl rfl (by repeat constructor) key_int Tryz.underlying42 zero_cell (keyOf_int_mk Tryz.underlying3 (by assumption)) ((look_hand _ _).trans (by assumption)) ?_); (try simp only [Act.put, List.setIfInBounds_toArray, List.set_cons_zero, List.set_cons_succ]))
      (repeat (first | ((with_reducible show wpSeq _ _ _ _ _ _ _); first | ((with_reducible refine wpSeq_nil ?_); refine hKr.out _ _ ?_; clear hKr Kr) | ((first | (refine St.copy (v := ?_) (by exact .inl rfl) rfl rfl ?_ ?_; rotate_left; (focus ((try simp only [Act.eval, getD_lit, List.getD_cons_zero, List.getD_cons_succ]); with_reducible rfl))) | (refine St.pure (v := ?_) rfl rfl rfl (fun w => ?_) ?_; rotate_left; (focus (go_simp; all_goals with_reducible rfl))) | refine St.load1 rfl rfl rfl rfl (by repeat constructor) (by rfl) (by kernel_rfl) ?_ | ((refine St.loadRow rfl hM rfl rfl rfl rfl (by repeat constructor) (Nat.le_of_ble_eq_true rfl) (by kernel_rfl) ?_); (try simp only [Res.known, List.drop_succ_cons, List.drop_zero, List.take_succ_cons, List.take_zero])) | ((((first | refine St.store rfl hM rfl rfl rfl rfl rfl (by repeat constructor) (Nat.le_of_ble_eq_true rfl) (by kernel_rfl) rfl ?_ ?_ | refine St.storeRow rfl hM rfl rfl rfl rfl rfl (by repeat constructor) (Nat.le_of_ble_eq_true rfl) (Nat.le_of_ble_eq_true rfl) (by kernel_rfl) rfl ?_ ?_); (focus ((intro h; cases h; done))); clear hM; intro w hM)); (try simp only [Res.put, Res.known, Act.eval, Value.cells, getD_lit, List.getD_cons_zero, List.getD_cons_succ, List.toList_toArray, List.set_cons_zero, List.set_cons_succ, over, Nat.reduceAdd] at hM))); (try simp only [Act.put, List.setIfInBounds_toArray, List.set_cons_zero, List.set_cons_succ])) | (((refine St.alloc (ty := 117) (z := .agg #[.int .i64 0, .int .i64 0, .int .i64 0, .int .i64 0, .int .i64 0, .int .i64 0, .int .i64 0, .int .i64 0, .int .i64 0]) rfl hM rfl rfl (by kernel_rfl) ?_); clear hM; intro w bk hM); (try simp only [Res.put, Res.known, Act.eval, Value.cells, getD_lit, List.getD_cons_zero, List.getD_cons_succ, List.toList_toArray, List.set_cons_zero, List.set_cons_succ, over, Nat.reduceAdd] at hM); (try simp only [Act.put, List.setIfInBounds_toArray, List.set_cons_zero, List.set_cons_succ]))) | (first | (refine wp_seq_shut (fun K hK => ?_)) | (refine wp_text hM (fun Kr hKr => ?_); simp only [inText]) | ((refine hK.out _ _ ?_); clear hK K)) | ((refine wp_drawn (id := 7) hM (Sub.all _) [3] [(0, 0), (1, 0), (2, 0), (3, 1), (4, 0), (5, 2), (6, 3)] (by kernel_rfl) (by kernel_rfl) ?_); (clear hM; intro w hM Kr hKr); simp only [opsOf, List.getD_cons_zero, List.getD_cons_succ])))
      (refine St.mapUpdate rfl hM rfl rfl rfl rfl rfl (by repeat constructor) (put_hand _ _ [id, a1, a2, a3, a4, a5, a6, a7, a8]) key_int Tryz.underlying42 (by assumption) (keyOf_int_mk Tryz.underlying3 (by assumption)) ?_ ?_; (focus ((intro h; cases h; done))); clear hM; intro w hM; (try simp only [Act.put, List.setIfInBounds_toArray, List.set_cons_zero, List.set_cons_succ]))
      (repeat (first | ((with_reducible show wpSeq _ _ _ _ _ _ _); first | ((with_reducible refine wpSeq_nil ?_); refine hKr.out _ _ ?_; clear hKr Kr) | ((first | (refine St.copy (v := ?_) (by exact .inl rfl) rfl rfl ?_ ?_; rotate_left; (focus ((try simp only [Act.eval, getD_lit, List.getD_cons_zero, List.getD_cons_succ]); with_reducible rfl))) | (refine St.pure (v := ?_) rfl rfl rfl (fun w => ?_) ?_; rotate_left; (focus (go_simp; all_goals with_reducible rfl))) | ((((refine St.storeRow rfl hM rfl rfl rfl rfl rfl (by repeat constructor) (Nat.le_of_ble_eq_true rfl) (Nat.le_of_ble_eq_true rfl) (by kernel_rfl) rfl ?_ ?_); (focus ((intro h; cases h; done))); clear hM; intro w hM)); (try simp only [Res.put, Res.known, Act.eval, Value.cells, getD_lit, List.getD_cons_zero, List.getD_cons_succ, List.toList_toArray, List.set_cons_zero, List.set_cons_succ, over, Nat.reduceAdd] at hM))); (try simp only [Act.put, List.setIfInBounds_toArray, List.set_cons_zero, List.set_cons_succ]))) | (first | (refine wp_seq_shut (fun K hK => ?_)) | (refine wp_text hM (fun Kr hKr => ?_); simp only [inText]) | ((refine hK.out _ _ ?_); clear hK K))))
      ((refine wp_ret ?_; (try simp only [Exit.then, Exit.inBlock]); refine St.ret hM rfl (by repeat (first | exact Outs.nil | (apply Outs.row rfl rfl (by repeat constructor) (by kernel_rfl)))) rfl ?_))
      exact ⟨rfl, β, hM.forget.forget⟩
    · simp only [List.set_cons_zero, List.set_cons_succ]
      go_enter Tryz.func108, Tryz.ntmps108
      (repeat (first | ((with_reducible show wpSeq _ _ _ _ _ _ _); first | ((with_reducible refine wpSeq_nil ?_); refine hKr.out _ _ ?_; clear hKr Kr) | ((first | (refine St.copy (v := ?_) (by exact .inl rfl) rfl rfl ?_ ?_; rotate_left; (focus ((try simp only [Act.eval, getD_lit, List.getD_cons_zero, List.getD_cons_succ]); with_reducible rfl))) | (refine St.pure (v := ?_) rfl rfl rfl (fun w => ?_) ?_; rotate_left; (focus (go_simp; all_goals with_reducible rfl))) | refine St.load rfl hM rfl rfl rfl rfl (by repeat constructor) (by rfl) (by kernel_rfl) ?_); (try simp only [Act.put, List.setIfInBounds_toArray, List.set_cons_zero, List.set_cons_succ])) | (((refine St.alloc (ty := 31) (z := .agg #[.int .i64 0, .int .i64 0, .string ⟨#[]⟩, .slice none 0 0]) rfl hM rfl rfl (by kernel_rfl) ?_); clear hM; intro w bk hM); (try simp only [Res.put, Res.known, Act.eval, Value.cells, getD_lit, List.getD_cons_zero, List.getD_cons_succ, List.toList_toArray, List.set_cons_zero, List.set_cons_succ, over, Nat.reduceAdd] at hM); (try simp only [Act.put, List.setIfInBounds_toArray, List.set_cons_zero, List.set_cons_succ]))) | (first | (refine wp_seq_shut (fun K hK => ?_)) | (refine wp_text hM (fun Kr hKr => ?_); simp only [inText]) | ((refine hK.out _ _ ?_); clear hK K))))
      (refine St.call3 rfl rfl (by kernel_rfl) (fun R hR => ?_); simp only [List.map_toArray, List.map_cons, List.map_nil, Act.eval, getD_lit, List.getD_cons_zero, List.getD_cons_succ])
      refine (CH.out _ _ (hM.part (M := tblL x.g x.mb β d.t) (by repeat (first | exact Part.all | apply Part.skip))).tbl).mono ?_
      (rintro e w' ⟨rfl, hS⟩; obtain ⟨β, hN⟩ := hS.st; replace hM := hM.backM (by repeat (first | exact Swap.all | apply Swap.skip)) tblL_flag hN tblL_flag; clear hN hS; refine hR.out _ _ ?_; clear hR R; (try simp only [Act.put, List.setIfInBounds_toArray, List.set_cons_zero, List.set_cons_succ]))
      (repeat (first | ((with_reducible show wpSeq _ _ _ _ _ _ _); first | ((with_reducible refine wpSeq_nil ?_); refine hKr.out _ _ ?_; clear hKr Kr) | ((first | (refine St.copy (v := ?_) (by first | exact .inl rfl | exact .inr rfl) rfl rfl ?_ ?_; rotate_left; (focus ((try simp only [Act.eval, getD_lit, List.getD_cons_zero, List.getD_cons_succ]); with_reducible rfl))) | (refine St.pure (v := ?_) rfl rfl rfl (fun w => ?_) ?_; rotate_left; (focus (go_simp; all_goals with_reducible rfl)))); (try simp only [Act.put, List.setIfInBounds_toArray, List.set_cons_zero, List.set_cons_succ]))) | (first | (refine wp_seq_shut (fun K hK => ?_)) | (refine wp_text hM (fun Kr hKr => ?_); simp only [inText]) | refine wp_skip ?_ | (refine wp_cond_false rfl ?_) | ((refine hK.out _ _ ?_); clear hK K))))
      (refine St.call3 rfl rfl (by kernel_rfl) (fun R hR => ?_); simp only [List.map_toArray, List.map_cons, List.map_nil, Act.eval, getD_lit, List.getD_cons_zero, List.getD_cons_succ])
      refine (CF.out _ β (hM.fs (by repeat (first | exact Part.all | apply Part.skip)) I1 HMX.out F0)).mono ?_
      rintro e w' ⟨rfl, hb⟩; refine hR.out _ _ ?_; clear hR R; replace hM := hM.below hb; clear hb; (try simp only [Act.put, List.setIfInBounds_toArray, List.set_cons_zero, List.set_cons_succ])
      (repeat (first | ((with_reducible show wpSeq _ _ _ _ _ _ _); first | ((with_reducible refine wpSeq_nil ?_); refine hKr.out _ _ ?_; clear hKr Kr) | ((first | (refine St.copy (v := ?_) (by first | exact .inl rfl | exact .inr rfl) rfl rfl ?_ ?_; rotate_left; (focus ((try simp only [Act.eval, getD_lit, List.getD_cons_zero, List.getD_cons_succ]); with_reducible rfl))) | (refine St.pure (v := ?_) rfl rfl rfl (fun w => ?_) ?_; rotate_left; (focus (go_simp; all_goals with_reducible rfl))) | refine St.load rfl hM rfl rfl rfl rfl (by repeat constructor) (by rfl) (by kernel_rfl) ?_); (try simp only [Act.put, List.setIfInBounds_toArray, List.set_cons_zero, List.set_cons_succ]))) | (first | (refine wp_seq_shut (fun K hK => ?_)) | (refine wp_text hM (fun Kr hKr => ?_); simp only [inText]) | ((refine hK.out _ _ ?_); clear hK K))))
      ((refine St.lookup rfl hM rfl rfl rfl rfl (by repeat constructor) key_int Tryz.underlying42 zero_cell (keyOf_int_mk Tryz.underlying3 (by assumption)) ((look_hand _ _).trans (by assumption)) ?_); (try simp only [Act.put, List.setIfInBounds_toArray, List.set_cons_zero, List.set_cons_succ]))
      (repeat (first | ((with_reducible show wpSeq _ _ _ _ _ _ _); first | ((with_reducible refine wpSeq_nil ?_); refine hKr.out _ _ ?_; clear hKr Kr) | ((first | (refine St.copy (v := ?_) (by exact .inl rfl) rfl rfl ?_ ?_; rotate_left; (focus ((try simp only [Act.eval, getD_lit, List.getD_cons_zero, List.getD_cons_succ]); with_reducible rfl))) | (refine St.pure (v := ?_) rfl rfl rfl (fun w => ?_) ?_; rotate_left; (focus (go_simp; all_goals with_reducible rfl))) | refine St.load1 rfl rfl rfl rfl (by repeat constructor) (by rfl) (by kernel_rfl) ?_ | ((refine St.loadRow rfl hM rfl rfl rfl rfl (by repeat constructor) (Nat.le_of_ble_eq_true rfl) (by kernel_rfl) ?_); (try simp only [Res.known, List.drop_succ_cons, List.drop_zero, List.take_succ_cons, List.take_zero])) | ((((first | refine St.store rfl hM rfl rfl rfl rfl rfl (by repeat constructor) (Nat.le_of_ble_eq_true rfl) (by kernel_rfl) rfl ?_ ?_ | refine St.storeRow rfl hM rfl rfl rfl rfl rfl (by repeat constructor) (Nat.le_of_ble_eq_true rfl) (Nat.le_of_ble_eq_true rfl) (by kernel_rfl) rfl ?_ ?_); (focus ((intro h; cases h; done))); clear hM; intro w hM)); (try simp only [Res.put, Res.known, Act.eval, Value.cells, getD_lit, List.getD_cons_zero, List.getD_cons_succ, List.toList_toArray, List.set_cons_zero, List.set_cons_succ, over, Nat.reduceAdd] at hM))); (try simp only [Act.put, List.setIfInBounds_toArray, List.set_cons_zero, List.set_cons_succ])) | (((refine St.alloc (ty := 117) (z := .agg #[.int .i64 0, .int .i64 0, .int .i64 0, .int .i64 0, .int .i64 0, .int .i64 0, .int .i64 0, .int .i64 0, .int .i64 0]) rfl hM rfl rfl (by kernel_rfl) ?_); clear hM; intro w bk hM); (try simp only [Res.put, Res.known, Act.eval, Value.cells, getD_lit, List.getD_cons_zero, List.getD_cons_succ, List.toList_toArray, List.set_cons_zero, List.set_cons_succ, over, Nat.reduceAdd] at hM); (try simp only [Act.put, List.setIfInBounds_toArray, List.set_cons_zero, List.set_cons_succ]))) | (first | (refine wp_seq_shut (fun K hK => ?_)) | (refine wp_text hM (fun Kr hKr => ?_); simp only [inText]) | ((refine hK.out _ _ ?_); clear hK K)) | ((refine wp_drawn (id := 7) hM (Sub.all _) [3] [(0, 0), (1, 0), (2, 0), (3, 1), (4, 0), (5, 2), (6, 3)] (by kernel_rfl) (by kernel_rfl) ?_); (clear hM; intro w hM Kr hKr); simp only [opsOf, List.getD_cons_zero, List.getD_cons_succ])))
      (refine St.mapUpdate rfl hM rfl rfl rfl rfl rfl (by repeat constructor) (put_hand _ _ [a0, id, a2, a3, a4, a5, a6, a7, a8]) key_int Tryz.underlying42 (by assumption) (keyOf_int_mk Tryz.underlying3 (by assumption)) ?_ ?_; (focus ((intro h; cases h; done))); clear hM; intro w hM; (try simp only [Act.put, List.setIfInBounds_toArray, List.set_cons_zero, List.set_cons_succ]))
      (repeat (first | ((with_reducible show wpSeq _ _ _ _ _ _ _); first | ((with_reducible refine wpSeq_nil ?_); refine hKr.out _ _ ?_; clear hKr Kr) | ((first | (refine St.copy (v := ?_) (by exact .inl rfl) rfl rfl ?_ ?_; rotate_left; (focus ((try simp only [Act.eval, getD_lit, List.getD_cons_zero, List.getD_cons_succ]); with_reducible rfl))) | (refine St.pure (v := ?_) rfl rfl rfl (fun w => ?_) ?_; rotate_left; (focus (go_simp; all_goals with_reducible rfl))) | ((((refine St.storeRow rfl hM rfl rfl rfl rfl rfl (by repeat constructor) (Nat.le_of_ble_eq_true rfl) (Nat.le_of_ble_eq_true rfl) (by kernel_rfl) rfl ?_ ?_); (focus ((intro h; cases h; done))); clear hM; intro w hM)); (try simp only [Res.put, Res.known, Act.eval, Value.cells, getD_lit, List.getD_cons_zero, List.getD_cons_succ, List.toList_toArray, List.set_cons_zero, List.set_cons_succ, over, Nat.reduceAdd] at hM))); (try simp only [Act.put, List.setIfInBounds_toArray, List.set_cons_zero, List.set_cons_succ]))) | (first | (refine wp_seq_shut (fun K hK => ?_)) | (refine wp_text hM (fun Kr hKr => ?_); simp only [inText]) | ((refine hK.out _ _ ?_); clear hK K))))
      ((refine wp_ret ?_; (try simp only [Exit.then, Exit.inBlock]); refine St.ret hM rfl (by repeat (first | exact Outs.nil | (apply Outs.row rfl rfl (by repeat constructor) (by kernel_rfl)))) rfl ?_))
      exact ⟨rfl, β, hM.forget.forget⟩
    · simp only [List.set_cons_zero, List.set_cons_succ]
      go_enter Tryz.func108, Tryz.ntmps108
      (repeat (first | ((with_reducible show wpSeq _ _ _ _ _ _ _); first | ((with_reducible refine wpSeq_nil ?_); refine hKr.out _ _ ?_; clear hKr Kr) | ((first | (refine St.copy (v := ?_) (by exact .inl rfl) rfl rfl ?_ ?_; rotate_left; (focus ((try simp only [Act.eval, getD_lit, List.getD_cons_zero, List.getD_cons_succ]); with_reducible rfl))) | (refine St.pure (v := ?_) rfl rfl rfl (fun w => ?_) ?_; rotate_left; (focus (go_simp; all_goals with_reducible rfl))) | refine St.load rfl hM rfl rfl rfl rfl (by repeat constructor) (by rfl) (by kernel_rfl) ?_); (try simp only [Act.put, List.setIfInBounds_toArray, List.set_cons_zero, List.set_cons_succ])) | (((refine St.alloc (ty := 31) (z := .agg #[.int .i64 0, .int .i64 0, .string ⟨#[]⟩, .slice none 0 0]) rfl hM rfl rfl (by kernel_rfl) ?_); clear hM; intro w bk hM); (try simp only [Res.put, Res.known, Act.eval, Value.cells, getD_lit, List.getD_cons_zero, List.getD_cons_succ, List.toList_toArray, List.set_cons_zero, List.set_cons_succ, over, Nat.reduceAdd] at hM); (try simp only [Act.put, List.setIfInBounds_toArray, List.set_cons_zero, List.set_cons_succ]))) | (first | (refine wp_seq_shut (fun K hK => ?_)) | (refine wp_text hM (fun Kr hKr => ?_); simp only [inText]) | ((refine hK.out _ _ ?_); clear hK K))))
      (refine St.call3 rfl rfl (by kernel_rfl) (fun R hR => ?_); simp only [List.map_toArray, List.map_cons, List.map_nil, Act.eval, getD_lit, List.getD_cons_zero, List.getD_cons_succ])
      refine (CH.out _ _ (hM.part (M := tblL x.g x.mb β d.t) (by repeat (first | exact Part.all | apply Part.skip))).tbl).mono ?_
      (rintro e w' ⟨rfl, hS⟩; obtain ⟨β, hN⟩ := hS.st; replace hM := hM.backM (by repeat (first | exact Swap.all | apply Swap.skip)) tblL_flag hN tblL_flag; clear hN hS; refine hR.out _ _ ?_; clear hR R; (try simp only [Act.put, List.setIfInBounds_toArray, List.set_cons_zero, List.set_cons_succ]))
      (repeat (first | ((with_reducible show wpSeq _ _ _ _ _ _ _); first | ((with_reducible refine wpSeq_nil ?_); refine hKr.out _ _ ?_; clear hKr Kr) | ((first | (refine St.copy (v := ?_) (by first | exact .inl rfl | exact .inr rfl) rfl rfl ?_ ?_; rotate_left; (focus ((try simp only [Act.eval, getD_lit, List.getD_cons_zero, List.getD_cons_succ]); with_reducible rfl))) | (refine St.pure (v := ?_) rfl rfl rfl (fun w => ?_) ?_; rotate_left; (focus (go_simp; all_goals with_reducible rfl)))); (try simp only [Act.put, List.setIfInBounds_toArray, List.set_cons_zero, List.set_cons_succ]))) | (first | (refine wp_seq_shut (fun K hK => ?_)) | (refine wp_text hM (fun Kr hKr => ?_); simp only [inText]) | refine wp_skip ?_ | (refine wp_cond_false rfl ?_) | ((refine hK.out _ _ ?_); clear hK K))))
      (refine St.call3 rfl rfl (by kernel_rfl) (fun R hR => ?_); simp only [List.map_toArray, List.map_cons, List.map_nil, Act.eval, getD_lit, List.getD_cons_zero, List.getD_cons_succ])
      refine (CF.out _ β (hM.fs (by repeat (first | exact Part.all | apply Part.skip)) I1 HMX.out F0)).mono ?_
      rintro e w' ⟨rfl, hb⟩; refine hR.out _ _ ?_; clear hR R; replace hM := hM.below hb; clear hb; (try simp only [Act.put, List.setIfInBounds_toArray, List.set_cons_zero, List.set_cons_succ])
      (repeat (first | ((with_reducible show wpSeq _ _ _ _ _ _ _); first | ((with_reducible refine wpSeq_nil ?_); refine hKr.out _ _ ?_; clear hKr Kr) | ((first | (refine St.copy (v := ?_) (by first | exact .inl rfl | exact .inr rfl) rfl rfl ?_ ?_; rotate_left; (focus ((try simp only [Act.eval, getD_lit, List.getD_cons_zero, List.getD_cons_succ]); with_reducible rfl))) | (refine St.pure (v := ?_) rfl rfl rfl (fun w => ?_) ?_; rotate_left; (focus (go_simp; all_goals with_reducible rfl))) | refine St.load rfl hM rfl rfl rfl rfl (by repeat constructor) (by rfl) (by kernel_rfl) ?_); (try simp only [Act.put, List.setIfInBounds_toArray, List.set_cons_zero, List.set_cons_succ]))) | (first | (refine wp_seq_shut (fun K hK => ?_)) | (refine wp_text hM (fun Kr hKr => ?_); simp only [inText]) | ((refine hK.out _ _ ?_); clear hK K))))
      ((refine St.lookup rfl hM rfl rfl rfl rfl (by repeat constructor) key_int Tryz.underlying42 zero_cell (keyOf_int_mk Tryz.underlying3 (by assumption)) ((look_hand _ _).trans (by assumption)) ?_); (try simp only [Act.put, List.setIfInBounds_toArray, List.set_cons_zero, List.set_cons_succ]))
      (repeat (first | ((with_reducible show wpSeq _ _ _ _ _ _ _); first | ((with_reducible refine wpSeq_nil ?_); refine hKr.out _ _ ?_; clear hKr Kr) | ((first | (refine St.copy (v := ?_) (by exact .inl rfl) rfl rfl ?_ ?_; rotate_left; (focus ((try simp only [Act.eval, getD_lit, List.getD_cons_zero, List.getD_cons_succ]); with_reducible rfl))) | (refine St.pure (v := ?_) rfl rfl rfl (fun w => ?_) ?_; rotate_left; (focus (go_simp; all_goals with_reducible rfl))) | refine St.load1 rfl rfl rfl rfl (by repeat constructor) (by rfl) (by kernel_rfl) ?_ | ((refine St.loadRow rfl hM rfl rfl rfl rfl (by repeat constructor) (Nat.le_of_ble_eq_true rfl) (by kernel_rfl) ?_); (try simp only [Res.known, List.drop_succ_cons, List.drop_zero, List.take_succ_cons, List.take_zero])) | ((((first | refine St.store rfl hM rfl rfl rfl rfl rfl (by repeat constructor) (Nat.le_of_ble_eq_true rfl) (by kernel_rfl) rfl ?_ ?_ | refine St.storeRow rfl hM rfl rfl rfl rfl rfl (by repeat constructor) (Nat.le_of_ble_eq_true rfl) (Nat.le_of_ble_eq_true rfl) (by kernel_rfl) rfl ?_ ?_); (focus ((intro h; cases h; done))); clear hM; intro w hM)); (try simp only [Res.put, Res.known, Act.eval, Value.cells, getD_lit, List.getD_cons_zero, List.getD_cons_succ, List.toList_toArray, List.set_cons_zero, List.set_cons_succ, over, Nat.reduceAdd] at hM))); (try simp only [Act.put, List.setIfInBounds_toArray, List.set_cons_zero, List.set_cons_succ])) | (((refine St.alloc (ty := 117) (z := .agg #[.int .i64 0, .int .i64 0, .int .i64 0, .int .i64 0, .int .i64 0, .int .i64 0, .int .i64 0, .int .i64 0, .int .i64 0]) rfl hM rfl rfl (by kernel_rfl) ?_); clear hM; intro w bk hM); (try simp only [Res.put, Res.known, Act.eval, Value.cells, getD_lit, List.getD_cons_zero, List.getD_cons_succ, List.toList_toArray, List.set_cons_zero, List.set_cons_succ, over, Nat.reduceAdd] at hM); (try simp only [Act.put, List.setIfInBounds_toArray, List.set_cons_zero, List.set_cons_succ]))) | (first | (refine wp_seq_shut (fun K hK => ?_)) | (refine wp_text hM (fun Kr hKr => ?_); simp only [inText]) | ((refine hK.out _ _ ?_); clear hK K)) | ((refine wp_drawn (id := 7) hM (Sub.all _) [3] [(0, 0), (1, 0), (2, 0), (3, 1), (4, 0), (5, 2), (6, 3)] (by kernel_rfl) (by kernel_rfl) ?_); (clear hM; intro w hM Kr hKr); simp only [opsOf, List.getD_cons_zero, List.getD_cons_succ])))
      (refine St.mapUpdate rfl hM rfl rfl rfl rfl rfl (by repeat constructor) (put_hand _ _ [a0, a1, id, a3, a4, a5, a6, a7, a8]) key_int Tryz.underlying42 (by assumption) (keyOf_int_mk Tryz.underlying3 (by assumption)) ?_ ?_; (focus ((intro h; cases h; done))); clear hM; intro w hM; (try simp only [Act.put, List.setIfInBounds_toArray, List.set_cons_zero, List.set_cons_succ]))
      (repeat (first | ((with_reducible show wpSeq _ _ _ _ _ _ _); first | ((with_reducible refine wpSeq_nil ?_); refine hKr.out _ _ ?_; clear hKr Kr) | ((first | (refine St.copy (v := ?_) (by exact .inl rfl) rfl rfl ?_ ?_; rotate_left; (focus ((try simp only [Act.eval, getD_lit, List.getD_cons_zero, List.getD_cons_succ]); with_reducible rfl))) | (refine St.pure (v := ?_) rfl rfl rfl (fun w => ?_) ?_; rotate_left; (focus (go_simp; all_goals with_reducible rfl))) | ((((refine St.storeRow rfl hM rfl rfl rfl rfl rfl (by repeat constructor) (Nat.le_of_ble_eq_true rfl) (Nat.le_of_ble_eq_true rfl) (by kernel_rfl) rfl ?_ ?_); (focus ((intro h; cases h; done))); clear hM; intro w hM)); (try simp only [Res.put, Res.known, Act.eval, Value.cells, getD_lit, List.getD_cons_zero, List.getD_cons_succ, List.toList_toArray, List.set_cons_zero, List.set_cons_succ, over, Nat.reduceAdd] at hM))); (try simp only [Act.put, List.setIfInBounds_toArray, List.set_cons_zero, List.set_cons_succ]))) | (first | (refine wp_seq_shut (fun K hK => ?_)) | (refine wp_text hM (fun Kr hKr => ?_); simp only [inText]) | ((refine hK.out _ _ ?_); clear hK K))))
      ((refine wp_ret ?_; (try simp only [Exit.then, Exit.inBlock]); refine St.ret hM rfl (by repeat (first | exact Outs.nil | (apply Outs.row rfl rfl (by repeat constructor) (by kernel_rfl)))) rfl ?_))
      exact ⟨rfl, β, hM.forget.forget⟩
    · simp only [List.set_cons_zero, List.set_cons_succ]
      go_enter Tryz.func108, Tryz.ntmps108
      (repeat (first | ((with_reducible show wpSeq _ _ _ _ _ _ _); first | ((with_reducible refine wpSeq_nil ?_); refine hKr.out _ _ ?_; clear hKr Kr) | ((first | (refine St.copy (v := ?_) (by exact .inl rfl) rfl rfl ?_ ?_; rotate_left; (focus ((try simp only [Act.eval, getD_lit, List.getD_cons_zero, List.getD_cons_succ]); with_reducible rfl))) | (refine St.pure (v := ?_) rfl rfl rfl (fun w => ?_) ?_; rotate_left; (focus (go_simp; all_goals with_reducible rfl))) | refine St.load rfl hM rfl rfl rfl rfl (by repeat constructor) (by rfl) (by kernel_rfl) ?_); (try simp only [Act.put, List.setIfInBounds_toArray, List.set_cons_zero, List.set_cons_succ])) | (((refine St.alloc (ty := 31) (z := .agg #[.int .i64 0, .int .i64 0, .string ⟨#[]⟩, .slice none 0 0]) rfl hM rfl rfl (by kernel_rfl) ?_); clear hM; intro w bk hM); (try simp only [Res.put, Res.known, Act.eval, Value.cells, getD_lit, List.getD_cons_zero, List.getD_cons_succ, List.toList_toArray, List.set_cons_zero, List.set_cons_succ, over, Nat.reduceAdd] at hM); (try simp only [Act.put, List.setIfInBounds_toArray, List.set_cons_zero, List.set_cons_succ]))) | (first | (refine wp_seq_shut (fun K hK => ?_)) | (refine wp_text hM (fun Kr hKr => ?_); simp only [inText]) | ((refine hK.out _ _ ?_); clear hK K))))
      (refine St.call3 rfl rfl (by kernel_rfl) (fun R hR => ?_); simp only [List.map_toArray, List.map_cons, List.map_nil, Act.eval, getD_lit, List.getD_cons_zero, List.getD_cons_succ])
      refine (CH.out _ _ (hM.part (M := tblL x.g x.mb β d.t) (by repeat (first | exact Part.all | apply Part.skip))).tbl).mono ?_
      (rintro e w' ⟨rfl, hS⟩; obtain ⟨β, hN⟩ := hS.st; replace hM := hM.backM (by repeat (first | exact Swap.all | apply Swap.skip)) tblL_flag hN tblL_flag; clear hN hS; refine hR.out _ _ ?_; clear hR R; (try simp only [Act.put, List.setIfInBounds_toArray, List.set_cons_zero, List.set_cons_succ]))
      (repeat (first | ((with_reducible show wpSeq _ _ _ _ _ _ _); first | ((with_reducible refine wpSeq_nil ?_); refine hKr.out _ _ ?_; clear hKr Kr) | ((first | (refine St.copy (v := ?_) (by first | exact .inl rfl | exact .inr rfl) rfl rfl ?_ ?_; rotate_left; (focus ((try simp only [Act.eval, getD_lit, List.getD_cons_zero, List.getD_cons_succ]); with_reducible rfl))) | (refine St.pure (v := ?_) rfl rfl rfl (fun w => ?_) ?_; rotate_left; (focus (go_simp; all_goals with_reducible rfl)))); (try simp only [Act.put, List.setIfInBounds_toArray, List.set_cons_zero, List.set_cons_succ]))) | (first | (refine wp_seq_shut (fun K hK => ?_)) | (refine wp_text hM (fun Kr hKr => ?_); simp only [inText]) | refine wp_skip ?_ | (refine wp_cond_false rfl ?_) | ((refine hK.out _ _ ?_); clear hK K))))
      (refine St.call3 rfl rfl (by kernel_rfl) (fun R hR => ?_); simp only [List.map_toArray, List.map_cons, List.map_nil, Act.eval, getD_lit, List.getD_cons_zero, List.getD_cons_succ])
      refine (CF.out _ β (hM.fs (by repeat (first | exact Part.all | apply Part.skip)) I1 HMX.out F0)).mono ?_
      rintro e w' ⟨rfl, hb⟩; refine hR.out _ _ ?_; clear hR R; replace hM := hM.below hb; clear hb; (try simp only [Act.put, List.setIfInBounds_toArray, List.set_cons_zero, List.set_cons_succ])
      (repeat (first | ((with_reducible show wpSeq _ _ _ _ _ _ _); first | ((with_reducible refine wpSeq_nil ?_); refine hKr.out _ _ ?_; clear hKr Kr) | ((first | (refine St.copy (v := ?_) (by first | exact .inl rfl | exact .inr rfl) rfl rfl ?_ ?_; rotate_left; (focus ((try simp only [Act.eval, getD_lit, List.getD_cons_zero, List.getD_cons_succ]); with_reducible rfl))) | (refine St.pure (v := ?_) rfl rfl rfl (fun w => ?_) ?_; rotate_left; (focus (go_simp; all_goals with_reducible rfl))) | refine St.load rfl hM rfl rfl rfl rfl (by repeat constructor) (by rfl) (by kernel_rfl) ?_); (try simp only [Act.put, List.setIfInBounds_toArray, List.set_cons_zero, List.set_cons_succ]))) | (first | (refine wp_seq_shut (fun K hK => ?_)) | (refine wp_text hM (fun Kr hKr => ?_); simp only [inText]) | ((refine hK.out _ _ ?_); clear hK K))))
      ((refine St.lookup rfl hM rfl rfl rfl rfl (by repeat constructor) key_int Tryz.underlying42 zero_cell (keyOf_int_mk Tryz.underlying3 (by assumption)) ((look_hand _ _).trans (by assumption)) ?_); (try simp only [Act.put, List.setIfInBounds_toArray, List.set_cons_zero, List.set_cons_succ]))
      (repeat (first | ((with_reducible show wpSeq _ _ _ _ _ _ _); first | ((with_reducible refine wpSeq_nil ?_); refine hKr.out _ _ ?_; clear hKr Kr) | ((first | (refine St.copy (v := ?_) (by exact .inl rfl) rfl rfl ?_ ?_; rotate_left; (focus ((try simp only [Act.eval, getD_lit, List.getD_cons_zero, List.getD_cons_succ]); with_reducible rfl))) | (refine St.pure (v := ?_) rfl rfl rfl (fun w => ?_) ?_; rotate_left; (focus (go_simp; all_goals with_reducible rfl))) | refine St.load1 rfl rfl rfl rfl (by repeat constructor) (by rfl) (by kernel_rfl) ?_ | ((refine St.loadRow rfl hM rfl rfl rfl rfl (by repeat constructor) (Nat.le_of_ble_eq_true rfl) (by kernel_rfl) ?_); (try simp only [Res.known, List.drop_succ_cons, List.drop_zero, List.take_succ_cons, List.take_zero])) | ((((first | refine St.store rfl hM rfl rfl rfl rfl rfl (by repeat constructor) (Nat.le_of_ble_eq_true rfl) (by kernel_rfl) rfl ?_ ?_ | refine St.storeRow rfl hM rfl rfl rfl rfl rfl (by repeat constructor) (Nat.le_of_ble_eq_true rfl) (Nat.le_of_ble_eq_true rfl) (by kernel_rfl) rfl ?_ ?_); (focus ((intro h; cases h; done))); clear hM; intro w hM)); (try simp only [Res.put, Res.known, Act.eval, Value.cells, getD_lit, List.getD_cons_zero, List.getD_cons_succ, List.toList_toArray, List.set_cons_zero, List.set_cons_succ, over, Nat.reduceAdd] at hM))); (try simp only [Act.put, List.setIfInBounds_toArray, List.set_cons_zero, List.set_cons_succ])) | (((refine St.alloc (ty := 117) (z := .agg #[.int .i64 0, .int .i64 0, .int .i64 0, .int .i64 0, .int .i64 0, .int .i64 0, .int .i64 0, .int .i64 0, .int .i64 0]) rfl hM rfl rfl (by kernel_rfl) ?_); clear hM; intro w bk hM); (try simp only [Res.put, Res.known, Act.eval, Value.cells, getD_lit, List.getD_cons_zero, List.getD_cons_succ, List.toList_toArray, List.set_cons_zero, List.set_cons_succ, over, Nat.reduceAdd] at hM); (try simp only [Act.put, List.setIfInBounds_toArray, List.set_cons_zero, List.set_cons_succ]))) | (first | (refine wp_seq_shut (fun K hK => ?_)) | (refine wp_text hM (fun Kr hKr => ?_); simp only [inText]) | ((refine hK.out _ _ ?_); clear hK K)) | ((refine wp_drawn (id := 7) hM (Sub.all _) [3] [(0, 0), (1, 0), (2, 0), (3, 1), (4, 0), (5, 2), (6, 3)] (by kernel_rfl) (by kernel_rfl) ?_); (clear hM; intro w hM Kr hKr); simp only [opsOf, List.getD_cons_zero, List.getD_cons_succ])))
      (refine St.mapUpdate rfl hM rfl rfl rfl rfl rfl (by repeat constructor) (put_hand _ _ [a0, a1, a2, id, a4, a5, a6, a7, a8]) key_int Tryz.underlying42 (by assumption) (keyOf_int_mk Tryz.underlying3 (by assumption)) ?_ ?_; (focus ((intro h; cases h; done))); clear hM; intro w hM; (try simp only [Act.put, List.setIfInBounds_toArray, List.set_cons_zero, List.set_cons_succ]))
      (repeat (first | ((with_reducible show wpSeq _ _ _ _ _ _ _); first | ((with_reducible refine wpSeq_nil ?_); refine hKr.out _ _ ?_; clear hKr Kr) | ((first | (refine St.copy (v := ?_) (by exact .inl rfl) rfl rfl ?_ ?_; rotate_left; (focus ((try simp only [Act.eval, getD_lit, List.getD_cons_zero, List.getD_cons_succ]); with_reducible rfl))) | (refine St.pure (v := ?_) rfl rfl rfl (fun w => ?_) ?_; rotate_left; (focus (go_simp; all_goals with_reducible rfl))) | ((((refine St.storeRow rfl hM rfl rfl rfl rfl rfl (by repeat constructor) (Nat.le_of_ble_eq_true rfl) (Nat.le_of_ble_eq_true rfl) (by kernel_rfl) rfl ?_ ?_); (focus ((intro h; cases h; done))); clear hM; intro w hM)); (try simp only [Res.put, Res.known, Act.eval, Value.cells, getD_lit, List.getD_cons_zero, List.getD_cons_succ, List.toList_toArray, List.set_cons_zero, List.set_cons_succ, over, Nat.reduceAdd] at hM))); (try simp only [Act.put, List.setIfInBounds_toArray, List.set_cons_zero, List.set_cons_succ]))) | (first | (refine wp_seq_shut (fun K hK => ?_)) | (refine wp_text hM (fun Kr hKr => ?_); simp only [inText]) | ((refine hK.out _ _ ?_); clear hK K))))
      ((refine wp_ret ?_; (try simp only [Exit.then, Exit.inBlock]); refine St.ret hM rfl (by repeat (first | exact Outs.nil | (apply Outs.row rfl rfl (by repeat constructor) (by kernel_rfl)))) rfl ?_))
      exact ⟨rfl, β, hM.forget.forget⟩
    · simp only [List.set_cons_zero, List.set_cons_succ]
      go_enter Tryz.func108, Tryz.ntmps108
      (repeat (first | ((with_reducible show wpSeq _ _ _ _ _ _ _); first | ((with_reducible refine wpSeq_nil ?_); refine hKr.out _ _ ?_; clear hKr Kr) | ((first | (refine St.copy (v := ?_) (by exact .inl rfl) rfl rfl ?_ ?_; rotate_left; (focus ((try simp only [Act.eval, getD_lit, List.getD_cons_zero, List.getD_cons_succ]); with_reducible rfl))) | (refine St.pure (v := ?_) rfl rfl rfl (fun w => ?_) ?_; rotate_left; (focus (go_simp; all_goals with_reducible rfl))) | refine St.load rfl hM rfl rfl rfl rfl (by repeat constructor) (by rfl) (by kernel_rfl) ?_); (try simp only [Act.put, List.setIfInBounds_toArray, List.set_cons_zero, List.set_cons_succ])) | (((refine St.alloc (ty := 31) (z := .agg #[.int .i64 0, .int .i64 0, .string ⟨#[]⟩, .slice none 0 0]) rfl hM rfl rfl (by kernel_rfl) ?_); clear hM; intro w bk hM); (try simp only [Res.put, Res.known, Act.eval, Value.cells, getD_lit, List.getD_cons_zero, List.getD_cons_succ, List.toList_toArray, List.set_cons_zero, List.set_cons_succ, over, Nat.reduceAdd] at hM); (try simp only [Act.put, List.setIfInBounds_toArray, List.set_cons_zero, List.set_cons_succ]))) | (first | (refine wp_seq_shut (fun K hK => ?_)) | (refine wp_text hM (fun Kr hKr => ?_); simp only [inText]) | ((refine hK.out _ _ ?_); clear hK K))))
      (refine St.call3 rfl rfl (by kernel_rfl) (fun R hR => ?_); simp only [List.map_toArray, List.map_cons, List.map_nil, Act.eval, getD_lit, List.getD_cons_zero, List.getD_cons_succ])
      refine (CH.out _ _ (hM.part (M := tblL x.g x.mb β d.t) (by repeat (first | exact Part.all | apply Part.skip))).tbl).mono ?_
      (rintro e w' ⟨rfl, hS⟩; obtain ⟨β, hN⟩ := hS.st; replace hM := hM.backM (by repeat (first | exact Swap.all | apply Swap.skip)) tblL_flag hN tblL_flag; clear hN hS; refine hR.out _ _ ?_; clear hR R; (try simp only [Act.put, List.setIfInBounds_toArray, List.set_cons_zero, List.set_cons_succ]))
      (repeat (first | ((with_reducible show wpSeq _ _ _ _ _ _ _); first | ((with_reducible refine wpSeq_nil ?_); refine hKr.out _ _ ?_; clear hKr Kr) | ((first | (refine St.copy (v := ?_) (by first | exact .inl rfl | exact .inr rfl) rfl rfl ?_ ?_; rotate_left; (focus ((try simp only [Act.eval, getD_lit, List.getD_cons_zero, List.getD_cons_succ]); with_reducible rfl))) | (refine St.pure (v := ?_) rfl rfl rfl (fun w => ?_) ?_; rotate_left; (focus (go_simp; all_goals with_reducible rfl)))); (try simp only [Act.put, List.setIfInBounds_toArray, List.set_cons_zero, List.set_cons_succ]))) | (first | (refine wp_seq_shut (fun K hK => ?_)) | (refine wp_text hM (fun Kr hKr => ?_); simp only [inText]) | refine wp_skip ?_ | (refine wp_cond_false rfl ?_) | ((refine hK.out _ _ ?_); clear hK K))))
      (refine St.call3 rfl rfl (by kernel_rfl) (fun R hR => ?_); simp only [List.map_toArray, List.map_cons, List.map_nil, Act.eval, getD_lit, List.getD_cons_zero, List.getD_cons_succ])
      refine (CF.out _ β (hM.fs (by repeat (first | exact Part.all | apply Part.skip)) I1 HMX.out F0)).mono ?_
      rintro e w' ⟨rfl, hb⟩; refine hR.out _ _ ?_; clear hR R; replace hM := hM.below hb; clear hb; (try simp only [Act.put, List.setIfInBounds_toArray, List.set_cons_zero, List.set_cons_succ])
      (repeat (first | ((with_reducible show wpSeq _ _ _ _ _ _ _); first | ((with_reducible refine wpSeq_nil ?_); refine hKr.out _ _ ?_; clear hKr Kr) | ((first | (refine St.copy (v := ?_) (by first | exact .inl rfl | exact .inr rfl) rfl rfl ?_ ?_; rotate_left; (focus ((try simp only [Act.eval, getD_lit, List.getD_cons_zero, List.getD_cons_succ]); with_reducible rfl))) | (refine St.pure (v := ?_) rfl rfl rfl (fun w => ?_) ?_; rotate_left; (focus (go_simp; all_goals with_reducible rfl))) | refine St.load rfl hM rfl rfl rfl rfl (by repeat constructor) (by rfl) (by kernel_rfl) ?_); (try simp only [Act.put, List.setIfInBounds_toArray, List.set_cons_zero, List.set_cons_succ]))) | (first | (refine wp_seq_shut (fun K hK => ?_)) | (refine wp_text hM (fun Kr hKr => ?_); simp only [inText]) | ((refine hK.out _ _ ?_); clear hK K))))
      ((refine St.lookup rfl hM rfl rfl rfl rfl (by repeat constructor) key_int Tryz.underlying42 zero_cell (keyOf_int_mk Tryz.underlying3 (by assumption)) ((look_hand _ _).trans (by assumption)) ?_); (try simp only [Act.put, List.setIfInBounds_toArray, List.set_cons_zero, List.set_cons_succ]))
      (repeat (first | ((with_reducible show wpSeq _ _ _ _ _ _ _); first | ((with_reducible refine wpSeq_nil ?_); refine hKr.out _ _ ?_; clear hKr Kr) | ((first | (refine St.copy (v := ?_) (by exact .inl rfl) rfl rfl ?_ ?_; rotate_left; (focus ((try simp only [Act.eval, getD_lit, List.getD_cons_zero, List.getD_cons_succ]); with_reducible rfl))) | (refine St.pure (v := ?_) rfl rfl rfl (fun w => ?_) ?_; rotate_left; (focus (go_simp; all_goals with_reducible rfl))) | refine St.load1 rfl rfl rfl rfl (by repeat constructor) (by rfl) (by kernel_rfl) ?_ | ((refine St.loadRow rfl hM rfl rfl rfl rfl (by repeat constructor) (Nat.le_of_ble_eq_true rfl) (by kernel_rfl) ?_); (try simp only [Res.known, List.drop_succ_cons, List.drop_zero, List.take_succ_cons, List.take_zero])) | ((((first | refine St.store rfl hM rfl rfl rfl rfl rfl (by repeat constructor) (Nat.le_of_ble_eq_true rfl) (by kernel_rfl) rfl ?_ ?_ | refine St.storeRow rfl hM rfl rfl rfl rfl rfl (by repeat constructor) (Nat.le_of_ble_eq_true rfl) (Nat.le_of_ble_eq_true rfl) (by kernel_rfl) rfl ?_ ?_); (focus ((intro h; cases h; done))); clear hM; intro w hM)); (try simp only [Res.put, Res.known, Act.eval, Value.cells, getD_lit, List.getD_cons_zero, List.getD_cons_succ, List.toList_toArray, List.set_cons_zero, List.set_cons_succ, over, Nat.reduceAdd] at hM))); (try simp only [Act.put, List.setIfInBounds_toArray, List.set_cons_zero, List.set_cons_succ])) | (((refine St.alloc (ty := 117) (z := .agg #[.int .i64 0, .int .i64 0, .int .i64 0, .int .i64 0, .int .i64 0, .int .i64 0, .int .i64 0, .int .i64 0, .int .i64 0]) rfl hM rfl rfl (by kernel_rfl) ?_); clear hM; intro w bk hM); (try simp only [Res.put, Res.known, Act.eval, Value.cells, getD_lit, List.getD_cons_zero, List.getD_cons_succ, List.toList_toArray, List.set_cons_zero, List.set_cons_succ, over, Nat.reduceAdd] at hM); (try simp only [Act.put, List.setIfInBounds_toArray, List.set_cons_zero, List.set_cons_succ]))) | (first | (refine wp_seq_shut (fun K hK => ?_)) | (refine wp_text hM (fun Kr hKr => ?_); simp only [inText]) | ((refine hK.out _ _ ?_); clear hK K)) | ((refine wp_drawn (id := 7) hM (Sub.all _) [3] [(0, 0), (1, 0), (2, 0), (3, 1), (4, 0), (5, 2), (6, 3)] (by kernel_rfl) (by kernel_rfl) ?_); (clear hM; intro w hM Kr hKr); simp only [opsOf, List.getD_cons_zero, List.getD_cons_succ])))
      (refine St.mapUpdate rfl hM rfl rfl rfl rfl rfl (by repeat constructor) (put_hand _ _ [a0, a1, a2, a3, id, a5, a6, a7, a8]) key_int Tryz.underlying42 (by assumption) (keyOf_int_mk Tryz.underlying3 (by assumption)) ?_ ?_; (focus ((intro h; cases h; done))); clear hM; intro w hM; (try simp only [Act.put, List.setIfInBounds_toArray, List.set_cons_zero, List.set_cons_succ]))
      (repeat (first | ((with_reducible show wpSeq _ _ _ _ _ _ _); first | ((with_reducible refine wpSeq_nil ?_); refine hKr.out _ _ ?_; clear hKr Kr) | ((first | (refine St.copy (v := ?_) (by exact .inl rfl) rfl rfl ?_ ?_; rotate_left; (focus ((try simp only [Act.eval, getD_lit, List.getD_cons_zero, List.getD_cons_succ]); with_reducible rfl))) | (refine St.pure (v := ?_) rfl rfl rfl (fun w => ?_) ?_; rotate_left; (focus (go_simp; all_goals with_reducible rfl))) | ((((refine St.storeRow rfl hM rfl rfl rfl rfl rfl (by repeat constructor) (Nat.le_of_ble_eq_true rfl) (Nat.le_of_ble_eq_true rfl) (by kernel_rfl) rfl ?_ ?_); (focus ((intro h; cases h; done))); clear hM; intro w hM)); (try simp only [Res.put, Res.known, Act.eval, Value.cells, getD_lit, List.getD_cons_zero, List.getD_cons_succ, List.toList_toArray, List.set_cons_zero, List.set_cons_succ, over, Nat.reduceAdd] at hM))); (try simp only [Act.put, List.setIfInBounds_toArray, List.set_cons_zero, List.set_cons_succ]))) | (first | (refine wp_seq_shut (fun K hK => ?_)) | (refine wp_text hM (fun Kr hKr => ?_); simp only [inText]) | ((refine hK.out _ _ ?_); clear hK K))))
      ((refine wp_ret ?_; (try simp only [Exit.then, Exit.inBlock]); refine St.ret hM rfl (by repeat (first | exact Outs.nil | (apply Outs.row rfl rfl (by repeat constructor) (by kernel_rfl)))) rfl ?_))
      exact ⟨rfl, β, hM.forget.forget⟩
    · simp only [List.set_cons_zero, List.set_cons_succ]
      go_enter Tryz.func108, Tryz.ntmps108
      (repeat (first | ((with_reducible show wpSeq _ _ _ _ _ _ _); first | ((with_reducible refine wpSeq_nil ?_); refine hKr.out _ _ ?_; clear hKr Kr) | ((first | (refine St.copy (v := ?_) (by exact .inl rfl) rfl rfl ?_ ?_; rotate_left; (focus ((try simp only [Act.eval, getD_lit, List.getD_cons_zero, List.getD_cons_succ]); with_reducible rfl))) | (refine St.pure (v := ?_) rfl rfl rfl (fun w => ?_) ?_; rotate_left; (focus (go_simp; all_goals with_reducible rfl))) | refine St.load rfl hM rfl rfl rfl rfl (by repeat constructor) (by rfl) (by kernel_rfl) ?_); (try simp only [Act.put, List.setIfInBounds_toArray, List.set_cons_zero, List.set_cons_succ])) | (((refine St.alloc (ty := 31) (z := .agg #[.int .i64 0, .int .i64 0, .string ⟨#[]⟩, .slice none 0 0]) rfl hM rfl rfl (by kernel_rfl) ?_); clear hM; intro w bk hM); (try simp only [Res.put, Res.known, Act.eval, Value.cells, getD_lit, List.getD_cons_zero, List.getD_cons_succ, List.toList_toArray, List.set_cons_zero, List.set_cons_succ, over, Nat.reduceAdd] at hM); (try simp only [Act.put, List.setIfInBounds_toArray, List.set_cons_zero, List.set_cons_succ]))) | (first | (refine wp_seq_shut (fun K hK => ?_)) | (refine wp_text hM (fun Kr hKr => ?_); simp only [inText]) | ((refine hK.out _ _ ?_); clear hK K))))
      (refine St.call3 rfl rfl (by kernel_rfl) (fun R hR => ?_); simp only [List.map_toArray, List.map_cons, List.map_nil, Act.eval, getD_lit, List.getD_cons_zero, List.getD_cons_succ])
      refine (CH.out _ _ (hM.part (M := tblL x.g x.mb β d.t) (by repeat (first | exact Part.all | apply Part.skip))).tbl).mono ?_
      (rintro e w' ⟨rfl, hS⟩; obtain ⟨β, hN⟩ := hS.st; replace hM := hM.backM (by repeat (first | exact Swap.all | apply Swap.skip)) tblL_flag hN tblL_flag; clear hN hS; refine hR.out _ _ ?_; clear hR R; (try simp only [Act.put, List.setIfInBounds_toArray, List.set_cons_zero, List.set_cons_succ]))
      (repeat (first | ((with_reducible show wpSeq _ _ _ _ _ _ _); first | ((with_reducible refine wpSeq_nil ?_); refine hKr.out _ _ ?_; clear hKr Kr) | ((first | (refine St.copy (v := ?_) (by first | exact .inl rfl | exact .inr rfl) rfl rfl ?_ ?_; rotate_left; (focus ((try simp only [Act.eval, getD_lit, List.getD_cons_zero, List.getD_cons_succ]); with_reducible rfl))) | (refine St.pure (v := ?_) rfl rfl rfl (fun w => ?_) ?_; rotate_left; (focus (go_simp; all_goals with_reducible rfl)))); (try simp only [Act.put, List.setIfInBounds_toArray, List.set_cons_zero, List.set_cons_succ]))) | (first | (refine wp_seq_shut (fun K hK => ?_)) | (refine wp_text hM (fun Kr hKr => ?_); simp only [inText]) | refine wp_skip ?_ | (refine wp_cond_false rfl ?_) | ((refine hK.out _ _ ?_); clear hK K))))
      (refine St.call3 rfl rfl (by kernel_rfl) (fun R hR => ?_); simp only [List.map_toArray, List.map_cons, List.map_nil, Act.eval, getD_lit, List.getD_cons_zero, List.getD_cons_succ])
      refine (CF.out _ β (hM.fs (by repeat (first | exact Part.all | apply Part.skip)) I1 HMX.out F0)).mono ?_
      rintro e w' ⟨rfl, hb⟩; refine hR.out _ _ ?_; clear hR R; replace hM := hM.below hb; clear hb; (try simp only [Act.put, List.setIfInBounds_toArray, List.set_cons_zero, List.set_cons_succ])
      (repeat (first | ((with_reducible show wpSeq _ _ _ _ _ _ _); first | ((with_reducible refine wpSeq_nil ?_); refine hKr.out _ _ ?_; clear hKr Kr) | ((first | (refine St.copy (v := ?_) (by first | exact .inl rfl | exact .inr rfl) rfl rfl ?_ ?_; rotate_left; (focus ((try simp only [Act.eval, getD_lit, List.getD_cons_zero, List.getD_cons_succ]); with_reducible rfl))) | (refine St.pure (v := ?_) rfl rfl rfl (fun w => ?_) ?_; rotate_left; (focus (go_simp; all_goals with_reducible rfl))) | refine St.load rfl hM rfl rfl rfl rfl (by repeat constructor) (by rfl) (by kernel_rfl) ?_); (try simp only [Act.put, List.setIfInBounds_toArray, List.set_cons_zero, List.set_cons_succ]))) | (first | (refine wp_seq_shut (fun K hK => ?_)) | (refine wp_text hM (fun Kr hKr => ?_); simp only [inText]) | ((refine hK.out _ _ ?_); clear hK K))))
      ((refine St.lookup rfl hM rfl rfl rfl rfl (by repeat constructor) key_int Tryz.underlying42 zero_cell (keyOf_int_mk Tryz.underlying3 (by assumption)) ((look_hand _ _).trans (by assumption)) ?_); (try simp only [Act.put, List.setIfInBounds_toArray, List.set_cons_zero, List.set_cons_succ]))
      (repeat (first | ((with_reducible show wpSeq _ _ _ _ _ _ _); first | ((with_reducible refine wpSeq_nil ?_); refine hKr.out _ _ ?_; clear hKr Kr) | ((first | (refine St.copy (v := ?_) (by exact .inl rfl) rfl rfl ?_ ?_; rotate_left; (focus ((try simp only [Act.eval, getD_lit, List.getD_cons_zero, List.getD_cons_succ]); with_reducible rfl))) | (refine St.pure (v := ?_) rfl rfl rfl (fun w => ?_) ?_; rotate_left; (focus (go_simp; all_goals with_reducible rfl))) | refine St.load1 rfl rfl rfl rfl (by repeat constructor) (by rfl) (by kernel_rfl) ?_ | ((refine St.loadRow rfl hM rfl rfl rfl rfl (by repeat constructor) (Nat.le_of_ble_eq_true rfl) (by kernel_rfl) ?_); (try simp only [Res.known, List.drop_succ_cons, List.drop_zero, List.take_succ_cons, List.take_zero])) | ((((first | refine St.store rfl hM rfl rfl rfl rfl rfl (by repeat constructor) (Nat.le_of_ble_eq_true rfl) (by kernel_rfl) rfl ?_ ?_ | refine St.storeRow rfl hM rfl rfl rfl rfl rfl (by repeat constructor) (Nat.le_of_ble_eq_true rfl) (Nat.le_of_ble_eq_true rfl) (by kernel_rfl) rfl ?_ ?_); (focus ((intro h; cases h; done))); clear hM; intro w hM)); (try simp only [Res.put, Res.known, Act.eval, Value.cells, getD_lit, List.getD_cons_zero, List.getD_cons_succ, List.toList_toArray, List.set_cons_zero, List.set_cons_succ, over, Nat.reduceAdd] at hM))); (try simp only [Act.put, List.setIfInBounds_toArray, List.set_cons_zero, List.set_cons_succ])) | (((refine St.alloc (ty := 117) (z := .agg #[.int .i64 0, .int .i64 0, .int .i64 0, .int .i64 0, .int .i64 0, .int .i64 0, .int .i64 0, .int .i64 0, .int .i64 0]) rfl hM rfl rfl (by kernel_rfl) ?_); clear hM; intro w bk hM); (try simp only [Res.put, Res.known, Act.eval, Value.cells, getD_lit, List.getD_cons_zero, List.getD_cons_succ, List.toList_toArray, List.set_cons_zero, List.set_cons_succ, over, Nat.reduceAdd] at hM); (try simp only [Act.put, List.setIfInBounds_toArray, List.set_cons_zero, List.set_cons_succ]))) | (first | (refine wp_seq_shut (fun K hK => ?_)) | (refine wp_text hM (fun Kr hKr => ?_); simp only [inText]) | ((refine hK.out _ _ ?_); clear hK K)) | ((refine wp_drawn (id := 7) hM (Sub.all _) [3] [(0, 0), (1, 0), (2, 0), (3, 1), (4, 0), (5, 2), (6, 3)] (by kernel_rfl) (by kernel_rfl) ?_); (clear hM; intro w hM Kr hKr); simp only [opsOf, List.getD_cons_zero, List.getD_cons_succ])))
      (refine St.mapUpdate rfl hM rfl rfl rfl rfl rfl (by repeat constructor) (put_hand _ _ [a0, a1, a2, a3, a4, id, a6, a7, a8]) key_int Tryz.underlying42 (by assumption) (keyOf_int_mk Tryz.underlying3 (by assumption)) ?_ ?_; (focus ((intro h; cases h; done))); clear hM; intro w hM; (try simp only [Act.put, List.setIfInBounds_toArray, List.set_cons_zero, List.set_cons_succ]))
      (repeat (first | ((with_reducible show wpSeq _ _ _ _ _ _ _); first | ((with_reducible refine wpSeq_nil ?_); refine hKr.out _ _ ?_; clear hKr Kr) | ((first | (refine St.copy (v := ?_) (by exact .inl rfl) rfl rfl ?_ ?_; rotate_left; (focus ((try simp only [Act.eval, getD_lit, List.getD_cons_zero, List.getD_cons_succ]); with_reducible rfl))) | (refine St.pure (v := ?_) rfl rfl rfl (fun w => ?_) ?_; rotate_left; (focus (go_simp; all_goals with_reducible rfl))) | ((((refine St.storeRow rfl hM rfl rfl rfl rfl rfl (by repeat constructor) (Nat.le_of_ble_eq_true rfl) (Nat.le_of_ble_eq_true rfl) (by kernel_rfl) rfl ?_ ?_); (focus ((intro h; cases h; done))); clear hM; intro w hM)); (try simp only [Res.put, Res.known, Act.eval, Value.cells, getD_lit, List.getD_cons_zero, List.getD_cons_succ, List.toList_toArray, List.set_cons_zero, List.set_cons_succ, over, Nat.reduceAdd] at hM))); (try simp only [Act.put, List.setIfInBounds_toArray, List.set_cons_zero, List.set_cons_succ]))) | (first | (refine wp_seq_shut (fun K hK => ?_)) | (refine wp_text hM (fun Kr hKr => ?_); simp only [inText]) | ((refine hK.out _ _ ?_); clear hK K))))
      ((refine wp_ret ?_; (try simp only [Exit.then, Exit.inBlock]); refine St.ret hM rfl (by repeat (first | exact Outs.nil | (apply Outs.row rfl rfl (by repeat constructor) (by kernel_rfl)))) rfl ?_))
      exact ⟨rfl, β, hM.forget.forget⟩
    · simp only [List.set_cons_zero, List.set_cons_succ]
      go_enter Tryz.func108, Tryz.ntmps108
      (repeat (first | ((with_reducible show wpSeq _ _ _ _ _ _ _); first | ((with_reducible refine wpSeq_nil ?_); refine hKr.out _ _ ?_; clear hKr Kr) | ((first | (refine St.copy (v := ?_) (by exact .inl rfl) rfl rfl ?_ ?_; rotate_left; (focus ((try simp only [Act.eval, getD_lit, List.getD_cons_zero, List.getD_cons_succ]); with_reducible rfl))) | (refine St.pure (v := ?_) rfl rfl rfl (fun w => ?_) ?_; rotate_left; (focus (go_simp; all_goals with_reducible rfl))) | refine St.load rfl hM rfl rfl rfl rfl (by repeat constructor) (by rfl) (by kernel_rfl) ?_); (try simp only [Act.put, List.setIfInBounds_toArray, List.set_cons_zero, List.set_cons_succ])) | (((refine St.alloc (ty := 31) (z := .agg #[.int .i64 0, .int .i64 0, .string ⟨#[]⟩, .slice none 0 0]) rfl hM rfl rfl (by kernel_rfl) ?_); clear hM; intro w bk hM); (try simp only [Res.put, Res.known, Act.eval, Value.cells, getD_lit, List.getD_cons_zero, List.getD_cons_succ, List.toList_toArray, List.set_cons_zero, List.set_cons_succ, over, Nat.reduceAdd] at hM); (try simp only [Act.put, List.setIfInBounds_toArray, List.set_cons_zero, List.set_cons_succ]))) | (first | (refine wp_seq_shut (fun K hK => ?_)) | (refine wp_text hM (fun Kr hKr => ?_); simp only [inText]) | ((refine hK.out _ _ ?_); clear hK K))))
      (refine St.call3 rfl rfl (by kernel_rfl) (fun R hR => ?_); simp only [List.map_toArray, List.map_cons, List.map_nil, Act.eval, getD_lit, List.getD_cons_zero, List.getD_cons_succ])
      refine (CH.out _ _ (hM.part (M := tblL x.g x.mb β d.t) (by repeat (first | exact Part.all | apply Part.skip))).tbl).mono ?_
      (rintro e w' ⟨rfl, hS⟩; obtain ⟨β, hN⟩ := hS.st; replace hM := hM.backM (by repeat (first | exact Swap.all | apply Swap.skip)) tblL_flag hN tblL_flag; clear hN hS; refine hR.out _ _ ?_; clear hR R; (try simp only [Act.put, List.setIfInBounds_toArray, List.set_cons_zero, List.set_cons_succ]))
      (repeat (first | ((with_reducible show wpSeq _ _ _ _ _ _ _); first | ((with_reducible refine wpSeq_nil ?_); refine hKr.out _ _ ?_; clear hKr Kr) | ((first | (refine St.copy (v := ?_) (by first | exact .inl rfl | exact .inr rfl) rfl rfl ?_ ?_; rotate_left; (focus ((try simp only [Act.eval, getD_lit, List.getD_cons_zero, List.getD_cons_succ]); with_reducible rfl))) | (refine St.pure (v := ?_) rfl rfl rfl (fun w => ?_) ?_; rotate_left; (focus (go_simp; all_goals with_reducible rfl)))); (try simp only [Act.put, List.setIfInBounds_toArray, List.set_cons_zero, List.set_cons_succ]))) | (first | (refine wp_seq_shut (fun K hK => ?_)) | (refine wp_text hM (fun Kr hKr => ?_); simp only [inText]) | refine wp_skip ?_ | (refine wp_cond_false rfl ?_) | ((refine hK.out _ _ ?_); clear hK K))))
      (refine St.call3 rfl rfl (by kernel_rfl) (fun R hR => ?_); simp only [List.map_toArray, List.map_cons, List.map_nil, Act.eval, getD_lit, List.getD_cons_zero, List.getD_cons_succ])
      refine (CF.out _ β (hM.fs (by repeat (first | exact Part.all | apply Part.skip)) I1 HMX.out F0)).mono ?_
      rintro e w' ⟨rfl, hb⟩; refine hR.out _ _ ?_; clear hR R; replace hM := hM.below hb; clear hb; (try simp only [Act.put, List.setIfInBounds_toArray, List.set_cons_zero, List.set_cons_succ])
      (repeat (first | ((with_reducible show wpSeq _ _ _ _ _ _ _); first | ((with_reducible refine wpSeq_nil ?_); refine hKr.out _ _ ?_; clear hKr Kr) | ((first | (refine St.copy (v := ?_) (by first | exact .inl rfl | exact .inr rfl) rfl rfl ?_ ?_; rotate_left; (focus ((try simp only [Act.eval, getD_lit, List.getD_cons_zero, List.getD_cons_succ]); with_reducible rfl))) | (refine St.pure (v := ?_) rfl rfl rfl (fun w => ?_) ?_; rotate_left; (focus (go_simp; all_goals with_reducible rfl))) | refine St.load rfl hM rfl rfl rfl rfl (by repeat constructor) (by rfl) (by kernel_rfl) ?_); (try simp only [Act.put, List.setIfInBounds_toArray, List.set_cons_zero, List.set_cons_succ]))) | (first | (refine wp_seq_shut (fun K hK => ?_)) | (refine wp_text hM (fun Kr hKr => ?_); simp only [inText]) | ((refine hK.out _ _ ?_); clear hK K))))
      ((refine St.lookup rfl hM rfl rfl rfl rfl (by repeat constructor) key_int Tryz.underlying42 zero_cell (keyOf_int_mk Tryz.underlying3 (by assumption)) ((look_hand _ _).trans (by assumption)) ?_); (try simp only [Act.put, List.setIfInBounds_toArray, List.set_cons_zero, List.set_cons_succ]))
      (repeat (first | ((with_reducible show wpSeq _ _ _ _ _ _ _); first | ((with_reducible refine wpSeq_nil ?_); refine hKr.out _ _ ?_; clear hKr Kr) | ((first | (refine St.copy (v := ?_) (by exact .inl rfl) rfl rfl ?_ ?_; rotate_left; (focus ((try simp only [Act.eval, getD_lit, List.getD_cons_zero, List.getD_cons_succ]); with_reducible rfl))) | (refine St.pure (v := ?_) rfl rfl rfl (fun w => ?_) ?_; rotate_left; (focus (go_simp; all_goals with_reducible rfl))) | refine St.load1 rfl rfl rfl rfl (by repeat constructor) (by rfl) (by kernel_rfl) ?_ | ((refine St.loadRow rfl hM rfl rfl rfl rfl (by repeat constructor) (Nat.le_of_ble_eq_true rfl) (by kernel_rfl) ?_); (try simp only [Res.known, List.drop_succ_cons, List.drop_zero, List.take_succ_cons, List.take_zero])) | ((((first | refine St.store rfl hM rfl rfl rfl rfl rfl (by repeat constructor) (Nat.le_of_ble_eq_true rfl) (by kernel_rfl) rfl ?_ ?_ | refine St.storeRow rfl hM rfl rfl rfl rfl rfl (by repeat constructor) (Nat.le_of_ble_eq_true rfl) (Nat.le_of_ble_eq_true rfl) (by kernel_rfl) rfl ?_ ?_); (focus ((intro h; cases h; done))); clear hM; intro w hM)); (try simp only [Res.put, Res.known, Act.eval, Value.cells, getD_lit, List.getD_cons_zero, List.getD_cons_succ, List.toList_toArray, List.set_cons_zero, List.set_cons_succ, over, Nat.reduceAdd] at hM))); (try simp only [Act.put, List.setIfInBounds_toArray, List.set_cons_zero, List.set_cons_succ])) | (((refine St.alloc (ty := 117) (z := .agg #[.int .i64 0, .int .i64 0, .int .i64 0, .int .i64 0, .int .i64 0, .int .i64 0, .int .i64 0, .int .i64 0, .int .i64 0]) rfl hM rfl rfl (by kernel_rfl) ?_); clear hM; intro w bk hM); (try simp only [Res.put, Res.known, Act.eval, Value.cells, getD_lit, List.getD_cons_zero, List.getD_cons_succ, List.toList_toArray, List.set_cons_zero, List.set_cons_succ, over, Nat.reduceAdd] at hM); (try simp only [Act.put, List.setIfInBounds_toArray, List.set_cons_zero, List.set_cons_succ]))) | (first | (refine wp_seq_shut (fun K hK => ?_)) | (refine wp_text hM (fun Kr hKr => ?_); simp only [inText]) | ((refine hK.out _ _ ?_); clear hK K)) | ((refine wp_drawn (id := 7) hM (Sub.all _) [3] [(0, 0), (1, 0), (2, 0), (3, 1), (4, 0), (5, 2), (6, 3)] (by kernel_rfl) (by kernel_rfl) ?_); (clear hM; intro w hM Kr hKr); simp only [opsOf, List.getD_cons_zero, List.getD_cons_succ])))
      (refine St.mapUpdate rfl hM rfl rfl rfl rfl rfl (by repeat constructor) (put_hand _ _ [a0, a1, a2, a3, a4, a5, id, a7, a8]) key_int Tryz.underlying42 (by assumption) (keyOf_int_mk Tryz.underlying3 (by assumption)) ?_ ?_; (focus ((intro h; cases h; done))); clear hM; intro w hM; (try simp only [Act.put, List.setIfInBounds_toArray, List.set_cons_zero, List.set_cons_succ]))
      (repeat (first | ((with_reducible show wpSeq _ _ _ _ _ _ _); first | ((with_reducible refine wpSeq_nil ?_); refine hKr.out _ _ ?_; clear hKr Kr) | ((first | (refine St.copy (v := ?_) (by exact .inl rfl) rfl rfl ?_ ?_; rotate_left; (focus ((try simp only [Act.eval, getD_lit, List.getD_cons_zero, List.getD_cons_succ]); with_reducible rfl))) | (refine St.pure (v := ?_) rfl rfl rfl (fun w => ?_) ?_; rotate_left; (focus (go_simp; all_goals with_reducible rfl))) | ((((refine St.storeRow rfl hM rfl rfl rfl rfl rfl (by repeat constructor) (Nat.le_of_ble_eq_true rfl) (Nat.le_of_ble_eq_true rfl) (by kernel_rfl) rfl ?_ ?_); (focus ((intro h; cases h; done))); clear hM; intro w hM)); (try simp only [Res.put, Res.known, Act.eval, Value.cells, getD_lit, List.getD_cons_zero, List.getD_cons_succ, List.toList_toArray, List.set_cons_zero, List.set_cons_succ, over, Nat.reduceAdd] at hM))); (try simp only [Act.put, List.setIfInBounds_toArray, List.set_cons_zero, List.set_cons_succ]))) | (first | (refine wp_seq_shut (fun K hK => ?_)) | (refine wp_text hM (fun Kr hKr => ?_); simp only [inText]) | ((refine hK.out _ _ ?_); clear hK K))))
      ((refine wp_ret ?_; (try simp only [Exit.then, Exit.inBlock]); refine St.ret hM rfl (by repeat (first | exact Outs.nil | (apply Outs.row rfl rfl (by repeat constructor) (by kernel_rfl)))) rfl ?_))
      exact ⟨rfl, β, hM.forget.forget⟩
    · simp only [List.set_cons_zero, List.set_cons_succ]
      go_enter Tryz.func108, Tryz.ntmps108
      (repeat (first | ((with_reducible show wpSeq _ _ _ _ _ _ _); first | ((with_reducible refine wpSeq_nil ?_); refine hKr.out _ _ ?_; clear hKr Kr) | ((first | (refine St.copy (v := ?_) (by exact .inl rfl) rfl rfl ?_ ?_; rotate_left; (focus ((try simp only [Act.eval, getD_lit, List.getD_cons_zero, List.getD_cons_succ]); with_reducible rfl))) | (refine St.pure (v := ?_) rfl rfl rfl (fun w => ?_) ?_; rotate_left; (focus (go_simp; all_goals with_reducible rfl))) | refine St.load rfl hM rfl rfl rfl rfl (by repeat constructor) (by rfl) (by kernel_rfl) ?_); (try simp only [Act.put, List.setIfInBounds_toArray, List.set_cons_zero, List.set_cons_succ])) | (((refine St.alloc (ty := 31) (z := .agg #[.int .i64 0, .int .i64 0, .string ⟨#[]⟩, .slice none 0 0]) rfl hM rfl rfl (by kernel_rfl) ?_); clear hM; intro w bk hM); (try simp only [Res.put, Res.known, Act.eval, Value.cells, getD_lit, List.getD_cons_zero, List.getD_cons_succ, List.toList_toArray, List.set_cons_zero, List.set_cons_succ, over, Nat.reduceAdd] at hM); (try simp only [Act.put, List.setIfInBounds_toArray, List.set_cons_zero, List.set_cons_succ]))) | (first | (refine wp_seq_shut (fun K hK => ?_)) | (refine wp_text hM (fun Kr hKr => ?_); simp only [inText]) | ((refine hK.out _ _ ?_); clear hK K))))
      (refine St.call3 rfl rfl (by kernel_rfl) (fun R hR => ?_); simp only [List.map_toArray, List.map_cons, List.map_nil, Act.eval, getD_lit, List.getD_cons_zero, List.getD_cons_succ])
      refine (CH.out _ _ (hM.part (M := tblL x.g x.mb β d.t) (by repeat (first | exact Part.all | apply Part.skip))).tbl).mono ?_
      (rintro e w' ⟨rfl, hS⟩; obtain ⟨β, hN⟩ := hS.st; replace hM := hM.backM (by repeat (first | exact Swap.all | apply Swap.skip)) tblL_flag hN tblL_flag; clear hN hS; refine hR.out _ _ ?_; clear hR R; (try simp only [Act.put, List.setIfInBounds_toArray, List.set_cons_zero, List.set_cons_succ]))
      (repeat (first | ((with_reducible show wpSeq _ _ _ _ _ _ _); first | ((with_reducible refine wpSeq_nil ?_); refine hKr.out _ _ ?_; clear hKr Kr) | ((first | (refine St.copy (v := ?_) (by first | exact .inl rfl | exact .inr rfl) rfl rfl ?_ ?_; rotate_left; (focus ((try simp only [Act.eval, getD_lit, List.getD_cons_zero, List.getD_cons_succ]); with_reducible rfl))) | (refine St.pure (v := ?_) rfl rfl rfl (fun w => ?_) ?_; rotate_left; (focus (go_simp; all_goals with_reducible rfl)))); (try simp only [Act.put, List.setIfInBounds_toArray, List.set_cons_zero, List.set_cons_succ]))) | (first | (refine wp_seq_shut (fun K hK => ?_)) | (refine wp_text hM (fun Kr hKr => ?_); simp only [inText]) | refine wp_skip ?_ | (refine wp_cond_false rfl ?_) | ((refine hK.out _ _ ?_); clear hK K))))
      (refine St.call3 rfl rfl (by kernel_rfl) (fun R hR => ?_); simp only [List.map_toArray, List.map_cons, List.map_nil, Act.eval, getD_lit, List.getD_cons_zero, List.getD_cons_succ])
      refine (CF.out _ β (hM.fs (by repeat (first | exact Part.all | apply Part.skip)) I1 HMX.out F0)).mono ?_
      rintro e w' ⟨rfl, hb⟩; refine hR.out _ _ ?_; clear hR R; replace hM := hM.below hb; clear hb; (try simp only [Act.put, List.setIfInBounds_toArray, List.set_cons_zero, List.set_cons_succ])
      (repeat (first | ((with_reducible show wpSeq _ _ _ _ _ _ _); first | ((with_reducible refine wpSeq_nil ?_); refine hKr.out _ _ ?_; clear hKr Kr) | ((first | (refine St.copy (v := ?_) (by first | exact .inl rfl | exact .inr rfl) rfl rfl ?_ ?_; rotate_left; (focus ((try simp only [Act.eval, getD_lit, List.getD_cons_zero, List.getD_cons_succ]); with_reducible rfl))) | (refine St.pure (v := ?_) rfl rfl rfl (fun w => ?_) ?_; rotate_left; (focus (go_simp; all_goals with_reducible rfl))) | refine St.load rfl hM rfl rfl rfl rfl (by repeat constructor) (by rfl) (by kernel_rfl) ?_); (try simp only [Act.put, List.setIfInBounds_toArray, List.set_cons_zero, List.set_cons_succ]))) | (first | (refine wp_seq_shut (fun K hK => ?_)) | (refine wp_text hM (fun Kr hKr => ?_); simp only [inText]) | ((refine hK.out _ _ ?_); clear hK K))))
      ((refine St.lookup rfl hM rfl rfl rfl rfl (by repeat constructor) key_int Tryz.underlying42 zero_cell (keyOf_int_mk Tryz.underlying3 (by assumption)) ((look_hand _ _).trans (by assumption)) ?_); (try simp only [Act.put, List.setIfInBounds_toArray, List.set_cons_zero, List.set_cons_succ]))
      (repeat (first | ((with_reducible show wpSeq _ _ _ _ _ _ _); first | ((with_reducible refine wpSeq_nil ?_); refine hKr.out _ _ ?_; clear hKr Kr) | ((first | (refine St.copy (v := ?_) (by exact .inl rfl) rfl rfl ?_ ?_; rotate_left; (focus ((try simp only [Act.eval, getD_lit, List.getD_cons_zero, List.getD_cons_succ]); with_reducible rfl))) | (refine St.pure (v := ?_) rfl rfl rfl (fun w => ?_) ?_; rotate_left; (focus (go_simp; all_goals with_reducible rfl))) | refine St.load1 rfl rfl rfl rfl (by repeat constructor) (by rfl) (by kernel_rfl) ?_ | ((refine St.loadRow rfl hM rfl rfl rfl rfl (by repeat constructor) (Nat.le_of_ble_eq_true rfl) (by kernel_rfl) ?_); (try simp only [Res.known, List.drop_succ_cons, List.drop_zero, List.take_succ_cons, List.take_zero])) | ((((first | refine St.store rfl hM rfl rfl rfl rfl rfl (by repeat constructor) (Nat.le_of_ble_eq_true rfl) (by kernel_rfl) rfl ?_ ?_ | refine St.storeRow rfl hM rfl rfl rfl rfl rfl (by repeat constructor) (Nat.le_of_ble_eq_true rfl) (Nat.le_of_ble_eq_true rfl) (by kernel_rfl) rfl ?_ ?_); (focus ((intro h; cases h; done))); clear hM; intro w hM)); (try simp only [Res.put, Res.known, Act.eval, Value.cells, getD_lit, List.getD_cons_zero, List.getD_cons_succ, List.toList_toArray, List.set_cons_zero, List.set_cons_succ, over, Nat.reduceAdd] at hM))); (try simp only [Act.put, List.setIfInBounds_toArray, List.set_cons_zero, List.set_cons_succ])) | (((refine St.alloc (ty := 117) (z := .agg #[.int .i64 0, .int .i64 0, .int .i64 0, .int .i64 0, .int .i64 0, .int .i64 0, .int .i64 0, .int .i64 0, .int .i64 0]) rfl hM rfl rfl (by kernel_rfl) ?_); clear hM; intro w bk hM); (try simp only [Res.put, Res.known, Act.eval, Value.cells, getD_lit, List.getD_cons_zero, List.getD_cons_succ, List.toList_toArray, List.set_cons_zero, List.set_cons_succ, over, Nat.reduceAdd] at hM); (try simp only [Act.put, List.setIfInBounds_toArray, List.set_cons_zero, List.set_cons_succ]))) | (first | (refine wp_seq_shut (fun K hK => ?_)) | (refine wp_text hM (fun Kr hKr => ?_); simp only [inText]) | ((refine hK.out _ _ ?_); clear hK K)) | ((refine wp_drawn (id := 7) hM (Sub.all _) [3] [(0, 0), (1, 0), (2, 0), (3, 1), (4, 0), (5, 2), (6, 3)] (by kernel_rfl) (by kernel_rfl) ?_); (clear hM; intro w hM Kr hKr); simp only [opsOf, List.getD_cons_zero, List.getD_cons_succ])))
      (refine St.mapUpdate rfl hM rfl rfl rfl rfl rfl (by repeat constructor) (put_hand _ _ [a0, a1, a2, a3, a4, a5, a6, id, a8]) key_int Tryz.underlying42 (by assumption) (keyOf_int_mk Tryz.underlying3 (by assumption)) ?_ ?_; (focus ((intro h; cases h; done))); clear hM; intro w hM; (try simp only [Act.put, List.setIfInBounds_toArray, List.set_cons_zero, List.set_cons_succ]))
      (repeat (first | ((with_reducible show wpSeq _ _ _ _ _ _ _); first | ((with_reducible refine wpSeq_nil ?_); refine hKr.out _ _ ?_; clear hKr Kr) | ((first | (refine St.copy (v := ?_) (by exact .inl rfl) rfl rfl ?_ ?_; rotate_left; (focus ((try simp only [Act.eval, getD_lit, List.getD_cons_zero, List.getD_cons_succ]); with_reducible rfl))) | (refine St.pure (v := ?_) rfl rfl rfl (fun w => ?_) ?_; rotate_left; (focus (go_simp; all_goals with_reducible rfl))) | ((((refine St.storeRow rfl hM rfl rfl rfl rfl rfl (by repeat constructor) (Nat.le_of_ble_eq_true rfl) (Nat.le_of_ble_eq_true rfl) (by kernel_rfl) rfl ?_ ?_); (focus ((intro h; cases h; done))); clear hM; intro w hM)); (try simp only [Res.put, Res.known, Act.eval, Value.cells, getD_lit, List.getD_cons_zero, List.getD_cons_succ, List.toList_toArray, List.set_cons_zero, List.set_cons_succ, over, Nat.reduceAdd] at hM))); (try simp only [Act.put, List.setIfInBounds_toArray, List.set_cons_zero, List.set_cons_succ]))) | (first | (refine wp_seq_shut (fun K hK => ?_)) | (refine wp_text hM (fun Kr hKr => ?_); simp only [inText]) | ((refine hK.out _ _ ?_); clear hK K))))
      ((refine wp_ret ?_; (try simp only [Exit.then, Exit.inBlock]); refine St.ret hM rfl (by repeat (first | exact Outs.nil | (apply Outs.row rfl rfl (by repeat constructor) (by kernel_rfl)))) rfl ?_))
      exact ⟨rfl, β, hM.forget.forget⟩
    · simp only [List.set_cons_zero, List.set_cons_succ]
      go_enter Tryz.func108, Tryz.ntmps108
      (repeat (first | ((with_reducible show wpSeq _ _ _ _ _ _ _); first | ((with_reducible refine wpSeq_nil ?_); refine hKr.out _ _ ?_; clear hKr Kr) | ((first | (refine St.copy (v := ?_) (by exact .inl rfl) rfl rfl ?_ ?_; rotate_left; (focus ((try simp only [Act.eval, getD_lit, List.getD_cons_zero, List.getD_cons_succ]); with_reducible rfl))) | (refine St.pure (v := ?_) rfl rfl rfl (fun w => ?_) ?_; rotate_left; (focus (go_simp; all_goals with_reducible rfl))) | refine St.load rfl hM rfl rfl rfl rfl (by repeat constructor) (by rfl) (by kernel_rfl) ?_); (try simp only [Act.put, List.setIfInBounds_toArray, List.set_cons_zero, List.set_cons_succ])) | (((refine St.alloc (ty := 31) (z := .agg #[.int .i64 0, .int .i64 0, .string ⟨#[]⟩, .slice none 0 0]) rfl hM rfl rfl (by kernel_rfl) ?_); clear hM; intro w bk hM); (try simp only [Res.put, Res.known, Act.eval, Value.cells, getD_lit, List.getD_cons_zero, List.getD_cons_succ, List.toList_toArray, List.set_cons_zero, List.set_cons_succ, over, Nat.reduceAdd] at hM); (try simp only [Act.put, List.setIfInBounds_toArray, List.set_cons_zero, List.set_cons_succ]))) | (first | (refine wp_seq_shut (fun K hK => ?_)) | (refine wp_text hM (fun Kr hKr => ?_); simp only [inText]) | ((refine hK.out _ _ ?_); clear hK K))))
      (refine St.call3 rfl rfl (by kernel_rfl) (fun R hR => ?_); simp only [List.map_toArray, List.map_cons, List.map_nil, Act.eval, getD_lit, List.getD_cons_zero, List.getD_cons_succ])
      refine (CH.out _ _ (hM.part (M := tblL x.g x.mb β d.t) (by repeat (first | exact Part.all | apply Part.skip))).tbl).mono ?_
      (rintro e w' ⟨rfl, hS⟩; obtain ⟨β, hN⟩ := hS.st; replace hM := hM.backM (by repeat (first | exact Swap.all | apply Swap.skip)) tblL_flag hN tblL_flag; clear hN hS; refine hR.out _ _ ?_; clear hR R; (try simp only [Act.put, List.setIfInBounds_toArray, List.set_cons_zero, List.set_cons_succ]))
      (repeat (first | ((with_reducible show wpSeq _ _ _ _ _ _ _); first | ((with_reducible refine wpSeq_nil ?_); refine hKr.out _ _ ?_; clear hKr Kr) | ((first | (refine St.copy (v := ?_) (by first | exact .inl rfl | exact .inr rfl) rfl rfl ?_ ?_; rotate_left; (focus ((try simp only [Act.eval, getD_lit, List.getD_cons_zero, List.getD_cons_succ]); with_reducible rfl))) | (refine St.pure (v := ?_) rfl rfl rfl (fun w => ?_) ?_; rotate_left; (focus (go_simp; all_goals with_reducible rfl)))); (try simp only [Act.put, List.setIfInBounds_toArray, List.set_cons_zero, List.set_cons_succ]))) | (first | (refine wp_seq_shut (fun K hK => ?_)) | (refine wp_text hM (fun Kr hKr => ?_); simp only [inText]) | refine wp_skip ?_ | (refine wp_cond_false rfl ?_) | ((refine hK.out _ _ ?_); clear hK K))))
      (refine St.call3 rfl rfl (by kernel_rfl) (fun R hR => ?_); simp only [List.map_toArray, List.map_cons, List.map_nil, Act.eval, getD_lit, List.getD_cons_zero, List.getD_cons_succ])
      refine (CF.out _ β (hM.fs (by repeat (first | exact Part.all | apply Part.skip)) I1 HMX.out F0)).mono ?_
      rintro e w' ⟨rfl, hb⟩; refine hR.out _ _ ?_; clear hR R; replace hM := hM.below hb; clear hb; (try simp only [Act.put, List.setIfInBounds_toArray, List.set_cons_zero, List.set_cons_succ])
      (repeat (first | ((with_reducible show wpSeq _ _ _ _ _ _ _); first | ((with_reducible refine wpSeq_nil ?_); refine hKr.out _ _ ?_; clear hKr Kr) | ((first | (refine St.copy (v := ?_) (by first | exact .inl rfl | exact .inr rfl) rfl rfl ?_ ?_; rotate_left; (focus ((try simp only [Act.eval, getD_lit, List.getD_cons_zero, List.getD_cons_succ]); with_reducible rfl))) | (refine St.pure (v := ?_) rfl rfl rfl (fun w => ?_) ?_; rotate_left; (focus (go_simp; all_goals with_reducible rfl))) | refine St.load rfl hM rfl rfl rfl rfl (by repeat constructor) (by rfl) (by kernel_rfl) ?_); (try simp only [Act.put, List.setIfInBounds_toArray, List.set_cons_zero, List.set_cons_succ]))) | (first | (refine wp_seq_shut (fun K hK => ?_)) | (refine wp_text hM (fun Kr hKr => ?_); simp only [inText]) | ((refine hK.out _ _ ?_); clear hK K))))
      ((refine St.lookup rfl hM rfl rfl rfl rfl (by repeat constructor) key_int Tryz.underlying42 zero_cell (keyOf_int_mk Tryz.underlying3 (by assumption)) ((look_hand _ _).trans (by assumption)) ?_); (try simp only [Act.put, List.setIfInBounds_toArray, List.set_cons_zero, List.set_cons_succ]))
      (repeat (first | ((with_reducible show wpSeq _ _ _ _ _ _ _); first | ((with_reducible refine wpSeq_nil ?_); refine hKr.out _ _ ?_; clear hKr Kr) | ((first | (refine St.copy (v := ?_) (by exact .inl rfl) rfl rfl ?_ ?_; rotate_left; (focus ((try simp only [Act.eval, getD_lit, List.getD_cons_zero, List.getD_cons_succ]); with_reducible rfl))) | (refine St.pure (v := ?_) rfl rfl rfl (fun w => ?_) ?_; rotate_left; (focus (go_simp; all_goals with_reducible rfl))) | refine St.load1 rfl rfl rfl rfl (by repeat constructor) (by rfl) (by kernel_rfl) ?_ | ((refine St.loadRow rfl hM rfl rfl rfl rfl (by repeat constructor) (Nat.le_of_ble_eq_true rfl) (by kernel_rfl) ?_); (try simp only [Res.known, List.drop_succ_cons, List.drop_zero, List.take_succ_cons, List.take_zero])) | ((((first | refine St.store rfl hM rfl rfl rfl rfl rfl (by repeat constructor) (Nat.le_of_ble_eq_true rfl) (by kernel_rfl) rfl ?_ ?_ | refine St.storeRow rfl hM rfl rfl rfl rfl rfl (by repeat constructor) (Nat.le_of_ble_eq_true rfl) (Nat.le_of_ble_eq_true rfl) (by kernel_rfl) rfl ?_ ?_); (focus ((intro h; cases h; done))); clear hM; intro w hM)); (try simp only [Res.put, Res.known, Act.eval, Value.cells, getD_lit, List.getD_cons_zero, List.getD_cons_succ, List.toList_toArray, List.set_cons_zero, List.set_cons_succ, over, Nat.reduceAdd] at hM))); (try simp only [Act.put, List.setIfInBounds_toArray, List.set_cons_zero, List.set_cons_succ])) | (((refine St.alloc (ty := 117) (z := .agg #[.int .i64 0, .int .i64 0, .int .i64 0, .int .i64 0, .int .i64 0, .int .i64 0, .int .i64 0, .int .i64 0, .int .i64 0]) rfl hM rfl rfl (by kernel_rfl) ?_); clear hM; intro w bk hM); (try simp only [Res.put, Res.known, Act.eval, Value.cells, getD_lit, List.getD_cons_zero, List.getD_cons_succ, List.toList_toArray, List.set_cons_zero, List.set_cons_succ, over, Nat.reduceAdd] at hM); (try simp only [Act.put, List.setIfInBounds_toArray, List.set_cons_zero, List.set_cons_succ]))) | (first | (refine wp_seq_shut (fun K hK => ?_)) | (refine wp_text hM (fun Kr hKr => ?_); simp only [inText]) | ((refine hK.out _ _ ?_); clear hK K)) | ((refine wp_drawn (id := 7) hM (Sub.all _) [3] [(0, 0), (1, 0), (2, 0), (3, 1), (4, 0), (5, 2), (6, 3)] (by kernel_rfl) (by kernel_rfl) ?_); (clear hM; intro w hM Kr hKr); simp only [opsOf, List.getD_cons_zero, List.getD_cons_succ])))
      (refine St.mapUpdate rfl hM rfl rfl rfl rfl rfl (by repeat constructor) (put_hand _ _ [a0, a1, a2, a3, a4, a5, a6, a7, id]) key_int Tryz.underlying42 (by assumption) (keyOf_int_mk Tryz.underlying3 (by assumption)) ?_ ?_; (focus ((intro h; cases h; done))); clear hM; intro w hM; (try simp only [Act.put, List.setIfInBounds_toArray, List.set_cons_zero, List.set_cons_succ]))
      (repeat (first | ((with_reducible show wpSeq _ _ _ _ _ _ _); first | ((with_reducible refine wpSeq_nil ?_); refine hKr.out _ _ ?_; clear hKr Kr) | ((first | (refine St.copy (v := ?_) (by exact .inl rfl) rfl rfl ?_ ?_; rotate_left; (focus ((try simp only [Act.eval, getD_lit, List.getD_cons_zero, List.getD_cons_succ]); with_reducible rfl))) | (refine St.pure (v := ?_) rfl rfl rfl (fun w => ?_) ?_; rotate_left; (focus (go_simp; all_goals with_reducible rfl))) | ((((refine St.storeRow rfl hM rfl rfl rfl rfl rfl (by repeat constructor) (Nat.le_of_ble_eq_true rfl) (Nat.le_of_ble_eq_true rfl) (by kernel_rfl) rfl ?_ ?_); (focus ((intro h; cases h; done))); clear hM; intro w hM)); (try simp only [Res.put, Res.known, Act.eval, Value.cells, getD_lit, List.getD_cons_zero, List.getD_cons_succ, List.toList_toArray, List.set_cons_zero, List.set_cons_succ, over, Nat.reduceAdd] at hM))); (try simp only [Act.put, List.setIfInBounds_toArray, List.set_cons_zero, List.set_cons_succ]))) | (first | (refine wp_seq_shut (fun K hK => ?_)) | (refine wp_text hM (fun Kr hKr => ?_); simp only [inText]) | ((refine hK.out _ _ ?_); clear hK K))))
      ((refine wp_ret ?_; (try simp only [Exit.then, Exit.inBlock]); refine St.ret hM rfl (by repeat (first | exact Outs.nil | (apply Outs.row rfl rfl (by repeat constructor) (by kernel_rfl)))) rfl ?_))
      exact ⟨rfl, β, hM.forget.forget⟩
  · rw [gives_no hE]
    have q0 := bne0_true hE
    have CH := Lib.hid (fun (W : World) (β' : Int → Nat × Nat) (hT : TblAt W x.g x.mb β' d.t) => Hold_any hT FI hid)
    unfold RStep at CH
    generalize (In.hold d.t id).2 = t1 at *
    generalize (In.hold d.t id).1 = E at *
    clear h hrw hE I1
    unfold fsL at hM
    go_enter Tryz.func108, Tryz.ntmps108
    (repeat (first | ((with_reducible show wpSeq _ _ _ _ _ _ _); first | ((with_reducible refine wpSeq_nil ?_); refine hKr.out _ _ ?_; clear hKr Kr) | ((first | (refine St.copy (v := ?_) (by exact .inl rfl) rfl rfl ?_ ?_; rotate_left; (focus ((try simp only [Act.eval, getD_lit, List.getD_cons_zero, List.getD_cons_succ]); with_reducible rfl))) | (refine St.pure (v := ?_) rfl rfl rfl (fun w => ?_) ?_; rotate_left; (focus (go_simp; all_goals with_reducible rfl))) | refine St.load rfl hM rfl rfl rfl rfl (by repeat constructor) (by rfl) (by kernel_rfl) ?_); (try simp only [Act.put, List.setIfInBounds_toArray, List.set_cons_zero, List.set_cons_succ])) | (((refine St.alloc (ty := 31) (z := .agg #[.int .i64 0, .int .i64 0, .string ⟨#[]⟩, .slice none 0 0]) rfl hM rfl rfl (by kernel_rfl) ?_); clear hM; intro w bk hM); (try simp only [Res.put, Res.known, Act.eval, Value.cells, getD_lit, List.getD_cons_zero, List.getD_cons_succ, List.toList_toArray, List.set_cons_zero, List.set_cons_succ, over, Nat.reduceAdd] at hM); (try simp only [Act.put, List.setIfInBounds_toArray, List.set_cons_zero, List.set_cons_succ]))) | (first | (refine wp_seq_shut (fun K hK => ?_)) | (refine wp_text hM (fun Kr hKr => ?_); simp only [inText]) | ((refine hK.out _ _ ?_); clear hK K))))
    (refine St.call3 rfl rfl (by kernel_rfl) (fun R hR => ?_); simp only [List.map_toArray, List.map_cons, List.map_nil, Act.eval, getD_lit, List.getD_cons_zero, List.getD_cons_succ])
    refine (CH.out _ _ (hM.part (M := tblL x.g x.mb β d.t) (by repeat (first | exact Part.all | apply Part.skip))).tbl).mono ?_
    (rintro e w' ⟨rfl, hS⟩; obtain ⟨β, hN⟩ := hS.st; replace hM := hM.backM (by repeat (first | exact Swap.all | apply Swap.skip)) tblL_flag hN tblL_flag; clear hN hS; refine hR.out _ _ ?_; clear hR R; (try simp only [Act.put, List.setIfInBounds_toArray, List.set_cons_zero, List.set_cons_succ]))
    (repeat (first | ((with_reducible show wpSeq _ _ _ _ _ _ _); first | ((with_reducible refine wpSeq_nil ?_); refine hKr.out _ _ ?_; clear hKr Kr) | ((first | (refine St.copy (v := ?_) (by first | exact .inl rfl | exact .inr rfl) rfl rfl ?_ ?_; rotate_left; (focus ((try simp only [Act.eval, getD_lit, List.getD_cons_zero, List.getD_cons_succ]); with_reducible rfl))) | (refine St.pure (v := ?_) rfl rfl rfl (fun w => ?_) ?_; rotate_left; (focus (go_simp; all_goals with_reducible rfl))) | ((((refine St.storeRow rfl hM rfl rfl rfl rfl rfl (by repeat constructor) (Nat.le_of_ble_eq_true rfl) (Nat.le_of_ble_eq_true rfl) (by kernel_rfl) rfl ?_ ?_); (focus ((intro h; cases h; done))); clear hM; intro w hM)); (try simp only [Res.put, Res.known, Act.eval, Value.cells, getD_lit, List.getD_cons_zero, List.getD_cons_succ, List.toList_toArray, List.set_cons_zero, List.set_cons_succ, over, Nat.reduceAdd] at hM))); (try simp only [Act.put, List.setIfInBounds_toArray, List.set_cons_zero, List.set_cons_succ]))) | (first | (refine wp_seq_shut (fun K hK => ?_)) | (refine wp_text hM (fun Kr hKr => ?_); simp only [inText]) | (refine wp_cond_true rfl ?_) | ((refine hK.out _ _ ?_); clear hK K))))
    ((refine wp_ret ?_; (try simp only [Exit.then, Exit.inBlock]); refine St.ret hM rfl (by repeat (first | exact Outs.nil | (apply Outs.row rfl rfl (by repeat constructor) (by kernel_rfl)))) rfl ?_))
    exact ⟨rfl, β, hM.forget⟩
end
end Go.Proofs.YtcicjklhbnipcaaGreatDoor
