/-
  Layer 9: a file system as plain lists: inodes, and each owner's handles; what each operation makes of it.
-/
import Derived.Test.YtcicjklhbnipcaaGreatDoorInoQ
import Derived.Test.YtcicjklhbnipcaaGreatDoorPts
namespace Go.Proofs.YtcicjklhbnipcaaGreatDoor
set_option linter.unusedVariables false
set_option linter.unusedSimpArgs false
open Go.RowKit Go.Maps

/-- A file system: its inodes, and the handles of owners, by their numbers. -/
structure FsD where
  t : TabD
  h : List (Int × List Int)
/-- What an operation is answered. -/
structure ResD where
  err : Int
  n : Int
  data : ByteArray
  names : List ByteArray
namespace Fs
def z9 : List Int := [0, 0, 0, 0, 0, 0, 0, 0, 0]
def hOf (h : List (Int × List Int)) (o : Int) : List Int :=
  match h.find? fun p => p.1 == o with
  | some p => p.2
  | none => z9
def ins (x : Int × List Int) : List (Int × List Int) → List (Int × List Int)
  | [] => [x]
  | y :: r => if x.1 < y.1 then x :: y :: r else y :: ins x r
def del (h : List (Int × List Int)) (o : Int) : List (Int × List Int) := h.filter fun p => !(p.1 == o)
def put (h : List (Int × List Int)) (o : Int) (l : List Int) : List (Int × List Int) := ins (o, l) (del h o)
/-- The least free handle; 0: there is none. -/
def free (d : FsD) (o : Int) : Nat := (1 + Lib.idxOf ((hOf d.h o).drop 1) 0).toNat
/-- What names lead to. -/
def walkL (t : TabD) : Int → List ByteArray → Int × Int
  | id, [] => (id, 0)
  | id, s :: r => if In.findE t id s = 0 then walkL t (In.findN t id s) r else (0, In.findE t id s)
def walk (d : FsD) (p : ByteArray) : Int × Int := walkL d.t 1 (Pt.parts p)
def at_ (d : FsD) (p : ByteArray) : (Int × ByteArray) × Int := (((walk d (Pt.split p).1).1, (Pt.split p).2), (walk d (Pt.split p).1).2)
def errR (e : Int) : ResD := ⟨e, 0, ⟨#[]⟩, []⟩
def gives (d : FsD) (o id : Int) : ResD × FsD :=
  if (In.hold d.t id).1 = 0 then (⟨0, (free d o : Int), ⟨#[]⟩, []⟩, ⟨(In.hold d.t id).2, put d.h o ((hOf d.h o).set (free d o) id)⟩)
  else (errR (In.hold d.t id).1, ⟨(In.hold d.t id).2, d.h⟩)
/-- An owner has these handles; who has none goes. -/
def shut (h : List (Int × List Int)) (o : Int) (l : List Int) : List (Int × List Int) := if l = z9 then del (put h o l) o else put h o l
theorem shut_yes {l : List Int} (e : l = z9) (h : List (Int × List Int)) (o : Int) : shut h o l = del (put h o l) o := if_pos e
theorem shut_no {l : List Int} (e : ¬ l = z9) (h : List (Int × List Int)) (o : Int) : shut h o l = put h o l := if_neg e
def closes (d : FsD) (o : Int) (n : Nat) : FsD := ⟨(In.drop d.t ((hOf d.h o).getD n 0)).2, shut d.h o ((hOf d.h o).set n 0)⟩
/-- Which file a handle holds. -/
def held (d : FsD) (o H : Int) : Int := if 1 ≤ H ∧ H ≤ 8 then (hOf d.h o).getD H.toNat 0 else 0
def handled (d : FsD) (o : Int) (p : OpD) : ResD × FsD :=
  if held d o p.h = 0 then (errR 13, d)
  else if p.kind = 5 then (errR 0, closes d o p.h.toNat)
  else if p.kind = 6 then (⟨In.readE d.t (held d o p.h) p.at_ p.n, 0, In.read d.t (held d o p.h) p.at_ p.n, []⟩, d)
  else if p.kind = 7 then (errR (In.write d.t (held d o p.h) p.at_ p.data).1, ⟨(In.write d.t (held d o p.h) p.at_ p.data).2, d.h⟩)
  else if p.kind = 8 then (errR (In.trunc d.t (held d o p.h) p.n).1, ⟨(In.trunc d.t (held d o p.h) p.n).2, d.h⟩)
  else (⟨In.readE d.t (held d o p.h) 0 1048576, (In.read d.t (held d o p.h) 0 1048576).size, ⟨#[]⟩, []⟩, d)
def opens (d : FsD) (o : Int) (p : OpD) : ResD × FsD :=
  if free d o = 0 then (errR 5, d)
  else if (at_ d p.path).2 ≠ 0 then (errR (at_ d p.path).2, d)
  else if p.kind = 3 then
    (if (In.make d.t (at_ d p.path).1.1 (at_ d p.path).1.2 false).2.1 ≠ 0 then (errR (In.make d.t (at_ d p.path).1.1 (at_ d p.path).1.2 false).2.1, ⟨(In.make d.t (at_ d p.path).1.1 (at_ d p.path).1.2 false).2.2, d.h⟩)
     else gives ⟨(In.make d.t (at_ d p.path).1.1 (at_ d p.path).1.2 false).2.2, d.h⟩ o (In.make d.t (at_ d p.path).1.1 (at_ d p.path).1.2 false).1)
  else if In.findE d.t (at_ d p.path).1.1 (at_ d p.path).1.2 ≠ 0 then (errR (In.findE d.t (at_ d p.path).1.1 (at_ d p.path).1.2), d)
  else gives d o (In.findN d.t (at_ d p.path).1.1 (at_ d p.path).1.2)
/-- An operation on names. -/
def namedAt (d : FsD) (p : OpD) (dir : Int) (s : ByteArray) : Int × TabD :=
  if p.kind = 1 then ((In.make d.t dir s true).2.1, (In.make d.t dir s true).2.2)
  else if p.kind = 2 then In.remove d.t dir s
  else if p.kind = 11 then In.unlink d.t dir s
  else if p.kind = 10 then
    (if In.findE d.t dir s ≠ 0 then (In.findE d.t dir s, d.t)
     else if (at_ d p.dest).2 ≠ 0 then ((at_ d p.dest).2, d.t)
     else In.link d.t (In.findN d.t dir s) (at_ d p.dest).1.1 (at_ d p.dest).1.2)
  else if (at_ d p.dest).2 ≠ 0 then ((at_ d p.dest).2, d.t)
  else In.rename d.t dir s (at_ d p.dest).1.1 (at_ d p.dest).1.2
def named (d : FsD) (p : OpD) : Int × TabD := if (at_ d p.path).2 ≠ 0 then ((at_ d p.path).2, d.t) else namedAt d p (at_ d p.path).1.1 (at_ d p.path).1.2
def lists (d : FsD) (p : ByteArray) : ResD :=
  if (walk d p).2 ≠ 0 then errR (walk d p).2 else ⟨In.listE d.t (walk d p).1, 0, ⟨#[]⟩, In.list d.t (walk d p).1⟩
def do_ (d : FsD) (o : Int) (p : OpD) : ResD × FsD :=
  if Pt.right p = false then (errR 1, d)
  else if p.kind = 3 ∨ p.kind = 4 then opens d o p
  else if p.kind = 5 ∨ p.kind = 6 ∨ p.kind = 7 ∨ p.kind = 8 ∨ p.kind = 9 then handled d o p
  else if p.kind = 13 then (lists d p.path, d)
  else (errR (named d p).1, ⟨(named d p).2, d.h⟩)
/-- Handles of an owner are closed, from this one on. -/
def exitL (o : Int) : List Int → Nat → FsD → FsD
  | [], _, d => d
  | i :: r, n, d => exitL o r (n + 1) (if i ≠ 0 then closes d o n else d)
def exit (d : FsD) (o : Int) : FsD := exitL o (hOf d.h o) 0 d
def new (q : Int) : FsD := ⟨In.new q, []⟩
/-- What is always so. -/
structure Inv (N : Nat) (d : FsD) : Prop where
  tbl : In.Inv N d.t
  rows : ∀ p ∈ d.h, p.2.length = 9 ∧ ∀ i ∈ p.2, 0 ≤ i ∧ i ≤ 4611686018427387904
  len : d.h.length ≤ N
end Fs
/-! ### handles in memory -/
def rowV (l : List Int) : Value := .agg (l.map (Value.int .i64)).toArray
def handL (h : List (Int × List Int)) : List (Lit × Value) := h.map fun p => (.int .i64 p.1, rowV p.2)
theorem look_hand (h : List (Int × List Int)) (o : Int) : lookL (handL h) (.int .i64 o) (rowV Fs.z9) = rowV (Fs.hOf h o) := by
  unfold lookL handL Fs.hOf
  rw [List.find?_map]
  rw [show (fun p : Lit × Value => p.1.sameKey (.int .i64 o)) ∘ (fun p : Int × List Int => (Lit.int .i64 p.1, rowV p.2)) = fun p => p.1 == o from by
    funext p
    show decide (IntKind.i64 = IntKind.i64 ∧ p.1 = o) = (p.1 == o)
    simp [Bool.beq_eq_decide_eq]]
  cases h.find? fun p => p.1 == o <;> rfl
theorem del_hand (h : List (Int × List Int)) (o : Int) : delL (.int .i64 o) (handL h) = handL (Fs.del h o) := by
  unfold delL handL Fs.del
  rw [List.filter_map]
  congr 2
  funext p
  show (!decide (IntKind.i64 = IntKind.i64 ∧ p.1 = o)) = !(p.1 == o)
  simp [Bool.beq_eq_decide_eq]
theorem ins_hand (o : Int) (l : List Int) : ∀ h : List (Int × List Int), insL (.int .i64 o, rowV l) (handL h) = handL (Fs.ins (o, l) h)
  | [] => rfl
  | y :: r => by
    have ih := ins_hand o l r
    unfold handL at ih ⊢
    simp only [List.map_cons, insL, Fs.ins]
    rw [ih]
    have e : (Lit.int .i64 o).before (.int .i64 y.1) = decide (o < y.1) := by simp [Lit.before]
    rw [e]
    by_cases h : o < y.1
    · simp [h]
    · simp [h]
theorem put_hand (h : List (Int × List Int)) (o : Int) (l : List Int) : putL (.int .i64 o) (rowV l) (handL h) = handL (Fs.put h o l) := by
  unfold putL Fs.put
  rw [del_hand, ins_hand]
namespace Fs
theorem hOf_row {N : Nat} {d : FsD} (h : Inv N d) (o : Int) : (hOf d.h o).length = 9 ∧ ∀ i ∈ hOf d.h o, 0 ≤ i ∧ i ≤ 4611686018427387904 := by
  unfold hOf
  cases hf : d.h.find? fun p => p.1 == o with
  | none =>
    refine ⟨rfl, fun i hi => ?_⟩
    unfold z9 at hi
    simp at hi
    omega
  | some p => exact h.rows p (List.mem_of_find?_eq_some hf)
theorem mem_ins {x p : Int × List Int} : ∀ {h}, p ∈ ins x h ↔ p = x ∨ p ∈ h
  | [] => by simp [ins]
  | y :: r => by
    unfold ins
    split
    · simp
    · simp only [List.mem_cons, mem_ins (h := r)]
      constructor <;> (intro h; rcases h with h | h | h <;> simp [h])
theorem len_ins (x : Int × List Int) : ∀ h, (ins x h).length = h.length + 1
  | [] => rfl
  | y :: r => by
    unfold ins
    split
    · simp
    · simp [len_ins x r]
theorem len_put (h : List (Int × List Int)) (o : Int) (l : List Int) : (put h o l).length ≤ h.length + 1 := by
  unfold put
  rw [len_ins]
  have : (del h o).length ≤ h.length := List.length_filter_le _ _
  omega
theorem rows_put {h : List (Int × List Int)} (hr : ∀ p ∈ h, p.2.length = 9 ∧ ∀ i ∈ p.2, 0 ≤ i ∧ i ≤ 4611686018427387904) {o : Int} {l : List Int} (hl : l.length = 9 ∧ ∀ i ∈ l, 0 ≤ i ∧ i ≤ 4611686018427387904) :
    ∀ p ∈ put h o l, p.2.length = 9 ∧ ∀ i ∈ p.2, 0 ≤ i ∧ i ≤ 4611686018427387904 := fun p hp => by
  rcases mem_ins.1 hp with rfl | hp
  · exact hl
  · exact hr p (List.mem_filter.1 hp).1
theorem rows_del {h : List (Int × List Int)} (hr : ∀ p ∈ h, p.2.length = 9 ∧ ∀ i ∈ p.2, 0 ≤ i ∧ i ≤ 4611686018427387904) (o : Int) : ∀ p ∈ del h o, p.2.length = 9 ∧ ∀ i ∈ p.2, 0 ≤ i ∧ i ≤ 4611686018427387904 := fun p hp => hr p (List.mem_filter.1 hp).1
theorem idxFrom_lt (x : Int) : ∀ (l : List Int) (i : Nat), -1 ≤ Lib.idxFrom l x i ∧ Lib.idxFrom l x i < (i + l.length : Nat)
  | [], i => by simp [Lib.idxFrom]; omega
  | y :: r, i => by
    have ih := idxFrom_lt x r (i + 1)
    unfold Lib.idxFrom
    split
    · simp only [List.length_cons]; omega
    · simp only [List.length_cons]; omega
theorem idx_lt {d : FsD} {N : Nat} (h : Inv N d) (o : Int) : -1 ≤ Lib.idxOf ((hOf d.h o).drop 1) 0 ∧ Lib.idxOf ((hOf d.h o).drop 1) 0 < 8 := by
  have h9 := (hOf_row h o).1
  have := idxFrom_lt 0 ((hOf d.h o).drop 1) 0
  rw [List.length_drop, h9] at this
  unfold Lib.idxOf
  omega
theorem free_le {d : FsD} {N : Nat} (h : Inv N d) (o : Int) : free d o ≤ 8 := by
  have := idx_lt h o
  unfold free
  omega
end Fs
end Go.Proofs.YtcicjklhbnipcaaGreatDoor
