/-
  Layer 8: inodes as plain lists. No program is named here.
-/
import Derived.Below
import GoSem.ClaimWide
namespace Go.Proofs.YtfepbjlaffpojaaGreat
set_option linter.unusedVariables false

/-- An inode: its number, whether it is a directory, names that lead to it, handles that hold it, bytes, names in it, sorted. -/
structure NodeD where
  id : Int
  dir : Bool
  links : Int
  holds : Int
  data : ByteArray
  names : List (ByteArray × Int)

/-- A table: its quota, what is taken, the number that was given last, its inodes by their numbers. -/
structure TabD where
  quota : Int
  used : Int
  last : Int
  nodes : List NodeD

def NodeD.setNames (n : NodeD) (d : List (ByteArray × Int)) : NodeD := { n with names := d }
def NodeD.setLinks (n : NodeD) (k : Int) : NodeD := { n with links := k }
def NodeD.setHolds (n : NodeD) (k : Int) : NodeD := { n with holds := k }
def NodeD.setData (n : NodeD) (d : ByteArray) : NodeD := { n with data := d }

namespace In
/-- Bytes before other bytes; the same bytes. -/
def before (a b : ByteArray) : Bool := bytesBefore a.data.toList b.data.toList
def same (a b : ByteArray) : Bool := a.data.toList == b.data.toList
def find (l : List NodeD) (id : Int) : Option NodeD := l.find? fun n => n.id == id
def leads (d : List (ByteArray × Int)) (s : ByteArray) : Int :=
  match d.find? fun p => same p.1 s with
  | some p => p.2
  | none => 0
def put (x : ByteArray × Int) : List (ByteArray × Int) → List (ByteArray × Int)
  | [] => [x]
  | y :: r => if before x.1 y.1 then x :: y :: r else y :: put x r
def without (d : List (ByteArray × Int)) (s : ByteArray) : List (ByteArray × Int) := d.filter fun p => !same p.1 s
/-- A name that was not there, or was, in its place. -/
def with_ (d : List (ByteArray × Int)) (s : ByteArray) (id : Int) : List (ByteArray × Int) := put (s, id) (without d s)
def set (l : List NodeD) (n : NodeD) : List NodeD := l.map fun m => if m.id == n.id then n else m
def del (l : List NodeD) (id : Int) : List NodeD := l.filter fun m => !(m.id == id)

/-- An inode that is there. -/
def at_ (t : TabD) (id : Int) : NodeD :=
  match find t.nodes id with
  | some n => n
  | none => ⟨id, false, 0, 0, ByteArray.empty, []⟩
def setN (t : TabD) (n : NodeD) : TabD := { t with nodes := set t.nodes n }
def nameIn (t : TabD) (dir : Int) (s : ByteArray) (id : Int) : TabD := setN t ((at_ t dir).setNames (with_ (at_ t dir).names s id))
def nameOut (t : TabD) (dir : Int) (s : ByteArray) : TabD := setN t ((at_ t dir).setNames (without (at_ t dir).names s))
def linksUp (t : TabD) (id : Int) : TabD := setN t ((at_ t id).setLinks ((at_ t id).links + 1))
def linksDown (t : TabD) (id : Int) : TabD := setN t ((at_ t id).setLinks ((at_ t id).links - 1))
def holdsUp (t : TabD) (id : Int) : TabD := setN t ((at_ t id).setHolds ((at_ t id).holds + 1))
def holdsDown (t : TabD) (id : Int) : TabD := setN t ((at_ t id).setHolds ((at_ t id).holds - 1))
/-- What is asked first: is there an inode of that number and kind? -/
def getE (t : TabD) (id : Int) (dir : Bool) : Int :=
  match find t.nodes id with
  | none => 3
  | some n => if n.dir == dir then 0 else 12
def isName (s : ByteArray) : Bool := decide (1 ≤ s.size) && decide (s.size ≤ 32) && !(s.data.toList.any fun c => c == 0 || c == 47) && !(s.data.toList == [46]) && !(s.data.toList == [46, 46])
def placeE (t : TabD) (dir : Int) (s : ByteArray) : Int :=
  if getE t dir true == 0 then (if isName s then 0 else 1) else getE t dir true
def emptyE (t : TabD) (dir : Int) (s : ByteArray) : Int :=
  if placeE t dir s == 0 then (if leads (at_ t dir).names s == 0 then 0 else 4) else placeE t dir s
def gone (t : TabD) (id : Int) : TabD :=
  if (at_ t id).links == 0 && (at_ t id).holds == 0 then { t with used := t.used - (64 + (at_ t id).data.size), nodes := del t.nodes id } else t
def makeE (t : TabD) (dir : Int) (s : ByteArray) : Int :=
  if emptyE t dir s == 0 then (if decide (4096 ≤ (t.nodes.length : Int)) then 5 else if decide (t.quota - t.used < 64) then 6 else 0) else emptyE t dir s
def makeT (t : TabD) (dir : Int) (s : ByteArray) (isDir : Bool) : TabD :=
  ⟨t.quota, t.used + 64, t.last + 1, (nameIn t dir s (t.last + 1)).nodes ++ [⟨t.last + 1, isDir, 1, 0, ByteArray.empty, []⟩]⟩
def make (t : TabD) (dir : Int) (s : ByteArray) (isDir : Bool) : Int × Int × TabD :=
  if makeE t dir s == 0 then (t.last + 1, 0, makeT t dir s isDir) else (0, makeE t dir s, t)
def findE (t : TabD) (dir : Int) (s : ByteArray) : Int :=
  if placeE t dir s == 0 then (if leads (at_ t dir).names s == 0 then 3 else 0) else placeE t dir s
def findN (t : TabD) (dir : Int) (s : ByteArray) : Int := if findE t dir s == 0 then leads (at_ t dir).names s else 0
def linkE (t : TabD) (id dir : Int) (s : ByteArray) : Int := if getE t id false == 0 then emptyE t dir s else getE t id false
def linkT (t : TabD) (id dir : Int) (s : ByteArray) : TabD := linksUp (nameIn t dir s id) id
def link (t : TabD) (id dir : Int) (s : ByteArray) : Int × TabD := if linkE t id dir s == 0 then (0, linkT t id dir s) else (linkE t id dir s, t)
/-- A name taken out of a directory. -/
def loses (t : TabD) (dir : Int) (s : ByteArray) : TabD := gone (linksDown (nameOut t dir s) (leads (at_ t dir).names s)) (leads (at_ t dir).names s)
def unlinkE (t : TabD) (dir : Int) (s : ByteArray) : Int := if findE t dir s == 0 then getE t (findN t dir s) false else findE t dir s
def unlink (t : TabD) (dir : Int) (s : ByteArray) : Int × TabD := if unlinkE t dir s == 0 then (0, loses t dir s) else (unlinkE t dir s, t)
def removeE (t : TabD) (dir : Int) (s : ByteArray) : Int :=
  if findE t dir s == 0 then (if getE t (findN t dir s) true == 0 then (if decide (0 < (at_ t (findN t dir s)).names.length) then 7 else 0) else getE t (findN t dir s) true) else findE t dir s
def remove (t : TabD) (dir : Int) (s : ByteArray) : Int × TabD := if removeE t dir s == 0 then (0, loses t dir s) else (removeE t dir s, t)
def renameE (t : TabD) (dir : Int) (s : ByteArray) (to : Int) (as_ : ByteArray) : Int :=
  if unlinkE t dir s == 0 then
    (if placeE t to as_ == 0 then
      (if leads (at_ t to).names as_ == findN t dir s then 0 else if leads (at_ t to).names as_ == 0 then 0 else if (at_ t (leads (at_ t to).names as_)).dir then 12 else 0)
    else placeE t to as_)
  else unlinkE t dir s
def renameIn (t : TabD) (dir : Int) (s : ByteArray) (to : Int) (as_ : ByteArray) (id : Int) : TabD := nameIn (nameOut t dir s) to as_ id
def renameT (t : TabD) (dir : Int) (s : ByteArray) (to : Int) (as_ : ByteArray) : TabD :=
  if leads (at_ t to).names as_ == findN t dir s then t
  else if leads (at_ t to).names as_ == 0 then renameIn t dir s to as_ (findN t dir s)
  else renameIn (loses t to as_) dir s to as_ (findN t dir s)
def rename (t : TabD) (dir : Int) (s : ByteArray) (to : Int) (as_ : ByteArray) : Int × TabD := if renameE t dir s to as_ == 0 then (0, renameT t dir s to as_) else (renameE t dir s to as_, t)
def listE (t : TabD) (dir : Int) : Int := getE t dir true
def list (t : TabD) (dir : Int) : List ByteArray := if listE t dir == 0 then (at_ t dir).names.map Prod.fst else []
def fileE (t : TabD) (id n : Int) : Int := if getE t id false == 0 then (if decide (n < 0) then 1 else 0) else getE t id false
/-- A part of bytes. -/
def part (s : ByteArray) (at_ n : Int) : ByteArray := s.extract (min at_.toNat s.size) (min at_.toNat s.size + min n.toNat (s.size - min at_.toNat s.size))
def readE (t : TabD) (id a n : Int) : Int := fileE t id (min a n)
def read (t : TabD) (id a n : Int) : ByteArray := if readE t id a n == 0 then part (at_ t id).data a n else ByteArray.empty
def sizedE (t : TabD) (x : NodeD) (n : Int) : Int := if decide (1048576 < n) then 5 else if decide (t.quota - t.used < n - x.data.size) then 6 else 0
def noughts (n : Nat) : ByteArray := ⟨(List.replicate n 0).toArray⟩
/-- Bytes cut, or with noughts behind, so that they are so many. -/
def resized (s : ByteArray) (n : Nat) : ByteArray := (s ++ noughts (n - s.size)).extract 0 n
def dataOf (t : TabD) (id : Int) (v : ByteArray) : TabD := setN t ((at_ t id).setData v)
def sizedT (t : TabD) (id n : Int) : TabD :=
  ⟨t.quota, t.used + (n - (at_ t id).data.size), t.last, (dataOf t id (resized (at_ t id).data n.toNat)).nodes⟩
def writeE (t : TabD) (id a : Int) (s : ByteArray) : Int :=
  if fileE t id a == 0 then
    (if decide (1048576 < a) || decide (1048576 - a < s.size) then 5 else if s.size == 0 then 0 else sizedE t (at_ t id) (max (a + s.size) (at_ t id).data.size))
  else fileE t id a
/-- Bytes over other bytes. -/
def over (d : ByteArray) (a : Nat) (s : ByteArray) : ByteArray := d.extract 0 a ++ s ++ d.extract (a + s.size) d.size
def overT (t : TabD) (id a : Int) (s : ByteArray) : TabD := dataOf t id (over (at_ t id).data a.toNat s)
def writeT (t : TabD) (id a : Int) (s : ByteArray) : TabD :=
  if s.size == 0 then t else overT (sizedT t id (max (a + s.size) (at_ t id).data.size)) id a s
def write (t : TabD) (id a : Int) (s : ByteArray) : Int × TabD := if writeE t id a s == 0 then (0, writeT t id a s) else (writeE t id a s, t)
def truncE (t : TabD) (id n : Int) : Int := if fileE t id n == 0 then sizedE t (at_ t id) n else fileE t id n
def trunc (t : TabD) (id n : Int) : Int × TabD := if truncE t id n == 0 then (0, sizedT t id n) else (truncE t id n, t)
def holdE (t : TabD) (id : Int) : Int := if getE t id false == 0 then (if decide (1048576 ≤ (at_ t id).holds) then 5 else 0) else getE t id false
def hold (t : TabD) (id : Int) : Int × TabD := if holdE t id == 0 then (0, holdsUp t id) else (holdE t id, t)
def dropE (t : TabD) (id : Int) : Int :=
  match find t.nodes id with
  | none => 3
  | some n => if n.holds == 0 then 1 else 0
def drop (t : TabD) (id : Int) : Int × TabD := if dropE t id == 0 then (0, gone (holdsDown t id) id) else (dropE t id, t)
def new (quota : Int) : TabD := ⟨quota, 64, 1, [⟨1, true, 1, 0, ByteArray.empty, []⟩]⟩
def newE (quota : Int) : Int := if decide (quota < 64) || decide (1099511627776 < quota) then 1 else 0
end In
end Go.Proofs.YtfepbjlaffpojaaGreat
