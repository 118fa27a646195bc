/-
  Layer 9: what FsSwaps asks of a file system, step by step, in plain Lean.
-/
import Derived.Test.YtcicjklhbnipcaaGreatDoorFsA
namespace Go.Proofs.YtcicjklhbnipcaaGreatDoor
set_option linter.unusedVariables false
set_option linter.unusedSimpArgs false
namespace In
section
variable {A : List NodeD} {F : NodeD}
theorem find_last (hA : ∀ m ∈ A, m.id ≠ F.id) : find (A ++ [F]) F.id = some F := by
  unfold find
  rw [List.find?_append]
  have : A.find? (fun n => n.id == F.id) = none := List.find?_eq_none.2 fun m hm => by simpa using hA m hm
  rw [this]
  simp
theorem set_last (hA : ∀ m ∈ A, m.id ≠ F.id) (G : NodeD) (hG : G.id = F.id) : set (A ++ [F]) G = A ++ [G] := by
  unfold set
  rw [List.map_append]
  have : A.map (fun m => if m.id == G.id then G else m) = A := by
    rw [List.map_congr_left (g := id) fun m hm => by
      have := hA m hm
      rw [if_neg (by rw [hG]; simpa using this)]; rfl]
    simp
  rw [this]
  simp [hG]
theorem all_over {s : ByteArray} (d : ByteArray) (h : d.size = s.size) : over d 0 s = s := by
  unfold over
  have e1 : d.extract 0 0 = ByteArray.empty := by apply ByteArray.ext; simp
  have e2 : d.extract (0 + s.size) d.size = ByteArray.empty := by apply ByteArray.ext; simp [h]
  rw [e1, e2, ByteArray.empty_append, ByteArray.append_empty]
theorem over_last (hA : ∀ m ∈ A, m.id ≠ F.id) (G : NodeD) (hi : G.id = F.id) {s : ByteArray} (hd : G.data.size = s.size) {q u l : Int} :
    overT ⟨q, u, l, A ++ [G]⟩ F.id 0 s = ⟨q, u, l, A ++ [G.setData s]⟩ := by
  have hA' : ∀ m ∈ A, m.id ≠ G.id := fun m hm => by rw [hi]; exact hA m hm
  have h1 : at_ ⟨q, u, l, A ++ [G]⟩ F.id = G := by
    have hf := find_last hA'
    rw [hi] at hf
    exact at_some hf
  unfold overT dataOf setN
  rw [h1]
  show (⟨q, u, l, set (A ++ [G]) (G.setData (over G.data 0 s))⟩ : TabD) = _
  rw [set_last hA' (G.setData (over G.data 0 s)) rfl, all_over _ hd]
/-- What is written into the last inode, a file that is empty. -/
theorem write_last (hA : ∀ m ∈ A, m.id ≠ F.id) {q u l : Int} {s : ByteArray} (hd : F.dir = false) (he : F.data = ⟨#[]⟩) (hs : s.size ≤ 256) (hq : u + 256 ≤ q) :
    write ⟨q, u, l, A ++ [F]⟩ F.id 0 s = (0, ⟨q, u + s.size, l, A ++ [F.setData s]⟩) := by
  have hf := find_last hA
  have h0 : (at_ ⟨q, u, l, A ++ [F]⟩ F.id) = F := at_some hf
  have hz : F.data.size = 0 := by rw [he]; rfl
  have hmax : max ((0 : Int) + s.size) (F.data.size : Int) = s.size := by rw [hz]; omega
  have hE : writeE ⟨q, u, l, A ++ [F]⟩ F.id 0 s = 0 := by
    unfold writeE fileE getE
    rw [h0]
    simp only [hf, hd]
    have e1 : decide ((1048576 : Int) - 0 < s.size) = false := decide_eq_false (by omega)
    simp only [sizedE]
    rw [e1, hmax, hz]
    have e3 : decide ((1048576 : Int) < s.size) = false := decide_eq_false (by omega)
    have e4 : decide (q - u < s.size - ((0 : Nat) : Int)) = false := decide_eq_false (by omega)
    rw [e3, e4]
    cases s.size == 0 <;> rfl
  unfold write
  rw [hE]
  show ((0 : Int), writeT _ _ _ _) = _
  congr 1
  unfold writeT
  cases hz' : s.size == 0 with
  | true =>
    have h00 : s.size = 0 := by simpa using hz'
    have hse : s = ⟨#[]⟩ := by
      apply ByteArray.ext
      exact Array.eq_empty_of_size_eq_zero h00
    subst hse
    have : F.setData ⟨#[]⟩ = F := by
      rw [← he]; rfl
    rw [this]
    show (⟨q, u, l, A ++ [F]⟩ : TabD) = ⟨q, u + ((0 : Nat) : Int), l, A ++ [F]⟩
    congr 1
    omega
  | false =>
    rw [h0, hmax]
    have hsz : sizedT ⟨q, u, l, A ++ [F]⟩ F.id s.size = ⟨q, u + s.size, l, A ++ [F.setData (resized F.data s.size)]⟩ := by
      unfold sizedT dataOf setN
      rw [h0, hz]
      show (⟨q, u + ((s.size : Int) - 0), l, set (A ++ [F]) (F.setData (resized F.data s.size))⟩ : TabD) = _
      rw [set_last hA (F.setData (resized F.data s.size)) rfl, Int.sub_zero]
    show overT _ _ 0 s = _
    rw [hsz]
    exact over_last hA (F.setData (resized F.data s.size)) rfl (resized_len _ _)
theorem part_all {s : ByteArray} {n : Int} (h : (s.size : Int) ≤ n) : part s 0 n = s := by
  unfold part
  rw [show min (0 : Int).toNat s.size = 0 by simp, show 0 + min n.toNat (s.size - 0) = s.size by omega]
  exact ByteArray.extract_zero_size
end
end In
namespace Sw
def e0 : ByteArray := ⟨#[]⟩
def cx : ByteArray := ⟨#[120]⟩
def cy : ByteArray := ⟨#[121]⟩
/-- Operations: on a path, on a handle, on two paths. -/
def oP (k : Int) (p : ByteArray) : OpD := ⟨k, p, ⟨#[]⟩, 0, 0, 0, ⟨#[]⟩, 0, 0⟩
def oH (k h n : Int) (s : ByteArray) : OpD := ⟨k, ⟨#[]⟩, ⟨#[]⟩, h, 0, n, s, 0, 0⟩
def oR (p q : ByteArray) : OpD := ⟨12, p, q, 0, 0, 0, ⟨#[]⟩, 0, 0⟩
theorem f0 : Fits (0 : Int) := by decide
theorem e1 : (⟨#[]⟩ : ByteArray).size ≤ 1000000 := by decide
theorem e2 : (⟨#[]⟩ : ByteArray).size ≤ maxLen := by decide
theorem okP {k : Int} {p : ByteArray} (hk : Fits k) (hp : p.size ≤ 1000000) : (oP k p).Ok := ⟨hk, f0, f0, f0, hp, e1, e2⟩
theorem okH {k h n : Int} {s : ByteArray} (hk : Fits k) (hh : Fits h) (hn : Fits n) (hs : s.size ≤ maxLen) : (oH k h n s).Ok := ⟨hk, hh, f0, hn, e1, e1, hs⟩
theorem okR {p q : ByteArray} (hp : p.size ≤ 1000000) (hq : q.size ≤ 1000000) : (oR p q).Ok := ⟨show Fits (12 : Int) by decide, f0, f0, f0, hp, hq, e2⟩
def row (i : Int) : List Int := [0, i, 0, 0, 0, 0, 0, 0, 0]
def root (l : List (ByteArray × Int)) : NodeD := ⟨1, true, 1, 0, ⟨#[]⟩, l⟩
def file (i lk hd : Int) (s : ByteArray) : NodeD := ⟨i, false, lk, hd, s, []⟩
def p0 : FsD := Fs.new 1048576
def p1 : FsD := ⟨⟨1048576, 128, 2, [root [(cx, 2)]] ++ [file 2 1 1 e0]⟩, [(1, row 2)]⟩
def p2 (a : ByteArray) : FsD := ⟨⟨1048576, 128 + a.size, 2, [root [(cx, 2)]] ++ [file 2 1 1 a]⟩, [(1, row 2)]⟩
def p3 (a : ByteArray) : FsD := ⟨⟨1048576, 128 + a.size, 2, [root [(cx, 2)], file 2 1 0 a]⟩, []⟩
def p4 (a : ByteArray) : FsD := ⟨⟨1048576, 128 + a.size + 64, 3, [root [(cx, 2), (cy, 3)], file 2 1 0 a] ++ [file 3 1 1 e0]⟩, [(1, row 3)]⟩
def p5 (a b : ByteArray) : FsD := ⟨⟨1048576, 128 + a.size + 64 + b.size, 3, [root [(cx, 2), (cy, 3)], file 2 1 0 a] ++ [file 3 1 1 b]⟩, [(1, row 3)]⟩
def p6 (a b : ByteArray) : FsD := ⟨⟨1048576, 128 + a.size + 64 + b.size, 3, [root [(cx, 2), (cy, 3)], file 2 1 0 a, file 3 1 0 b]⟩, []⟩
def p7 (a b : ByteArray) : FsD := ⟨⟨1048576, 128 + a.size + 64 + b.size, 3, [root [(cx, 2), (cy, 3)], file 2 1 1 a, file 3 1 0 b]⟩, [(2, row 2)]⟩
def p8 (a b : ByteArray) : FsD := ⟨⟨1048576, 128 + a.size + 64 + b.size, 3, [root [(cx, 3)], file 2 0 1 a, file 3 1 0 b]⟩, [(2, row 2)]⟩
def p9 (a b : ByteArray) : FsD := ⟨⟨1048576, 128 + a.size + 64 + b.size, 3, [root [(cx, 3)], file 2 0 1 a, file 3 1 1 b]⟩, [(2, row 2), (3, row 3)]⟩
def p10 (a b : ByteArray) : FsD := ⟨⟨1048576, 128 + a.size + 64 + b.size - (64 + a.size), 3, [root [(cx, 3)], file 3 1 1 b]⟩, [(3, row 3)]⟩
theorem d1 : Fs.do_ p0 1 (oP 3 cx) = (⟨0, 1, ⟨#[]⟩, []⟩, p1) := by kernel_rfl
theorem do_hand {d : FsD} {o : Int} {p : OpD} (hk : p.kind = 5 ∨ p.kind = 6 ∨ p.kind = 7 ∨ p.kind = 8 ∨ p.kind = 9) : Fs.do_ d o p = Fs.handled d o p := by
  have hr : Pt.right p = true := by unfold Pt.right; rw [if_pos hk]
  unfold Fs.do_
  rw [if_neg (by rw [hr]; decide), if_neg (by omega), if_pos hk]
theorem do_write {d : FsD} {o h i : Int} {s : ByteArray} {t : TabD} (hh : Fs.held d o h = i) (hi : i ≠ 0) (hw : In.write d.t i 0 s = (0, t)) : Fs.do_ d o (oH 7 h 0 s) = (⟨0, 0, ⟨#[]⟩, []⟩, ⟨t, d.h⟩) := by
  rw [do_hand (.inr (.inr (.inl rfl)))]
  have hh' : Fs.held d o (oH 7 h 0 s).h = i := hh
  have hw' : In.write d.t i (oH 7 h 0 s).at_ (oH 7 h 0 s).data = (0, t) := hw
  unfold Fs.handled
  rw [hh', hw', if_neg hi, if_neg (show ¬ (oH 7 h 0 s).kind = 5 from (by decide : ¬ (7 : Int) = 5)), if_neg (show ¬ (oH 7 h 0 s).kind = 6 from (by decide : ¬ (7 : Int) = 6)), if_pos (show (oH 7 h 0 s).kind = 7 from rfl)]
  rfl
theorem do_read {d : FsD} {o h i n : Int} {s : ByteArray} (hh : Fs.held d o h = i) (hi : i ≠ 0) (he : In.readE d.t i 0 n = 0) (hs : (In.at_ d.t i).data = s) (hn : (s.size : Int) ≤ n) : Fs.do_ d o (oH 6 h n ⟨#[]⟩) = (⟨0, 0, s, []⟩, d) := by
  rw [do_hand (.inr (.inl rfl))]
  have hh' : Fs.held d o (oH 6 h n ⟨#[]⟩).h = i := hh
  have he' : In.readE d.t i (oH 6 h n ⟨#[]⟩).at_ (oH 6 h n ⟨#[]⟩).n = 0 := he
  have hr : In.read d.t i (oH 6 h n ⟨#[]⟩).at_ (oH 6 h n ⟨#[]⟩).n = s := by
    unfold In.read
    rw [he', hs]
    exact In.part_all hn
  unfold Fs.handled
  rw [hh', he', hr, if_neg hi, if_neg (show ¬ (oH 6 h n ⟨#[]⟩).kind = 5 from (by decide : ¬ (6 : Int) = 5)), if_pos (show (oH 6 h n ⟨#[]⟩).kind = 6 from rfl)]
section
variable (a b : ByteArray)
theorem d2 (ha : a.size ≤ 256) : Fs.do_ p1 1 (oH 7 1 0 a) = (⟨0, 0, ⟨#[]⟩, []⟩, p2 a) :=
  do_write (i := 2) (t := (p2 a).t) (by kernel_rfl) (by decide) (In.write_last (A := [root [(cx, 2)]]) (F := file 2 1 1 e0) (q := 1048576) (u := 128) (l := 2) (s := a) (by intro m hm; rcases List.mem_singleton.1 hm with rfl; decide) rfl rfl ha (by decide))
theorem d3 : Fs.do_ (p2 a) 1 (oH 5 1 0 ⟨#[]⟩) = (⟨0, 0, ⟨#[]⟩, []⟩, p3 a) := by kernel_rfl
theorem make4 (ha : a.size ≤ 256) : In.make (p3 a).t 1 cy false = (3, 0, ⟨1048576, 128 + a.size + 64, 3, [root [(cx, 2), (cy, 3)], file 2 1 0 a, file 3 1 0 e0]⟩) := by
  have hE : In.makeE (p3 a).t 1 cy = 0 := by
    unfold In.makeE
    rw [show In.emptyE (p3 a).t 1 cy = 0 by kernel_rfl]
    show (if decide ((1048576 : Int) - (128 + a.size) < 64) then (6 : Int) else 0) = 0
    rw [decide_eq_false (by omega)]
    rfl
  unfold In.make
  rw [hE]
  rfl
theorem d4 (ha : a.size ≤ 256) : Fs.do_ (p3 a) 1 (oP 3 cy) = (⟨0, 1, ⟨#[]⟩, []⟩, p4 a) := by
  unfold Fs.do_
  rw [if_neg (by decide), if_pos (by decide)]
  unfold Fs.opens
  rw [if_neg (show Fs.free (p3 a) 1 ≠ 0 by rw [show Fs.free (p3 a) 1 = 1 by kernel_rfl]; decide)]
  rw [show (oP 3 cy).path = cy from rfl, show Fs.at_ (p3 a) cy = ((1, cy), 0) by kernel_rfl]
  rw [if_neg (by decide), if_pos (by rfl), make4 a ha]
  rw [if_neg (fun h => h rfl)]
  kernel_rfl
theorem d5 (hb : b.size ≤ 256) (ha : a.size ≤ 256) : Fs.do_ (p4 a) 1 (oH 7 1 0 b) = (⟨0, 0, ⟨#[]⟩, []⟩, p5 a b) :=
  do_write (i := 3) (t := (p5 a b).t) (by kernel_rfl) (by decide) (In.write_last (A := [root [(cx, 2), (cy, 3)], file 2 1 0 a]) (F := file 3 1 1 e0) (q := 1048576) (u := 128 + a.size + 64) (l := 3) (s := b) (by
    intro m hm
    rcases List.mem_cons.1 hm with rfl | hm
    · decide
    · rcases List.mem_singleton.1 hm with rfl
      show (2 : Int) ≠ 3
      decide) rfl rfl hb (by omega))
theorem d6 : Fs.do_ (p5 a b) 1 (oH 5 1 0 ⟨#[]⟩) = (⟨0, 0, ⟨#[]⟩, []⟩, p6 a b) := by kernel_rfl
theorem d7 : Fs.do_ (p6 a b) 2 (oP 4 cx) = (⟨0, 1, ⟨#[]⟩, []⟩, p7 a b) := by kernel_rfl
theorem d8 : Fs.do_ (p7 a b) 1 (oR cy cx) = (⟨0, 0, ⟨#[]⟩, []⟩, p8 a b) := by kernel_rfl
theorem d9 : Fs.do_ (p8 a b) 3 (oP 4 cx) = (⟨0, 1, ⟨#[]⟩, []⟩, p9 a b) := by kernel_rfl
theorem d10 : Fs.do_ (p9 a b) 3 (oP 4 cy) = (⟨3, 0, ⟨#[]⟩, []⟩, p9 a b) := by kernel_rfl
theorem d11 (ha : a.size ≤ 256) : Fs.do_ (p9 a b) 2 (oH 6 1 1024 ⟨#[]⟩) = (⟨0, 0, a, []⟩, p9 a b) := do_read (i := 2) (by kernel_rfl) (by decide) (by kernel_rfl) rfl (by omega)
theorem d12 (hb : b.size ≤ 256) : Fs.do_ (p9 a b) 3 (oH 6 1 1024 ⟨#[]⟩) = (⟨0, 0, b, []⟩, p9 a b) := do_read (i := 3) (by kernel_rfl) (by decide) (by kernel_rfl) rfl (by omega)
theorem used9 : (p9 a b).t.used = 192 + a.size + b.size := by show (128 : Int) + a.size + 64 + b.size = _; omega
theorem e10 : Fs.exit (p9 a b) 2 = p10 a b := by kernel_rfl
theorem used10 : (p10 a b).t.used = 128 + b.size := by show (128 : Int) + a.size + 64 + b.size - (64 + a.size) = _; omega
end
end Sw
end Go.Proofs.YtcicjklhbnipcaaGreatDoor
