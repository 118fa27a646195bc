/-
  What the values of package api read as, as far as arguments are made of them: items, layers, images, containers, mounts, named records, databases, stores.
-/
import Derived.Test.YtlniiaopindjnaaRep
import Derived.Test.YtlniiaopindjnaaProg
import Derived.KernelRfl
namespace Go.Proofs.Ytlniiaopindjnaa
set_option linter.unusedVariables false
open Go.RowKit

structure ItemD where
  key : ByteArray
  digest : ByteArray
  data : ByteArray
structure LayerD where
  id : ByteArray
  parent : ByteArray
  names : List ByteArray
  diff : ByteArray
  size : Int
  blob : Int
  done : Bool
structure ImageD where
  id : ByteArray
  names : List ByteArray
  top : ByteArray
  meta_ : ByteArray
  items : List ItemD
structure BoxD where
  id : ByteArray
  names : List ByteArray
  image : ByteArray
  layer : ByteArray
  meta_ : ByteArray
  items : List ItemD
structure MountD where
  id : ByteArray
  n : Int
structure NamedD where
  id : ByteArray
  names : List ByteArray
structure StoreD where
  boxes : List BoxD
  images : List ImageD
  layers : List LayerD
  diffs : List ByteArray
  mounts : List MountD

def RStrs : Rep (List ByteArray) := RSlice 1 RStr
theorem kept_strs : Kept RStrs := kept_slice kept_str

def RItem : Rep ItemD := fun _ _ cs x => cs = [.string x.key, .string x.digest, .string x.data] ∧ x.key.size ≤ maxLen ∧ x.digest.size ≤ maxLen ∧ x.data.size ≤ maxLen
theorem kept_item : Kept RItem := ⟨fun _ _ h => h⟩
def RItems : Rep (List ItemD) := RSlice 3 RItem
theorem kept_items : Kept RItems := kept_slice kept_item

def RLayer : Rep LayerD := fun w B cs x => ∃ nm, cs = [.string x.id, .string x.parent, nm, .string x.diff, .int .i64 x.size, .int .i64 x.blob, .bool x.done] ∧ RStrs w B [nm] x.names ∧
  x.id.size ≤ maxLen ∧ x.parent.size ≤ maxLen ∧ x.diff.size ≤ maxLen ∧ (Lit.int .i64 x.size).wf = true ∧ (Lit.int .i64 x.blob).wf = true
theorem kept_layer : Kept RLayer := ⟨fun hs hB ⟨nm, h1, h2, h3⟩ => ⟨nm, h1, kept_strs.go hs hB h2, h3⟩⟩
def RLayers : Rep (List LayerD) := RSlice 7 RLayer
theorem kept_layers : Kept RLayers := kept_slice kept_layer

def RImage : Rep ImageD := fun w B cs x => ∃ nm its, cs = [.string x.id, nm, .string x.top, .string x.meta_, its] ∧ RStrs w B [nm] x.names ∧ RItems w B [its] x.items ∧
  x.id.size ≤ maxLen ∧ x.top.size ≤ maxLen ∧ x.meta_.size ≤ maxLen
theorem kept_image : Kept RImage := ⟨fun hs hB ⟨nm, its, h1, h2, h3, h4⟩ => ⟨nm, its, h1, kept_strs.go hs hB h2, kept_items.go hs hB h3, h4⟩⟩
def RImages : Rep (List ImageD) := RSlice 5 RImage
theorem kept_images : Kept RImages := kept_slice kept_image

def RBox : Rep BoxD := fun w B cs x => ∃ nm its, cs = [.string x.id, nm, .string x.image, .string x.layer, .string x.meta_, its] ∧ RStrs w B [nm] x.names ∧ RItems w B [its] x.items ∧
  x.id.size ≤ maxLen ∧ x.image.size ≤ maxLen ∧ x.layer.size ≤ maxLen ∧ x.meta_.size ≤ maxLen
theorem kept_box : Kept RBox := ⟨fun hs hB ⟨nm, its, h1, h2, h3, h4⟩ => ⟨nm, its, h1, kept_strs.go hs hB h2, kept_items.go hs hB h3, h4⟩⟩
def RBoxes : Rep (List BoxD) := RSlice 6 RBox
theorem kept_boxes : Kept RBoxes := kept_slice kept_box

def RMount : Rep MountD := fun _ _ cs x => cs = [.string x.id, .int .i64 x.n] ∧ x.id.size ≤ maxLen ∧ (Lit.int .i64 x.n).wf = true
theorem kept_mount : Kept RMount := ⟨fun _ _ h => h⟩
def RMounts : Rep (List MountD) := RSlice 2 RMount
theorem kept_mounts : Kept RMounts := kept_slice kept_mount

def RNamed : Rep NamedD := fun w B cs x => ∃ nm, cs = [.string x.id, nm] ∧ RStrs w B [nm] x.names ∧ x.id.size ≤ maxLen
theorem kept_named : Kept RNamed := ⟨fun hs hB ⟨nm, h1, h2, h3⟩ => ⟨nm, h1, kept_strs.go hs hB h2, h3⟩⟩
def RNameds : Rep (List NamedD) := RSlice 2 RNamed
theorem kept_nameds : Kept RNameds := kept_slice kept_named

def RStore : Rep StoreD := fun w B cs x => ∃ bx im ly df mt, cs = [bx, im, ly, df, mt] ∧ RBoxes w B [bx] x.boxes ∧ RImages w B [im] x.images ∧ RLayers w B [ly] x.layers ∧ RStrs w B [df] x.diffs ∧ RMounts w B [mt] x.mounts
theorem kept_store : Kept RStore := ⟨fun hs hB ⟨bx, im, ly, df, mt, h0, h1, h2, h3, h4, h5⟩ =>
  ⟨bx, im, ly, df, mt, h0, kept_boxes.go hs hB h1, kept_images.go hs hB h2, kept_layers.go hs hB h3, kept_strs.go hs hB h4, kept_mounts.go hs hB h5⟩⟩

/-- One cell out of a struct's cells. -/
theorem one_of {cs : List Value} {n i : Nat} (hl : cs.length = n) (hi : i < n) : ∃ v, cs[i]? = some v ∧ (cs.drop i).take 1 = [v] := by
  refine ⟨cs[i]'(by omega), List.getElem?_eq_getElem (by omega), ?_⟩
  rw [List.drop_eq_getElem_cons (by omega)]
  rfl

theorem opens_named_str : Opens Try.prog 9 RStr := opens_str Try.underlying9
theorem opens_named_int : Opens Try.prog 3 (RInt .i64) := opens_int Try.underlying3
theorem opens_named_bool : Opens Try.prog 4 RBool := opens_bool Try.underlying4
theorem opens_strs : Opens Try.prog 25 RStrs := opens_slice Try.underlying25 (by kernel_rfl) (by omega) opens_named_str
theorem cells_item : Try.prog.cellsOf 90 = 3 := by kernel_rfl
theorem opens_item : Opens Try.prog 90 RItem := ⟨by
  intro H enc w sp held k B cs y h hp
  obtain ⟨hl, hf⟩ := opens_fields Try.underlying90 h hp
  rw [cells_item] at hl
  obtain ⟨v0, e0, t0⟩ := one_of hl (show 0 < 3 by omega)
  obtain ⟨x0, h0⟩ := hf 0 _ rfl opens_named_str
  replace h0 : RStr w B ((cs.drop 0).take (Try.prog.cellsOf 9)) x0 := h0
  rw [show Try.prog.cellsOf 9 = 1 from by kernel_rfl, t0] at h0
  obtain ⟨v1, e1, t1⟩ := one_of hl (show 1 < 3 by omega)
  obtain ⟨x1, h1⟩ := hf 1 _ rfl opens_named_str
  replace h1 : RStr w B ((cs.drop 1).take (Try.prog.cellsOf 9)) x1 := h1
  rw [show Try.prog.cellsOf 9 = 1 from by kernel_rfl, t1] at h1
  obtain ⟨v2, e2, t2⟩ := one_of hl (show 2 < 3 by omega)
  obtain ⟨x2, h2⟩ := hf 2 _ rfl opens_named_str
  replace h2 : RStr w B ((cs.drop 2).take (Try.prog.cellsOf 9)) x2 := h2
  rw [show Try.prog.cellsOf 9 = 1 from by kernel_rfl, t2] at h2
  have hcs : cs = [v0, v1, v2] := by
    match cs, hl with
    | [c0, c1, c2], _ => simp at e0 e1 e2; subst e0 e1 e2; rfl
  subst hcs
  have q0 : v0 = .string x0 := by simpa using h0.1
  have q1 : v1 = .string x1 := by simpa using h1.1
  have q2 : v2 = .string x2 := by simpa using h2.1
  subst q0 q1 q2
  exact ⟨⟨x0, x1, x2⟩, rfl, h0.2, h1.2, h2.2⟩⟩
theorem opens_items : Opens Try.prog 53 RItems := opens_slice Try.underlying53 cells_item (by omega) opens_item
theorem cells_layer : Try.prog.cellsOf 52 = 7 := by kernel_rfl
theorem opens_layer : Opens Try.prog 52 RLayer := ⟨by
  intro H enc w sp held k B cs y h hp
  obtain ⟨hl, hf⟩ := opens_fields Try.underlying52 h hp
  rw [cells_layer] at hl
  obtain ⟨v0, e0, t0⟩ := one_of hl (show 0 < 7 by omega)
  obtain ⟨x0, h0⟩ := hf 0 _ rfl opens_named_str
  replace h0 : RStr w B ((cs.drop 0).take (Try.prog.cellsOf 9)) x0 := h0
  rw [show Try.prog.cellsOf 9 = 1 from by kernel_rfl, t0] at h0
  obtain ⟨v1, e1, t1⟩ := one_of hl (show 1 < 7 by omega)
  obtain ⟨x1, h1⟩ := hf 1 _ rfl opens_named_str
  replace h1 : RStr w B ((cs.drop 1).take (Try.prog.cellsOf 9)) x1 := h1
  rw [show Try.prog.cellsOf 9 = 1 from by kernel_rfl, t1] at h1
  obtain ⟨v2, e2, t2⟩ := one_of hl (show 2 < 7 by omega)
  obtain ⟨x2, h2⟩ := hf 2 _ rfl opens_strs
  replace h2 : RStrs w B ((cs.drop 2).take (Try.prog.cellsOf 25)) x2 := h2
  rw [show Try.prog.cellsOf 25 = 1 from by kernel_rfl, t2] at h2
  obtain ⟨v3, e3, t3⟩ := one_of hl (show 3 < 7 by omega)
  obtain ⟨x3, h3⟩ := hf 3 _ rfl opens_named_str
  replace h3 : RStr w B ((cs.drop 3).take (Try.prog.cellsOf 9)) x3 := h3
  rw [show Try.prog.cellsOf 9 = 1 from by kernel_rfl, t3] at h3
  obtain ⟨v4, e4, t4⟩ := one_of hl (show 4 < 7 by omega)
  obtain ⟨x4, h4⟩ := hf 4 _ rfl opens_named_int
  replace h4 : (RInt .i64) w B ((cs.drop 4).take (Try.prog.cellsOf 3)) x4 := h4
  rw [show Try.prog.cellsOf 3 = 1 from by kernel_rfl, t4] at h4
  obtain ⟨v5, e5, t5⟩ := one_of hl (show 5 < 7 by omega)
  obtain ⟨x5, h5⟩ := hf 5 _ rfl opens_named_int
  replace h5 : (RInt .i64) w B ((cs.drop 5).take (Try.prog.cellsOf 3)) x5 := h5
  rw [show Try.prog.cellsOf 3 = 1 from by kernel_rfl, t5] at h5
  obtain ⟨v6, e6, t6⟩ := one_of hl (show 6 < 7 by omega)
  obtain ⟨x6, h6⟩ := hf 6 _ rfl opens_named_bool
  replace h6 : RBool w B ((cs.drop 6).take (Try.prog.cellsOf 4)) x6 := h6
  rw [show Try.prog.cellsOf 4 = 1 from by kernel_rfl, t6] at h6
  have hcs : cs = [v0, v1, v2, v3, v4, v5, v6] := by
    match cs, hl with
    | [c0, c1, c2, c3, c4, c5, c6], _ => simp at e0 e1 e2 e3 e4 e5 e6; subst e0 e1 e2 e3 e4 e5 e6; rfl
  subst hcs
  have q0 : v0 = .string x0 := by simpa using h0.1
  have q1 : v1 = .string x1 := by simpa using h1.1
  have q3 : v3 = .string x3 := by simpa using h3.1
  have q4 : v4 = .int .i64 x4 := by simpa using h4.1
  have q5 : v5 = .int .i64 x5 := by simpa using h5.1
  have q6 : v6 = .bool x6 := by simpa [RBool] using h6
  subst q0 q1 q3 q4 q5 q6
  exact ⟨⟨x0, x1, x2, x3, x4, x5, x6⟩, v2, rfl, h2, h0.2, h1.2, h3.2, h4.2, h5.2⟩⟩
theorem opens_layers : Opens Try.prog 24 RLayers := opens_slice Try.underlying24 cells_layer (by omega) opens_layer
theorem cells_image : Try.prog.cellsOf 55 = 5 := by kernel_rfl
theorem opens_image : Opens Try.prog 55 RImage := ⟨by
  intro H enc w sp held k B cs y h hp
  obtain ⟨hl, hf⟩ := opens_fields Try.underlying55 h hp
  rw [cells_image] at hl
  obtain ⟨v0, e0, t0⟩ := one_of hl (show 0 < 5 by omega)
  obtain ⟨x0, h0⟩ := hf 0 _ rfl opens_named_str
  replace h0 : RStr w B ((cs.drop 0).take (Try.prog.cellsOf 9)) x0 := h0
  rw [show Try.prog.cellsOf 9 = 1 from by kernel_rfl, t0] at h0
  obtain ⟨v1, e1, t1⟩ := one_of hl (show 1 < 5 by omega)
  obtain ⟨x1, h1⟩ := hf 1 _ rfl opens_strs
  replace h1 : RStrs w B ((cs.drop 1).take (Try.prog.cellsOf 25)) x1 := h1
  rw [show Try.prog.cellsOf 25 = 1 from by kernel_rfl, t1] at h1
  obtain ⟨v2, e2, t2⟩ := one_of hl (show 2 < 5 by omega)
  obtain ⟨x2, h2⟩ := hf 2 _ rfl opens_named_str
  replace h2 : RStr w B ((cs.drop 2).take (Try.prog.cellsOf 9)) x2 := h2
  rw [show Try.prog.cellsOf 9 = 1 from by kernel_rfl, t2] at h2
  obtain ⟨v3, e3, t3⟩ := one_of hl (show 3 < 5 by omega)
  obtain ⟨x3, h3⟩ := hf 3 _ rfl opens_named_str
  replace h3 : RStr w B ((cs.drop 3).take (Try.prog.cellsOf 9)) x3 := h3
  rw [show Try.prog.cellsOf 9 = 1 from by kernel_rfl, t3] at h3
  obtain ⟨v4, e4, t4⟩ := one_of hl (show 4 < 5 by omega)
  obtain ⟨x4, h4⟩ := hf 4 _ rfl opens_items
  replace h4 : RItems w B ((cs.drop 4).take (Try.prog.cellsOf 53)) x4 := h4
  rw [show Try.prog.cellsOf 53 = 1 from by kernel_rfl, t4] at h4
  have hcs : cs = [v0, v1, v2, v3, v4] := by
    match cs, hl with
    | [c0, c1, c2, c3, c4], _ => simp at e0 e1 e2 e3 e4; subst e0 e1 e2 e3 e4; rfl
  subst hcs
  have q0 : v0 = .string x0 := by simpa using h0.1
  have q2 : v2 = .string x2 := by simpa using h2.1
  have q3 : v3 = .string x3 := by simpa using h3.1
  subst q0 q2 q3
  exact ⟨⟨x0, x1, x2, x3, x4⟩, v1, v4, rfl, h1, h4, h0.2, h2.2, h3.2⟩⟩
theorem opens_images : Opens Try.prog 23 RImages := opens_slice Try.underlying23 cells_image (by omega) opens_image
theorem cells_box : Try.prog.cellsOf 82 = 6 := by kernel_rfl
theorem opens_box : Opens Try.prog 82 RBox := ⟨by
  intro H enc w sp held k B cs y h hp
  obtain ⟨hl, hf⟩ := opens_fields Try.underlying82 h hp
  rw [cells_box] at hl
  obtain ⟨v0, e0, t0⟩ := one_of hl (show 0 < 6 by omega)
  obtain ⟨x0, h0⟩ := hf 0 _ rfl opens_named_str
  replace h0 : RStr w B ((cs.drop 0).take (Try.prog.cellsOf 9)) x0 := h0
  rw [show Try.prog.cellsOf 9 = 1 from by kernel_rfl, t0] at h0
  obtain ⟨v1, e1, t1⟩ := one_of hl (show 1 < 6 by omega)
  obtain ⟨x1, h1⟩ := hf 1 _ rfl opens_strs
  replace h1 : RStrs w B ((cs.drop 1).take (Try.prog.cellsOf 25)) x1 := h1
  rw [show Try.prog.cellsOf 25 = 1 from by kernel_rfl, t1] at h1
  obtain ⟨v2, e2, t2⟩ := one_of hl (show 2 < 6 by omega)
  obtain ⟨x2, h2⟩ := hf 2 _ rfl opens_named_str
  replace h2 : RStr w B ((cs.drop 2).take (Try.prog.cellsOf 9)) x2 := h2
  rw [show Try.prog.cellsOf 9 = 1 from by kernel_rfl, t2] at h2
  obtain ⟨v3, e3, t3⟩ := one_of hl (show 3 < 6 by omega)
  obtain ⟨x3, h3⟩ := hf 3 _ rfl opens_named_str
  replace h3 : RStr w B ((cs.drop 3).take (Try.prog.cellsOf 9)) x3 := h3
  rw [show Try.prog.cellsOf 9 = 1 from by kernel_rfl, t3] at h3
  obtain ⟨v4, e4, t4⟩ := one_of hl (show 4 < 6 by omega)
  obtain ⟨x4, h4⟩ := hf 4 _ rfl opens_named_str
  replace h4 : RStr w B ((cs.drop 4).take (Try.prog.cellsOf 9)) x4 := h4
  rw [show Try.prog.cellsOf 9 = 1 from by kernel_rfl, t4] at h4
  obtain ⟨v5, e5, t5⟩ := one_of hl (show 5 < 6 by omega)
  obtain ⟨x5, h5⟩ := hf 5 _ rfl opens_items
  replace h5 : RItems w B ((cs.drop 5).take (Try.prog.cellsOf 53)) x5 := h5
  rw [show Try.prog.cellsOf 53 = 1 from by kernel_rfl, t5] at h5
  have hcs : cs = [v0, v1, v2, v3, v4, v5] := by
    match cs, hl with
    | [c0, c1, c2, c3, c4, c5], _ => simp at e0 e1 e2 e3 e4 e5; subst e0 e1 e2 e3 e4 e5; rfl
  subst hcs
  have q0 : v0 = .string x0 := by simpa using h0.1
  have q2 : v2 = .string x2 := by simpa using h2.1
  have q3 : v3 = .string x3 := by simpa using h3.1
  have q4 : v4 = .string x4 := by simpa using h4.1
  subst q0 q2 q3 q4
  exact ⟨⟨x0, x1, x2, x3, x4, x5⟩, v1, v5, rfl, h1, h5, h0.2, h2.2, h3.2, h4.2⟩⟩
theorem opens_boxes : Opens Try.prog 22 RBoxes := opens_slice Try.underlying22 cells_box (by omega) opens_box
theorem cells_mount : Try.prog.cellsOf 111 = 2 := by kernel_rfl
theorem opens_mount : Opens Try.prog 111 RMount := ⟨by
  intro H enc w sp held k B cs y h hp
  obtain ⟨hl, hf⟩ := opens_fields Try.underlying111 h hp
  rw [cells_mount] at hl
  obtain ⟨v0, e0, t0⟩ := one_of hl (show 0 < 2 by omega)
  obtain ⟨x0, h0⟩ := hf 0 _ rfl opens_named_str
  replace h0 : RStr w B ((cs.drop 0).take (Try.prog.cellsOf 9)) x0 := h0
  rw [show Try.prog.cellsOf 9 = 1 from by kernel_rfl, t0] at h0
  obtain ⟨v1, e1, t1⟩ := one_of hl (show 1 < 2 by omega)
  obtain ⟨x1, h1⟩ := hf 1 _ rfl opens_named_int
  replace h1 : (RInt .i64) w B ((cs.drop 1).take (Try.prog.cellsOf 3)) x1 := h1
  rw [show Try.prog.cellsOf 3 = 1 from by kernel_rfl, t1] at h1
  have hcs : cs = [v0, v1] := by
    match cs, hl with
    | [c0, c1], _ => simp at e0 e1; subst e0 e1; rfl
  subst hcs
  have q0 : v0 = .string x0 := by simpa using h0.1
  have q1 : v1 = .int .i64 x1 := by simpa using h1.1
  subst q0 q1
  exact ⟨⟨x0, x1⟩, rfl, h0.2, h1.2⟩⟩
theorem opens_mounts : Opens Try.prog 26 RMounts := opens_slice Try.underlying26 cells_mount (by omega) opens_mount
theorem cells_named : Try.prog.cellsOf 44 = 2 := by kernel_rfl
theorem opens_named : Opens Try.prog 44 RNamed := ⟨by
  intro H enc w sp held k B cs y h hp
  obtain ⟨hl, hf⟩ := opens_fields Try.underlying44 h hp
  rw [cells_named] at hl
  obtain ⟨v0, e0, t0⟩ := one_of hl (show 0 < 2 by omega)
  obtain ⟨x0, h0⟩ := hf 0 _ rfl opens_named_str
  replace h0 : RStr w B ((cs.drop 0).take (Try.prog.cellsOf 9)) x0 := h0
  rw [show Try.prog.cellsOf 9 = 1 from by kernel_rfl, t0] at h0
  obtain ⟨v1, e1, t1⟩ := one_of hl (show 1 < 2 by omega)
  obtain ⟨x1, h1⟩ := hf 1 _ rfl opens_strs
  replace h1 : RStrs w B ((cs.drop 1).take (Try.prog.cellsOf 25)) x1 := h1
  rw [show Try.prog.cellsOf 25 = 1 from by kernel_rfl, t1] at h1
  have hcs : cs = [v0, v1] := by
    match cs, hl with
    | [c0, c1], _ => simp at e0 e1; subst e0 e1; rfl
  subst hcs
  have q0 : v0 = .string x0 := by simpa using h0.1
  subst q0
  exact ⟨⟨x0, x1⟩, v1, rfl, h1, h0.2⟩⟩
theorem opens_nameds : Opens Try.prog 34 RNameds := opens_slice Try.underlying34 cells_named (by omega) opens_named
theorem cells_store : Try.prog.cellsOf 28 = 5 := by kernel_rfl
theorem opens_store : Opens Try.prog 28 RStore := ⟨by
  intro H enc w sp held k B cs y h hp
  obtain ⟨hl, hf⟩ := opens_fields Try.underlying28 h hp
  rw [cells_store] at hl
  obtain ⟨v0, e0, t0⟩ := one_of hl (show 0 < 5 by omega)
  obtain ⟨x0, h0⟩ := hf 0 _ rfl opens_boxes
  replace h0 : RBoxes w B ((cs.drop 0).take (Try.prog.cellsOf 22)) x0 := h0
  rw [show Try.prog.cellsOf 22 = 1 from by kernel_rfl, t0] at h0
  obtain ⟨v1, e1, t1⟩ := one_of hl (show 1 < 5 by omega)
  obtain ⟨x1, h1⟩ := hf 1 _ rfl opens_images
  replace h1 : RImages w B ((cs.drop 1).take (Try.prog.cellsOf 23)) x1 := h1
  rw [show Try.prog.cellsOf 23 = 1 from by kernel_rfl, t1] at h1
  obtain ⟨v2, e2, t2⟩ := one_of hl (show 2 < 5 by omega)
  obtain ⟨x2, h2⟩ := hf 2 _ rfl opens_layers
  replace h2 : RLayers w B ((cs.drop 2).take (Try.prog.cellsOf 24)) x2 := h2
  rw [show Try.prog.cellsOf 24 = 1 from by kernel_rfl, t2] at h2
  obtain ⟨v3, e3, t3⟩ := one_of hl (show 3 < 5 by omega)
  obtain ⟨x3, h3⟩ := hf 3 _ rfl opens_strs
  replace h3 : RStrs w B ((cs.drop 3).take (Try.prog.cellsOf 25)) x3 := h3
  rw [show Try.prog.cellsOf 25 = 1 from by kernel_rfl, t3] at h3
  obtain ⟨v4, e4, t4⟩ := one_of hl (show 4 < 5 by omega)
  obtain ⟨x4, h4⟩ := hf 4 _ rfl opens_mounts
  replace h4 : RMounts w B ((cs.drop 4).take (Try.prog.cellsOf 26)) x4 := h4
  rw [show Try.prog.cellsOf 26 = 1 from by kernel_rfl, t4] at h4
  have hcs : cs = [v0, v1, v2, v3, v4] := by
    match cs, hl with
    | [c0, c1, c2, c3, c4], _ => simp at e0 e1 e2 e3 e4; subst e0 e1 e2 e3 e4; rfl
  subst hcs
  exact ⟨⟨x0, x1, x2, x3, x4⟩, v0, v1, v2, v3, v4, rfl, h0, h1, h2, h3, h4⟩⟩
end Go.Proofs.Ytlniiaopindjnaa
