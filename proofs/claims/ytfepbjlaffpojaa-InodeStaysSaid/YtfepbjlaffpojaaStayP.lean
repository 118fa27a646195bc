/-
  Layer 8: what a file has stays, in plain Lean.
-/
import Derived.Test.YtfepbjlaffpojaaInoX
namespace Go.Proofs.Ytfepbjlaffpojaa
set_option linter.unusedVariables false
namespace In

/-- Inode 2 is a file of just these bytes, and is held. -/
def Keep (s : ByteArray) (t : TabD) : Prop := ∃ x, find t.nodes 2 = some x ∧ x.dir = false ∧ x.data = s ∧ 1 ≤ x.holds
section
variable {s : ByteArray} {t : TabD}
theorem set_none {l : List NodeD} {n : NodeD} (h : find l n.id = none) : set l n = l := by
  unfold set
  have : ∀ m ∈ l, (m.id == n.id) = false := fun m hm => by
    have := List.find?_eq_none.1 h m hm
    simpa using this
  rw [List.map_congr_left (g := id) fun m hm => by rw [this m hm]; rfl]
  simp
theorem keep_upd (h : Keep s t) (k : Int) (f : NodeD → NodeD) (hi : ∀ o, (f o).id = o.id) (hf : k = 2 → ∀ o, (f o).dir = o.dir ∧ (f o).data = o.data ∧ o.holds ≤ (f o).holds) : Keep s (setN t (f (at_ t k))) := by
  obtain ⟨x, hx, hd, hs, hh⟩ := h
  cases ho : find t.nodes k with
  | none =>
    have hk : (at_ t k).id = k := by unfold at_; rw [ho]
    refine ⟨x, ?_, hd, hs, hh⟩
    show find (set t.nodes _) 2 = _
    rw [set_none (by rw [hi, hk]; exact ho)]
    exact hx
  | some o =>
    have hk : (at_ t k).id = k := by rw [at_some ho]; exact (find_some ho).2
    rw [at_some ho] at hk ⊢
    by_cases h2 : k = 2
    · subst h2
      rw [ho] at hx
      cases hx
      obtain ⟨a, b, c⟩ := hf rfl x
      exact ⟨f x, by rw [find_turn ho ((hi x).trans hk), if_pos rfl], a.trans hd, b.trans hs, by omega⟩
    · exact ⟨x, by rw [find_turn ho ((hi o).trans hk), if_neg (fun e => h2 e.symm)]; exact hx, hd, hs, hh⟩
theorem keep_nodes {t' : TabD} (h : Keep s t) (e : t'.nodes = t.nodes) : Keep s t' := by unfold Keep; rw [e]; exact h
theorem keep_nameIn (h : Keep s t) (k : Int) (n : ByteArray) (i : Int) : Keep s (nameIn t k n i) := keep_upd h k (fun o => o.setNames (with_ o.names n i)) (fun _ => rfl) fun _ o => ⟨rfl, rfl, Int.le_refl _⟩
theorem keep_nameOut (h : Keep s t) (k : Int) (n : ByteArray) : Keep s (nameOut t k n) := keep_upd h k (fun o => o.setNames (without o.names n)) (fun _ => rfl) fun _ o => ⟨rfl, rfl, Int.le_refl _⟩
theorem keep_linksUp (h : Keep s t) (k : Int) : Keep s (linksUp t k) := keep_upd h k (fun o => o.setLinks (o.links + 1)) (fun _ => rfl) fun _ o => ⟨rfl, rfl, Int.le_refl _⟩
theorem keep_linksDown (h : Keep s t) (k : Int) : Keep s (linksDown t k) := keep_upd h k (fun o => o.setLinks (o.links - 1)) (fun _ => rfl) fun _ o => ⟨rfl, rfl, Int.le_refl _⟩
theorem keep_holdsUp (h : Keep s t) (k : Int) : Keep s (holdsUp t k) := keep_upd h k (fun o => o.setHolds (o.holds + 1)) (fun _ => rfl) fun _ o => ⟨rfl, rfl, by show o.holds ≤ o.holds + 1; omega⟩
theorem keep_holdsDown (h : Keep s t) {k : Int} (hk : k ≠ 2) : Keep s (holdsDown t k) := keep_upd h k (fun o => o.setHolds (o.holds - 1)) (fun _ => rfl) fun e => absurd e hk
theorem keep_dataOf (h : Keep s t) {k : Int} (hk : k ≠ 2) (v : ByteArray) : Keep s (dataOf t k v) := keep_upd h k (fun o => o.setData v) (fun _ => rfl) fun e => absurd e hk
theorem keep_gone (h : Keep s t) (k : Int) : Keep s (gone t k) := by
  obtain ⟨x, hx, hd, hs, hh⟩ := h
  by_cases hk : k = 2
  · subst hk
    unfold gone
    rw [at_some hx]
    have : (x.links == 0 && x.holds == 0) = false := by
      have : (x.holds == 0) = false := beq_eq_false_iff_ne.2 (by omega)
      simp [this]
    rw [this]
    exact ⟨x, hx, hd, hs, hh⟩
  · exact ⟨x, by rw [find_gone_ne (fun e => hk e.symm)]; exact hx, hd, hs, hh⟩
theorem keep_loses (h : Keep s t) (k : Int) (n : ByteArray) : Keep s (loses t k n) := keep_gone (keep_linksDown (keep_nameOut h k n) _) _
theorem keep_sized (h : Keep s t) {k : Int} (hk : k ≠ 2) (n : Int) : Keep s (sizedT t k n) := keep_nodes (keep_dataOf h hk (resized (at_ t k).data n.toNat)) rfl
theorem keep_do (h : Keep s t) (a : ActD) (ha : ¬ (a.id = 2 ∧ (a.kind = 8 ∨ a.kind = 9 ∨ a.kind = 11))) : Keep s (do_ t a).2.2.2 := by
  unfold do_
  split
  · unfold make
    split
    · have := keep_nameIn h a.dir a.name (t.last + 1)
      obtain ⟨x, hx, r⟩ := this
      refine ⟨x, ?_, r⟩
      show find ((nameIn t a.dir a.name (t.last + 1)).nodes ++ _) 2 = _
      unfold find at hx ⊢
      rw [List.find?_append, hx]; rfl
    · exact h
  split
  · exact h
  split
  · unfold link
    split
    · exact keep_linksUp (keep_nameIn h _ _ _) _
    · exact h
  split
  · unfold unlink
    split
    · exact keep_loses h _ _
    · exact h
  split
  · unfold remove
    split
    · exact keep_loses h _ _
    · exact h
  split
  · unfold rename
    split
    · show Keep s (renameT _ _ _ _ _)
      unfold renameT
      split
      · exact h
      split
      · exact keep_nameIn (keep_nameOut h _ _) _ _ _
      · exact keep_nameIn (keep_nameOut (keep_loses h _ _) _ _) _ _ _
    · exact h
  split
  · exact h
  split
  · rename_i hk
    have h2 : a.id ≠ 2 := fun e => ha ⟨e, .inl hk⟩
    unfold write
    split
    · show Keep s (writeT _ _ _ _)
      unfold writeT
      split
      · exact h
      · exact keep_dataOf (keep_sized h h2 _) h2 _
    · exact h
  split
  · rename_i hk
    have h2 : a.id ≠ 2 := fun e => ha ⟨e, .inr (.inl hk)⟩
    unfold trunc
    split
    · exact keep_sized h h2 _
    · exact h
  split
  · unfold hold
    split
    · exact keep_holdsUp h _
    · exact h
  split
  · rename_i hk
    have h2 : a.id ≠ 2 := fun e => ha ⟨e, .inr (.inr hk)⟩
    unfold drop
    split
    · exact keep_gone (keep_holdsDown h h2) _
    · exact h
  · exact h
theorem keep_read (h : Keep s t) (hs : s.size ≤ 256) : read t 2 0 1024 = s ∧ readE t 2 0 1024 = 0 := by
  obtain ⟨x, hx, hd, rfl, hh⟩ := h
  have hE : readE t 2 0 1024 = 0 := by
    unfold readE fileE getE
    rw [hx]
    simp only [hd]
    rfl
  refine ⟨?_, hE⟩
  unfold read
  rw [hE, at_some hx]
  show part x.data 0 1024 = x.data
  unfold part
  rw [show min (0 : Int).toNat x.data.size = 0 by simp, show 0 + min (1024 : Int).toNat (x.data.size - 0) = x.data.size by show 0 + min 1024 _ = _; omega]
  exact ByteArray.extract_zero_size
end
/-! ### the beginning -/
abbrev nn : ByteArray := ⟨#[110]⟩
def b0 : TabD := new 1048576
def b1 : TabD := (make b0 1 nn false).2.2
theorem b1_eq : make b0 1 nn false = (2, 0, b1) := by kernel_rfl
def b2 (s : ByteArray) : TabD := (write b1 2 0 s).2
theorem bi0 : Inv 1 b0 := inv_new (by decide) (by decide)
theorem bi1 : Inv 3 b1 := inv_make bi0 _ _ _
theorem bi2 (s : ByteArray) : Inv 3 (b2 s) := inv_write bi1 _ _ _
def fileN : NodeD := ⟨2, false, 1, 0, ByteArray.empty, []⟩
def rootN : NodeD := ⟨1, true, 1, 0, ByteArray.empty, [(nn, 2)]⟩
theorem b1_def : b1 = ⟨1048576, 128, 2, [rootN, fileN]⟩ := by kernel_rfl
theorem over_all {s : ByteArray} (d : ByteArray) (h : d.size = s.size) : over d 0 s = s := by
  unfold over
  have e1 : d.extract 0 0 = ByteArray.empty := by apply ByteArray.ext; simp
  have e2 : d.extract (0 + s.size) d.size = ByteArray.empty := by apply ByteArray.ext; simp [h]
  rw [e1, e2, ByteArray.empty_append, ByteArray.append_empty]
theorem b2_eq {s : ByteArray} (hs : s.size ≤ 256) : writeE b1 2 0 s = 0 ∧ ∃ u, b2 s = ⟨1048576, u, 2, [rootN, fileN.setData s]⟩ := by
  have hf : find b1.nodes 2 = some fileN := by rw [b1_def]; rfl
  have hE : writeE b1 2 0 s = 0 := by
    unfold writeE fileE getE
    rw [hf, at_some hf]
    simp only [fileN]
    rw [b1_def]
    have e1 : decide ((1048576 : Int) - 0 < s.size) = false := decide_eq_false (by omega)
    simp only [sizedE]
    rw [e1]
    have e2 : max ((0 : Int) + s.size) (ByteArray.empty.size : Int) = s.size := by
      show max ((0 : Int) + s.size) ((0 : Nat) : Int) = s.size
      omega
    have e3 : decide ((1048576 : Int) < s.size) = false := decide_eq_false (by omega)
    have e4 : decide ((1048576 : Int) - 128 < s.size - (ByteArray.empty.size : Int)) = false := decide_eq_false (by show ¬ ((1048576 : Int) - 128 < s.size - ((0 : Nat) : Int)); omega)
    rw [e2, e3, e4]
    cases s.size == 0 <;> rfl
  refine ⟨hE, ?_⟩
  unfold b2 write
  rw [hE]
  show ∃ u, writeT b1 2 0 s = _
  unfold writeT
  cases hz : s.size == 0 with
  | true =>
    have : s = ByteArray.empty := by
      apply ByteArray.ext
      have hz' : s.size = 0 := by simpa using hz
      exact Array.eq_empty_of_size_eq_zero hz'
    subst this
    exact ⟨128, by rw [b1_def]; rfl⟩
  | false =>
    have e2 : max ((0 : Int) + s.size) ((at_ b1 2).data.size : Int) = s.size := by
      rw [at_some hf]
      show max ((0 : Int) + s.size) ((0 : Nat) : Int) = s.size
      omega
    rw [e2]
    have hsz : sizedT b1 2 s.size = ⟨1048576, 128 + s.size, 2, [rootN, fileN.setData (resized ByteArray.empty s.size)]⟩ := by
      unfold sizedT dataOf
      rw [at_some hf, b1_def]
      show (⟨1048576, 128 + ((s.size : Int) - ((0 : Nat) : Int)), 2, _⟩ : TabD) = _
      have : (128 : Int) + ((s.size : Int) - ((0 : Nat) : Int)) = 128 + s.size := by omega
      rw [this]
      rfl
    refine ⟨128 + s.size, ?_⟩
    show overT _ 2 0 s = _
    unfold overT dataOf
    rw [hsz]
    show (⟨1048576, 128 + s.size, 2, [rootN, fileN.setData (over (resized ByteArray.empty s.size) 0 s)]⟩ : TabD) = _
    rw [over_all _ (resized_len _ _)]
def b3 (s : ByteArray) : TabD := (hold (b2 s) 2).2
def b4 (s : ByteArray) : TabD := (unlink (b3 s) 1 nn).2
theorem b3_eq {s : ByteArray} (hs : s.size ≤ 256) : holdE (b2 s) 2 = 0 ∧ ∃ u, b3 s = ⟨1048576, u, 2, [rootN, (fileN.setData s).setHolds 1]⟩ := by
  obtain ⟨_, u, h2⟩ := b2_eq hs
  have hE : holdE (b2 s) 2 = 0 := by rw [h2]; rfl
  refine ⟨hE, u, ?_⟩
  unfold b3 hold
  rw [hE, h2]
  rfl
theorem b4_eq {s : ByteArray} (hs : s.size ≤ 256) : unlinkE (b3 s) 1 nn = 0 ∧ Keep s (b4 s) := by
  obtain ⟨_, u, h3⟩ := b3_eq hs
  have hE : unlinkE (b3 s) 1 nn = 0 := by rw [h3]; rfl
  refine ⟨hE, ?_⟩
  have hk : Keep s (b3 s) := by rw [h3]; exact ⟨(fileN.setData s).setHolds 1, rfl, rfl, rfl, Int.le_refl _⟩
  unfold b4 unlink
  rw [hE]
  exact keep_loses hk _ _
theorem bi3 (s : ByteArray) : Inv 3 (b3 s) := inv_hold (bi2 s) _
theorem bi4 (s : ByteArray) : Inv 3 (b4 s) := inv_unlink (bi3 s) _ _
end In
end Go.Proofs.Ytfepbjlaffpojaa
