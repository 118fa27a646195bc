/-
  Layer 8: what is refused changes nothing; the quota stays; bounds for a table as it always is. No program is named here.
-/
import Derived.Test.YtfepbjlaffpojaaGreatNodE
import Derived.Test.YtfepbjlaffpojaaGreatInoX
namespace Go.Proofs.YtfepbjlaffpojaaGreat
set_option linter.unusedVariables false
open Go.RowKit Go.Maps
namespace In
variable {t : TabD}
theorem refused (a : ActD) (h : (do_ t a).2.2.1 ≠ 0) : (do_ t a).2.2.2 = t := by
  unfold do_ at h ⊢
  repeat' split
  all_goals (simp only [*, if_true, if_false] at h ⊢)
  · unfold make at h ⊢; split <;> simp_all
  · unfold link at h ⊢; split <;> simp_all
  · unfold unlink at h ⊢; split <;> simp_all
  · unfold remove at h ⊢; split <;> simp_all
  · unfold rename at h ⊢; split <;> simp_all
  · unfold write at h ⊢; split <;> simp_all
  · unfold trunc at h ⊢; split <;> simp_all
  · unfold hold at h ⊢; split <;> simp_all
  · unfold drop at h ⊢; split <;> simp_all
theorem gone_quota (id : Int) : (gone t id).quota = t.quota := by unfold gone; split <;> rfl
theorem loses_quota (dir : Int) (s : ByteArray) : (loses t dir s).quota = t.quota := gone_quota _
theorem rename_quota (dir : Int) (s : ByteArray) (tt : Int) (as_ : ByteArray) : (renameT t dir s tt as_).quota = t.quota := by
  unfold renameT renameIn
  repeat' split
  · rfl
  · rfl
  · exact loses_quota _ _
theorem do_quota (a : ActD) : (do_ t a).2.2.2.quota = t.quota := by
  unfold do_
  repeat' split
  · unfold make makeT; split <;> rfl
  · rfl
  · unfold link linkT; split <;> rfl
  · unfold unlink; split; exact loses_quota _ _; rfl
  · unfold remove; split; exact loses_quota _ _; rfl
  · unfold rename; split; exact rename_quota _ _ _ _; rfl
  · rfl
  · unfold write writeT; split; (split <;> rfl); rfl
  · unfold trunc; split <;> rfl
  · unfold hold; split <;> rfl
  · unfold drop; split; exact gone_quota _; rfl
  · rfl
/-- Numbers rise from 1 to the last one: there are no more inodes than that. -/
theorem asc_len : ∀ {l : List NodeD} {a b : Int}, asc l → (∀ n ∈ l, a ≤ n.id ∧ n.id ≤ b) → a ≤ b + 1 → (l.length : Int) ≤ b + 1 - a
  | [], a, b, _, _, h0 => by simp; omega
  | y :: r, a, b, hs, hb, h0 => by
    unfold asc at hs
    obtain ⟨h1, h2⟩ := List.pairwise_cons.1 hs
    have hy := hb y (by simp)
    have := asc_len (l := r) (a := y.id + 1) (b := b) h2 (fun n hn => ⟨by have := h1 n hn; omega, (hb n (by simp [hn])).2⟩) (by omega)
    rw [List.length_cons]
    push_cast
    omega
theorem inv_len {N : Nat} (h : Inv N t) : t.nodes.length ≤ N := by
  have h1 := h.last
  have := asc_len h.asc h.pos (by omega)
  omega
end In
end Go.Proofs.YtfepbjlaffpojaaGreat
