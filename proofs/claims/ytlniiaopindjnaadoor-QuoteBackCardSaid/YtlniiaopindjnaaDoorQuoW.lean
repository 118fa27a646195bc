/-
  Layer 4: what the program writes a letter as is what the letter's bytes are; a builder beside an iterator.
-/
import Derived.Test.YtlniiaopindjnaaDoorQuoQ
import Derived.Test.YtlniiaopindjnaaDoorRune
import Derived.Lib.OthersKept
import Derived.Lib.TrimUEq
namespace Go.Proofs.YtlniiaopindjnaaDoor
set_option linter.unusedVariables false
open Go.RowKit
open Go.Lib hiding intOf

namespace Qt
theorem decode_from (s : ByteArray) (k : Nat) : Utf8.decode s k = decodeL (s.data.toList.drop k) := (decodeL_drop s k).symm
theorem good_bytes {s : ByteArray} (h : s.size ≠ 0) (hb : bad s.data.toList = false) : s.data.toList.take (decodeL s.data.toList).2 = u8s (bytesN (decodeL s.data.toList).1) ∧ isLetter ((decodeL s.data.toList).1 : Int) = true := by
  have hg := letterB_good h hb
  have hw := dec_width s.data.toList (fun hn => h (by rw [Lib.size_eq, hn]; rfl))
  obtain ⟨d, hd⟩ : ∃ d, decodeL s.data.toList = d := ⟨_, rfl⟩
  rw [hd] at hg hw ⊢
  unfold letterB letterN at hg
  rw [if_neg h] at hg
  split at hg
  · subst hg; exact absurd hw.1 (by simp)
  · rename_i h0
    split at hg
    · rename_i h1
      subst hg
      obtain ⟨m, hm, hm2⟩ := isLetter_nat h1.1
      have h4 := lenN_vals (s.get! 0).toNat
      refine ⟨?_, by rw [hm] at h1 ⊢; simpa using h1.1⟩
      simp only
      rw [h1.2, ← take_get s _ (by omega) (by omega), ext_take]
    · subst hg; exact absurd hw.1 (by simp)
theorem rune_cells {n : Nat} (h : isLetter (n : Int) = true) : Lib.runeCells (n : Int) = Lib.byteCells (u8s (bytesN n)) := by
  have hb := isLetter_nat h
  simp [isLetter] at h
  have hlt := bytesN_lt (n := n) (by omega)
  have e : Lib.encodeRuneZ (n : Int) = (bytesN n).map (fun (x : Nat) => (x : Int)) := by
    unfold bytesN
    (repeat' split)
    · rw [Lib.encodeRuneZ_one (by omega) (by omega)]; rfl
    · rw [Lib.encodeRuneZ_two (by omega) (by omega)]; simp
    · rw [Lib.encodeRuneZ_three (by omega)]; simp
    · rw [Lib.encodeRuneZ_four (by omega) (by omega)]; simp
  rw [Lib.runeCells, e, Lib.byteCells, u8s, List.map_map, List.map_map]
  apply List.map_congr_left
  intro x hx
  simp [UInt8.toNat_ofNat', Nat.mod_eq_of_lt (hlt x hx)]
end Qt

theorem IsB.wider {T e : TypeId} {keep keep' : Nat → Prop} {b : Nat} {bs : List Value} {w : World} (h : IsB T e keep b bs w) (o : Obj) (hk : ∀ k, keep' k → keep k ∨ k = w.heap.size) : IsB T e keep' b bs (w.alloc o) := by
  obtain ⟨h1, h2, p, v, hp, hbk, hown, hne, hg⟩ := h
  have hlt : b < w.heap.size := by
    rcases Nat.lt_or_ge b w.heap.size with h' | h'
    · exact h'
    · simp [Array.getElem?_eq_none h'] at hbk
  refine ⟨fun hb => ?_, fun k hkk => ?_, p, v, hp, by rw [Lib.alloc_old w _ b hlt]; exact hbk, hown.alloc _, hne, fun g hgg hkg => ?_⟩
  · rcases hk b hb with h | h
    · exact h1 h
    · omega
  · rcases hk k hkk with h | h
    · have := h2 k h; simp; omega
    · simp; omega
  · rcases hk g hkg with h | h
    · exact hg g hgg h
    · rcases hown.2 with ⟨rfl, _⟩ | ⟨g', cap', cur, rfl, -, hgc, -⟩
      · simp [Value.ownBlock] at hgg
      · simp [Value.ownBlock] at hgg
        subst hgg
        rw [h, Array.getElem?_eq_none (Nat.le_refl _)] at hgc
        cases hgc
theorem IsB.iterAt {T e : TypeId} {keep : Nat → Prop} {b : Nat} {bs : List Value} {w : World} (h : IsB T e keep b bs w) {it : Nat} (hk : keep it) (s : ByteArray) (pos : Nat) : IsB T e keep b bs (w.iterAt it s pos) :=
  h.kept (by rw [Lib.iterAt_size]; exact Nat.le_refl _) fun k _ hnk => Lib.iterAt_other w it k s pos (fun e => hnk (e ▸ hk))
end Go.Proofs.YtlniiaopindjnaaDoor
