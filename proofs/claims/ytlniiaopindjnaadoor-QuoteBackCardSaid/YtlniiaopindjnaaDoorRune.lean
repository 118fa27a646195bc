/-
  (*strings.Builder).WriteRune, where every block below B is kept.
-/
import Derived.Test.YtlniiaopindjnaaDoorOwnB
import Derived.Test.YtlniiaopindjnaaDoorShelf
namespace Go.Proofs.YtlniiaopindjnaaDoor
set_option linter.unusedVariables false
open Go.RowKit

theorem own_up {w : World} {B : Nat} {e : TypeId} {size : Nat} {v : Value} {n : Nat} {xs : List Value} (h : w.ownsRow 0 e size v n xs) (hb : ∀ g, v.ownBlock = some g → ¬ g < B) : w.ownsRow B e size v n xs := by
  obtain ⟨h1, h2⟩ := h
  refine ⟨h1, ?_⟩
  rcases h2 with h2 | ⟨g, cap, cur, e, hg, r⟩
  · exact .inl h2
  · exact .inr ⟨g, cap, cur, e, by have := hb g (by rw [e]; rfl); omega, r⟩

set_option maxHeartbeats 2000000 in
set_option maxRecDepth 100000 in
theorem writeRune_any (keep : Nat → Prop) (B : Nat) (b : Nat) (bs : List Value) (r : Int) (hr0 : -2147483648 ≤ r) (hr1 : r ≤ 2147483647) (w : World) (h : IsB 55 5 keep b bs w) (hlen : bs.length + 4 ≤ 1000000000) (hB : B ≤ w.heap.size)
    (hkB : ∀ k, k < B → keep k) (hkp : ∀ k, keep k → k < B ∨ ∃ s p, w.heap[k]? = some (.stringIter s p)) :
    Calls Tryd.prog 33 #[.pointer (some ⟨b, 0, none⟩), .int .i32 r] w fun e w' => e = .returned (.tuple #[.int .i64 (Lib.runeCells r).length, .nilIface]) ∧ IsB 55 5 keep b (bs ++ Lib.runeCells r) w' ∧ Under keep w w' := by
  have hrl := Lib.runeCells_le r
  go_enter Tryd.func33, Tryd.ntmps33
  go_wp2_with (go_at_call 53; refine (copyCheck_any _ b bs _ h).mono ?_)
  rintro e w1 ⟨rfl, h1, hb1⟩
  obtain ⟨hBk, hK, v, hbk, hown, hne, hgk⟩ := h1
  have c0 : w1.cell? ⟨b, 0, none⟩ = some (.pointer (some ⟨b, 0, none⟩)) := by rw [Lib.cell_of_heap hbk]; rfl
  have c1 : w1.cell? ⟨b, 1, none⟩ = some v := by rw [Lib.cell_of_heap hbk]; rfl
  have hB1 : B ≤ w1.heap.size := Nat.le_trans hB hb1.size
  have hown' := own_up hown (fun g hg hlt => hgk g hg (hkB g hlt))
  have hlt : b < w1.heap.size := by
    rcases Nat.lt_or_ge b w1.heap.size with h' | h'
    · exact h'
    · simp [Array.getElem?_eq_none h'] at hbk
  obtain ⟨ao, cap, rfl⟩ : ∃ ao cap, v = .slice ao bs.length cap := by
    rcases hown.2 with ⟨hv, h0⟩ | ⟨g, cap, cur, hv, _⟩
    · exact ⟨none, 0, by rw [hv, h0]⟩
    · exact ⟨_, _, hv⟩
  have HAR := Lib.hid (Go.Proofs.Tryd.utf8_AppendRune_plain B _ _ _ r hr0 hr1 w1 hown' (by omega) hB1)
  have HKP := Lib.hid hkp
  clear hkp
  go_wp2_with (go_at_call 55; refine HAR.out.mono ?_)
  rintro e w2 ⟨v', rfl, ho2, o, hgrow⟩
  have hb2 : w2.heap[b]? = some (.cells #[.pointer (some ⟨b, 0, none⟩), .slice ao bs.length cap] 55 (0, 0)) := by
    rw [hgrow.block b (by simp; omega) (fun e => hne e.symm), Lib.alloc_old w1 _ b hlt]
    exact hbk
  have d0 : w2.cell? ⟨b, 0, none⟩ = some (.pointer (some ⟨b, 0, none⟩)) := by rw [Lib.cell_of_heap hb2]; rfl
  have d1 : w2.cell? ⟨b, 1, none⟩ = some (.slice ao bs.length cap) := by rw [Lib.cell_of_heap hb2]; rfl
  have f1 : w2.frozen? ⟨b, 1, none⟩ = false := Lib.frozen_of_heap hb2 1
  have hsz := hgrow.size
  have hgk' : ∀ g, v'.ownBlock = some g → ¬ keep g := fun g hg hkg => by
    have hge := own_block ho2 g hg
    rcases HKP.out g hkg with hl | ⟨s, p, hsp⟩
    · omega
    · have h1 : w1.heap[g]? = some (.stringIter s p) := (hb1.block g hkg).trans hsp
      have h2 : w2.heap[g]? = some (.stringIter s p) := by
        rw [hgrow.block g (by have := hK g hkg; simp; omega) (fun e => hgk g e.symm hkg), Lib.alloc_old w1 _ g (hK g hkg)]
        exact h1
      rcases ho2.2 with ⟨rfl, _⟩ | ⟨g', cap', cur, rfl, -, hgc, -⟩
      · simp [Value.ownBlock] at hg
      · simp [Value.ownBlock] at hg
        subst hg
        rw [hgc] at h2
        cases h2
  have hK2 : ∀ k, keep k → k < w2.heap.size := fun k hk => by have := hK k hk; simp at hsz; omega
  obtain ⟨ao2, cap2, rfl⟩ : ∃ ao cap, v' = .slice ao (bs.length + (Lib.runeCells r).length) cap := by
    rcases ho2.2 with ⟨hv, h0⟩ | ⟨g, cap, cur, hv, _⟩
    · exact ⟨none, 0, by rw [hv, h0]⟩
    · exact ⟨_, _, hv⟩
  have hlr : (Lib.runeCells r).length ≤ 4 := hrl.2
  have hle : (bs.length : Int) + ((Lib.runeCells r).length : Int) - (bs.length : Int) = ((Lib.runeCells r).length : Int) := by omega
  go_wp2_with fail
  go_ret2
  refine ⟨by first | rfl | (rw [← hle]; rfl), (isBU_put (T := 55) (e := 5) (keep := keep) hBk hK2 hb2 (bs' := bs ++ Lib.runeCells r) (by rw [List.length_append]; exact own_mono ho2 (Nat.zero_le _)) (by decide) hgk').is, ?_⟩
  exact ((hb1.alloc hK o).grown (fun k hk => by have := hK k hk; simp; omega) hgrow hgk).setCell (p := ⟨b, 1, none⟩) hBk _
end Go.Proofs.YtlniiaopindjnaaDoor
