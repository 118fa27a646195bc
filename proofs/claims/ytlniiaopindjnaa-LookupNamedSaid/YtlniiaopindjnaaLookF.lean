/-
  lookup.Find, walked.
-/
import Derived.Test.YtlniiaopindjnaaLookI
import Derived.Test.YtlniiaopindjnaaSpaceR
namespace Go.Proofs.Ytlniiaopindjnaa
set_option linter.unusedVariables false
open Go.RowKit

theorem isId_any (ref : ByteArray) (w : World) :
    Calls Try.prog 35 #[.string ref] w fun e w' => e = .returned (.func (.func 50) #[] #[.pointer (some ⟨w.heap.size, 0, none⟩)]) ∧ w' = w.alloc (.cells #[.string ref] 9) := by
  go_enter Try.func35, Try.ntmps35
  go_wp2
  go_ret
  exact ⟨rfl, rfl⟩

theorem Lk.ids_small {w : World} {B : Nat} {a : Option Addr} {n c : Nat} {xs : List NamedD} (h : RNameds w B [.slice a n c] xs) : ∀ x ∈ xs, x.id.size ≤ maxLen := by
  intro x hx
  obtain ⟨rfl, -, -, -, hc⟩ := nameds_open h
  obtain ⟨k, hk, rfl⟩ := List.getElem_of_mem hx
  obtain ⟨b, off, -, -, hc⟩ := hc (by omega)
  exact (hc k _ (List.getElem?_eq_getElem hk)).1

/-- What isId leaves behind: a closure, and its cell. -/
theorem isId_any2 (ref : ByteArray) (w : World) :
    Calls Try.prog 35 #[.string ref] w fun e w' => ∃ g : Nat, e = .returned (.func (.func 50) #[] #[.pointer (some ⟨g, 0, none⟩)]) ∧ g < w'.heap.size ∧ w'.cell? ⟨g, 0, none⟩ = some (.string ref) ∧ Below w.heap.size w w' := by
  refine (isId_any ref w).mono ?_
  rintro e w' ⟨rfl, rfl⟩
  exact ⟨_, rfl, by simp, cell_one_new w _ _ 0 _ rfl, (Below.refl _ _).alloc (Nat.le_refl _) _⟩

set_option maxHeartbeats 2000000 in
set_option maxRecDepth 100000 in
theorem lookup_Find_any (a : Option Addr) (n c : Nat) (xs : List NamedD) (ref : ByteArray) (w : World) (h : RNameds w w.heap.size [.slice a n c] xs) (hr : ref.size ≤ maxLen) (hxl : xs.length ≤ 1000000) :
    Calls Try.prog 19 #[.slice a n c, .string ref] w fun e w' => e = .returned (.tuple #[.string (Lk.meant xs ref).1, .int .i64 (Lk.meant xs ref).2]) ∧ Below w.heap.size w w' := by
  obtain ⟨w1, hw1⟩ : ∃ w1, w1 = w.alloc (.cells #[.string ref] 9) := ⟨_, rfl⟩
  have hb1 : Below w.heap.size w w1 := by rw [hw1]; exact (Below.refl _ _).alloc (Nat.le_refl _) _
  have hs1 : w1.heap.size = w.heap.size + 1 := by rw [hw1]; simp
  have hc1 : w1.cell? ⟨w.heap.size, 0, none⟩ = some (.string ref) := by rw [hw1]; exact cell_one_new w _ _ 0 _ rfl
  have HB1 := Lib.hid hb1
  have HN := Lib.hid h
  have HN1 := Lib.hid (kept_nameds.on hb1 h)
  obtain ⟨rfl, l1, l2, -, -⟩ := nameds_open h
  rw [maxLen_val] at l2 hr
  clear h hb1
  go_enter Try.func19, Try.ntmps19
  go_wp2_with (first
    | (go_at_call 35; rw [← hw1]; refine (isId_any2 _ _).mono ?_; rintro e w2 ⟨g, rfl, hg, hgc, hb2⟩; have HB2 := Lib.hid hb2; have HN2 := Lib.hid (kept_nameds.on hb2 HN1.out); have hc2 := (hb2.cell (p := ⟨w.heap.size, 0, none⟩) (by simp only; omega)).trans hc1; have hs2 := hb2.size; clear hb2)
    | (go_at_call 34; refine (containsFunc_any _ _ _ xs (Lk.hasId ref) _ _ eg_isId _ HN2.out (isId_pred ref g _ xs hg hgc)).mono ?_; rintro e w3 ⟨rfl, hb3⟩; have HB3 := Lib.hid hb3; have HN3 := Lib.hid (kept_nameds.on hb3 HN2.out); have hc3 := (hb3.cell (p := ⟨w.heap.size, 0, none⟩) (by simp only; omega)).trans hc2; have hs3 := hb3.size; clear hb3 hgc; generalize hid : xs.any (Lk.hasId ref) = q; have HQ := Lib.hid hid; clear hid; cases q)
    | (go_at_call 36; refine (indexFunc_any _ _ _ xs (Lk.hasName ref) _ _ eg_names _ HN3.out (names_pred ref w.heap.size _ xs (by omega) hc3)).mono ?_; rintro e w4 ⟨rfl, hb4⟩; have HN4 := Lib.hid (kept_nameds.on hb4 HN3.out); have hc4 := (hb4.cell (p := ⟨w.heap.size, 0, none⟩) (by simp only; omega)).trans hc3; have hs4 : w.heap.size < w4.heap.size := (by have := hb4.size; omega); have HB4 := Lib.hid (HB1.out.trans ((HB2.out.mono (by omega)).trans ((HB3.out.mono (by omega)).trans (hb4.mono (by omega))))); clear hb4 hs3 hc3 HN3 HB3 hs2 hc2 HN2 HB2 hs1 hc1 HN1 HB1 hw1 hg; rcases Lk.idx_cases (Lk.hasName ref) xs with ⟨hi, -, hf⟩ | ⟨k, x, hi, hk, hf, -⟩; rotate_left; (obtain ⟨-, -, -, -, hx4⟩ := nameds_open HN4.out; have hkl : k < xs.length := (List.getElem?_eq_some_iff.1 hk).1; obtain ⟨b, off, rfl, hb, hc⟩ := hx4 (by omega); obtain ⟨z, c0, -⟩ := hc k x hk; clear hx4 hc hk); rotate_right))
  · have HF := Lib.hid hf
    clear hi hf
    obtain ⟨-, -, -, -, hx4⟩ := nameds_open HN4.out
    have HX := Lib.hid hx4
    have HC4 := Lib.hid hc4
    obtain ⟨i0, hi, hz0, hz1, hz2⟩ := info_parts str_info
    clear hx4 hc4
    go_loopw [7, 27] (fun v i wr => ∃ k : Nat, k ≤ xs.length ∧ i = .int .i64 k ∧ wr.ownsRow w4.heap.size 9 1 v (Lk.found (xs.take k) ref).length ((Lk.found (xs.take k) ref).map Value.string) ∧ Below w4.heap.size w4 wr) (fun _ i _ => xs.length - (intOf i).toNat)
    case atStart => exact ⟨0, Nat.zero_le _, rfl, World.ownsRow_nil _ _ _ _, Below.refl _ _⟩
    case round =>
      obtain ⟨k, hk, rfl, hown, hbel⟩ := hrel
      have hfl := Lk.found_length (xs.take k) ref
      have hfk : (xs.take k).length ≤ k := List.length_take_le _ _
      have r3 := (hbel.cell (p := ⟨w.heap.size, 0, none⟩) (by simp only; omega)).trans HC4.out
      have hsr := hbel.size
      have HO := Lib.hid hown
      have HB := Lib.hid hbel
      by_cases hlt : k < xs.length
      · obtain ⟨x, hxk⟩ := get_at hlt
        have hsn := Lk.found_snoc xs ref k x hxk
        have HS := Lib.hid hsn
        obtain ⟨ys, hys⟩ : ∃ ys, ys = Lk.found (xs.take k) ref := ⟨_, rfl⟩
        rw [← hys] at HO HS hfl
        obtain ⟨b, off, rfl, hb, hc⟩ := HX.out (by omega)
        obtain ⟨z, c0, na, nc, c1, -⟩ := hc k x hxk
        have r0 := (hbel.cell (p := ⟨b, off + k * 2, none⟩) hb).trans c0
        have r1 := (hbel.cell (p := ⟨b, off + k * 2 + 1, none⟩) hb).trans c1
        have r4 : (wr.alloc (.cells #[.string x.id, .slice na x.names.length nc] 44)).cell? ⟨w.heap.size, 0, none⟩ = some (.string ref) := Lib.cell?_alloc_some _ r3
        clear hown hbel hsn hys hc c0 c1 HX hxk HC4
        go_wp2_with (first
          | (go_at_call 39; refine (Go.Proofs.Try.strings_HasPrefix _ _ _).mono ?_; rintro e w5 ⟨rfl, hw5⟩; have e5 : w5.cell? ⟨wr.heap.size, 0, none⟩ = some (.string x.id) := (by rw [hw5]; rw [cell_of_row _ _ 0 _ _ _ (heap_alloc_new wr _)]; rfl); have HO5 := Lib.hid (show w5.ownsRow w4.heap.size 9 1 u7 ys.length (ys.map Value.string) from by rw [hw5]; exact HO.out.alloc _); have HB5 := Lib.hid (show Below w4.heap.size w4 w5 from by rw [hw5]; exact HB.out.alloc (by omega) _); have hs5 : wr.heap.size < w5.heap.size := (by rw [hw5]; simp); clear hw5 r4 HO HB; generalize hbg : Lib.hasPrefix x.id.data.toList ref.data.toList = q; have HBG := Lib.hid hbg; clear hbg; cases q)
          | (at_builtin; (refine wpList_append_own _ rfl _ _ 25 rfl w4.heap.size 9 i0 (.string ByteArray.empty) 1 16 Try.underlying25 hi hz0 hz1 hz2 rfl (by decide) _ _ _ rfl (HO5.out.alloc _) ⟨w5.heap.size, 0, none⟩ 1 1 [.string x.id] rfl rfl (cell_one_new _ _ _) (by intro u hu; simp at hu; subst hu; rfl) (by unfold maxLen; omega) (by omega) (by simp; omega) ?_; intro v' w6 hown' hgrow hnil; have HO6 := Lib.hid hown'; have HB6 := Lib.hid ((HB5.out.alloc (by omega) _).grown hgrow (by simp; omega) (fun j hj => by have := own_block HO5.out j hj; omega)); clear hown' hgrow hnil HO5 HB5)))
        · go_roundw
          case rel => exact ⟨k + 1, by omega, by go_num, by rw [HS.out, Lk.begins, HBG.out]; simpa using HO5.out, HB5.out⟩
          case measure => simp [intOf]; omega
        · go_roundw
          case rel => exact ⟨k + 1, by omega, by go_num, by rw [HS.out, Lk.begins, HBG.out]; simpa using HO6.out, HB6.out⟩
          case measure => simp [intOf]; omega
      · have he : k = xs.length := by omega
        subst he
        have hsm := Lk.ids_small HN.out
        rw [List.take_of_length_le (Nat.le_refl _)] at hown hfl
        obtain ⟨-, fa, fcap, rfl, hrr⟩ := own_strs hown (fun y hy => by
          obtain ⟨n, hn, rfl⟩ := List.mem_map.1 hy
          exact hsm n (List.mem_filter.1 hn).1)
        obtain ⟨-, f1, f2, -, f3⟩ := strs_open hrr
        have hmt : Lk.meant xs ref = if ref.size = 0 ∨ 6 ≤ ref.size ∨ (Lk.found xs ref).length = 0 then (⟨#[]⟩, 3)
            else if 1 < (Lk.found xs ref).length then (⟨#[]⟩, 9) else ((Lk.found xs ref).headD ⟨#[]⟩, 0) := by
          unfold Lk.meant
          rw [HQ.out, HF.out]
          rfl
        have hez : ref.toList = [] ↔ ref.size = 0 := by rw [ByteArray.toList_eq, Array.toList_eq_nil_iff, ← Array.size_eq_zero_iff]; rfl
        generalize Lk.found xs ref = fs at hown hfl hrr f1 f2 f3 hmt
        have BE := Lib.hid (HB4.out.trans (hbel.mono (by omega)))
        have F3 := Lib.hid f3
        rw [maxLen_val] at f2
        clear hown hrr f3 hsm hbel HB HO HX HC4 HN HN4
        by_cases e0 : ref.toList = []
        · rw [if_pos (.inl (hez.1 e0))] at hmt
          clear hez
          have HM := Lib.hid hmt
          clear hmt F3
          go_wp2_with fail
          go_ret2
          exact ⟨by rw [HM.out]; rfl, BE.out⟩
        · have e0' : ref.size ≠ 0 := fun h => e0 (hez.2 h)
          have e0b : ref.toList.isEmpty = false := by rw [List.isEmpty_eq_false_iff]; exact e0
          clear hez
          by_cases e6 : 6 ≤ ref.size
          · rw [if_pos (.inr (.inl e6))] at hmt
            have HM := Lib.hid hmt
            clear hmt F3
            go_wp2_with fail
            go_ret2
            exact ⟨by rw [HM.out]; rfl, BE.out⟩
          · by_cases ef : fs.length = 0
            · rw [if_pos (.inr (.inr ef))] at hmt
              obtain rfl := List.length_eq_zero_iff.1 ef
              have HM := Lib.hid hmt
              clear hmt F3
              go_wp2_with fail
              go_ret2
              exact ⟨by rw [HM.out]; rfl, BE.out⟩
            · rw [if_neg (by omega)] at hmt
              have efb : ((fs.length : Int) == 0) = false := by rw [beq_eq_false_iff_ne]; omega
              by_cases e2 : 1 < fs.length
              · rw [if_pos e2] at hmt
                have HM := Lib.hid hmt
                clear hmt F3
                go_wp2_with fail
                go_ret2
                exact ⟨by rw [HM.out]; rfl, BE.out⟩
              · rw [if_neg e2] at hmt
                obtain ⟨y, rfl⟩ : ∃ y, fs = [y] := by
                  match fs, ef, e2 with
                  | [y], _, _ => exact ⟨y, rfl⟩
                  | [], ef, _ => exact absurd rfl ef
                  | _ :: _ :: _, _, e2 => exact absurd (by simp) e2
                obtain ⟨b, off, rfl, hb, hc⟩ := F3.out (by simp)
                obtain ⟨-, c0⟩ := hc 0 y rfl
                clear hc
                replace c0 : wr.cell? ⟨b, off, none⟩ = some (.string y) := c0
                have HM := Lib.hid hmt
                clear hmt F3
                go_wp2_with fail
                go_ret2
                exact ⟨by rw [HM.out]; rfl, BE.out⟩
  · have HF := Lib.hid hf
    clear hf hi
    go_ret2
    refine ⟨?_, HB4.out⟩
    unfold Lk.meant
    rw [HQ.out, HF.out]
    rfl
  · go_ret2
    refine ⟨?_, HB1.out.trans ((HB2.out.mono (by omega)).trans (HB3.out.mono (by omega)))⟩
    unfold Lk.meant
    rw [HQ.out]
    rfl
end Go.Proofs.Ytlniiaopindjnaa
