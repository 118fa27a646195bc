/-
  lookup.Text, walked.
-/
import Derived.Test.YtlniiaopindjnaaTextW
import Derived.Test.YtlniiaopindjnaaAppend
import Derived.Test.YtlniiaopindjnaaShelf
namespace Go.Proofs.Ytlniiaopindjnaa
set_option linter.unusedVariables false
open Go.RowKit

set_option maxHeartbeats 2000000 in
set_option maxRecDepth 100000 in
theorem lookup_Text_any (a : Option Addr) (n c : Nat) (xs : List NamedD) (w : World) (h : RNameds w w.heap.size [.slice a n c] xs) (hf : FewN xs) :
    Calls Try.prog 23 #[.slice a n c] w fun e w' => e = .returned (.string ⟨(Lk.lines xs).toArray⟩) ∧ Below w.heap.size w w' := by
  obtain ⟨w0, hw0⟩ : ∃ w0, w0 = w.alloc (.cells #[.pointer none, .slice none 0 0] 71) := ⟨_, rfl⟩
  obtain ⟨keep, hkeep⟩ : ∃ keep : Nat → Prop, ∀ k, keep k ↔ k < w.heap.size := ⟨_, fun _ => Iff.rfl⟩
  have hkb : ∀ k, k < w.heap.size → keep k := fun k hk => (hkeep k).2 hk
  have hbk : ∀ k, keep k → k < w.heap.size := fun k hk => (hkeep k).1 hk
  have hisb0 : IsB 71 5 keep w.heap.size [] w0 := by rw [hw0]; exact IsB.fresh _ _ _ _ hbk
  have hu0 : Under keep w w0 := by rw [hw0]; exact (Under.refl _ _).alloc hbk _
  obtain ⟨rfl, l1, l2, -, hx⟩ := nameds_open h
  have HX := Lib.hid hx
  have HF := Lib.hid hf
  have HI0 := Lib.hid hisb0
  have HU0 := Lib.hid hu0
  have HKB := Lib.hid hkb
  have HBK := Lib.hid hbk
  have hx40 := hf.1
  obtain ⟨i0, hi, hz0, hz1, hz2⟩ := info_parts str_info
  rw [maxLen_val] at l2
  clear hx h hf hisb0 hu0 hkb hbk hkeep
  go_enter Try.func23, Try.ntmps23
  go_wp2_with fail
  rw [← hw0]
  clear hw0
  go_loopw [5, 8] (fun _ i wr => ∃ k : Nat, k ≤ xs.length ∧ i = .int .i64 k ∧ IsB 71 5 keep w.heap.size (Lib.byteCells (Lk.lines (xs.take k))) wr ∧ Under keep w wr) (fun _ i _ => xs.length - (intOf i).toNat)
  case atStart => exact ⟨0, Nat.zero_le _, rfl, HI0.out, HU0.out⟩
  case round =>
    obtain ⟨k, hk, rfl, hisb, hun⟩ := hrel
    have hbel := hun.below HKB.out
    have HB := Lib.hid hbel
    have HI := Lib.hid hisb
    have HU := Lib.hid hun
    have hsz := hbel.size
    clear hisb hun HI0 HU0
    by_cases hlt : k < xs.length
    · obtain ⟨b, off, rfl, hb, hc⟩ := HX.out (by omega)
      obtain ⟨x, hxk⟩ := get_at hlt
      obtain ⟨z, c0, na, nc, c1, hn⟩ := hc k x hxk
      have r0 := (hbel.cell (p := ⟨b, off + k * 2, none⟩) hb).trans c0
      have r1 := (hbel.cell (p := ⟨b, off + k * 2 + 1, none⟩) hb).trans c1
      have hn' := kept_strs.out (Same.of_below hbel (Nat.le_refl _)) hn
      obtain ⟨-, m1, m2, -, hm⟩ := strs_open hn'
      obtain ⟨z1, z2, z3⟩ := HF.out.2 x (List.mem_of_getElem? hxk)
      have hll := Lk.lines_take HF.out k
      have hsn := Lk.lines_snoc hxk
      generalize Lk.lines (xs.take k) = L at hll hsn HI
      have HSN := Lib.hid hsn
      have HM := Lib.hid hm
      have HN := Lib.hid hn'
      have Z3 := Lib.hid z3
      rw [maxLen_val] at m2
      clear hc hxk HX hsn hm hn hn' z3 c0 c1 hbel
      obtain ⟨wa, hwa⟩ : ∃ wa, wa = wr.alloc (.cells #[.string x.id, .slice na x.names.length nc] 44) := ⟨_, rfl⟩
      have hba : Below wr.heap.size wr wa := by rw [hwa]; exact (Below.refl _ _).alloc (Nat.le_refl _) _
      have hwas : wa.heap.size = wr.heap.size + 1 := by rw [hwa]; simp
      obtain ⟨wb, hwb⟩ : ∃ wb, wb = wa.alloc (.cells #[.string x.id] 9) := ⟨_, rfl⟩
      have hbb : Below wr.heap.size wr wb := by rw [hwb]; exact hba.alloc (by omega) _
      have hown : wb.ownsRow wa.heap.size 9 1 (.slice (some ⟨wa.heap.size, 0, none⟩) 1 1) 1 [.string x.id] := by rw [hwb]; exact own_fresh wa 9 1 1 [.string x.id] rfl (by decide)
      have hwbs : wa.heap.size < wb.heap.size := by rw [hwb]; simp
      obtain ⟨-, hsn1, hsn2⟩ := strs_news (kept_strs.out (Same.of_below hbb hsz) HN.out)
      have HO := Lib.hid hown
      have HBB := Lib.hid hbb
      have HS1 := Lib.hid hsn1
      have HS2 := Lib.hid hsn2
      clear hown hbb hba hsn1 hsn2
      rw [hwas] at HO hwbs
      subst hwb
      clear hwas
      subst hwa
      have hall : ∀ y ∈ x.id :: x.names, y.size ≤ maxLen := by
        intro y hy
        unfold maxLen
        rcases List.mem_cons.1 hy with rfl | hy
        · omega
        · have := Z3.out y hy; omega
      obtain ⟨J, hJ⟩ : ∃ J, J = Lib.join ((x.id :: x.names).map (·.data.toList)) (⟨#[32]⟩ : ByteArray).data.toList := ⟨_, rfl⟩
      have hJ1 : J ++ [10] = Lk.line x := by rw [hJ, Lk.line_join]
      have hJ2 : J.length ≤ 909 := by
        have h1 := Lk.line_length z1 z2 Z3.out
        rw [← hJ1, List.length_append] at h1
        exact Nat.le_trans (Nat.le_add_right _ _) h1
      have hJs : ((⟨J.toArray⟩ : ByteArray) ++ ⟨#[10]⟩).size ≤ 910 := by
        rw [ba_app]
        show (J ++ [10]).toArray.size ≤ 910
        simp; omega
      have HJs := Lib.hid hJs
      clear hJs
      have HJ := Lib.hid hJ
      have HJ1 := Lib.hid hJ1
      clear hJ hJ1
      go_wp2_with (first
        | (at_builtin; go_loud (refine wpList_append_any rfl _ _ 25 rfl (wr.heap.size + 1) 9 i0 (.string ByteArray.empty) 1 16 Try.underlying25 hi hz0 hz1 hz2 rfl (by decide) _ 1 [.string x.id] rfl HO.out na x.names.length nc (x.names.map Value.string) rfl HS1.out (by simp) HS2.out (by intro u hu; obtain ⟨y, -, rfl⟩ := List.mem_map.1 hu; rfl) (by unfold maxLen; omega) (by omega) (by omega) ?_; intro v' w6 hown' hgrow; have HB6 := Lib.hid (HBB.out.grown hgrow (by omega) (fun j hj => by have e : some (wr.heap.size + 1) = some j := hj; injection e; omega)); obtain ⟨-, fa, fcap, rfl, hr6⟩ := own_strs (show w6.ownsRow (wr.heap.size + 1) 9 1 v' (1 + x.names.length) ((x.id :: x.names).map Value.string) from hown') hall; obtain ⟨-, g1, g2, -, g3⟩ := strs_open hr6; obtain ⟨fb, fo, rfl, fb1, fc⟩ := g3 (by simp); have FC := Lib.hid fc; clear hown' hgrow hr6 g3 fc HO HBB HS2 hwbs))
        | (go_at_call 44; go_loud (refine (Go.Proofs.Try.strings_Join fb fo fcap (x.id :: x.names) ⟨#[32]⟩ w6 (fun j y hy => (FC.out j y hy).2) fb1 (by simp; omega) g1 (by rw [← HJ.out]; omega)).mono ?_; rw [← HJ.out]; rintro e w7 ⟨rfl, b7⟩; have HB7 := Lib.hid (HB6.out.trans (b7.mono HB6.out.size)); clear b7 HB6 FC fb1))
        | (go_at_call 43; go_loud (refine (writeString_any keep _ _ _ _ (HI.out.kept HB7.out.size (fun q hq _ => HB7.out.block q hq)) (by have := HJs.out; simp only [Lib.byteCells, List.length_map]; omega)).mono ?_; rintro e w8 ⟨rfl, hi8, hu8⟩; have HI8 := Lib.hid hi8; have HU8 := Lib.hid hu8; clear hi8 hu8)))
      go_roundw
      case rel =>
        refine ⟨k + 1, by omega, by go_num, ?_, ?_⟩
        · rw [HSN.out, ← HJ1.out]
          have := HI8.out
          rw [ba_app] at this
          simpa [Lib.byteCells, Lib.strCells] using this
        · exact (HU.out.trans (Under.of_below HB7.out (fun q hq => Nat.lt_of_lt_of_le (HBK.out q hq) hsz))).trans HU8.out
      case measure => simp [intOf]; omega
    · have he : k = xs.length := by omega
      subst he
      rw [List.take_of_length_le (Nat.le_refl _)] at HI
      clear HX
      go_wp2_with (go_at_call 45; refine (Go.Proofs.Try.Builder_String_any w.heap.size w.heap.size _ _ (HI.out.lib HKB.out) hsz).mono ?_; rintro e w3 ⟨rfl, b3⟩; have B3 := Lib.hid b3; clear b3)
      go_ret
      exact ⟨rfl, HB.out.trans B3.out⟩
end Go.Proofs.Ytlniiaopindjnaa
