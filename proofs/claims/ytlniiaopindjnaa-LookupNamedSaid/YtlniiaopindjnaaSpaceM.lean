/-
  Layer 39: Records, and the map of diffs, walked.
-/
import Derived.Test.YtlniiaopindjnaaFew3
import Derived.Test.YtlniiaopindjnaaSpaceW
import Derived.Test.YtlniiaopindjnaaSpaceS
import Derived.Maps.OwnSet
import Derived.Maps.OwnOps
import Derived.Maps.RangeWalk
import Derived.Maps.StringElems
namespace Go.Proofs.Ytlniiaopindjnaa
set_option linter.unusedVariables false
open Go.RowKit Go.Maps Go.WideMaps

def recs (s : StoreD) : Int := ((s.boxes.length + s.images.length + s.layers.length : Nat) : Int)
def sdd (s : StoreD) : List (List UInt8) := Sp.dd (Sp.ld s.layers.length (s.diffs.map (·.data.toList)))
def blobsOf (s : StoreD) : Int := ((sdd s).length : Int)
def mostOf (s : StoreD) : Int := 4096 + 2048 * recs s + 64 * (s.mounts.length : Int) + (Sp.weight (sdd s) : Int)
def FewS (s : StoreD) : Prop := s.boxes.length ≤ 40 ∧ s.images.length ≤ 40 ∧ s.layers.length ≤ 12 ∧ s.diffs.length ≤ 12 ∧ s.mounts.length ≤ 40 ∧ ∀ x ∈ s.diffs, x.size ≤ 8192
def RInt64 (n : Int) (w : World) (e : Ending) (w' : World) : Prop := e = .returned (.int .i64 n) ∧ Below w.heap.size w w'

/-- A store's reading, opened to what the walks of layer 39 look at: lengths, and the diffs' cells. -/
theorem store_open {w : World} {B : Nat} {ba ia la da ma : Option Addr} {bn bc im ic ln lc dn dc mn mc : Nat} {s : StoreD} (h : RStore w B [.slice ba bn bc, .slice ia im ic, .slice la ln lc, .slice da dn dc, .slice ma mn mc] s) :
    bn = s.boxes.length ∧ im = s.images.length ∧ ln = s.layers.length ∧ dn = s.diffs.length ∧ mn = s.mounts.length ∧
    (0 < dn → ∃ b off, da = some ⟨b, off, none⟩ ∧ b < B ∧ ∀ k t, s.diffs[k]? = some t → t.size ≤ maxLen ∧ w.cell? ⟨b, off + k, none⟩ = some (.string t)) := by
  obtain ⟨_, _, _, _, _, he, hb, hi, hl, hd, hm⟩ := h
  simp only [List.cons.injEq, and_true] at he
  obtain ⟨rfl, rfl, rfl, rfl, rfl⟩ := he
  obtain ⟨d0, d1, d2, -, d3⟩ := strs_open hd
  exact ⟨(slice_open hb).1, (slice_open hi).1, (slice_open hl).1, d0, (slice_open hm).1, d3⟩

section
variable (ba ia la da ma : Option Addr) (bn bc im ic ln lc dn dc mn mc : Nat) (s : StoreD) (w : World)
set_option maxHeartbeats 400000 in
theorem space_Records_any (h : RStore w w.heap.size [.slice ba bn bc, .slice ia im ic, .slice la ln lc, .slice da dn dc, .slice ma mn mc] s) (hf : FewS s) :
    Calls Try.prog 15 #[.agg #[.slice ba bn bc, .slice ia im ic, .slice la ln lc, .slice da dn dc, .slice ma mn mc]] w (RInt64 (recs s) w) := by
  obtain ⟨rfl, rfl, rfl, -, -, -⟩ := store_open h
  obtain ⟨f1, f2, f3, -⟩ := hf
  clear h
  go_enter Try.func15, Try.ntmps15
  go_wp2
  go_ret
  exact ⟨ret_int (by unfold recs; omega), (Below.refl _ _).alloc (Nat.le_refl _) _⟩
set_option maxHeartbeats 400000 in
theorem ref39_Records_any (h : RStore w w.heap.size [.slice ba bn bc, .slice ia im ic, .slice la ln lc, .slice da dn dc, .slice ma mn mc] s) (hf : FewS s) :
    Calls Try.prog 16 #[.agg #[.slice ba bn bc, .slice ia im ic, .slice la ln lc, .slice da dn dc, .slice ma mn mc]] w (RInt64 (recs s) w) := by
  obtain ⟨rfl, rfl, rfl, -, -, -⟩ := store_open h
  obtain ⟨f1, f2, f3, -⟩ := hf
  clear h
  go_enter Try.func16, Try.ntmps16
  go_wp2
  go_ret
  exact ⟨ret_int (by unfold recs; omega), (Below.refl _ _).alloc (Nat.le_refl _) _⟩

theorem key_law : Keyed Try.prog 9 := string_keyed Try.underlying9
theorem zero_int (w : World) : (zeroValue 3).run Try.prog w = .ok (.int .i64 0) w := by kernel_rfl

/-- What a map of diffs holds: just these keys. -/
def Holds (D : DataW Unit) (ks : List (List UInt8)) : Prop := (∀ x : List UInt8, Maps.has D (.string x) = decide (x ∈ ks)) ∧ Maps.size D = ks.length
def DiffsPost (s : StoreD) (w : World) (e : Ending) (w' : World) : Prop :=
  ∃ (bm n : Nat) (D : DataW Unit), e = .returned (.map (some bm)) ∧ w.heap.size ≤ bm ∧ w'.ownsMap Try.prog 9 (plainElem Try.prog 3) bm n D ∧ n ≤ 12 ∧ Below w.heap.size w w' ∧ Holds D (sdd s)

theorem holds_none : Holds (.map []) [] := ⟨fun x => by simp [Maps.has], rfl⟩
theorem holds_put {D : DataW Unit} {ks : List (List UInt8)} (h : Holds D ks) (ht : Tidy D) (x : List UInt8) (d : DataW Unit) : Holds (D.put (.string x) d) (Sp.once ks x) := by
  refine ⟨fun y => ?_, ?_⟩
  · by_cases hy : y = x
    · subst hy
      rw [Maps.has_put_same ht.isMap (by trivial)]
      have : y ∈ Sp.once ks y := Sp.mem_once.2 (.inr rfl)
      simp [this]
    · rw [Maps.has_put_other (by simpa using hy), h.1 y]
      have : y ∈ Sp.once ks x ↔ y ∈ ks := by rw [Sp.mem_once]; simp [hy]
      simp [this]
  · rw [Maps.size_put ht, h.1 x, h.2, Sp.once_length]
    by_cases hx : x ∈ ks <;> simp [hx]
theorem getD_diffs {s : StoreD} {k : Nat} {t : ByteArray} (h : s.diffs[k]? = some t) : (s.diffs.map (·.data.toList)).getD k [] = t.data.toList := by
  simp [List.getD, h]
theorem getD_beyond {s : StoreD} {k : Nat} (h : s.diffs.length ≤ k) : (s.diffs.map (·.data.toList)).getD k [] = [] := by
  simp [List.getD, List.getElem?_eq_none h]

set_option maxRecDepth 100000 in
set_option maxHeartbeats 1000000 in
theorem space_diffs_any (h : RStore w w.heap.size [.slice ba bn bc, .slice ia im ic, .slice la ln lc, .slice da dn dc, .slice ma mn mc] s) (hf : FewS s) :
    Calls Try.prog 31 #[.agg #[.slice ba bn bc, .slice ia im ic, .slice la ln lc, .slice da dn dc, .slice ma mn mc]] w (DiffsPost s w) := by
  have hbx : BoxedAt w (w.alloc (.cells #[.slice ba bn bc, .slice ia im ic, .slice la ln lc, .slice da dn dc, .slice ma mn mc] 28)) [.slice ba bn bc, .slice ia im ic, .slice la ln lc, .slice da dn dc, .slice ma mn mc] := BoxedAt.alloc _ _ _
  obtain ⟨rfl, rfl, rfl, rfl, rfl, hd⟩ := store_open h
  obtain ⟨f1, f2, f3, f4, -⟩ := hf
  have HD := Lib.hid hd; clear hd h
  have BX := Lib.hid hbx; clear hbx
  have hmm := @run_makeMap Try.prog
  go_enter Try.func31, Try.ntmps31
  go_wp2
  go_loopw [9] (fun i wr => ∃ k : Nat, k ≤ s.layers.length ∧ i = .int .i64 k ∧ (∃ D : DataW Unit, wr.ownsMap Try.prog 9 (plainElem Try.prog 3) (w.heap.size + 1) k D ∧ Holds D (Sp.dd (Sp.ld k (s.diffs.map (·.data.toList))))) ∧ BoxedAt w wr [.slice ba s.boxes.length bc, .slice ia s.images.length ic, .slice la s.layers.length lc, .slice da s.diffs.length dc, .slice ma s.mounts.length mc])
    (fun i _ => s.layers.length - (intOf i).toNat)
  case atStart => exact ⟨0, Nat.zero_le _, rfl, ⟨.map [], by simpa using World.ownsMap_made (w.alloc _) _ _ _, holds_none⟩, BX.out.on ((Below.refl _ _).alloc (Nat.le_refl _) _)⟩
  case round =>
    obtain ⟨k, hk, rfl, ⟨D, hown, hh⟩, hbx⟩ := hrel
    have BX' := Lib.hid hbx
    have HH := Lib.hid hh
    have c3 := hbx.cell 3 _ rfl
    have hsz := hbx.size
    clear hh BX hbx
    by_cases hlt : k < s.layers.length
    · by_cases hkd : k < s.diffs.length
      · obtain ⟨b, off, rfl, hb, hc⟩ := HD.out (by omega)
        obtain ⟨t, ht⟩ := get_at hkd
        obtain ⟨t1, t2⟩ := hc k t ht
        have t3 : wr.cell? ⟨b, off + k, none⟩ = some (.string t) := (BX'.out.below.cell (p := ⟨b, off + k, none⟩) hb).trans t2
        have HT := Lib.hid ht
        have T1 := Lib.hid t1
        clear hc ht HD t2 t1
        go_wp2_with (first
          | (at_lookup; refine wpList_lookup_own_int _ rfl _ _ 57 rfl 9 3 .i64 key_law Try.underlying57 Try.underlying3 (zero_int _) (w.heap.size + 1) k _ rfl hown _ _ rfl (keyOf_string_mk Try.underlying9 T1.out) ?_; intro c hat hwc)
          | (at_mapUpdate; refine wpList_mapUpdate_own _ rfl _ _ _ 57 rfl 9 3 key_law Try.underlying57 _ (w.heap.size + 1) k _ rfl hown (by unfold maxLen; omega) _ _ _ rfl rfl (keyOf_string_mk Try.underlying9 T1.out) _ [] (plainElem_int Try.underlying3 (wrap64_wf _)) ?_; intro w1 hown1 hgrow1))
        have HO := Lib.hid hown1
        have HG := Lib.hid hgrow1
        have TD := Lib.hid (hown.tidy key_law)
        clear hown1 hgrow1 hown
        go_wp2
        go_roundw
        case rel => exact ⟨k + 1, by omega, by go_num, ⟨_, HO.out, by rw [Sp.dd_ld_succ, getD_diffs HT.out]; exact holds_put HH.out TD.out _ _⟩, BX'.out.grown HG.out (fun j hj => by cases hj; omega)⟩
        case measure => simp [intOf]; omega
      · clear HD
        go_wp2_with (first
          | (at_lookup; refine wpList_lookup_own_int _ rfl _ _ 57 rfl 9 3 .i64 key_law Try.underlying57 Try.underlying3 (zero_int _) (w.heap.size + 1) k _ rfl hown _ _ rfl (keyOf_string_mk Try.underlying9 (by simp [ByteArray.size])) ?_; intro c hat hwc)
          | (at_mapUpdate; refine wpList_mapUpdate_own _ rfl _ _ _ 57 rfl 9 3 key_law Try.underlying57 _ (w.heap.size + 1) k _ rfl hown (by unfold maxLen; omega) _ _ _ rfl rfl (keyOf_string_mk Try.underlying9 (by simp [ByteArray.size])) _ [] (plainElem_int Try.underlying3 (wrap64_wf _)) ?_; intro w1 hown1 hgrow1))
        have HO := Lib.hid hown1
        have HG := Lib.hid hgrow1
        have TD := Lib.hid (hown.tidy key_law)
        clear hown1 hgrow1 hown
        go_wp2
        go_roundw
        case rel => exact ⟨k + 1, by omega, by go_num, ⟨_, HO.out, by rw [Sp.dd_ld_succ, getD_beyond (by omega)]; exact holds_put HH.out TD.out _ _⟩, BX'.out.grown HG.out (fun j hj => by cases hj; omega)⟩
        case measure => simp [intOf]; omega
    · have he : k = s.layers.length := by omega
      subst he
      clear HD
      go_wp2
      go_ret
      exact ⟨w.heap.size + 1, s.layers.length, D, rfl, by omega, hown, by omega, BX'.out.below, HH.out⟩
end
end Go.Proofs.Ytlniiaopindjnaa
