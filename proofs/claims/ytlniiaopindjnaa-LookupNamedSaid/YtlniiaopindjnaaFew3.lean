/-
  Few of layers, of a store, in the references. Condition: the arguments read as lists.
-/
import Derived.Test.YtlniiaopindjnaaFew2
namespace Go.Proofs.Ytlniiaopindjnaa
set_option linter.unusedVariables false
open Go.RowKit

def FewLP (ls : List LayerD) (b : Bool) : Prop := b = true → ls.length ≤ 40
set_option maxHeartbeats 2000000 in
theorem ref19_Few_any (a : Option Addr) (n cap : Nat) (xs : List LayerD) (w : World) (B : Nat) (h : RLayers w B [.slice a n cap] xs) :
    Calls Try.prog 28 #[.slice a n cap] w (SomeB (FewLP xs) w) := by
  obtain ⟨rfl, hm1, hm2, -, hx⟩ := layers_open h
  clear h
  rw [maxLen_val] at hm2
  have hx' := Lib.hid hx; clear hx
  go_enter Try.func28, Try.ntmps28
  go_wp2
  go_loop [3] (fun i => ∃ k : Nat, k ≤ xs.length ∧ k ≤ 40 ∧ i = .int .i64 k) (fun i => xs.length - (intOf i).toNat)
  case atStart => exact ⟨0, by omega, by omega, rfl⟩
  case round =>
    obtain ⟨k, hk, hk8, rfl⟩ := hrel
    by_cases hlt : k < xs.length ∧ k < 40
    · obtain ⟨h1, h2⟩ := hlt
      obtain ⟨b, off, rfl, hb, hc⟩ := hx'.out (by omega)
      obtain ⟨s, hs⟩ := get_at h1
      obtain ⟨z1, z2, -, -, -, c1, c2, -⟩ := hc k s hs
      clear hc hx' hs
      rw [maxLen_val] at z1 z2
      by_cases hs1 : s.id.size ≤ 100
      · by_cases hs2 : s.parent.size ≤ 100
        · go_wp2
          go_round
          case rel => exact ⟨k + 1, by omega, by omega, by go_num⟩
          case measure => simp [intOf]; omega
        · go_wp2
          go_ret
          exact ⟨false, rfl, rfl, fun h => by cases h⟩
      · go_wp2
        go_ret
        exact ⟨false, rfl, rfl, fun h => by cases h⟩
    · clear hx'
      go_wp2
      all_goals
        go_ret
        exact ⟨_, rfl, rfl, fun h => by
          have h8 : (xs.length : Int) ≤ 40 := by simpa using h
          omega⟩

def FewSP (s : StoreD) (b : Bool) : Prop := b = true → s.boxes.length ≤ 40 ∧ s.images.length ≤ 40 ∧ s.layers.length ≤ 12 ∧ s.diffs.length ≤ 12 ∧ s.mounts.length ≤ 40 ∧ ∀ x ∈ s.diffs, x.size ≤ 8192
set_option maxRecDepth 100000 in
set_option maxHeartbeats 2000000 in
theorem ref20_Few_any (ba ia la da ma : Option Addr) (bn bc im ic ln lc dn dc mn mc : Nat) (s : StoreD) (w : World) (h : RStore w w.heap.size [.slice ba bn bc, .slice ia im ic, .slice la ln lc, .slice da dn dc, .slice ma mn mc] s) :
    Calls Try.prog 7 #[.agg #[.slice ba bn bc, .slice ia im ic, .slice la ln lc, .slice da dn dc, .slice ma mn mc]] w (SomeBel (FewSP s) w) := by
  obtain ⟨w1, hw1⟩ : ∃ w1, w1 = w.alloc (.cells #[.slice ba bn bc, .slice ia im ic, .slice la ln lc, .slice da dn dc, .slice ma mn mc] 28) := ⟨_, rfl⟩
  have hbx : BoxedAt w w1 [.slice ba bn bc, .slice ia im ic, .slice la ln lc, .slice da dn dc, .slice ma mn mc] := by rw [hw1]; exact BoxedAt.alloc _ _ _
  obtain ⟨bs, is, ls, ds, ms⟩ := s
  obtain ⟨_, _, _, _, _, he, hb, hi, hl, hd, hm⟩ := h
  simp only [List.cons.injEq, and_true] at he
  obtain ⟨rfl, rfl, rfl, rfl, rfl⟩ := he
  dsimp only at hb hi hl hd hm
  obtain ⟨rfl, -, b2, -, -⟩ := boxes_open hb
  obtain ⟨rfl, -, i2, -, -⟩ := images_open hi
  obtain ⟨rfl, -, l2, -, -⟩ := layers_open hl
  obtain ⟨rfl, d1, d2, -, d3⟩ := strs_open (kept_strs.on hbx.below hd)
  obtain ⟨rfl, m1, m2, -, -⟩ := slice_open hm
  have KL := Lib.hid (kept_layers.on hbx.below hl); clear hl
  have KI := Lib.hid (kept_images.on hbx.below hi); clear hi
  have KB := Lib.hid (kept_boxes.on hbx.below hb); clear hb
  have KX := Lib.hid hbx
  clear hbx hd hm
  rw [maxLen_val] at b2 i2 l2 d2 m2
  have d3' := Lib.hid d3; clear d3
  rw [hw1] at d3' KL KI KB KX
  clear hw1
  go_enter Try.func7, Try.ntmps7
  go_upto_block 0 with fail
  go_cut [3] (fun s3 wx => Hid (BoxedAt w wx [.slice ba bs.length bc, .slice ia is.length ic, .slice la ls.length lc, .slice da ds.length dc, .slice ma ms.length mc] ∧ RLayers wx wx.heap.size [.slice la ls.length lc] ls ∧ RImages wx wx.heap.size [.slice ia is.length ic] is ∧ RBoxes wx wx.heap.size [.slice ba bs.length bc] bs ∧ (ds.length ≤ 12 → ∀ x ∈ ds, x.size ≤ 8192)))
  case first =>
    go_wp2_with fail
    go_loop [3] (fun i => ∃ k : Nat, k ≤ ds.length ∧ k ≤ 12 ∧ i = .int .i64 k ∧ ∀ j x, j < k → ds[j]? = some x → x.size ≤ 8192) (fun i => ds.length - (intOf i).toNat)
    case atStart => exact ⟨0, by omega, by omega, rfl, none_before ds⟩
    case round =>
      obtain ⟨k, hk, hk8, rfl, hall⟩ := hrel
      have hall' := Lib.hid hall; clear hall
      by_cases hlt : k < ds.length ∧ k < 12
      · obtain ⟨h1, h2⟩ := hlt
        obtain ⟨b, off, rfl, hb, hc⟩ := d3'.out (by omega)
        obtain ⟨t, hs⟩ := get_at h1
        obtain ⟨hsm, hcell⟩ := hc k t hs
        clear hc d3' KI KB KL KX
        have hs' := Lib.hid hs; clear hs
        rw [maxLen_val] at hsm
        by_cases hsz' : t.size ≤ 8192
        · go_wp2
          go_round
          case rel => exact ⟨k + 1, by omega, by omega, by go_num, grow_all hall'.out hs'.out hsz'⟩
          case measure => simp [intOf]; omega
        · go_wp2
          go_ret
          exact ⟨false, rfl, (Below.refl _ _).alloc (Nat.le_refl _) _, fun h => by cases h⟩
      · clear d3'
        go_wp2_with fail
        all_goals
          go_meet
          exact ⟨KX.out, KL.out, KI.out, KB.out, fun h => all_of hall'.out (by omega)⟩
  case rest =>
    obtain ⟨hbx, KL, KI, KB, hds⟩ := hcut
    clear d3'
    have c0 := hbx.cell 0 _ rfl
    have c1 := hbx.cell 1 _ rfl
    have c2 := hbx.cell 2 _ rfl
    have c3 := hbx.cell 3 _ rfl
    have c4 := hbx.cell 4 _ rfl
    have BX := Lib.hid hbx; clear hbx
    have HL := Lib.hid KL; clear KL
    have HI := Lib.hid KI; clear KI
    have HB := Lib.hid KB; clear KB
    have HD := Lib.hid hds; clear hds
    go_wp2_with (first
      | (go_at_call 27; refine (ref06_Few_any _ _ _ _ _ _ _ _ _ _ _ _ _ _ HL.out HI.out HB.out).mono ?_; rintro e w2 ⟨b, rfl, hb2, hq⟩; have BX2 := Lib.hid (BX.out.on hb2); have HL2 := Lib.hid (kept_layers.on hb2 HL.out); have hq' := Lib.hid hq; have d2 := BX2.out.cell 2 _ rfl; have d3 := BX2.out.cell 3 _ rfl; have d4 := BX2.out.cell 4 _ rfl; clear hb2 hq c0 c1 c2 c3 c4 BX HL HI HB; cases b)
      | (go_at_call 28; refine (ref19_Few_any _ _ _ _ _ _ HL2.out).mono ?_; rintro e w3 ⟨b3, rfl, rfl, -⟩; cases b3))
    all_goals go_ret
    · exact ⟨false, rfl, BX2.out.below, fun h => by cases h⟩
    · exact ⟨false, rfl, BX2.out.below, fun h => by cases h⟩
    · exact ⟨_, rfl, BX2.out.below, fun h => by
        have h8 : (ms.length : Int) ≤ 40 := by simpa using h
        obtain ⟨-, g1, g2⟩ := hq'.out rfl
        exact ⟨g2, g1, by dsimp only; omega, by dsimp only; omega, by dsimp only; omega, HD.out (by omega)⟩⟩
    · exact ⟨false, rfl, BX2.out.below, fun h => by cases h⟩
    · exact ⟨false, rfl, BX2.out.below, fun h => by cases h⟩
end Go.Proofs.Ytlniiaopindjnaa
