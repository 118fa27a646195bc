/-
  Layer 8's document: Same, walked: at two lists of the same inodes it says yes.
-/
import Derived.Test.YtfepbjlaffpojaaGreatNodA
import Derived.BigRegion
import Derived.BigQuiet
namespace Go.Proofs.YtfepbjlaffpojaaGreat
set_option linter.unusedVariables false
open Go.RowKit Go.Maps

theorem node_open {w : World} {B : Nat} {a : Option Addr} {n c : Nat} {l : List NodeD} (h : RNodes w B [.slice a n c] l) : n = l.length ∧ n ≤ c ∧ c ≤ maxLen ∧ (0 < n → ∃ b off, a = some ⟨b, off, none⟩ ∧ b < B ∧ ∀ k x, l[k]? = some x → ∃ na nc, (w.cell? ⟨b, off + k * 6, none⟩ = some (.int .i64 x.id) ∧ w.cell? ⟨b, off + k * 6 + 1, none⟩ = some (.bool x.dir) ∧ w.cell? ⟨b, off + k * 6 + 2, none⟩ = some (.int .i64 x.links) ∧ w.cell? ⟨b, off + k * 6 + 3, none⟩ = some (.int .i64 x.holds) ∧ w.cell? ⟨b, off + k * 6 + 4, none⟩ = some (.string x.data) ∧ w.cell? ⟨b, off + k * 6 + 5, none⟩ = some (.slice na x.names.length nc)) ∧ RSlice 2 REntry w B [.slice na x.names.length nc] x.names) := by
  obtain ⟨h1, h2, h3, _, h5⟩ := slice_open h
  refine ⟨h1, h2, h3, fun h0 => ?_⟩
  obtain ⟨b, off, rfl, hb, hx⟩ := h5 h0
  refine ⟨b, off, rfl, hb, fun k x hk => ?_⟩
  obtain ⟨es, hl, hc, v, rfl, hs⟩ := hx k x hk
  obtain ⟨na, nc, rfl⟩ := slice_form hs
  exact ⟨na, nc, ⟨hc 0 (by omega), hc 1 (by omega), hc 2 (by omega), hc 3 (by omega), hc 4 (by omega), hc 5 (by omega)⟩, hs⟩
theorem entry_open {w : World} {B : Nat} {a : Option Addr} {n c : Nat} {l : List (ByteArray × Int)} (h : RSlice 2 REntry w B [.slice a n c] l) : n = l.length ∧ n ≤ c ∧ c ≤ maxLen ∧ (0 < n → ∃ b off, a = some ⟨b, off, none⟩ ∧ b < B ∧ ∀ k x, l[k]? = some x → w.cell? ⟨b, off + k * 2, none⟩ = some (.string x.1) ∧ w.cell? ⟨b, off + k * 2 + 1, none⟩ = some (.int .i64 x.2)) := by
  obtain ⟨h1, h2, h3, _, h5⟩ := slice_open h
  refine ⟨h1, h2, h3, fun h0 => ?_⟩
  obtain ⟨b, off, rfl, hb, hx⟩ := h5 h0
  refine ⟨b, off, rfl, hb, fun k x hk => ?_⟩
  obtain ⟨es, hl, hc, rfl⟩ := hx k x hk
  exact ⟨hc 0 (by omega), hc 1 (by omega)⟩
theorem two_below (w : World) (A B : Obj) : Below w.heap.size w ((w.alloc A).alloc B).drew := ((((Below.refl _ w).alloc (Nat.le_refl _) A).alloc (by simp) B)).drew
theorem two_rows (w : World) (A B : Array Value) (T : TypeId) : ((w.alloc (.cells A T)).alloc (.cells B T)).drew.heap[w.heap.size]? = some (.cells A T (0, 0)) ∧ ((w.alloc (.cells A T)).alloc (.cells B T)).drew.heap[w.heap.size + 1]? = some (.cells B T (0, 0)) := by
  constructor
  · exact (Below.heap_alloc _ _ w.heap.size (by simp)).trans (heap_alloc_new w _)
  · have := heap_alloc_new (w.alloc (.cells A T)) (.cells B T)
    rw [size_alloc] at this
    exact this
theorem below_drewN (w : World) (n : Nat) : Below w.heap.size w (w.drewN n) := ⟨rfl, rfl, rfl, Nat.le_refl _, fun _ _ => rfl⟩
set_option maxHeartbeats 4000000 in
set_option maxRecDepth 100000 in
theorem Same_yes {w : World} {a1 a2 : Option Addr} {n1 n2 c1 c2 : Nat} {l : List NodeD} (h1 : RNodes w w.heap.size [.slice a1 n1 c1] l) (h2 : RNodes w w.heap.size [.slice a2 n2 c2] l) :
    Calls Tryz.prog 11 #[.slice a1 n1 c1, .slice a2 n2 c2] w fun e w' => e = .returned (.bool true) ∧ Below w.heap.size w w' := by
  obtain ⟨q1, q2, q3, -⟩ := node_open h1
  obtain ⟨p1, p2, p3, -⟩ := node_open h2
  obtain ⟨L, hL⟩ : ∃ L, l.length = L := ⟨_, rfl⟩
  rw [hL] at q1 p1
  have q1 := q1.symm
  have p1 := p1.symm
  subst q1
  subst p1
  rw [maxLen_val] at q3 p3
  have H1 := Lib.hid h1
  have H2 := Lib.hid h2
  have HL := Lib.hid hL
  clear h1 h2 hL
  go_enter Tryz.func11, Tryz.ntmps11
  go_wp2_with fail
  go_loopw [5] (fun i W => ∃ k, k ≤ L ∧ i = .int .i64 k ∧ Below w.heap.size w W) (fun i _ => L - (intOf i).toNat)
  case atStart => exact ⟨0, by omega, rfl, Below.refl _ _⟩
  case round =>
    obtain ⟨k, hk, rfl, hbW⟩ := hrel
    by_cases hlt : k < L
    · obtain ⟨x, hx⟩ := get_at (show k < l.length by rw [HL.out]; omega)
      obtain ⟨-, -, -, g1⟩ := node_open (kept_nodes.out (Same.of_below hbW (Nat.le_refl _)) H1.out)
      obtain ⟨-, -, -, g2⟩ := node_open (kept_nodes.out (Same.of_below hbW (Nat.le_refl _)) H2.out)
      obtain ⟨b1, o1, rfl, hb1, G1⟩ := g1 (by omega)
      obtain ⟨b2, o2, rfl, hb2, G2⟩ := g2 (by omega)
      obtain ⟨na1, nc1, ⟨d0, d1, d2, d3, d4, d5⟩, D⟩ := G1 k x hx
      obtain ⟨na2, nc2, ⟨e0, e1, e2, e3, e4, e5⟩, E⟩ := G2 k x hx
      have HD := Lib.hid D
      have HE := Lib.hid E
      have HB := Lib.hid hbW
      have hkz : (k : Int) < L := by omega
      have sz := hbW.size
      have l1 : b1 < wr.heap.size := by omega
      have l2 : b2 < wr.heap.size := by omega
      clear D E G1 G2 g1 g2 hx hbW
      go_upto_region 6 with fail
      go_region
      · have HB6 := Lib.hid (two_below wr (.cells #[.int .i64 x.id, .bool x.dir, .int .i64 x.links, .int .i64 x.holds, .string x.data, .slice na1 x.names.length nc1] 73) (.cells #[.int .i64 x.id, .bool x.dir, .int .i64 x.links, .int .i64 x.holds, .string x.data, .slice na2 x.names.length nc2] 73))
        have R := Lib.hid (two_rows wr #[.int .i64 x.id, .bool x.dir, .int .i64 x.links, .int .i64 x.holds, .string x.data, .slice na1 x.names.length nc1] #[.int .i64 x.id, .bool x.dir, .int .i64 x.links, .int .i64 x.holds, .string x.data, .slice na2 x.names.length nc2] 73)
        generalize ((wr.alloc _).alloc _).drew = w6 at HB6 R ⊢
        obtain ⟨p1, hp1⟩ : ∃ p1, wr.heap.size = p1 := ⟨_, rfl⟩
        obtain ⟨p2, hp2⟩ : ∃ p2, wr.heap.size + 1 = p2 := ⟨_, rfl⟩
        rw [hp2, hp1] at R ⊢
        clear d0 d1 d2 d3 d4 d5 e0 e1 e2 e3 e4 e5
        obtain ⟨M, hM⟩ : ∃ M, x.names.length = M := ⟨_, rfl⟩
        have hM0 : M ≤ 9223372036854775807 := by
          obtain ⟨_, z1, z2, _⟩ := entry_open HD.out
          rw [maxLen_val] at z2
          omega
        rw [hM] at R HD HE ⊢
        have HMM := Lib.hid hM
        have K1 := Lib.hid ((kept_slice kept_entry).go (Same.of_below HB6.out sz) (Nat.le_trans sz HB6.out.size) HD.out)
        have K2 := Lib.hid ((kept_slice kept_entry).go (Same.of_below HB6.out sz) (Nat.le_trans sz HB6.out.size) HE.out)
        have m0 := cell_row R.out.1 0
        have m1 := cell_row R.out.1 1
        have m2 := cell_row R.out.1 2
        have m3 := cell_row R.out.1 3
        have m4 := cell_row R.out.1 4
        have m5 := cell_row R.out.1 5
        have q0 := cell_row R.out.2 0
        have q1 := cell_row R.out.2 1
        have q2 := cell_row R.out.2 2
        have q3 := cell_row R.out.2 3
        have q4 := cell_row R.out.2 4
        have q5 := cell_row R.out.2 5
        simp only [List.getElem?_toArray, List.getElem?_cons_zero, List.getElem?_cons_succ] at m0 m1 m2 m3 m4 m5 q0 q1 q2 q3 q4 q5
        clear hM
        go_upto_region 10 with fail
        go_loopw [8] (fun i W => ∃ j, j ≤ M ∧ i = .int .i64 j ∧ Below w6.heap.size w6 W) (fun i _ => M - (intOf i).toNat)
        case atStart => exact ⟨0, by omega, rfl, Below.refl _ _⟩
        case round =>
          obtain ⟨j, hj, rfl, hbi⟩ := hrel
          rename World => wi
          have lt1 := lt_of_get R.out.1
          have lt2 := lt_of_get R.out.2
          have m5 := (hbi.cell (p := ⟨p1, 5, none⟩) lt1).trans m5
          have q5 := (hbi.cell (p := ⟨p2, 5, none⟩) lt2).trans q5
          by_cases hlj : j < M
          · obtain ⟨y, hy⟩ := get_at (show j < x.names.length by rw [HMM.out]; omega)
            obtain ⟨-, -, -, k1⟩ := entry_open ((kept_slice kept_entry).out (Same.of_below hbi (Nat.le_refl _)) K1.out)
            obtain ⟨-, -, -, k2⟩ := entry_open ((kept_slice kept_entry).out (Same.of_below hbi (Nat.le_refl _)) K2.out)
            obtain ⟨z1, o3, rfl, hz1, Z1⟩ := k1 (by omega)
            obtain ⟨z2, o4, rfl, hz2, Z2⟩ := k2 (by omega)
            obtain ⟨x0, x1⟩ := Z1 j y hy
            obtain ⟨y0, y1⟩ := Z2 j y hy
            have HBI := Lib.hid hbi
            have hjz : (j : Int) < M := by omega
            clear Z1 Z2 k1 k2 hy hbi m0 m1 m2 m3 m4 q0 q1 q2 q3 q4
            go_upto_region 12 with fail
            go_quiet (fail)
            go_wp2_with fail
            go_roundw
            case rel => exact ⟨j + 1, by omega, by go_num, HBI.out.trans ((below_drewN _ _).mono HBI.out.size)⟩
            case measure => simp [intOf]; omega
          · obtain rfl : j = M := by omega
            have HBI := Lib.hid hbi
            clear m0 m1 m2 m3 m4 q0 q1 q2 q3 q4 hbi
            go_wp2_with fail
            go_roundw
            case rel => exact ⟨k + 1, by omega, by go_num, HB.out.trans ((HB6.out.mono sz).trans (HBI.out.mono (Nat.le_trans sz HB6.out.size)))⟩
            case measure => simp [intOf]; omega
      · have HB6 := Lib.hid (two_below wr (.cells #[.int .i64 x.id, .bool x.dir, .int .i64 x.links, .int .i64 x.holds, .string x.data, .slice na2 x.names.length nc2] 73) (.cells #[.int .i64 x.id, .bool x.dir, .int .i64 x.links, .int .i64 x.holds, .string x.data, .slice na1 x.names.length nc1] 73))
        have R := Lib.hid (two_rows wr #[.int .i64 x.id, .bool x.dir, .int .i64 x.links, .int .i64 x.holds, .string x.data, .slice na2 x.names.length nc2] #[.int .i64 x.id, .bool x.dir, .int .i64 x.links, .int .i64 x.holds, .string x.data, .slice na1 x.names.length nc1] 73)
        generalize ((wr.alloc _).alloc _).drew = w6 at HB6 R ⊢
        obtain ⟨p1, hp1⟩ : ∃ p1, wr.heap.size = p1 := ⟨_, rfl⟩
        obtain ⟨p2, hp2⟩ : ∃ p2, wr.heap.size + 1 = p2 := ⟨_, rfl⟩
        rw [hp2, hp1] at R ⊢
        clear d0 d1 d2 d3 d4 d5 e0 e1 e2 e3 e4 e5
        obtain ⟨M, hM⟩ : ∃ M, x.names.length = M := ⟨_, rfl⟩
        have hM0 : M ≤ 9223372036854775807 := by
          obtain ⟨_, z1, z2, _⟩ := entry_open HD.out
          rw [maxLen_val] at z2
          omega
        rw [hM] at R HD HE ⊢
        have HMM := Lib.hid hM
        have K1 := Lib.hid ((kept_slice kept_entry).go (Same.of_below HB6.out sz) (Nat.le_trans sz HB6.out.size) HD.out)
        have K2 := Lib.hid ((kept_slice kept_entry).go (Same.of_below HB6.out sz) (Nat.le_trans sz HB6.out.size) HE.out)
        have m0 := cell_row R.out.1 0
        have m1 := cell_row R.out.1 1
        have m2 := cell_row R.out.1 2
        have m3 := cell_row R.out.1 3
        have m4 := cell_row R.out.1 4
        have m5 := cell_row R.out.1 5
        have q0 := cell_row R.out.2 0
        have q1 := cell_row R.out.2 1
        have q2 := cell_row R.out.2 2
        have q3 := cell_row R.out.2 3
        have q4 := cell_row R.out.2 4
        have q5 := cell_row R.out.2 5
        simp only [List.getElem?_toArray, List.getElem?_cons_zero, List.getElem?_cons_succ] at m0 m1 m2 m3 m4 m5 q0 q1 q2 q3 q4 q5
        clear hM
        go_upto_region 10 with fail
        go_loopw [8] (fun i W => ∃ j, j ≤ M ∧ i = .int .i64 j ∧ Below w6.heap.size w6 W) (fun i _ => M - (intOf i).toNat)
        case atStart => exact ⟨0, by omega, rfl, Below.refl _ _⟩
        case round =>
          obtain ⟨j, hj, rfl, hbi⟩ := hrel
          rename World => wi
          have lt1 := lt_of_get R.out.1
          have lt2 := lt_of_get R.out.2
          have m5 := (hbi.cell (p := ⟨p1, 5, none⟩) lt1).trans m5
          have q5 := (hbi.cell (p := ⟨p2, 5, none⟩) lt2).trans q5
          by_cases hlj : j < M
          · obtain ⟨y, hy⟩ := get_at (show j < x.names.length by rw [HMM.out]; omega)
            obtain ⟨-, -, -, k1⟩ := entry_open ((kept_slice kept_entry).out (Same.of_below hbi (Nat.le_refl _)) K1.out)
            obtain ⟨-, -, -, k2⟩ := entry_open ((kept_slice kept_entry).out (Same.of_below hbi (Nat.le_refl _)) K2.out)
            obtain ⟨z1, o3, rfl, hz1, Z1⟩ := k1 (by omega)
            obtain ⟨z2, o4, rfl, hz2, Z2⟩ := k2 (by omega)
            obtain ⟨x0, x1⟩ := Z1 j y hy
            obtain ⟨y0, y1⟩ := Z2 j y hy
            have HBI := Lib.hid hbi
            have hjz : (j : Int) < M := by omega
            clear Z1 Z2 k1 k2 hy hbi m0 m1 m2 m3 m4 q0 q1 q2 q3 q4
            go_upto_region 12 with fail
            go_quiet (fail)
            go_wp2_with fail
            go_roundw
            case rel => exact ⟨j + 1, by omega, by go_num, HBI.out.trans ((below_drewN _ _).mono HBI.out.size)⟩
            case measure => simp [intOf]; omega
          · obtain rfl : j = M := by omega
            have HBI := Lib.hid hbi
            clear m0 m1 m2 m3 m4 q0 q1 q2 q3 q4 hbi
            go_wp2_with fail
            go_roundw
            case rel => exact ⟨k + 1, by omega, by go_num, HB.out.trans ((HB6.out.mono sz).trans (HBI.out.mono (Nat.le_trans sz HB6.out.size)))⟩
            case measure => simp [intOf]; omega
    · obtain rfl : k = L := by omega
      go_wp2_with fail
      go_ret
      exact ⟨rfl, hbW⟩
end Go.Proofs.YtfepbjlaffpojaaGreat
