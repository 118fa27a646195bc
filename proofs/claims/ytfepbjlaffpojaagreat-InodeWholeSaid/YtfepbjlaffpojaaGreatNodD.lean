/-
  Layer 8's law: sound, walked: at a table's inodes as they always are it says yes.
-/
import Derived.Test.YtfepbjlaffpojaaGreatNodC
import Derived.Test.YtfepbjlaffpojaaGreatInoV
namespace Go.Proofs.YtfepbjlaffpojaaGreat
set_option linter.unusedVariables false
open Go.RowKit Go.Maps

/-- What 'sound' asks of a list of inodes. -/
structure SoundL (l : List NodeD) : Prop where
  links : ∀ i n, l[i]? = some n → n.links = ((In.cnt l n.id + (if i = 0 then 1 else 0) : Nat) : Int)
  alive : ∀ n ∈ l, 0 < n.links ∨ 0 < n.holds
  asc : ∀ i a b, l[i]? = some a → l[i + 1]? = some b → a.id < b.id
  dirs : ∀ n ∈ l, n.dir = true → n.data.size = 0
  files : ∀ n ∈ l, n.dir = false → n.names = []
  root : ∃ r, l[0]? = some r ∧ r.id = 1 ∧ r.dir = true
  len : l.length ≤ 1000000
  tot : ∀ id, In.cnt l id ≤ 1000000
  sum : In.sum l ≤ 1000000000000000
theorem cnt_step {l : List NodeD} {j : Nat} {y : NodeD} (h : l[j]? = some y) (id : Int) : In.cnt (l.take (j + 1)) id = In.cnt (l.take j) id + In.cntN y.names id := by
  unfold In.cnt
  rw [List.take_add_one, h, List.map_append, List.sum_append]
  simp
theorem cntN_step {d : List (ByteArray × Int)} {k : Nat} {p : ByteArray × Int} (h : d[k]? = some p) (id : Int) : In.cntN (d.take (k + 1)) id = In.cntN (d.take k) id + (if p.2 = id then 1 else 0) := by
  unfold In.cntN
  rw [List.take_add_one, h, List.countP_append]
  by_cases hp : p.2 = id <;> simp [hp]
theorem sum_step {l : List NodeD} {j : Nat} {y : NodeD} (h : l[j]? = some y) : In.sum (l.take (j + 1)) = In.sum (l.take j) + (64 + y.data.size) := by
  unfold In.sum In.cost
  rw [List.take_add_one, h, List.map_append, List.sum_append]
  simp
theorem take_sum_le (l : List NodeD) (f : NodeD → Nat) (j : Nat) : ((l.take j).map f).sum ≤ (l.map f).sum := by
  rw [← List.take_append_drop j l, List.map_append, List.sum_append, List.take_append_drop]
  omega
theorem cnt_part {l : List NodeD} {j : Nat} {y : NodeD} (h : l[j]? = some y) (k : Nat) (id : Int) : In.cnt (l.take j) id + In.cntN (y.names.take k) id ≤ In.cnt l id := by
  have h1 := cnt_step h id
  have h2 : In.cnt (l.take (j + 1)) id ≤ In.cnt l id := take_sum_le l _ _
  have h3 : In.cntN (y.names.take k) id ≤ In.cntN y.names id := (List.take_sublist k y.names).countP_le
  omega
set_option maxHeartbeats 8000000 in
set_option maxRecDepth 100000 in
theorem sound_yes {w : World} {a1 : Option Addr} {n1 c1 : Nat} {l : List NodeD} (h1 : RNodes w w.heap.size [.slice a1 n1 c1] l) (hs : SoundL l) {u : Int} (hu : u = ((In.sum l : Nat) : Int)) :
    Calls Tryz.prog 13 #[.slice a1 n1 c1, .int .i64 u] w fun e w' => e = .returned (.bool true) ∧ Below w.heap.size w w' := by
  obtain ⟨q1, q2, q3, q4⟩ := node_open h1
  obtain ⟨L, hL⟩ : ∃ L, l.length = L := ⟨_, rfl⟩
  have hlen := hs.len
  rw [hL] at q1 hlen
  have q1 := q1.symm
  subst q1
  obtain ⟨r, hr0, hr1, hr2⟩ := hs.root
  have hL0 : 0 < L := by rw [← hL]; exact (List.getElem?_eq_some_iff.1 hr0).1
  obtain ⟨b, o, rfl, hb, G⟩ := q4 hL0
  rw [maxLen_val] at q3
  have HG := Lib.hid G
  have HS := Lib.hid hs
  have HL := Lib.hid hL
  have HR := Lib.hid hr0
  obtain ⟨ra, rc, ⟨r0, r1, -⟩, -⟩ := G 0 r hr0
  rw [hr1] at r0
  rw [hr2] at r1
  simp only [Nat.zero_mul, Nat.add_zero] at r0 r1
  have hr0 := Lib.hid r0
  have hr1 := Lib.hid r1
  obtain ⟨S, hS⟩ : ∃ S, In.sum l = S := ⟨_, rfl⟩
  rw [hS] at hu
  subst hu
  have HSS := Lib.hid hS
  have hSl := hs.sum
  rw [hS] at hSl
  clear h1 hs hL G q4 r0 r1 hS
  go_enter Tryz.func13, Tryz.ntmps13
  go_wp2_with fail
  go_loopw [5, 6] (fun s i W => ∃ i' s', i' ≤ L ∧ i = .int .i64 (i' : Nat) ∧ s = .int .i64 (s' : Nat) ∧ Below w.heap.size w W ∧ Hid (In.sum (l.take i') = s')) (fun _ i _ => L - (intOf i).toNat)
  case atStart => exact ⟨0, 0, by omega, rfl, rfl, Below.refl _ _, Lib.hid rfl⟩
  case round =>
    obtain ⟨i, s, hi, rfl, rfl, hbW, HSI⟩ := hrel
    have HB := Lib.hid hbW
    by_cases hlt : i < L
    · obtain ⟨x, hx⟩ := get_at (show i < l.length by rw [HL.out]; omega)
      have HX := Lib.hid hx
      clear hx hbW
      go_upto_region 7 with fail
      go_loopw [7, 8] (fun c j W => ∃ j' c', j' ≤ L ∧ j = .int .i64 (j' : Nat) ∧ c = .int .i64 (c' : Nat) ∧ Below w.heap.size w W ∧ Hid (In.cnt (l.take j') x.id = c')) (fun _ j _ => L - (intOf j).toNat)
      case atStart => exact ⟨0, 0, by omega, rfl, rfl, HB.out, Lib.hid rfl⟩
      case round =>
        obtain ⟨j, c, hj, rfl, rfl, hbW, HC⟩ := hrel
        have HB := Lib.hid hbW
        by_cases hlj : j < L
        · obtain ⟨y, hy⟩ := get_at (show j < l.length by rw [HL.out]; omega)
          have HY := Lib.hid hy
          clear hy hbW
          obtain ⟨ma, mc, ⟨-, -, -, -, -, e5⟩, E⟩ := HG.out j y HY.out
          obtain ⟨M, hM⟩ : ∃ M, y.names.length = M := ⟨_, rfl⟩
          rw [hM] at E e5
          have HM := Lib.hid hM
          have HE := Lib.hid E
          have He5 := Lib.hid e5
          have hMl : M ≤ 9223372036854775807 := by
            obtain ⟨_, z1, z2, _⟩ := entry_open E
            rw [maxLen_val] at z2
            omega
          clear E e5 hM
          go_upto_region 10 with fail
          go_loopw [7, 9] (fun c k W => ∃ k' c', k' ≤ M ∧ k = .int .i64 (k' : Nat) ∧ c = .int .i64 (c' : Nat) ∧ Below w.heap.size w W ∧ Hid (In.cnt (l.take j) x.id + In.cntN (y.names.take k') x.id = c')) (fun _ k _ => M - (intOf k).toNat)
          case atStart => exact ⟨0, c, by omega, rfl, rfl, HB.out, Lib.hid (by rw [HC.out]; rfl)⟩
          case round =>
            obtain ⟨k, c2, hk, rfl, rfl, hbW, HC2⟩ := hrel
            have HB := Lib.hid hbW
            rename World => wi
            have e5 := (hbW.cell (p := ⟨b, o + j * 6 + 5, none⟩) hb).trans He5.out
            by_cases hlk : k < M
            · obtain ⟨p, hp⟩ := get_at (show k < y.names.length by rw [HM.out]; omega)
              obtain ⟨-, -, -, k1⟩ := entry_open HE.out
              obtain ⟨z1, o3, rfl, hz1, Z1⟩ := k1 (by omega)
              obtain ⟨-, x1⟩ := Z1 k p hp
              have x1 := (hbW.cell (p := ⟨z1, o3 + k * 2 + 1, none⟩) hz1).trans x1
              obtain ⟨_, _, ⟨d0, -⟩, -⟩ := HG.out i x HX.out
              have d0 := (hbW.cell (p := ⟨b, o + i * 6, none⟩) hb).trans d0
              have hst := cntN_step hp x.id
              have hcl : c2 + 1 ≤ 1000001 := by
                have a1 := cnt_part HY.out k x.id
                have a2 := HS.out.tot x.id
                have a3 := HC2.out
                omega
              have hkz : (k : Int) < M := by omega
              have hjz : (j : Int) < L := by omega
              have hiz : (i : Int) < L := by omega
              by_cases hpx : p.2 = x.id
              · have HN := Lib.hid (show In.cnt (l.take j) x.id + In.cntN (y.names.take (k + 1)) x.id = c2 + 1 by rw [hst, if_pos hpx]; have := HC2.out; omega)
                rw [hpx] at x1
                clear Z1 k1 hp hbW hst HC2 hpx
                go_upto_region 12 with fail
                go_quiet (fail)
                go_wp2_with fail
                go_roundw
                case rel => exact ⟨k + 1, c2 + 1, by omega, by go_num, by go_num, HB.out.trans ((below_drewN _ _).mono HB.out.size), HN⟩
                case measure => simp [intOf]; omega
              · have HN := Lib.hid (show In.cnt (l.take j) x.id + In.cntN (y.names.take (k + 1)) x.id = c2 by rw [hst, if_neg hpx]; have := HC2.out; omega)
                have hpf : (p.2 == x.id) = false := beq_eq_false_iff_ne.2 hpx
                clear Z1 k1 hp hbW hst HC2 hpx
                go_upto_region 12 with fail
                go_quiet (fail)
                go_wp2_with fail
                go_roundw
                case rel => exact ⟨k + 1, c2, by omega, by go_num, rfl, HB.out.trans ((below_drewN _ _).mono HB.out.size), HN⟩
                case measure => simp [intOf]; omega
            · obtain rfl : k = M := by omega
              have HN := Lib.hid (show In.cnt (l.take (j + 1)) x.id = c2 by
                have e1 : y.names.take k = y.names := List.take_of_length_le (by rw [HM.out]; omega)
                have e2 := HC2.out
                rw [e1] at e2
                rw [cnt_step HY.out, e2])
              have hjz : (j : Int) < L := by omega
              clear hbW
              go_wp2_with fail
              go_roundw
              case rel => exact ⟨j + 1, c2, by omega, by go_num, rfl, HB.out, HN⟩
              case measure => simp [intOf]; omega
        · obtain rfl : j = L := by omega
          have hc : In.cnt l x.id = c := by
            have := HC.out
            rwa [List.take_of_length_le (by rw [HL.out]; omega)] at this
          obtain ⟨ma, mc, ⟨d0, d1, d2, d3, d4, d5⟩, -⟩ := HG.out i x HX.out
          have d0 := (hbW.cell (p := ⟨b, o + i * 6, none⟩) hb).trans d0
          have d1 := (hbW.cell (p := ⟨b, o + i * 6 + 1, none⟩) hb).trans d1
          have d2 := (hbW.cell (p := ⟨b, o + i * 6 + 2, none⟩) hb).trans d2
          have d3 := (hbW.cell (p := ⟨b, o + i * 6 + 3, none⟩) hb).trans d3
          have d4 := (hbW.cell (p := ⟨b, o + i * 6 + 4, none⟩) hb).trans d4
          have d5 := (hbW.cell (p := ⟨b, o + i * 6 + 5, none⟩) hb).trans d5
          have hlk := HS.out.links i x HX.out
          rw [hc] at hlk
          have hmem := List.mem_of_getElem? HX.out
          have hal := HS.out.alive x hmem
          have hdr := HS.out.dirs x hmem
          have hfl := HS.out.files x hmem
          have hcl : c ≤ 1000000 := by rw [← hc]; exact HS.out.tot x.id
          have hN : In.sum (l.take (i + 1)) = s + (64 + x.data.size) := by rw [sum_step HX.out, HSI.out]
          have hsz : s + (64 + x.data.size) ≤ 1000000000000000 := by
            have h1 : In.sum (l.take (i + 1)) ≤ In.sum l := take_sum_le l _ _
            rw [hN, HSS.out] at h1
            omega
          have hiz : (i : Int) < j := by omega
          clear hc hmem
          cases i with
          | zero =>
            simp only [Nat.zero_mul, Nat.add_zero, if_true] at d0 d1 d2 d3 d4 d5 hlk
            have hp : x.links = (c : Int) + 1 := by rw [hlk]; push_cast; rfl
            rw [hp] at d2
            have f1 : ((c : Int) + 1 == 0) = false := beq_eq_false_iff_ne.2 (by omega)
            clear hlk hp
            cases hd : x.dir with
            | true =>
              rw [hd] at d1
              have hz := hdr hd
              have f2 : decide ((0 : Int) < x.data.size) = false := by rw [hz]; rfl
              clear hdr hfl hd
              have HN := Lib.hid hN
              clear hN hal hbW
              go_upto_region 17 with fail
              go_quiet (fail)
              go_wp2_with fail
              go_roundw
              case rel => exact ⟨0 + 1, s + (64 + x.data.size), by omega, by go_num, by first | go_num | (congr 1; push_cast; omega), HB.out.trans ((below_drewN _ _).mono HB.out.size), HN⟩
              case measure => simp [intOf]; omega
            | false =>
              rw [hd] at d1
              rw [hfl hd] at d5
              simp only [List.length_nil] at d5
              clear hdr hfl hd
              have HN := Lib.hid hN
              clear hN hal hbW
              go_upto_region 17 with fail
              go_quiet (fail)
              go_wp2_with fail
              go_roundw
              case rel => exact ⟨0 + 1, s + (64 + x.data.size), by omega, by go_num, by first | go_num | (congr 1; push_cast; omega), HB.out.trans ((below_drewN _ _).mono HB.out.size), HN⟩
              case measure => simp [intOf]; omega
          | succ i =>
            have hp : x.links = (c : Int) := by rw [hlk]; simp
            rw [hp] at d2
            obtain ⟨z, hz⟩ := get_at (show i < l.length by rw [HL.out]; omega)
            obtain ⟨_, _, ⟨e0, -⟩, -⟩ := HG.out i z hz
            have e0 := (hbW.cell (p := ⟨b, o + i * 6, none⟩) hb).trans e0
            have hac := HS.out.asc i z x hz HX.out
            have f3 : decide (x.id ≤ z.id) = false := decide_eq_false (by omega)
            have f4 : decide ((0 : Int) < (i : Int) + 1) = true := decide_eq_true (by omega)
            have f5 : ((i : Int) + 1 == 0) = false := beq_eq_false_iff_ne.2 (by omega)
            clear hlk hac hz
            by_cases hc0 : c = 0
            · subst hc0
              have f6 : (x.holds == 0) = false := beq_eq_false_iff_ne.2 (by omega)
              clear hp
              cases hd : x.dir with
              | true =>
                rw [hd] at d1
                have hz := hdr hd
                have f2 : decide ((0 : Int) < x.data.size) = false := by rw [hz]; rfl
                clear hdr hfl hd
                have HN := Lib.hid hN
                clear hN hal hbW
                go_upto_region 17 with fail
                go_quiet (fail)
                go_wp2_with fail
                go_roundw
                case rel => exact ⟨i + 1 + 1, s + (64 + x.data.size), by omega, by go_num, by first | go_num | (congr 1; push_cast; omega), HB.out.trans ((below_drewN _ _).mono HB.out.size), HN⟩
                case measure => simp [intOf]; omega
              | false =>
                rw [hd] at d1
                rw [hfl hd] at d5
                simp only [List.length_nil] at d5
                clear hdr hfl hd
                have HN := Lib.hid hN
                clear hN hal hbW
                go_upto_region 17 with fail
                go_quiet (fail)
                go_wp2_with fail
                go_roundw
                case rel => exact ⟨i + 1 + 1, s + (64 + x.data.size), by omega, by go_num, by first | go_num | (congr 1; push_cast; omega), HB.out.trans ((below_drewN _ _).mono HB.out.size), HN⟩
                case measure => simp [intOf]; omega
            · have f6 : ((c : Int) == 0) = false := beq_eq_false_iff_ne.2 (by omega)
              clear hp
              cases hd : x.dir with
              | true =>
                rw [hd] at d1
                have hz := hdr hd
                have f2 : decide ((0 : Int) < x.data.size) = false := by rw [hz]; rfl
                clear hdr hfl hd
                have HN := Lib.hid hN
                clear hN hal hbW
                go_upto_region 17 with fail
                go_quiet (fail)
                go_wp2_with fail
                go_roundw
                case rel => exact ⟨i + 1 + 1, s + (64 + x.data.size), by omega, by go_num, by first | go_num | (congr 1; push_cast; omega), HB.out.trans ((below_drewN _ _).mono HB.out.size), HN⟩
                case measure => simp [intOf]; omega
              | false =>
                rw [hd] at d1
                rw [hfl hd] at d5
                simp only [List.length_nil] at d5
                clear hdr hfl hd
                have HN := Lib.hid hN
                clear hN hal hbW
                go_upto_region 17 with fail
                go_quiet (fail)
                go_wp2_with fail
                go_roundw
                case rel => exact ⟨i + 1 + 1, s + (64 + x.data.size), by omega, by go_num, by first | go_num | (congr 1; push_cast; omega), HB.out.trans ((below_drewN _ _).mono HB.out.size), HN⟩
                case measure => simp [intOf]; omega
    · obtain rfl : i = L := by omega
      have hss : s = S := by
        have := HSI.out
        rw [List.take_of_length_le (by rw [HL.out]; omega), HSS.out] at this
        omega
      subst hss
      have r0 := (hbW.cell (p := ⟨b, o, none⟩) hb).trans hr0.out
      have r1 := (hbW.cell (p := ⟨b, o + 1, none⟩) hb).trans hr1.out
      have hiz : (0 : Int) < i := by omega
      go_wp2_with fail
      go_ret
      exact ⟨rfl, HB.out⟩
end Go.Proofs.YtfepbjlaffpojaaGreat
