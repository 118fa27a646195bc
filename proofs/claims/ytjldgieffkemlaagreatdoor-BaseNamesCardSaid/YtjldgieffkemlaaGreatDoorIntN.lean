/-
  Layer 29: names of intents, whose they are, and to which database a file belongs: walked.
-/
import Derived.Test.YtjldgieffkemlaaGreatDoorNumW
import Derived.Lib.IndexLaws
import Derived.Lib.IndexMore
namespace Go.Proofs.YtjldgieffkemlaaGreatDoor
set_option linter.unusedVariables false
set_option linter.unusedSimpArgs false
open Go.RowKit
open Go.Lib hiding intOf

def Nu.own2 (a b : Int × Bool) : Int × Int × Bool := if a.2 && b.2 then (a.1, b.1, true) else (0, 0, false)
def Nu.owner (l : List UInt8) : Int × Int × Bool := Nu.own2 (Nu.count (Lib.cut l [46]).1) (Nu.count (Lib.cut l [46]).2.1)
theorem Nu.count_nil : Nu.count [] = (0, false) := by decide
theorem Nu.own2_no (a b : Int × Bool) (h : b.2 = false) : Nu.own2 a b = (0, 0, false) := by unfold Nu.own2; rw [h]; simp
theorem cut_le (l sep : List UInt8) : (Lib.cut l sep).1.length ≤ l.length ∧ (Lib.cut l sep).2.1.length ≤ l.length := by
  unfold Lib.cut
  split
  · simp only [List.length_take, List.length_drop]; omega
  · simp
set_option maxHeartbeats 1000000 in
theorem intent_Owner_any (s : ByteArray) (w : World) (hs : s.size ≤ 1000000) (ht : Tabs w) :
    Calls Tryz.prog 6 #[.string s] w fun e w' => e = .returned (.tuple #[.int .i64 (Nu.owner s.data.toList).1, .int .i64 (Nu.owner s.data.toList).2.1, .bool (Nu.owner s.data.toList).2.2]) ∧ Below w.heap.size w w' := by
  obtain ⟨m, hm⟩ := ht.most
  have HC := Lib.hid (Tryz.strings_Cut s ⟨#[46]⟩ m w (by omega) hm)
  obtain ⟨h1, h2⟩ := cut_le s.data.toList [46]
  have hl : s.data.toList.length = s.size := rfl
  unfold Nu.owner
  change Hid (Calls Tryz.prog 26 #[.string s, .string ⟨#[46]⟩] w fun e w' => e = .returned (.tuple #[.string ⟨(Lib.cut s.data.toList [46]).1.toArray⟩, .string ⟨(Lib.cut s.data.toList [46]).2.1.toArray⟩, .bool (Lib.cut s.data.toList [46]).2.2]) ∧ ∃ n, w' = w.drewN n) at HC
  generalize Lib.cut s.data.toList [46] = c at HC h1 h2 ⊢
  obtain ⟨a, b, f⟩ := c
  simp only at HC h1 h2 ⊢
  have HA := Lib.hid (fun (W : World) (hb : Below w.heap.size w W) => intent_number_any ⟨a.toArray⟩ W (by rw [str_size]; omega) (ht.on hb))
  have HB := Lib.hid (fun (W : World) (hb : Below w.heap.size w W) => intent_number_any ⟨b.toArray⟩ W (by rw [str_size]; omega) (ht.on hb))
  simp only at HA HB
  obtain ⟨⟨na, oa⟩, ha⟩ : ∃ R, Nu.count a = R := ⟨_, rfl⟩
  obtain ⟨⟨nb, ob⟩, hb⟩ : ∃ R, Nu.count b = R := ⟨_, rfl⟩
  rw [ha] at HA
  rw [hb] at HB
  rw [ha, hb]
  generalize (⟨a.toArray⟩ : ByteArray) = A at HA HC
  generalize (⟨b.toArray⟩ : ByteArray) = B at HB HC
  clear ht hm ha hb h1 h2 hl
  cases oa <;> cases ob <;>
  · go_enter Tryz.func6, Tryz.ntmps6
    go_upto_region 3 with (first
      | (go_at_call 26; refine HC.out.mono ?_; rintro e w1 ⟨rfl, n, rfl⟩)
      | (go_at_call 27; refine (HA.out (w.drewN n) (below_drew (Below.refl _ _) n)).mono ?_; rintro e w2 ⟨rfl, hb⟩; have HW2 := Lib.hid ((below_drew (Below.refl w.heap.size w) n).trans (hb.mono (Nat.le_refl _))); clear hb))
    go_wp2_with (go_at_call 27; refine (HB.out w2 HW2.out).mono ?_; rintro e w3 ⟨rfl, hb⟩; have HW3 := Lib.hid (HW2.out.trans (hb.mono HW2.out.size)); clear hb)
    go_ret3
    exact ⟨rfl, HW3.out⟩
theorem occ_one (l : List UInt8) (i : Nat) : Lib.occAt l [46] i = (l[i]? == some 46) := by
  unfold Lib.occAt
  cases h : l.drop i with
  | nil => rw [List.drop_eq_nil_iff] at h; rw [List.getElem?_eq_none h]; rfl
  | cons c r =>
    have e : l[i]? = some c := by rw [← List.head?_drop, h]; rfl
    rw [e]
    simp only [List.isPrefixOf, Bool.and_true]
    by_cases hc : c = 46
    · subst hc; rfl
    · rw [beq_eq_false_iff_ne.2 (fun e => hc e.symm), beq_eq_false_iff_ne.2 (fun e => hc (Option.some.inj e))]
theorem cut_at {l : List UInt8} {i : Nat} (h : Lib.NoOcc l [46] i) (hi : l[i]? = some 46) : Lib.cut l [46] = (l.take i, l.drop (i + 1), true) := by
  have hlt := (List.getElem?_eq_some_iff.1 hi).1
  have e := Lib.index_hit h (by omega) (by rw [occ_one, hi]; rfl)
  unfold Lib.cut
  rw [e, if_pos (by omega)]
  rfl
theorem cut_no {l : List UInt8} (h : Lib.NoOcc l [46] l.length) : Lib.cut l [46] = (l, [], false) := by
  have e := Lib.index_past (sub := [46]) (by simp) h (by simp)
  unfold Lib.cut
  rw [e, if_neg (by decide)]
theorem ret_own {a b : Int × Int × Bool} (h : a = b) : Ending.returned (.tuple #[.int .i64 a.1, .int .i64 a.2.1, .bool a.2.2]) = .returned (.tuple #[.int .i64 b.1, .int .i64 b.2.1, .bool b.2.2]) := by rw [h]
set_option maxHeartbeats 1000000 in
theorem ref29_Owner_any (s : ByteArray) (w : World) (hs : s.size ≤ 1000000) :
    Calls Tryz.prog 7 #[.string s] w fun e w' => e = .returned (.tuple #[.int .i64 (Nu.owner s.data.toList).1, .int .i64 (Nu.owner s.data.toList).2.1, .bool (Nu.owner s.data.toList).2.2]) ∧ Below w.heap.size w w' := by
  obtain ⟨R, hR⟩ : ∃ R, Nu.owner s.data.toList = R := ⟨_, rfl⟩
  rw [hR]
  have HR := Lib.hid hR
  clear hR
  go_enter Tryz.func7, Tryz.ntmps7
  go_wp2_with fail
  go_loop [5] (fun si => ∃ i : Nat, i ≤ s.size ∧ si = .int .i64 (i : Nat) ∧ Hid (Lib.NoOcc s.data.toList [46] i)) (fun si => s.size - (intOf si).toNat)
  case atStart => exact ⟨0, by omega, rfl, Lib.hid (Lib.NoOcc.zero _ _)⟩
  case round =>
    obtain ⟨i, hi, rfl, HN⟩ := hrel
    by_cases hlt : i < s.size
    · obtain ⟨c, hc⟩ : ∃ c, s.data.toList[i]? = some c := ⟨s[i]'hlt, Lib.data_getElem? s i hlt⟩
      have hak : ∀ h, s[i]'h = c := fun h => by
        have h2 := Lib.data_getElem? s i h
        rw [hc] at h2
        injection h2 with h2
        exact h2.symm
      have hcl := c.toNat_lt
      by_cases hm : c.toNat = 46
      · have e46 : c = 46 := UInt8.toNat_inj.1 hm
        have hcut := cut_at HN.out (by rw [hc, e46])
        have hl : s.data.toList.length = s.size := rfl
        have x1 : (s.extract 0 i).data.toList = s.data.toList.take i := by rw [Lib.extract_data]; simp
        have x2 : (s.extract (i + 1) s.size).data.toList = s.data.toList.drop (i + 1) := Lib.extract_to_end s (i + 1)
        have HA := Lib.hid (ref29_count_any (s.extract 0 i) w (by rw [ByteArray.size_extract]; omega))
        have HB := Lib.hid (fun W => ref29_count_any (s.extract (i + 1) s.size) W (by rw [ByteArray.size_extract]; omega))
        rw [x1] at HA
        rw [x2] at HB
        have ho : R = Nu.own2 (Nu.count (s.data.toList.take i)) (Nu.count (s.data.toList.drop (i + 1))) := by rw [← HR.out]; unfold Nu.owner; rw [hcut]
        obtain ⟨⟨na, oa⟩, ha⟩ : ∃ R, Nu.count (s.data.toList.take i) = R := ⟨_, rfl⟩
        obtain ⟨⟨nb, ob⟩, hb⟩ : ∃ R, Nu.count (s.data.toList.drop (i + 1)) = R := ⟨_, rfl⟩
        rw [ha] at HA ho
        rw [hb] at HB ho
        have HO := Lib.hid ho
        have fc : ((c.toNat : Int) != 46) = false := by rw [bne_eq_false_iff_eq]; omega
        clear ha hb ho hcut x1 x2 hl hc hm e46
        cases oa <;> cases ob <;>
        · go_upto_region 6 with (go_at_call 28; refine HA.out.mono ?_; rintro e w2 ⟨rfl, hb⟩; have HW2 := Lib.hid hb; clear hb)
          go_wp2_with (go_at_call 28; refine (HB.out w2).mono ?_; rintro e w3 ⟨rfl, hb⟩; have HW3 := Lib.hid (HW2.out.trans (hb.mono HW2.out.size)); clear hb)
          go_ret3
          rw [HO.out]
          exact ⟨rfl, HW3.out⟩
      · have HN2 := Lib.hid (HN.out.succ (show Lib.occAt s.data.toList [46] i = false by rw [occ_one, hc]; exact beq_eq_false_iff_ne.2 (fun e => hm (by injection e with e; rw [e]; rfl))))
        have fc : ((c.toNat : Int) != 46) = true := by rw [bne_iff_ne]; omega
        clear hc hm
        go_wp2_with fail
        go_round
        case rel => exact ⟨i + 1, by omega, by go_num, HN2⟩
        case measure => simp [intOf]; omega
    · obtain rfl : i = s.size := by omega
      have ho : R = (0, 0, false) := by
        rw [← HR.out]
        unfold Nu.owner
        rw [cut_no HN.out]
        exact Nu.own2_no _ _ (by rw [Nu.count_nil])
      have HO := Lib.hid ho
      clear ho
      go_wp2_with fail
      go_ret3
      rw [HO.out]
      exact ⟨rfl, Below.refl _ _⟩
def Nu.cat (a p d b : ByteArray) : ByteArray := a ++ p ++ d ++ b
def Nu.dec (n : Int) : ByteArray := ⟨(Lib.itoa n).toArray⟩
def Nu.name (pid birth : Int) : ByteArray := Nu.cat ⟨#[105, 110, 116, 101, 110, 116, 47]⟩ (Nu.dec pid) ⟨#[46]⟩ (Nu.dec birth)
theorem dec_size (n : Int) (h : Fits n) : (Nu.dec n).size ≤ 21 := by
  have := fits_bounds h
  exact Lib.itoa_length_le n this.1 this.2
set_option maxHeartbeats 1000000 in
theorem intent_Name_any (p b : Int) (w : World) (hp : Fits p) (hb : Fits b) (ht : Tabs w) :
    Calls Tryz.prog 8 #[.int .i64 p, .int .i64 b] w fun e w' => e = .returned (.string (Nu.name p b)) ∧ Below w.heap.size w w' := by
  have HA : Hid (Calls Tryz.prog 29 #[.int .i64 p] w fun e w' => e = .returned (.string (Nu.dec p)) ∧ Below w.heap.size w w') := Lib.hid (digits_Dec_any p w hp ht.pow)
  have HB : Hid (∀ (W : World), Below w.heap.size w W → Calls Tryz.prog 29 #[.int .i64 b] W fun e w' => e = .returned (.string (Nu.dec b)) ∧ Below W.heap.size W w') := Lib.hid (fun (W : World) (h : Below w.heap.size w W) => digits_Dec_any b W hb (ht.pow.on h))
  have s1 := dec_size p hp
  have s2 := dec_size b hb
  unfold Nu.name
  generalize Nu.dec p = P at *
  generalize Nu.dec b = B at *
  clear ht hp hb
  go_enter Tryz.func8, Tryz.ntmps8
  go_wp2_with fail
  refine HA.out.mono ?_
  rintro e w2 ⟨rfl, hb⟩
  have HW2 := Lib.hid hb
  clear hb
  go_wp2_with fail
  refine (HB.out w2 HW2.out).mono ?_
  rintro e w3 ⟨rfl, hb⟩
  have HW3 := Lib.hid (HW2.out.trans (hb.mono HW2.out.size))
  clear hb
  go_wp2_with fail
  go_ret
  exact ⟨rfl, HW3.out⟩
set_option maxHeartbeats 1000000 in
theorem ref29_Name_any (p b : Int) (w : World) (hp : Fits p) (hb : Fits b) :
    Calls Tryz.prog 9 #[.int .i64 p, .int .i64 b] w fun e w' => e = .returned (.string (Nu.name p b)) ∧ Below w.heap.size w w' := by
  have HA : Hid (Calls Tryz.prog 30 #[.int .i64 p] w fun e w' => e = .returned (.string (Nu.dec p)) ∧ Below w.heap.size w w') := Lib.hid (ref01_Dec_any p w hp)
  have HB : Hid (∀ (W : World), Below w.heap.size w W → Calls Tryz.prog 30 #[.int .i64 b] W fun e w' => e = .returned (.string (Nu.dec b)) ∧ Below W.heap.size W w') := Lib.hid (fun (W : World) (h : Below w.heap.size w W) => ref01_Dec_any b W hb)
  have s1 := dec_size p hp
  have s2 := dec_size b hb
  unfold Nu.name
  generalize Nu.dec p = P at *
  generalize Nu.dec b = B at *
  clear hp hb
  go_enter Tryz.func9, Tryz.ntmps9
  go_wp2_with fail
  refine HA.out.mono ?_
  rintro e w2 ⟨rfl, hb⟩
  have HW2 := Lib.hid hb
  clear hb
  go_wp2_with fail
  refine (HB.out w2 HW2.out).mono ?_
  rintro e w3 ⟨rfl, hb⟩
  have HW3 := Lib.hid (HW2.out.trans (hb.mono HW2.out.size))
  clear hb
  go_wp2_with fail
  go_ret
  exact ⟨rfl, HW3.out⟩
def Nu.kind (l : List UInt8) : Int :=
  if l = [100, 98, 47, 98] then 1 else if l = [100, 98, 47, 105] then 2 else if l = [100, 98, 47, 108] then 3 else if Lib.hasPrefix l [98, 108, 111, 98, 47] = true then 3 else 0
theorem same_lit {s : ByteArray} {l : List UInt8} (h : s.data.toList = l) : (s.toList == l) = true := by
  rw [ByteArray.toList_eq, h]; exact beq_self_eq_true l
theorem other_lit {s : ByteArray} {l : List UInt8} (h : ¬ s.data.toList = l) : (s.toList == l) = false := by
  rw [ByteArray.toList_eq]; exact beq_eq_false_iff_ne.2 h
set_option maxHeartbeats 1000000 in
theorem intent_Kind_any (s : ByteArray) (w : World) : Calls Tryz.prog 10 #[.string s] w fun e w' => e = .returned (.int .i64 (Nu.kind s.data.toList)) ∧ w = w' := by
  have HP : Hid (Calls Tryz.prog 31 #[.string s, .string ⟨#[98, 108, 111, 98, 47]⟩] w fun e w' => e = .returned (.bool (Lib.hasPrefix s.data.toList [98, 108, 111, 98, 47])) ∧ w' = w) := Lib.hid (Tryz.strings_HasPrefix s ⟨#[98, 108, 111, 98, 47]⟩ w)
  obtain ⟨K, hK⟩ : ∃ K, Nu.kind s.data.toList = K := ⟨_, rfl⟩
  rw [hK]
  unfold Nu.kind at hK
  by_cases h1 : s.data.toList = [100, 98, 47, 98]
  · have f1 := same_lit h1
    rw [if_pos h1] at hK
    subst hK
    clear h1 HP
    go_enter Tryz.func10, Tryz.ntmps10
    go_wp2_with fail
    go_ret
    exact ⟨rfl, rfl⟩
  rw [if_neg h1] at hK
  have f1 := other_lit h1
  by_cases h2 : s.data.toList = [100, 98, 47, 105]
  · have f2 := same_lit h2
    rw [if_pos h2] at hK
    subst hK
    clear h1 h2 HP
    go_enter Tryz.func10, Tryz.ntmps10
    go_wp2_with fail
    go_ret
    exact ⟨rfl, rfl⟩
  rw [if_neg h2] at hK
  have f2 := other_lit h2
  by_cases h3 : s.data.toList = [100, 98, 47, 108]
  · have f3 := same_lit h3
    rw [if_pos h3] at hK
    subst hK
    clear h1 h2 h3 HP
    go_enter Tryz.func10, Tryz.ntmps10
    go_wp2_with fail
    go_ret
    exact ⟨rfl, rfl⟩
  rw [if_neg h3] at hK
  have f3 := other_lit h3
  clear h1 h2 h3
  generalize Lib.hasPrefix s.data.toList [98, 108, 111, 98, 47] = p at HP hK
  cases p
  · rw [if_neg (by decide)] at hK
    subst hK
    go_enter Tryz.func10, Tryz.ntmps10
    go_wp2_with (go_at_call 31; refine HP.out.mono ?_; rintro e w' ⟨rfl, rfl⟩)
    go_ret
    exact ⟨rfl, rfl⟩
  · rw [if_pos rfl] at hK
    subst hK
    go_enter Tryz.func10, Tryz.ntmps10
    go_wp2_with (go_at_call 31; refine HP.out.mono ?_; rintro e w' ⟨rfl, rfl⟩)
    go_ret
    exact ⟨rfl, rfl⟩
set_option maxHeartbeats 1000000 in
theorem ref29_Kind_any (s : ByteArray) (w : World) (hs : s.size ≤ 1000000) : Calls Tryz.prog 11 #[.string s] w fun e w' => e = .returned (.int .i64 (Nu.kind s.data.toList)) ∧ w = w' := by
  have hp := Lib.hasPrefix_raw s ⟨#[98, 108, 111, 98, 47]⟩
  obtain ⟨K, hK⟩ : ∃ K, Nu.kind s.data.toList = K := ⟨_, rfl⟩
  rw [hK]
  unfold Nu.kind at hK
  by_cases h1 : s.data.toList = [100, 98, 47, 98]
  · have f1 := same_lit h1
    rw [if_pos h1] at hK
    subst hK
    clear h1
    go_enter Tryz.func11, Tryz.ntmps11
    go_wp2_with fail
    go_ret
    exact ⟨rfl, rfl⟩
  rw [if_neg h1] at hK
  have f1 := other_lit h1
  by_cases h2 : s.data.toList = [100, 98, 47, 105]
  · have f2 := same_lit h2
    rw [if_pos h2] at hK
    subst hK
    clear h1 h2
    go_enter Tryz.func11, Tryz.ntmps11
    go_wp2_with fail
    go_ret
    exact ⟨rfl, rfl⟩
  rw [if_neg h2] at hK
  have f2 := other_lit h2
  by_cases h3 : s.data.toList = [100, 98, 47, 108]
  · have f3 := same_lit h3
    rw [if_pos h3] at hK
    subst hK
    clear h1 h2 h3
    go_enter Tryz.func11, Tryz.ntmps11
    go_wp2_with fail
    go_ret
    exact ⟨rfl, rfl⟩
  rw [if_neg h3] at hK
  have f3 := other_lit h3
  clear h1 h2 h3
  change _ = Lib.hasPrefix s.data.toList [98, 108, 111, 98, 47] at hp
  generalize Lib.hasPrefix s.data.toList [98, 108, 111, 98, 47] = p at hp hK
  have hp : (decide (5 ≤ s.size) && ((s.extract 0 5).toList == (⟨#[98, 108, 111, 98, 47]⟩ : ByteArray).toList)) = p := hp
  rw [ByteArray.toList_eq (⟨#[98, 108, 111, 98, 47]⟩ : ByteArray)] at hp
  by_cases h5 : 5 ≤ s.size
  · rw [decide_eq_true h5, Bool.true_and] at hp
    cases p
    · have f4 : ((s.extract 0 5).toList == [98, 108, 111, 98, 47]) = false := hp
      rw [if_neg (by decide)] at hK
      subst hK
      clear hp
      go_enter Tryz.func11, Tryz.ntmps11
      go_wp2_with fail
      go_ret
      exact ⟨rfl, rfl⟩
    · have f4 : ((s.extract 0 5).toList == [98, 108, 111, 98, 47]) = true := hp
      rw [if_pos rfl] at hK
      subst hK
      clear hp
      go_enter Tryz.func11, Tryz.ntmps11
      go_wp2_with fail
      go_ret
      exact ⟨rfl, rfl⟩
  · rw [decide_eq_false h5, Bool.false_and] at hp
    subst hp
    rw [if_neg (by decide)] at hK
    subst hK
    have f5 : decide ((5 : Int) ≤ s.size) = false := decide_eq_false (by omega)
    go_enter Tryz.func11, Tryz.ntmps11
    go_wp2_with fail
    go_ret
    exact ⟨rfl, rfl⟩
end Go.Proofs.YtjldgieffkemlaaGreatDoor
