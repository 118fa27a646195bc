/-
  Layer 4's document: Letter, walked.
-/
import Derived.Test.YtlniiaopindjnaaDoorQuoR
import Derived.Test.YtlniiaopindjnaaDoorBel
import Derived.Shelf.Unicode.DecodeAny
import Derived.Deep.DeepCutAuto
import Derived.Deep.CutBlock
namespace Go.Proofs.YtlniiaopindjnaaDoor
set_option linter.unusedVariables false
open Go.RowKit

namespace Qt
def letterB (s : ByteArray) : Nat × Nat := if s.size = 0 then (0, 0) else letterN s.size (s.get! 0).toNat (s.get! 1).toNat (s.get! 2).toNat (s.get! 3).toNat
def base (k : Nat) : Int := if k = 1 then 0 else if k = 2 then 192 else if k = 3 then 224 else 240
def part (s : ByteArray) (c : Int) : Nat → Int
  | 0 => c
  | j + 1 => 64 * part s c j + (s.get! (j + 1)).toNat - 128
theorem part_bound (s : ByteArray) (c : Int) (h0 : 0 ≤ c) (h1 : c ≤ 255) : ∀ j, j ≤ 3 → -1000000 ≤ part s c j ∧ part s c j ≤ 100000000
  | 0, _ => by simp only [part]; omega
  | 1, _ => by
    have a1 := UInt8.toNat_lt (s.get! (0 + 1))
    simp only [part]; omega
  | 2, _ => by
    have a1 := UInt8.toNat_lt (s.get! (0 + 1))
    have a2 := UInt8.toNat_lt (s.get! (1 + 1))
    simp only [part]; omega
  | 3, _ => by
    have a1 := UInt8.toNat_lt (s.get! (0 + 1))
    have a2 := UInt8.toNat_lt (s.get! (1 + 1))
    have a3 := UInt8.toNat_lt (s.get! (2 + 1))
    simp only [part]; omega
theorem lenN_vals (b : Nat) : lenN b = 0 ∨ lenN b = 1 ∨ lenN b = 2 ∨ lenN b = 3 ∨ lenN b = 4 := by unfold lenN; (repeat' split) <;> simp
theorem lenN_base {b K : Nat} (h : lenN b = K) (h1 : 1 ≤ K) (hb : b < 256) : base K ≤ (b : Int) := by
  unfold lenN at h
  unfold base
  (repeat' split at h) <;> subst h <;> simp <;> omega
theorem num_part {s : ByteArray} {K : Nat} (h1 : 1 ≤ K) (h4 : K ≤ 4) : numN K (s.get! 0).toNat (s.get! 1).toNat (s.get! 2).toNat (s.get! 3).toNat = part s ((s.get! 0).toNat - base K) (K - 1) := by
  rcases (show K = 1 ∨ K = 2 ∨ K = 3 ∨ K = 4 by omega) with rfl | rfl | rfl | rfl
  · simp [numN, part, base]
  · simp only [numN, part, base]; simp; omega
  · simp only [numN, part, base]; simp; omega
  · simp only [numN, part, base]; simp; omega
end Qt

theorem empty_eq (s : ByteArray) : s.toList.isEmpty = decide (s.size = 0) := by
  rw [ByteArray.toList_eq, Bool.eq_iff_iff, List.isEmpty_iff, decide_eq_true_iff]
  constructor
  · intro h; have := congrArg List.length h; simpa using this
  · intro h; exact List.length_eq_zero_iff.1 (by simpa using h)
theorem u8s_inj {a b : List Nat} (ha : ∀ x ∈ a, x < 256) (hb : ∀ x ∈ b, x < 256) (h : u8s a = u8s b) : a = b := by
  have h2 := congrArg (List.map UInt8.toNat) h
  simp only [u8s, List.map_map] at h2
  have f : ∀ l : List Nat, (∀ x ∈ l, x < 256) → l.map (UInt8.toNat ∘ UInt8.ofNat) = l := by
    intro l hl
    conv => rhs; rw [← List.map_id l]
    exact List.map_congr_left fun x hx => by simp [UInt8.toNat_ofNat', Nat.mod_eq_of_lt (hl x hx)]
  rwa [f a ha, f b hb] at h2
theorem ext_take (s : ByteArray) (k : Nat) : (s.extract 0 k).data.toList = s.data.toList.take k := by
  simp [ByteArray.data_extract]
theorem u8_back (x : UInt8) : UInt8.ofNat x.toNat = x := by simp
theorem take_get (s : ByteArray) (k : Nat) (hk : k ≤ 4) (hs : k ≤ s.size) : (s.extract 0 k).data.toList = u8s (Qt.takeN k (s.get! 0).toNat (s.get! 1).toNat (s.get! 2).toNat (s.get! 3).toNat) := by
  rw [ext_take]
  obtain ⟨⟨l⟩⟩ := s
  simp only [ByteArray.get!, u8s, Qt.takeN]
  have hs' : k ≤ l.length := hs
  rcases (show k = 0 ∨ k = 1 ∨ k = 2 ∨ k = 3 ∨ k = 4 by omega) with rfl | rfl | rfl | rfl | rfl
  · simp
  · match l, hs' with
    | a :: r, _ => simp
  · match l, hs' with
    | a :: b :: r, _ => simp
  · match l, hs' with
    | a :: b :: c :: r, _ => simp
  · match l, hs' with
    | a :: b :: c :: d :: r, _ => simp
namespace Qt
theorem letterB_none {s : ByteArray} (h : s.size = 0 ∨ lenN (s.get! 0).toNat = 0 ∨ s.size < lenN (s.get! 0).toNat) : letterB s = (0, 0) := by
  unfold letterB letterN
  split
  · rfl
  · rw [if_pos (by omega)]
theorem letterB_no {s : ByteArray} {K : Nat} (hK : lenN (s.get! 0).toNat = K) (h1 : 1 ≤ K) (h4 : K ≤ 4) (hsz : K ≤ s.size)
    (h : isLetter (part s ((s.get! 0).toNat - base K) (K - 1)) = false ∨ ¬ u8s (bytesN (part s ((s.get! 0).toNat - base K) (K - 1)).toNat) = (s.extract 0 K).data.toList) : letterB s = (0, 0) := by
  unfold letterB letterN
  rw [if_neg (by omega), hK, if_neg (by omega), num_part h1 h4, if_neg]
  rintro ⟨a, b⟩
  rcases h with h | h
  · rw [h] at a; cases a
  · rw [b] at h; exact h (take_get s K h4 hsz).symm
theorem isLetter_nat {n : Int} (h : isLetter n = true) : ∃ m : Nat, n = m ∧ m ≤ 1114111 := by
  simp [isLetter] at h
  exact ⟨n.toNat, by omega, by omega⟩
theorem letterB_yes {s : ByteArray} {K : Nat} (hK : lenN (s.get! 0).toNat = K) (h1 : 1 ≤ K) (h4 : K ≤ 4) (hsz : K ≤ s.size)
    (h : isLetter (part s ((s.get! 0).toNat - base K) (K - 1)) = true) (hb : u8s (bytesN (part s ((s.get! 0).toNat - base K) (K - 1)).toNat) = (s.extract 0 K).data.toList) : letterB s = ((part s ((s.get! 0).toNat - base K) (K - 1)).toNat, K) := by
  unfold letterB letterN
  rw [if_neg (by omega), hK, if_neg (by omega), num_part h1 h4, if_pos]
  refine ⟨h, ?_⟩
  obtain ⟨m, hm, hm2⟩ := isLetter_nat h
  rw [take_get s K h4 hsz] at hb
  refine u8s_inj ?_ ?_ hb
  · rw [hm]; exact bytesN_lt hm2
  · intro x hx
    have hx' := List.mem_of_mem_take hx
    simp only [List.mem_cons, List.mem_nil_iff, or_false] at hx'
    rcases hx' with rfl | rfl | rfl | rfl <;> exact UInt8.toNat_lt _
end Qt

set_option maxHeartbeats 4000000 in
set_option maxRecDepth 100000 in
theorem ref04_Letter_any (s : ByteArray) (w : World) (hs : s.size ≤ maxLen) : Calls Tryd.prog 35 #[.string s] w fun e w' => e = .returned (.tuple #[.int .i64 (Qt.letterB s).1, .int .i64 (Qt.letterB s).2]) ∧ Below w.heap.size w w' := by
  rw [show maxLen = 9223372036854775807 by decide] at hs
  by_cases h0 : s.size = 0
  · rw [Qt.letterB_none (Or.inl h0)]
    have he : s.toList.isEmpty = true := by rw [empty_eq]; simp [h0]
    go_enter Tryd.func35, Tryd.ntmps35
    go_wp2_with fail
    go_ret2
    exact ⟨rfl, Below.refl _ _⟩
  · have h0' : 0 < s.size := by omega
    have he : s.toList.isEmpty = false := by rw [empty_eq]; simp [h0]
    obtain ⟨b0, hb0⟩ : ∃ b0, s.get! 0 = b0 := ⟨_, rfl⟩
    have hs0 : s[0]'(by omega) = b0 := by rw [← hb0]; exact (Utf8W.get!_of_lt s 0 (by omega)).symm
    have hlt : b0.toNat < 256 := UInt8.toNat_lt b0
    obtain ⟨K, hK⟩ : ∃ K, Qt.lenN b0.toNat = K := ⟨_, rfl⟩
    have hlen := fun W => ref04_length_any b0.toNat W hlt
    rw [hK] at hlen
    have HLEN := Lib.hid hlen
    have HK := Lib.hid (show Qt.lenN (s.get! 0).toNat = K by rw [hb0]; exact hK)
    have hKv := Qt.lenN_vals b0.toNat
    rw [hK] at hKv
    have hbase := fun h => Qt.lenN_base hK h hlt
    clear hlen
    rcases hKv with rfl | rfl | rfl | rfl | rfl
    · rw [Qt.letterB_none (Or.inr (Or.inl HK.out))]
      clear hbase hK
      go_enter Tryd.func35, Tryd.ntmps35
      go_wp2_with (go_at_call 56; refine (HLEN.out _).mono ?_; rintro e w1 ⟨rfl, rfl⟩)
      go_ret2
      exact ⟨rfl, Below.refl _ _⟩
    · have hc0 : (0 : Int) ≤ (b0.toNat : Int) := by omega
      have hcb : ∃ c : Int, c = (b0.toNat : Int) - 0 ∧ 0 ≤ c ∧ c ≤ 255 := ⟨_, rfl, by omega, by omega⟩
      clear hbase hK
      by_cases hn : s.size < 1
      · have hnz : (s.size : Int) < 1 := by omega
        rw [Qt.letterB_none (Or.inr (Or.inr (by rw [HK.out]; exact hn)))]
        go_enter Tryd.func35, Tryd.ntmps35
        go_wp2_with (go_at_call 56; refine (HLEN.out _).mono ?_; rintro e w1 ⟨rfl, rfl⟩)
        go_ret2
        exact ⟨rfl, Below.refl _ _⟩
      · have hnz : ¬ (s.size : Int) < 1 := by omega
        have hkz : (1 : Int) ≤ (s.size : Int) := by omega
        have hks : 1 ≤ s.size := by omega
        obtain ⟨c, hc, hc1, hc2⟩ := hcb
        have HC := Lib.hid (show ((s.get! 0).toNat : Int) - Qt.base 1 = c by rw [hb0, hc]; simp [Qt.base])
        have HPB := Lib.hid (Qt.part_bound s c hc1 hc2)
        go_enter Tryd.func35, Tryd.ntmps35
        go_wp2_with (go_at_call 56; refine (HLEN.out _).mono ?_; rintro e w1 ⟨rfl, rfl⟩)
        go_loop [5, 6] (fun v i => ∃ j : Nat, j + 1 ≤ 1 ∧ i = .int .i64 ((j + 1 : Nat) : Int) ∧ v = .int .i64 (Qt.part s c j)) (fun _ i => 1 - (intOf i).toNat)
        case atStart => exact ⟨0, by omega, rfl, by rw [Qt.part, hc]; simp⟩
        case round =>
          obtain ⟨j, hj, rfl, rfl⟩ := hrel
          have hpb := HPB.out j (by omega)
          by_cases hjl : j + 1 < 1
          · have hx : s[j + 1]'(by omega) = s.get! (j + 1) := (Utf8W.get!_of_lt s (j + 1) (by omega)).symm
            have hxb := UInt8.toNat_lt (s.get! (j + 1))
            have hpp := HPB.out (j + 1) (by omega)
            have HP := Lib.hid (show Qt.part s c (j + 1) = 64 * Qt.part s c j + (s.get! (j + 1)).toNat - 128 from rfl)
            rw [HP.out] at hpp
            generalize Qt.part s c j = p at *
            generalize s.get! (j + 1) = x at *
            have hjz : ((j : Int) + 1) < 1 := by omega
            have hjs : ((j : Int) + 1) < (s.size : Int) := by omega
            have hjn : j + 1 < s.size := by omega
            go_wp2_with fail
            go_round
            case rel => exact ⟨j + 1, by omega, by go_num, by rw [HP.out]⟩
            case measure => simp [intOf]; omega
          · have hje : j = 1 - 1 := by omega
            subst hje
            obtain ⟨n, hn'⟩ : ∃ n, Qt.part s c (1 - 1) = n := ⟨_, rfl⟩
            have HN := Lib.hid (show Qt.part s ((s.get! 0).toNat - Qt.base 1) (1 - 1) = n by rw [HC.out]; exact hn')
            rw [hn'] at hpb ⊢
            clear hn'
            have hle := fun W => ref04_isLetter_any n W
            by_cases hi : Qt.isLetter n = true
            · simp only [hi] at hle
              have HLE := Lib.hid hle
              obtain ⟨m, rfl, hm⟩ := Qt.isLetter_nat hi
              have HBY := Lib.hid (fun W => ref04_Bytes_any m W hm)
              have HI := Lib.hid hi
              clear hle hi
              go_upto_region 19 with fail
              by_cases hq : u8s (Qt.bytesN m) = (s.extract 0 1).data.toList
              · have hq' : (⟨(u8s (Qt.bytesN m)).toArray⟩ : ByteArray) = s.extract 0 1 := by rw [hq]
                have HL := Lib.hid (show Qt.letterB s = (m, 1) by rw [Qt.letterB_yes HK.out (by omega) (by omega) hks (by rw [HN.out]; exact HI.out) (by rw [HN.out]; exact hq), HN.out]; simp)
                clear hq
                refine wp_region_bel w.heap.size (by kernel_rfl) (by kernel_rfl) ?_
                repeat (go_big_quiet_step (first
                  | (go_at_call 57; refine Calls.bel_same (v := .bool true) ?_; with_reducible exact HLE.out _)
                  | (go_at_call 41; refine Calls.bel_of (Nat.le_refl _) (v := .string (s.extract 0 1)) ?_; rw [← hq']; exact HBY.out _)))
                refine wpQuiet_nil ?_
                intro x
                go_wp2_with fail
                go_ret2
                exact ⟨by rw [HL.out]; rfl, x.b⟩
              · have HL := Lib.hid (Qt.letterB_no HK.out (by omega) (by omega) hks (Or.inr (by rw [HN.out]; exact hq)))
                obtain ⟨t, ht⟩ : ∃ t : ByteArray, (⟨(u8s (Qt.bytesN m)).toArray⟩ : ByteArray) = t := ⟨_, rfl⟩
                have hby := HBY.out
                rw [ht] at hby
                have HB2 := Lib.hid hby
                have hne : (t.toList == (s.extract 0 1).toList) = false := by
                  rw [beq_eq_false_iff_ne, ByteArray.toList_eq, ByteArray.toList_eq, ← ht]
                  simpa using hq
                clear hby HBY hq ht
                refine wp_region_bel w.heap.size (by kernel_rfl) (by kernel_rfl) ?_
                repeat (go_big_quiet_step (first
                  | (go_at_call 57; refine Calls.bel_same (v := .bool true) ?_; with_reducible exact HLE.out _)
                  | (go_at_call 41; refine Calls.bel_of (Nat.le_refl _) (v := .string t) ?_; with_reducible exact HB2.out _)))
                refine wpQuiet_nil ?_
                intro x
                go_wp2_with fail
                go_ret2
                exact ⟨by rw [HL.out]; rfl, x.b⟩
            · rw [Bool.not_eq_true] at hi
              simp only [hi] at hle
              have HLE := Lib.hid hle
              have HL := Lib.hid (Qt.letterB_no HK.out (by omega) (by omega) hks (Or.inl (by rw [HN.out]; exact hi)))
              clear hle hi
              go_upto_region 19 with fail
              refine wp_region_bel w.heap.size (by kernel_rfl) (by kernel_rfl) ?_
              repeat (go_big_quiet_step (first
                | (go_at_call 57; refine Calls.bel_same (v := .bool false) ?_; with_reducible exact HLE.out _)))
              refine wpQuiet_nil ?_
              intro x
              go_wp2_with fail
              go_ret2
              exact ⟨by rw [HL.out]; rfl, x.b⟩
    · have hc0 : (192 : Int) ≤ (b0.toNat : Int) := by have := hbase (by omega); simpa [Qt.base] using this
      have hcb : ∃ c : Int, c = (b0.toNat : Int) - 192 ∧ 0 ≤ c ∧ c ≤ 255 := ⟨_, rfl, by omega, by omega⟩
      clear hbase hK
      by_cases hn : s.size < 2
      · have hnz : (s.size : Int) < 2 := by omega
        rw [Qt.letterB_none (Or.inr (Or.inr (by rw [HK.out]; exact hn)))]
        go_enter Tryd.func35, Tryd.ntmps35
        go_wp2_with (go_at_call 56; refine (HLEN.out _).mono ?_; rintro e w1 ⟨rfl, rfl⟩)
        go_ret2
        exact ⟨rfl, Below.refl _ _⟩
      · have hnz : ¬ (s.size : Int) < 2 := by omega
        have hkz : (2 : Int) ≤ (s.size : Int) := by omega
        have hks : 2 ≤ s.size := by omega
        obtain ⟨c, hc, hc1, hc2⟩ := hcb
        have HC := Lib.hid (show ((s.get! 0).toNat : Int) - Qt.base 2 = c by rw [hb0, hc]; simp [Qt.base])
        have HPB := Lib.hid (Qt.part_bound s c hc1 hc2)
        go_enter Tryd.func35, Tryd.ntmps35
        go_wp2_with (go_at_call 56; refine (HLEN.out _).mono ?_; rintro e w1 ⟨rfl, rfl⟩)
        go_loop [5, 6] (fun v i => ∃ j : Nat, j + 1 ≤ 2 ∧ i = .int .i64 ((j + 1 : Nat) : Int) ∧ v = .int .i64 (Qt.part s c j)) (fun _ i => 2 - (intOf i).toNat)
        case atStart => exact ⟨0, by omega, rfl, by rw [Qt.part, hc]⟩
        case round =>
          obtain ⟨j, hj, rfl, rfl⟩ := hrel
          have hpb := HPB.out j (by omega)
          by_cases hjl : j + 1 < 2
          · have hx : s[j + 1]'(by omega) = s.get! (j + 1) := (Utf8W.get!_of_lt s (j + 1) (by omega)).symm
            have hxb := UInt8.toNat_lt (s.get! (j + 1))
            have hpp := HPB.out (j + 1) (by omega)
            have HP := Lib.hid (show Qt.part s c (j + 1) = 64 * Qt.part s c j + (s.get! (j + 1)).toNat - 128 from rfl)
            rw [HP.out] at hpp
            generalize Qt.part s c j = p at *
            generalize s.get! (j + 1) = x at *
            have hjz : ((j : Int) + 1) < 2 := by omega
            have hjs : ((j : Int) + 1) < (s.size : Int) := by omega
            have hjn : j + 1 < s.size := by omega
            go_wp2_with fail
            go_round
            case rel => exact ⟨j + 1, by omega, by go_num, by rw [HP.out]⟩
            case measure => simp [intOf]; omega
          · have hje : j = 2 - 1 := by omega
            subst hje
            obtain ⟨n, hn'⟩ : ∃ n, Qt.part s c (2 - 1) = n := ⟨_, rfl⟩
            have HN := Lib.hid (show Qt.part s ((s.get! 0).toNat - Qt.base 2) (2 - 1) = n by rw [HC.out]; exact hn')
            rw [hn'] at hpb ⊢
            clear hn'
            have hle := fun W => ref04_isLetter_any n W
            by_cases hi : Qt.isLetter n = true
            · simp only [hi] at hle
              have HLE := Lib.hid hle
              obtain ⟨m, rfl, hm⟩ := Qt.isLetter_nat hi
              have HBY := Lib.hid (fun W => ref04_Bytes_any m W hm)
              have HI := Lib.hid hi
              clear hle hi
              go_upto_region 19 with fail
              by_cases hq : u8s (Qt.bytesN m) = (s.extract 0 2).data.toList
              · have hq' : (⟨(u8s (Qt.bytesN m)).toArray⟩ : ByteArray) = s.extract 0 2 := by rw [hq]
                have HL := Lib.hid (show Qt.letterB s = (m, 2) by rw [Qt.letterB_yes HK.out (by omega) (by omega) hks (by rw [HN.out]; exact HI.out) (by rw [HN.out]; exact hq), HN.out]; simp)
                clear hq
                refine wp_region_bel w.heap.size (by kernel_rfl) (by kernel_rfl) ?_
                repeat (go_big_quiet_step (first
                  | (go_at_call 57; refine Calls.bel_same (v := .bool true) ?_; with_reducible exact HLE.out _)
                  | (go_at_call 41; refine Calls.bel_of (Nat.le_refl _) (v := .string (s.extract 0 2)) ?_; rw [← hq']; exact HBY.out _)))
                refine wpQuiet_nil ?_
                intro x
                go_wp2_with fail
                go_ret2
                exact ⟨by rw [HL.out]; rfl, x.b⟩
              · have HL := Lib.hid (Qt.letterB_no HK.out (by omega) (by omega) hks (Or.inr (by rw [HN.out]; exact hq)))
                obtain ⟨t, ht⟩ : ∃ t : ByteArray, (⟨(u8s (Qt.bytesN m)).toArray⟩ : ByteArray) = t := ⟨_, rfl⟩
                have hby := HBY.out
                rw [ht] at hby
                have HB2 := Lib.hid hby
                have hne : (t.toList == (s.extract 0 2).toList) = false := by
                  rw [beq_eq_false_iff_ne, ByteArray.toList_eq, ByteArray.toList_eq, ← ht]
                  simpa using hq
                clear hby HBY hq ht
                refine wp_region_bel w.heap.size (by kernel_rfl) (by kernel_rfl) ?_
                repeat (go_big_quiet_step (first
                  | (go_at_call 57; refine Calls.bel_same (v := .bool true) ?_; with_reducible exact HLE.out _)
                  | (go_at_call 41; refine Calls.bel_of (Nat.le_refl _) (v := .string t) ?_; with_reducible exact HB2.out _)))
                refine wpQuiet_nil ?_
                intro x
                go_wp2_with fail
                go_ret2
                exact ⟨by rw [HL.out]; rfl, x.b⟩
            · rw [Bool.not_eq_true] at hi
              simp only [hi] at hle
              have HLE := Lib.hid hle
              have HL := Lib.hid (Qt.letterB_no HK.out (by omega) (by omega) hks (Or.inl (by rw [HN.out]; exact hi)))
              clear hle hi
              go_upto_region 19 with fail
              refine wp_region_bel w.heap.size (by kernel_rfl) (by kernel_rfl) ?_
              repeat (go_big_quiet_step (first
                | (go_at_call 57; refine Calls.bel_same (v := .bool false) ?_; with_reducible exact HLE.out _)))
              refine wpQuiet_nil ?_
              intro x
              go_wp2_with fail
              go_ret2
              exact ⟨by rw [HL.out]; rfl, x.b⟩
    · have hc0 : (224 : Int) ≤ (b0.toNat : Int) := by have := hbase (by omega); simpa [Qt.base] using this
      have hcb : ∃ c : Int, c = (b0.toNat : Int) - 224 ∧ 0 ≤ c ∧ c ≤ 255 := ⟨_, rfl, by omega, by omega⟩
      clear hbase hK
      by_cases hn : s.size < 3
      · have hnz : (s.size : Int) < 3 := by omega
        rw [Qt.letterB_none (Or.inr (Or.inr (by rw [HK.out]; exact hn)))]
        go_enter Tryd.func35, Tryd.ntmps35
        go_wp2_with (go_at_call 56; refine (HLEN.out _).mono ?_; rintro e w1 ⟨rfl, rfl⟩)
        go_ret2
        exact ⟨rfl, Below.refl _ _⟩
      · have hnz : ¬ (s.size : Int) < 3 := by omega
        have hkz : (3 : Int) ≤ (s.size : Int) := by omega
        have hks : 3 ≤ s.size := by omega
        obtain ⟨c, hc, hc1, hc2⟩ := hcb
        have HC := Lib.hid (show ((s.get! 0).toNat : Int) - Qt.base 3 = c by rw [hb0, hc]; simp [Qt.base])
        have HPB := Lib.hid (Qt.part_bound s c hc1 hc2)
        go_enter Tryd.func35, Tryd.ntmps35
        go_wp2_with (go_at_call 56; refine (HLEN.out _).mono ?_; rintro e w1 ⟨rfl, rfl⟩)
        go_loop [5, 6] (fun v i => ∃ j : Nat, j + 1 ≤ 3 ∧ i = .int .i64 ((j + 1 : Nat) : Int) ∧ v = .int .i64 (Qt.part s c j)) (fun _ i => 3 - (intOf i).toNat)
        case atStart => exact ⟨0, by omega, rfl, by rw [Qt.part, hc]⟩
        case round =>
          obtain ⟨j, hj, rfl, rfl⟩ := hrel
          have hpb := HPB.out j (by omega)
          by_cases hjl : j + 1 < 3
          · have hx : s[j + 1]'(by omega) = s.get! (j + 1) := (Utf8W.get!_of_lt s (j + 1) (by omega)).symm
            have hxb := UInt8.toNat_lt (s.get! (j + 1))
            have hpp := HPB.out (j + 1) (by omega)
            have HP := Lib.hid (show Qt.part s c (j + 1) = 64 * Qt.part s c j + (s.get! (j + 1)).toNat - 128 from rfl)
            rw [HP.out] at hpp
            generalize Qt.part s c j = p at *
            generalize s.get! (j + 1) = x at *
            have hjz : ((j : Int) + 1) < 3 := by omega
            have hjs : ((j : Int) + 1) < (s.size : Int) := by omega
            have hjn : j + 1 < s.size := by omega
            go_wp2_with fail
            go_round
            case rel => exact ⟨j + 1, by omega, by go_num, by rw [HP.out]⟩
            case measure => simp [intOf]; omega
          · have hje : j = 3 - 1 := by omega
            subst hje
            obtain ⟨n, hn'⟩ : ∃ n, Qt.part s c (3 - 1) = n := ⟨_, rfl⟩
            have HN := Lib.hid (show Qt.part s ((s.get! 0).toNat - Qt.base 3) (3 - 1) = n by rw [HC.out]; exact hn')
            rw [hn'] at hpb ⊢
            clear hn'
            have hle := fun W => ref04_isLetter_any n W
            by_cases hi : Qt.isLetter n = true
            · simp only [hi] at hle
              have HLE := Lib.hid hle
              obtain ⟨m, rfl, hm⟩ := Qt.isLetter_nat hi
              have HBY := Lib.hid (fun W => ref04_Bytes_any m W hm)
              have HI := Lib.hid hi
              clear hle hi
              go_upto_region 19 with fail
              by_cases hq : u8s (Qt.bytesN m) = (s.extract 0 3).data.toList
              · have hq' : (⟨(u8s (Qt.bytesN m)).toArray⟩ : ByteArray) = s.extract 0 3 := by rw [hq]
                have HL := Lib.hid (show Qt.letterB s = (m, 3) by rw [Qt.letterB_yes HK.out (by omega) (by omega) hks (by rw [HN.out]; exact HI.out) (by rw [HN.out]; exact hq), HN.out]; simp)
                clear hq
                refine wp_region_bel w.heap.size (by kernel_rfl) (by kernel_rfl) ?_
                repeat (go_big_quiet_step (first
                  | (go_at_call 57; refine Calls.bel_same (v := .bool true) ?_; with_reducible exact HLE.out _)
                  | (go_at_call 41; refine Calls.bel_of (Nat.le_refl _) (v := .string (s.extract 0 3)) ?_; rw [← hq']; exact HBY.out _)))
                refine wpQuiet_nil ?_
                intro x
                go_wp2_with fail
                go_ret2
                exact ⟨by rw [HL.out]; rfl, x.b⟩
              · have HL := Lib.hid (Qt.letterB_no HK.out (by omega) (by omega) hks (Or.inr (by rw [HN.out]; exact hq)))
                obtain ⟨t, ht⟩ : ∃ t : ByteArray, (⟨(u8s (Qt.bytesN m)).toArray⟩ : ByteArray) = t := ⟨_, rfl⟩
                have hby := HBY.out
                rw [ht] at hby
                have HB2 := Lib.hid hby
                have hne : (t.toList == (s.extract 0 3).toList) = false := by
                  rw [beq_eq_false_iff_ne, ByteArray.toList_eq, ByteArray.toList_eq, ← ht]
                  simpa using hq
                clear hby HBY hq ht
                refine wp_region_bel w.heap.size (by kernel_rfl) (by kernel_rfl) ?_
                repeat (go_big_quiet_step (first
                  | (go_at_call 57; refine Calls.bel_same (v := .bool true) ?_; with_reducible exact HLE.out _)
                  | (go_at_call 41; refine Calls.bel_of (Nat.le_refl _) (v := .string t) ?_; with_reducible exact HB2.out _)))
                refine wpQuiet_nil ?_
                intro x
                go_wp2_with fail
                go_ret2
                exact ⟨by rw [HL.out]; rfl, x.b⟩
            · rw [Bool.not_eq_true] at hi
              simp only [hi] at hle
              have HLE := Lib.hid hle
              have HL := Lib.hid (Qt.letterB_no HK.out (by omega) (by omega) hks (Or.inl (by rw [HN.out]; exact hi)))
              clear hle hi
              go_upto_region 19 with fail
              refine wp_region_bel w.heap.size (by kernel_rfl) (by kernel_rfl) ?_
              repeat (go_big_quiet_step (first
                | (go_at_call 57; refine Calls.bel_same (v := .bool false) ?_; with_reducible exact HLE.out _)))
              refine wpQuiet_nil ?_
              intro x
              go_wp2_with fail
              go_ret2
              exact ⟨by rw [HL.out]; rfl, x.b⟩
    · have hc0 : (240 : Int) ≤ (b0.toNat : Int) := by have := hbase (by omega); simpa [Qt.base] using this
      have hcb : ∃ c : Int, c = (b0.toNat : Int) - 240 ∧ 0 ≤ c ∧ c ≤ 255 := ⟨_, rfl, by omega, by omega⟩
      clear hbase hK
      by_cases hn : s.size < 4
      · have hnz : (s.size : Int) < 4 := by omega
        rw [Qt.letterB_none (Or.inr (Or.inr (by rw [HK.out]; exact hn)))]
        go_enter Tryd.func35, Tryd.ntmps35
        go_wp2_with (go_at_call 56; refine (HLEN.out _).mono ?_; rintro e w1 ⟨rfl, rfl⟩)
        go_ret2
        exact ⟨rfl, Below.refl _ _⟩
      · have hnz : ¬ (s.size : Int) < 4 := by omega
        have hkz : (4 : Int) ≤ (s.size : Int) := by omega
        have hks : 4 ≤ s.size := by omega
        obtain ⟨c, hc, hc1, hc2⟩ := hcb
        have HC := Lib.hid (show ((s.get! 0).toNat : Int) - Qt.base 4 = c by rw [hb0, hc]; simp [Qt.base])
        have HPB := Lib.hid (Qt.part_bound s c hc1 hc2)
        go_enter Tryd.func35, Tryd.ntmps35
        go_wp2_with (go_at_call 56; refine (HLEN.out _).mono ?_; rintro e w1 ⟨rfl, rfl⟩)
        go_loop [5, 6] (fun v i => ∃ j : Nat, j + 1 ≤ 4 ∧ i = .int .i64 ((j + 1 : Nat) : Int) ∧ v = .int .i64 (Qt.part s c j)) (fun _ i => 4 - (intOf i).toNat)
        case atStart => exact ⟨0, by omega, rfl, by rw [Qt.part, hc]⟩
        case round =>
          obtain ⟨j, hj, rfl, rfl⟩ := hrel
          have hpb := HPB.out j (by omega)
          by_cases hjl : j + 1 < 4
          · have hx : s[j + 1]'(by omega) = s.get! (j + 1) := (Utf8W.get!_of_lt s (j + 1) (by omega)).symm
            have hxb := UInt8.toNat_lt (s.get! (j + 1))
            have hpp := HPB.out (j + 1) (by omega)
            have HP := Lib.hid (show Qt.part s c (j + 1) = 64 * Qt.part s c j + (s.get! (j + 1)).toNat - 128 from rfl)
            rw [HP.out] at hpp
            generalize Qt.part s c j = p at *
            generalize s.get! (j + 1) = x at *
            have hjz : ((j : Int) + 1) < 4 := by omega
            have hjs : ((j : Int) + 1) < (s.size : Int) := by omega
            have hjn : j + 1 < s.size := by omega
            go_wp2_with fail
            go_round
            case rel => exact ⟨j + 1, by omega, by go_num, by rw [HP.out]⟩
            case measure => simp [intOf]; omega
          · have hje : j = 4 - 1 := by omega
            subst hje
            obtain ⟨n, hn'⟩ : ∃ n, Qt.part s c (4 - 1) = n := ⟨_, rfl⟩
            have HN := Lib.hid (show Qt.part s ((s.get! 0).toNat - Qt.base 4) (4 - 1) = n by rw [HC.out]; exact hn')
            rw [hn'] at hpb ⊢
            clear hn'
            have hle := fun W => ref04_isLetter_any n W
            by_cases hi : Qt.isLetter n = true
            · simp only [hi] at hle
              have HLE := Lib.hid hle
              obtain ⟨m, rfl, hm⟩ := Qt.isLetter_nat hi
              have HBY := Lib.hid (fun W => ref04_Bytes_any m W hm)
              have HI := Lib.hid hi
              clear hle hi
              go_upto_region 19 with fail
              by_cases hq : u8s (Qt.bytesN m) = (s.extract 0 4).data.toList
              · have hq' : (⟨(u8s (Qt.bytesN m)).toArray⟩ : ByteArray) = s.extract 0 4 := by rw [hq]
                have HL := Lib.hid (show Qt.letterB s = (m, 4) by rw [Qt.letterB_yes HK.out (by omega) (by omega) hks (by rw [HN.out]; exact HI.out) (by rw [HN.out]; exact hq), HN.out]; simp)
                clear hq
                refine wp_region_bel w.heap.size (by kernel_rfl) (by kernel_rfl) ?_
                repeat (go_big_quiet_step (first
                  | (go_at_call 57; refine Calls.bel_same (v := .bool true) ?_; with_reducible exact HLE.out _)
                  | (go_at_call 41; refine Calls.bel_of (Nat.le_refl _) (v := .string (s.extract 0 4)) ?_; rw [← hq']; exact HBY.out _)))
                refine wpQuiet_nil ?_
                intro x
                go_wp2_with fail
                go_ret2
                exact ⟨by rw [HL.out]; rfl, x.b⟩
              · have HL := Lib.hid (Qt.letterB_no HK.out (by omega) (by omega) hks (Or.inr (by rw [HN.out]; exact hq)))
                obtain ⟨t, ht⟩ : ∃ t : ByteArray, (⟨(u8s (Qt.bytesN m)).toArray⟩ : ByteArray) = t := ⟨_, rfl⟩
                have hby := HBY.out
                rw [ht] at hby
                have HB2 := Lib.hid hby
                have hne : (t.toList == (s.extract 0 4).toList) = false := by
                  rw [beq_eq_false_iff_ne, ByteArray.toList_eq, ByteArray.toList_eq, ← ht]
                  simpa using hq
                clear hby HBY hq ht
                refine wp_region_bel w.heap.size (by kernel_rfl) (by kernel_rfl) ?_
                repeat (go_big_quiet_step (first
                  | (go_at_call 57; refine Calls.bel_same (v := .bool true) ?_; with_reducible exact HLE.out _)
                  | (go_at_call 41; refine Calls.bel_of (Nat.le_refl _) (v := .string t) ?_; with_reducible exact HB2.out _)))
                refine wpQuiet_nil ?_
                intro x
                go_wp2_with fail
                go_ret2
                exact ⟨by rw [HL.out]; rfl, x.b⟩
            · rw [Bool.not_eq_true] at hi
              simp only [hi] at hle
              have HLE := Lib.hid hle
              have HL := Lib.hid (Qt.letterB_no HK.out (by omega) (by omega) hks (Or.inl (by rw [HN.out]; exact hi)))
              clear hle hi
              go_upto_region 19 with fail
              refine wp_region_bel w.heap.size (by kernel_rfl) (by kernel_rfl) ?_
              repeat (go_big_quiet_step (first
                | (go_at_call 57; refine Calls.bel_same (v := .bool false) ?_; with_reducible exact HLE.out _)))
              refine wpQuiet_nil ?_
              intro x
              go_wp2_with fail
              go_ret2
              exact ⟨by rw [HL.out]; rfl, x.b⟩
end Go.Proofs.YtlniiaopindjnaaDoor
