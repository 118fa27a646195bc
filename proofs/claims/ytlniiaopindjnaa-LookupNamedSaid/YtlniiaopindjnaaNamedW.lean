/-
  has, Alone of the reference, walked.
-/
import Derived.Test.YtlniiaopindjnaaNamedP
import Derived.Test.YtlniiaopindjnaaLookR
import Derived.Test.YtlniiaopindjnaaBel
namespace Go.Proofs.Ytlniiaopindjnaa
set_option linter.unusedVariables false
open Go.RowKit

theorem not_has {xs : List ByteArray} {s : ByteArray} (h : ∀ y ∈ xs, y.toList ≠ s.toList) : Lib.containsS xs s = false := by
  rw [Bool.eq_false_iff, ne_eq, Lib.containsS_iff]
  intro hm
  exact h _ hm rfl
theorem does_have {xs : List ByteArray} {s y : ByteArray} {m : Nat} (hy : xs[m]? = some y) (he : y.toList = s.toList) : Lib.containsS xs s = true := by
  rw [Lib.containsS_iff, ← Lk.toList_inj.1 he]
  exact List.mem_of_getElem? hy

set_option maxHeartbeats 1000000 in
theorem ref17_has_any (a : Option Addr) (n c : Nat) (xs : List ByteArray) (s : ByteArray) (w : World) (B : Nat) (h : RStrs w B [.slice a n c] xs) :
    Calls Try.prog 47 #[.slice a n c, .string s] w fun e w' => e = .returned (.bool (Lib.containsS xs s)) ∧ w = w' := by
  obtain ⟨rfl, l1, l2, -, hx⟩ := strs_open h
  have HX := Lib.hid hx
  rw [maxLen_val] at l2
  clear hx h
  go_enter Try.func47, Try.ntmps47
  go_wp2_with fail
  go_loop [5] (fun i => ∃ k : Nat, k ≤ xs.length ∧ i = .int .i64 k ∧ ∀ j y, j < k → xs[j]? = some y → y.toList ≠ s.toList) (fun i => xs.length - (intOf i).toNat)
  case atStart => exact ⟨0, Nat.zero_le _, rfl, none_before xs⟩
  case round =>
    obtain ⟨k, hk, rfl, hall⟩ := hrel
    have HA := Lib.hid hall
    clear hall
    by_cases hlt : k < xs.length
    · obtain ⟨b, off, rfl, hb, hc⟩ := HX.out (by omega)
      obtain ⟨y, hyk⟩ := get_at hlt
      obtain ⟨z, c0⟩ := hc k y hyk
      have HY := Lib.hid hyk
      clear hc hyk HX
      by_cases hq : y.toList = s.toList
      · have HT := Lib.hid (does_have HY.out hq)
        go_wp2_with fail
        go_ret
        exact ⟨by rw [HT.out]; rfl, rfl⟩
      · have hqb : (y.toList == s.toList) = false := by rw [beq_eq_false_iff_ne]; exact hq
        go_wp2_with fail
        go_round
        case rel => exact ⟨k + 1, by omega, by go_num, grow_all HA.out HY.out hq⟩
        case measure => simp [intOf]; omega
    · have he : k = xs.length := by omega
      subst he
      have HT := Lib.hid (not_has (all_of HA.out (Nat.le_refl _)))
      clear HX
      go_wp2_with fail
      go_ret
      exact ⟨by rw [HT.out]; rfl, rfl⟩

set_option maxHeartbeats 2000000 in
set_option maxRecDepth 100000 in
theorem ref17_Alone_any (a : Option Addr) (n c : Nat) (xs : List NamedD) (w : World) (h : RNameds w w.heap.size [.slice a n c] xs) :
    Calls Try.prog 26 #[.slice a n c] w (SomeBel (fun b => b = true → Lk.AloneP xs) w) := by
  have HR := Lib.hid h
  obtain ⟨rfl, l1, l2, -, -⟩ := nameds_open h
  rw [maxLen_val] at l2
  clear h
  go_enter Try.func26, Try.ntmps26
  go_wp2_with fail
  go_loopw [3] (fun i wr => ∃ k : Nat, k ≤ xs.length ∧ i = .int .i64 k ∧ Below w.heap.size w wr ∧ ∀ i' k' x y, k' < i' → i' < k → xs[i']? = some x → xs[k']? = some y → ∀ m ∈ x.names, m ∉ y.names) (fun i _ => xs.length - (intOf i).toNat)
  case atStart => exact ⟨0, Nat.zero_le _, rfl, Below.refl _ _, fun i' k' x y _ h => by omega⟩
  case round =>
    obtain ⟨k, hk, rfl, hbel, hall⟩ := hrel
    have HA := Lib.hid hall
    have HB := Lib.hid hbel
    clear hall
    by_cases hlt : k < xs.length
    · obtain ⟨x, hxk⟩ := get_at hlt
      have HXK := Lib.hid hxk
      clear hxk hbel
      go_wp2_with fail
      go_loopw [4] (fun i wq => ∃ j : Nat, j ≤ k ∧ i = .int .i64 j ∧ Below w.heap.size w wq ∧ ∀ k' y, k' < j → xs[k']? = some y → ∀ m ∈ x.names, m ∉ y.names) (fun i _ => k - (intOf i).toNat)
      case atStart => exact ⟨0, Nat.zero_le _, rfl, HB.out, none_before xs⟩
      case round =>
        obtain ⟨j, hj, rfl, hbq, hall2⟩ := hrel
        have HA2 := Lib.hid hall2
        have HBQ := Lib.hid hbq
        clear hall2 hbq HB
        by_cases hlj : j < k
        · obtain ⟨y, hyj⟩ := get_at (show j < xs.length by omega)
          have HYJ := Lib.hid hyj
          clear hyj
          go_wp2_with fail
          go_loopw [5] (fun i wz => ∃ m : Nat, m ≤ x.names.length ∧ i = .int .i64 m ∧ Below w.heap.size w wz ∧ ∀ q z, q < m → x.names[q]? = some z → z ∉ y.names) (fun i _ => x.names.length - (intOf i).toNat)
          case atStart => exact ⟨0, Nat.zero_le _, rfl, HBQ.out, none_before _⟩
          case round =>
            obtain ⟨m, hm, rfl, hbz, hall3⟩ := hrel
            have HA3 := Lib.hid hall3
            have HBZ := Lib.hid hbz
            obtain ⟨-, -, -, -, hxr⟩ := nameds_open (kept_nameds.on hbz HR.out)
            obtain ⟨b, off, rfl, hb, hc⟩ := hxr (by omega)
            obtain ⟨-, -, na, nc, c1, hn⟩ := hc k x HXK.out
            obtain ⟨-, -, ya, yc, d1, hyn⟩ := hc j y HYJ.out
            obtain ⟨-, m1, m2, -, hmm⟩ := strs_open hn
            rw [maxLen_val] at m2
            by_cases hlm : m < x.names.length
            · obtain ⟨b2, off2, rfl, hb2, hc2⟩ := hmm (by omega)
              obtain ⟨z, hz⟩ := get_at hlm
              obtain ⟨-, e1⟩ := hc2 m z hz
              have HZ := Lib.hid hz
              have HYN := Lib.hid hyn
              have q1 : (m : Int) < x.names.length := by omega
              have q2 : (j : Int) < xs.length := by omega
              have q3 : (k : Int) < xs.length := by omega
              clear hc2 hz hmm hn hc hyn hall3 hxr HBQ
              have HC1 := Lib.hid c1
              have HD1 := Lib.hid d1
              have HE1 := Lib.hid e1
              go_upto_region 10 with fail
              have c1x : ∀ x_ : Ext wr.heap.size wr, x_.w.cell? ⟨b, off + k * 2 + 1, none⟩ = some (.slice (some ⟨b2, off2, none⟩) x.names.length nc) := fun x_ => (x_.b.cell (p := ⟨b, off + k * 2 + 1, none⟩) hb).trans HC1.out
              have d1x : ∀ x_ : Ext wr.heap.size wr, x_.w.cell? ⟨b, off + j * 2 + 1, none⟩ = some (.slice ya y.names.length yc) := fun x_ => (x_.b.cell (p := ⟨b, off + j * 2 + 1, none⟩) hb).trans HD1.out
              have e1x : ∀ x_ : Ext wr.heap.size wr, x_.w.cell? ⟨b2, off2 + m, none⟩ = some (.string z) := fun x_ => (x_.b.cell (p := ⟨b2, off2 + m, none⟩) hb2).trans HE1.out
              have hynx := fun x_ : Ext wr.heap.size wr => kept_strs.on x_.b HYN.out
              have HYX := Lib.hid hynx
              clear hynx c1 d1 e1
              refine wp_region_bel wr.heap.size (by kernel_rfl) (by kernel_rfl) ?_
              repeat (go_big_quiet_step (first | (go_at_call 47; exact Calls.bel_same (ref17_has_any _ _ _ y.names z _ _ (HYX.out _)))))
              refine wpQuiet_nil ?_
              intro x_
              have HBX := Lib.hid (HBZ.out.trans (x_.b.mono HBZ.out.size))
              generalize x_.w = wx at HBX ⊢
              generalize hq : Lib.containsS y.names z = q
              have HQ := Lib.hid hq
              clear hq c1x d1x e1x
              cases q
              · go_wp2_with fail
                go_roundw
                case rel => exact ⟨m + 1, by omega, by go_num, HBX.out, grow_all (Q := fun z => z ∉ y.names) HA3.out HZ.out (fun hm => by have := (Lib.containsS_iff y.names z).2 hm; rw [HQ.out] at this; cases this)⟩
                case measure => simp [intOf]; omega
              · go_wp2_with fail
                go_ret
                exact ⟨false, rfl, HBX.out, fun h => by cases h⟩
            · have he : m = x.names.length := by omega
              subst he
              clear hc hn hyn hmm hxr hall3 HBQ hbz
              go_wp2_with fail
              go_roundw
              case rel => exact ⟨j + 1, by omega, by go_num, HBZ.out, grow_all (Q := fun y => ∀ m ∈ x.names, m ∉ y.names) HA2.out HYJ.out (fun m hm => by
                obtain ⟨q, hq, rfl⟩ := List.getElem_of_mem hm
                exact HA3.out q _ hq (List.getElem?_eq_getElem hq))⟩
              case measure => simp [intOf]; omega
        · have he : j = k := by omega
          subst he
          go_wp2_with fail
          go_roundw
          case rel =>
            refine ⟨j + 1, by omega, by go_num, HBQ.out, fun i' k' x' y' h1 h2 hx' hy' => ?_⟩
            rcases Nat.lt_or_ge i' j with h | h
            · exact HA.out i' k' x' y' h1 h hx' hy'
            · have : i' = j := by omega
              subst this
              rw [HXK.out] at hx'
              obtain rfl := Option.some.inj hx'
              exact HA2.out k' y' h1 hy'
          case measure => simp [intOf]; omega
    · have he : k = xs.length := by omega
      subst he
      clear hbel
      go_wp2_with fail
      go_ret
      exact ⟨true, rfl, HB.out, fun _ i k x y hki hx hy => HA.out i k x y hki ((List.getElem?_eq_some_iff.1 hx).1) hx hy⟩
end Go.Proofs.Ytlniiaopindjnaa
