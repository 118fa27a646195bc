/-
  The reference's Find, walked.
-/
import Derived.Test.YtlniiaopindjnaaLookF
namespace Go.Proofs.Ytlniiaopindjnaa
set_option linter.unusedVariables false
open Go.RowKit

set_option maxHeartbeats 1000000 in
theorem ref18_begins_any (s p : ByteArray) (w : World) (hs : s.size ≤ maxLen) (hp : p.size ≤ maxLen) :
    Calls Try.prog 40 #[.string s, .string p] w fun e w' => e = .returned (.bool (Lib.hasPrefix s.data.toList p.data.toList)) ∧ w = w' := by
  have h := Lib.hasPrefix_raw s p
  have H := Lib.hid h
  clear h
  rw [maxLen_val] at hs hp
  by_cases hle : p.size ≤ s.size
  · go_enter Try.func40, Try.ntmps40
    go_wp2
    go_ret
    exact ⟨by rw [← H.out, decide_eq_true hle]; simp, rfl⟩
  · go_enter Try.func40, Try.ntmps40
    go_wp2
    go_ret
    exact ⟨by rw [← H.out, decide_eq_false hle]; simp, rfl⟩

theorem Lk.find_hit {p : NamedD → Bool} {xs : List NamedD} {k : Nat} {x : NamedD} (hk : xs[k]? = some x) (hp : p x = true) (h : ∀ j y, j < k → xs[j]? = some y → p y = false) : xs.find? p = some x := by
  obtain ⟨hl, he⟩ := List.getElem?_eq_some_iff.1 hk
  rw [List.find?_eq_some_iff_getElem]
  refine ⟨hp, k, hl, he, fun j hj => ?_⟩
  rw [h j _ hj (List.getElem?_eq_getElem (by omega))]; rfl
theorem Lk.no_name {ref : ByteArray} {x : NamedD} (h : ∀ y ∈ x.names, y.toList ≠ ref.toList) : Lk.hasName ref x = false := by
  rw [Bool.eq_false_iff, ne_eq, Lk.hasName_iff]
  intro hm
  exact h _ hm rfl
theorem Lk.name_at {ref : ByteArray} {x : NamedD} {m : Nat} {y : ByteArray} (h : x.names[m]? = some y) (he : y.toList = ref.toList) : Lk.hasName ref x = true := by
  rw [Lk.hasName_iff, ← Lk.toList_inj.1 he]
  exact List.mem_of_getElem? h
theorem Lk.size_zero {ref : ByteArray} (h : ref.size = 0) : ref = ⟨#[]⟩ := by
  cases ref with | mk d => congr 1; exact Array.size_eq_zero_iff.1 h

set_option maxHeartbeats 2000000 in
set_option maxRecDepth 100000 in
theorem ref18_Find_any (a : Option Addr) (n c : Nat) (xs : List NamedD) (ref : ByteArray) (w : World) (h : RNameds w w.heap.size [.slice a n c] xs) (hr : ref.size ≤ maxLen) (hxl : xs.length ≤ 1000000) :
    Calls Try.prog 20 #[.slice a n c, .string ref] w fun e w' => e = .returned (.tuple #[.string (Lk.meant xs ref).1, .int .i64 (Lk.meant xs ref).2]) ∧ w = w' := by
  have hsm := Lk.ids_small h
  obtain ⟨rfl, l1, l2, -, hx⟩ := nameds_open h
  have HX := Lib.hid hx
  have HS := Lib.hid hsm
  have HR := Lib.hid hr
  rw [maxLen_val] at l2 hr
  clear hx h hsm
  go_enter Try.func20, Try.ntmps20
  go_upto_block 0 with fail
  go_cut [6] (fun _ wx => wx = w ∧ xs.any (Lk.hasId ref) = false)
  case first =>
    go_wp2_with fail
    go_loop [6] (fun i => ∃ k : Nat, k ≤ xs.length ∧ i = .int .i64 k ∧ ∀ j x, j < k → xs[j]? = some x → Lk.hasId ref x = false) (fun i => xs.length - (intOf i).toNat)
    case atStart => exact ⟨0, Nat.zero_le _, rfl, none_before xs⟩
    case round =>
      obtain ⟨k, hk, rfl, hall⟩ := hrel
      have HA := Lib.hid hall
      clear hall
      by_cases hlt : k < xs.length
      · obtain ⟨b, off, rfl, hb, hc⟩ := HX.out (by omega)
        obtain ⟨x, hxk⟩ := get_at hlt
        obtain ⟨z, c0, -⟩ := hc k x hxk
        have HXK := Lib.hid hxk
        clear hc HX hxk
        by_cases hq : x.id.toList = ref.toList
        · go_wp2_with fail
          go_ret2
          refine ⟨?_, rfl⟩
          have : xs.any (Lk.hasId ref) = true := List.any_eq_true.2 ⟨x, List.mem_of_getElem? HXK.out, by simp [Lk.hasId, hq]⟩
          unfold Lk.meant
          rw [this]
          rfl
        · have HQ := Lib.hid (show Lk.hasId ref x = false by simp [Lk.hasId, hq])
          have hqb : (x.id.toList == ref.toList) = false := by rw [beq_eq_false_iff_ne]; exact hq
          go_wp2_with fail
          go_round
          case rel => exact ⟨k + 1, by omega, by go_num, grow_all HA.out HXK.out HQ.out⟩
          case measure => simp [intOf]; omega
      · have he : k = xs.length := by omega
        subst he
        clear HX
        go_wp2_with fail
        go_meet
        refine ⟨rfl, ?_⟩
        rw [List.any_eq_false]
        intro x hx
        rw [all_of HA.out (Nat.le_refl _) x hx]; decide
  case rest =>
    obtain ⟨rfl, hq1⟩ := hcut
    have HQ1 := Lib.hid hq1
    clear hq1
    go_upto_block 2 with fail
    go_cut [7, 8] (fun _ _ wx => wx = wc ∧ xs.find? (Lk.hasName ref) = none)
    case first =>
      go_wp2_with fail
      go_loop [7, 8] (fun i _ => ∃ k : Nat, k ≤ xs.length ∧ i = .int .i64 k ∧ ∀ j x, j < k → xs[j]? = some x → Lk.hasName ref x = false) (fun i _ => xs.length - (intOf i).toNat)
      case atStart => exact ⟨0, Nat.zero_le _, rfl, none_before xs⟩
      case round =>
        obtain ⟨k, hk, rfl, hall⟩ := hrel
        have HA := Lib.hid hall
        clear hall
        by_cases hlt : k < xs.length
        · obtain ⟨b, off, rfl, hb, hc⟩ := HX.out (by omega)
          obtain ⟨x, hxk⟩ := get_at hlt
          obtain ⟨z, c0, na, nc, c1, hn⟩ := hc k x hxk
          obtain ⟨-, m1, m2, -, hm⟩ := strs_open hn
          have HXK := Lib.hid hxk
          have HM := Lib.hid hm
          rw [maxLen_val] at m2
          clear hc HX hxk hn hm
          go_wp2_with fail
          go_loop [8] (fun j => ∃ m : Nat, m ≤ x.names.length ∧ j = .int .i64 m ∧ ∀ j y, j < m → x.names[j]? = some y → y.toList ≠ ref.toList) (fun j => x.names.length - (intOf j).toNat)
          case atStart => exact ⟨0, Nat.zero_le _, rfl, none_before _⟩
          case round =>
            obtain ⟨m, hmk, rfl, hall2⟩ := hrel
            have HA2 := Lib.hid hall2
            clear hall2
            by_cases hlm : m < x.names.length
            · obtain ⟨b2, off2, rfl, -, hc2⟩ := HM.out (by omega)
              obtain ⟨y, hy⟩ := get_at hlm
              obtain ⟨zy, cy⟩ := hc2 m y hy
              have HY := Lib.hid hy
              clear hc2 hy HM
              by_cases hq : y.toList = ref.toList
              · go_wp2_with fail
                go_ret2
                refine ⟨?_, rfl⟩
                have := Lk.find_hit HXK.out (Lk.name_at HY.out hq) HA.out
                unfold Lk.meant
                rw [HQ1.out, this]
                rfl
              · have hqb : (y.toList == ref.toList) = false := by rw [beq_eq_false_iff_ne]; exact hq
                go_wp2_with fail
                go_round
                case rel => exact ⟨m + 1, by omega, by go_num, grow_all HA2.out HY.out hq⟩
                case measure => simp [intOf]; omega
            · have he : m = x.names.length := by omega
              subst he
              clear HM
              go_wp2_with fail
              go_round
              case rel => exact ⟨k + 1, by omega, by go_num, grow_all HA.out HXK.out (Lk.no_name (all_of HA2.out (Nat.le_refl _)))⟩
              case measure => simp [intOf]; omega
        · have he : k = xs.length := by omega
          subst he
          clear HX
          go_wp2_with fail
          go_meet
          refine ⟨rfl, ?_⟩
          rw [List.find?_eq_none]
          intro x hx
          rw [all_of HA.out (Nat.le_refl _) x hx]; decide
    case rest =>
      obtain ⟨rfl, hq2⟩ := hcut
      have hmt : Lk.meant xs ref = if ref.size = 0 ∨ 6 ≤ ref.size ∨ (Lk.found xs ref).length = 0 then (⟨#[]⟩, 3)
          else if 1 < (Lk.found xs ref).length then (⟨#[]⟩, 9) else ((Lk.found xs ref).headD ⟨#[]⟩, 0) := by
        unfold Lk.meant
        rw [HQ1.out, hq2]
        rfl
      have HM := Lib.hid hmt
      clear hq2 hmt
      go_wp2_with fail
      by_cases hz : 1 ≤ ref.size ∧ ref.size ≤ 5
      · obtain ⟨z1, z2⟩ := hz
        go_loop [9, 10, 11] (fun n d i => ∃ k : Nat, k ≤ xs.length ∧ i = .int .i64 k ∧ n = .int .i64 (Lk.found (xs.take k) ref).length ∧ d = .string ((Lk.found (xs.take k) ref).getLastD ⟨#[]⟩)) (fun _ _ i => xs.length - (intOf i).toNat)
        case atStart => exact ⟨0, Nat.zero_le _, rfl, rfl, rfl⟩
        case round =>
          obtain ⟨k, hk, rfl, rfl, rfl⟩ := hrel
          have hfl := Lk.found_length (xs.take k) ref
          have hfk : (xs.take k).length ≤ k := List.length_take_le _ _
          by_cases hlt : k < xs.length
          · obtain ⟨b, off, rfl, hb, hc⟩ := HX.out (by omega)
            obtain ⟨x, hxk⟩ := get_at hlt
            obtain ⟨z, c0, -⟩ := hc k x hxk
            have hsn := Lk.found_snoc xs ref k x hxk
            generalize Lk.found (xs.take k) ref = ys at hfl hsn ⊢
            have HSN := Lib.hid hsn
            have HZ := Lib.hid z
            rw [maxLen_val] at z
            clear hc hxk HX hsn
            go_wp2_with (first
              | (go_at_call 40; refine (ref18_begins_any _ _ _ HZ.out HR.out).mono ?_; rintro e w5 ⟨rfl, rfl⟩; generalize hbg : Lib.hasPrefix x.id.data.toList ref.data.toList = q; have HBG := Lib.hid hbg; clear hbg; cases q))
            · go_round
              case rel => exact ⟨k + 1, by omega, by go_num, by rw [HSN.out, Lk.begins, HBG.out]; simp, by rw [HSN.out, Lk.begins, HBG.out]; simp⟩
              case measure => simp [intOf]; omega
            · go_round
              case rel => exact ⟨k + 1, by omega, by go_num, by rw [HSN.out, Lk.begins, HBG.out]; simp, by rw [HSN.out, Lk.begins, HBG.out]; simp⟩
              case measure => simp [intOf]; omega
          · have he : k = xs.length := by omega
            subst he
            have hmt := HM.out
            rw [List.take_of_length_le (Nat.le_refl _)] at hfl ⊢
            generalize Lk.found xs ref = fs at hmt hfl ⊢
            clear HX HM
            by_cases ef : fs.length = 0
            · rw [if_pos (.inr (.inr ef))] at hmt
              obtain rfl := List.length_eq_zero_iff.1 ef
              have HM := Lib.hid hmt
              clear hmt
              go_wp2_with fail
              go_ret2
              exact ⟨by rw [HM.out]; rfl, rfl⟩
            · rw [if_neg (by omega)] at hmt
              by_cases e2 : 1 < fs.length
              · rw [if_pos e2] at hmt
                have HM := Lib.hid hmt
                clear hmt
                go_wp2_with fail
                go_ret2
                exact ⟨by rw [HM.out]; rfl, rfl⟩
              · rw [if_neg e2] at hmt
                obtain ⟨y, rfl⟩ : ∃ y, fs = [y] := by
                  match fs, ef, e2 with
                  | [y], _, _ => exact ⟨y, rfl⟩
                  | [], ef, _ => exact absurd rfl ef
                  | _ :: _ :: _, _, e2 => exact absurd (by simp) e2
                have HM := Lib.hid hmt
                clear hmt
                go_wp2_with fail
                go_ret2
                exact ⟨by rw [HM.out]; rfl, rfl⟩
      · have hmt := HM.out
        rw [if_pos (by omega)] at hmt
        have HM2 := Lib.hid hmt
        clear hmt HM HX
        go_loop [9, 10, 11] (fun n d i => i = .int .i64 0 ∧ n = .int .i64 0) (fun _ _ i => xs.length - (intOf i).toNat)
        case atStart => exact ⟨rfl, rfl⟩
        case round =>
          obtain ⟨rfl, rfl⟩ := hrel
          go_wp2_with fail
          all_goals
            go_ret2
            exact ⟨by rw [HM2.out]; rfl, rfl⟩
end Go.Proofs.Ytlniiaopindjnaa
