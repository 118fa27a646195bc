/-
  Layer 18: LookupMeans: its walk.
-/
import Derived.Test.YtlniiaopindjnaaLookA
import Derived.Test.YtlniiaopindjnaaMeansP
import Derived.Test.YtlniiaopindjnaaAppend3
namespace Go.Proofs.Ytlniiaopindjnaa
set_option linter.unusedVariables false
open Go.RowKit

set_option maxHeartbeats 4000000 in
set_option maxRecDepth 100000 in
theorem lookupMeans_walk (a : Option Addr) (n c : Nat) (xs : List NamedD) (d : Int) (w : World) (h : RNameds w w.heap.size [.slice a n c] xs) :
    Calls Try.prog 5 #[.slice a n c, .int .i64 d] w fun e w' => e = .returned (.bool true) ∧ Below w.heap.size w w' := by
  have HR := Lib.hid h
  have BW := Lib.hid (Below.refl w.heap.size w)
  obtain ⟨rfl, l1, l2, -, hx⟩ := nameds_open h
  have HX := Lib.hid hx
  rw [maxLen_val] at l2
  clear h hx
  by_cases h30 : xs.length ≤ 30
  · go_enter Try.func5, Try.ntmps5
    go_upto_block 0 with (first
      | (go_at_call 17; refine (ref17_Few_any _ _ _ _ _ _ HR.out).mono ?_; rintro e w3 ⟨b, rfl, rfl, hq⟩; have HQ := Lib.hid hq; clear hq; cases b)
      | (go_at_call 18; refine (law18_awake_any _).mono ?_; rintro e w3 ⟨rfl, hb3⟩; replace BW := Lib.hid (BW.out.trans (hb3.mono BW.out.size)); clear hb3))
    · go_ret
      exact ⟨rfl, BW.out⟩
    · clear BW
      go_cut [5] (fun _ wx => Hid (Below w.heap.size w wx) ∧ Hid (Lk.Plain xs))
      case first =>
        go_wp2_with fail
        go_loopw [5] (fun i wr => ∃ k : Nat, k ≤ xs.length ∧ i = .int .i64 k ∧ Below w.heap.size w wr ∧ ∀ j x, j < k → xs[j]? = some x → Hx.isId x.id.data.toList = true ∧ x.names = []) (fun i _ => xs.length - (intOf i).toNat)
        case atStart => exact ⟨0, Nat.zero_le _, rfl, Below.refl _ _, none_before xs⟩
        case round =>
          obtain ⟨k, hk, rfl, hbel, hall⟩ := hrel
          have HA := Lib.hid hall
          have HB := Lib.hid hbel
          by_cases hlt : k < xs.length
          · obtain ⟨-, -, -, -, hxr⟩ := nameds_open (kept_nameds.on hbel HR.out)
            obtain ⟨b, off, rfl, hb, hc⟩ := hxr (by omega)
            obtain ⟨x, hxk⟩ := get_at hlt
            obtain ⟨z, c0, na, nc, c1, -⟩ := hc k x hxk
            have x100 := ((HQ.out trivial).2 x (List.mem_of_getElem? hxk)).1
            have HXK := Lib.hid hxk
            clear hall hbel hxr hc hxk HX
            have hii := fun W => ref06_IsId_any x.id W (by omega)
            obtain ⟨q, hq⟩ : ∃ q, q = Hx.isId x.id.data.toList := ⟨_, rfl⟩
            simp only [← hq] at hii
            have HI := Lib.hid hii
            have HQ2 := Lib.hid hq
            clear hii hq
            by_cases h0 : x.names.length = 0
            · have h0' : ((x.names.length : Int) ≤ 0) := by omega
              go_wp2_with (first
                | (go_at_call 25; refine (HI.out _).mono ?_; rintro e w5 ⟨rfl, hb5⟩; have d1 := (hb5.cell (p := ⟨b, off + k * 2 + 1, none⟩) hb).trans c1; replace HB := Lib.hid (HB.out.trans (hb5.mono HB.out.size)); clear hb5; cases q)
                | (go_at_call 18; refine (law18_awake_any _).mono ?_; rintro e w3 ⟨rfl, hb3⟩; replace HB := Lib.hid (HB.out.trans (hb3.mono HB.out.size)); clear hb3))
              · go_ret
                exact ⟨rfl, HB.out⟩
              · go_roundw
                case rel => exact ⟨k + 1, by omega, by go_num, HB.out, grow_all HA.out HXK.out ⟨HQ2.out.symm, List.length_eq_zero_iff.1 h0⟩⟩
                case measure => simp [intOf]; omega
            · go_wp2_with (first
                | (go_at_call 25; refine (HI.out _).mono ?_; rintro e w5 ⟨rfl, hb5⟩; have d1 := (hb5.cell (p := ⟨b, off + k * 2 + 1, none⟩) hb).trans c1; replace HB := Lib.hid (HB.out.trans (hb5.mono HB.out.size)); clear hb5; cases q)
                | (go_at_call 18; refine (law18_awake_any _).mono ?_; rintro e w3 ⟨rfl, hb3⟩; replace HB := Lib.hid (HB.out.trans (hb3.mono HB.out.size)); clear hb3))
              all_goals
                go_ret
                exact ⟨rfl, HB.out⟩
          · have he : k = xs.length := by omega
            subst he
            clear HX hall hbel
            go_wp2_with fail
            go_meet
            exact ⟨HB, Lib.hid (all_of HA.out (Nat.le_refl _))⟩
      case rest =>
        obtain ⟨HB0, HP⟩ := hcut
        have HBC := Lib.hid HB0.out
        have hsc := HB0.out.size
        clear HX
        go_upto_block 2 with fail
        go_cut [6] (fun _ wx => Hid (Below w.heap.size w wx))
        case first =>
          go_wp2_with fail
          go_loopw [6] (fun i wr => ∃ k : Nat, k ≤ xs.length ∧ i = .int .i64 k ∧ Below w.heap.size w wr) (fun i _ => xs.length - (intOf i).toNat)
          case atStart => exact ⟨0, Nat.zero_le _, rfl, HBC.out⟩
          case round =>
            obtain ⟨k, hk, rfl, hbel⟩ := hrel
            have HB := Lib.hid hbel
            by_cases hlt : k < xs.length
            · obtain ⟨x, hxk⟩ := get_at hlt
              have hxm := List.mem_of_getElem? hxk
              have hRr := kept_nameds.on hbel HR.out
              obtain ⟨-, -, -, -, hxr⟩ := nameds_open hRr
              obtain ⟨b, off, rfl, hb, hc⟩ := hxr (by omega)
              obtain ⟨z, c0, -⟩ := hc k x hxk
              have x6 := Lk.isId_size (HP.out x hxm).1
              have HM := Lib.hid hxm
              have HRR := Lib.hid hRr
              have hF := fun (W : World) (hW : RNameds W W.heap.size [.slice (some ⟨b, off, none⟩) xs.length c] xs) => lookup_Find_any _ _ _ xs x.id W hW (by unfold maxLen; omega) (by omega)
              simp only [Lk.meant_id hxm rfl] at hF
              have HF := Lib.hid hF
              clear hbel hxr hc hxk hxm hRr hF HR HB0 HBC
              go_wp2_with (first
                | (go_at_call 19; refine (HF.out _ HRR.out).mono ?_; rintro e w5 ⟨rfl, hb5⟩; have d0 := (hb5.cell (p := ⟨b, off + k * 2, none⟩) hb).trans c0; replace HB := Lib.hid (HB.out.trans (hb5.mono HB.out.size)); have hb5' := Nat.lt_of_lt_of_le hb hb5.size; replace HRR := Lib.hid (kept_nameds.on hb5 HRR.out); clear hb5 c0))
              go_loopw [9] (fun i wq => ∃ m : Nat, 1 ≤ m ∧ m ≤ 5 ∧ i = .int .i64 m ∧ Below w.heap.size w wq ∧ Below w5.heap.size w5 wq) (fun i _ => 5 - (intOf i).toNat)
              case atStart => exact ⟨1, by omega, by omega, rfl, HB.out, Below.refl _ _⟩
              case round =>
                obtain ⟨m, hm1, hm5, rfl, hbq, hb5q⟩ := hrel
                have e0 := (hb5q.cell (p := ⟨b, off + k * 2, none⟩) hb5').trans d0
                have hRq := kept_nameds.on hb5q HRR.out
                have hb5q' := Nat.lt_of_lt_of_le hb5' hb5q.size
                have HBQ := Lib.hid hbq
                have HB5 := Lib.hid hb5q
                have HRQ := Lib.hid hRq
                by_cases hlm : m < 5
                · have z1 : (x.id.extract 0 m).size ≤ maxLen := by rw [Lk.extract_size _ _ (by omega)]; unfold maxLen; omega
                  have z2 : (x.id.extract 0 (m + 1)).size ≤ maxLen := by rw [Lk.extract_size _ _ (by omega)]; unfold maxLen; omega
                  have hA := fun (W : World) (hW : RNameds W W.heap.size [.slice (some ⟨b, off, none⟩) xs.length c] xs) => lookup_Find_any _ _ _ xs (x.id.extract 0 m) W hW z1 (by omega)
                  have hB := fun (W : World) (hW : RNameds W W.heap.size [.slice (some ⟨b, off, none⟩) xs.length c] xs) => lookup_Find_any _ _ _ xs (x.id.extract 0 (m + 1)) W hW z2 (by omega)
                  rcases Lk.meant_prefix HP.out HM.out hm1 hlm with hq | ⟨hq, hq2⟩
                  · simp only [hq] at hA
                    generalize Lk.meant xs (x.id.extract 0 (m + 1)) = mm at hB
                    have HA := Lib.hid hA
                    have HBB := Lib.hid hB
                    clear hbq hb5q d0 hRq hA hB hq HRR HB z1 z2
                    go_wp2_with (first
                      | (go_at_call 19; with_reducible refine (HA.out _ HRQ.out).mono ?_; rintro e w6 ⟨rfl, hb6⟩; have f0 := (hb6.cell (p := ⟨b, off + k * 2, none⟩) hb5q').trans e0; have hb6' := Nat.lt_of_lt_of_le hb5q' hb6.size; replace HBQ := Lib.hid (HBQ.out.trans (hb6.mono HBQ.out.size)); replace HB5 := Lib.hid (HB5.out.trans (hb6.mono HB5.out.size)); have HRQ6 := Lib.hid (kept_nameds.on hb6 HRQ.out); clear hb6 HRQ e0)
                      | (go_at_call 19; with_reducible refine (HBB.out _ HRQ6.out).mono ?_; rintro e w7 ⟨rfl, hb7⟩; have g0 := (hb7.cell (p := ⟨b, off + k * 2, none⟩) hb6').trans f0; replace HBQ := Lib.hid (HBQ.out.trans (hb7.mono HBQ.out.size)); replace HB5 := Lib.hid (HB5.out.trans (hb7.mono HB5.out.size)); clear hb7 f0))
                    go_roundw
                    case rel => exact ⟨m + 1, by omega, by omega, by go_num, HBQ.out, HB5.out⟩
                    case measure => simp [intOf]; omega
                  · simp only [hq] at hA
                    simp only [hq2] at hB
                    have HA := Lib.hid hA
                    have HBB := Lib.hid hB
                    clear hbq hb5q d0 hRq hA hB hq hq2 HRR HB z1 z2
                    go_wp2_with (first
                      | (go_at_call 19; with_reducible refine (HA.out _ HRQ.out).mono ?_; rintro e w6 ⟨rfl, hb6⟩; have f0 := (hb6.cell (p := ⟨b, off + k * 2, none⟩) hb5q').trans e0; have hb6' := Nat.lt_of_lt_of_le hb5q' hb6.size; replace HBQ := Lib.hid (HBQ.out.trans (hb6.mono HBQ.out.size)); replace HB5 := Lib.hid (HB5.out.trans (hb6.mono HB5.out.size)); have HRQ6 := Lib.hid (kept_nameds.on hb6 HRQ.out); clear hb6 HRQ e0)
                      | (go_at_call 19; with_reducible refine (HBB.out _ HRQ6.out).mono ?_; rintro e w7 ⟨rfl, hb7⟩; have g0 := (hb7.cell (p := ⟨b, off + k * 2, none⟩) hb6').trans f0; replace HBQ := Lib.hid (HBQ.out.trans (hb7.mono HBQ.out.size)); replace HB5 := Lib.hid (HB5.out.trans (hb7.mono HB5.out.size)); clear hb7 f0))
                    go_roundw
                    case rel => exact ⟨m + 1, by omega, by omega, by go_num, HBQ.out, HB5.out⟩
                    case measure => simp [intOf]; omega
                · have he : m = 5 := by omega
                  subst he
                  clear hbq hb5q d0 hRq
                  go_wp2_with fail
                  go_roundw
                  case rel => exact ⟨k + 1, by omega, by go_num, HBQ.out⟩
                  case measure => simp [intOf]; omega
            · have he : k = xs.length := by omega
              subst he
              clear hbel
              go_wp2_with fail
              go_meet
              exact HB
        case rest =>
          have HBC := Lib.hid hcut.out
          obtain ⟨s, hfs, hid, hs6, hne⟩ := Lk.fresh_ok (show xs.length < 32 by omega) (Lk.start d)
          have hF := fun (W : World) (hW : RNameds W W.heap.size [.slice a xs.length c] xs) => lookup_Fresh_any a _ c xs d W hW
          simp only [hfs] at hF
          have hI := fun W => ref06_IsId_any s W (by omega)
          simp only [hid] at hI
          have HF := Lib.hid hF
          have HI := Lib.hid hI
          have HN := Lib.hid hne
          have HRC := Lib.hid (kept_nameds.on hcut.out HR.out)
          clear hF hI hne hfs hid hcut HR
          go_wp2_with (first
            | (go_at_call 21; refine (HF.out _ HRC.out).mono ?_; rintro e w5 ⟨rfl, hb5⟩; replace HBC := Lib.hid (HBC.out.trans (hb5.mono HBC.out.size)); replace HRC := Lib.hid (kept_nameds.on hb5 HRC.out); clear hb5)
            | (go_at_call 25; refine (HI.out _).mono ?_; rintro e w6 ⟨rfl, hb6⟩; replace HBC := Lib.hid (HBC.out.trans (hb6.mono HBC.out.size)); replace HRC := Lib.hid (kept_nameds.on hb6 HRC.out); clear hb6))
          go_loop [16] (fun i => ∃ k : Nat, k ≤ xs.length ∧ i = .int .i64 k) (fun i => xs.length - (intOf i).toNat)
          case atStart => exact ⟨0, Nat.zero_le _, rfl⟩
          case round =>
            obtain ⟨k, hk, rfl⟩ := hrel
            by_cases hlt : k < xs.length
            · obtain ⟨x, hxk⟩ := get_at hlt
              have hxm := List.mem_of_getElem? hxk
              obtain ⟨-, -, -, -, hxr⟩ := nameds_open HRC.out
              obtain ⟨b, off, rfl, hb, hc⟩ := hxr (by omega)
              obtain ⟨z, c0, -⟩ := hc k x hxk
              have hqq : (x.id.toList == s.toList) = false := by
                rw [beq_eq_false_iff_ne]
                exact fun h => HN.out x hxm (Lk.toList_inj.1 h)
              clear hxr hc hxk hxm
              go_wp2_with fail
              go_round
              case rel => exact ⟨k + 1, by omega, by go_num⟩
              case measure => simp [intOf]; omega
            · have he : k = xs.length := by omega
              subst he
              have hl1 : (xs ++ [(⟨s, []⟩ : NamedD)]).length = xs.length + 1 := by simp
              have HL1 := Lib.hid hl1
              clear hl1
              have hO0 := OwnsN.none w6
              have HO0 := Lib.hid hO0
              have hB0 := BringsN.of_read (w := w6.alloc (.cells #[] 44)) (kept_nameds.out (Same.alloc w6.heap.size w6 (.cells #[] 44) (Nat.le_refl _)) HRC.out) (Nat.le_refl _)
              have HBR := Lib.hid hB0
              clear hO0 hB0 HF
              have HB6a := Lib.hid (HBC.out.alloc HBC.out.size (.cells #[] 44))
              have hs66 := HBC.out.size
              have hFX := fun (W : World) (ga : Option Addr) (gcap : Nat) (hW : RNameds W W.heap.size [.slice ga (xs.length + 1) gcap] (xs ++ [(⟨s, []⟩ : NamedD)])) => lookup_Find_any ga _ gcap (xs ++ [⟨s, []⟩]) s W hW (by unfold maxLen; omega) (by rw [HL1.out]; omega)
              simp only [Lk.meant_id (xs := xs ++ [(⟨s, []⟩ : NamedD)]) (ref := s) (x := ⟨s, []⟩) (by simp) rfl] at hFX
              have HFX := Lib.hid hFX
              clear hFX HBC HRC
              go_wp2_with (first
                | (at_builtin; (refine wpList_append_nameds rfl _ _ rfl w6.heap.size _ [] rfl HO0.out a xs.length c xs rfl HBR.out (by simp; omega) ?_; intro v' w7 ho7 hb7; obtain ⟨fa, fcap, rfl, -⟩ := ho7.reads; have HO7 := Lib.hid (ho7.alloc (.cells #[.string s, .slice none 0 0] 44)); have HB7 := Lib.hid ((HB6a.out.trans (hb7.mono hs66)).alloc (by have := hb7.size; simp at this; omega) (.cells #[.string s, .slice none 0 0] 44)); have HBR7 := Lib.hid (BringsN.one (w := w7) (base := w6.heap.size) ⟨s, []⟩ (na := none) (c := 0) slice_nil (by show s.size ≤ maxLen; unfold maxLen; omega) (by have := hb7.size; simp at this; omega)); clear ho7 hb7 HO0 HBR HB6a))
                | (at_builtin; (refine wpList_append_nameds rfl _ _ rfl w6.heap.size _ ([] ++ xs) rfl HO7.out (some ⟨w7.heap.size, 0, none⟩) 1 1 [⟨s, []⟩] rfl HBR7.out (by simp; omega) ?_; intro v' w8 ho8 hb8; obtain ⟨ga, gcap, rfl, hr8⟩ := (show OwnsN w8 w6.heap.size v' (xs ++ [⟨s, []⟩]) from ho8).reads; rw [HL1.out] at hr8 ⊢; have HR8 := Lib.hid hr8; have HB8 := Lib.hid (HB7.out.trans (hb8.mono hs66)); clear ho8 hb8 hr8 HO7 HBR7 HB7))
                | (go_at_call 19; (refine (HFX.out _ _ _ HR8.out).mono ?_; rintro e w9 ⟨rfl, hb9⟩; replace HB8 := Lib.hid (HB8.out.trans (hb9.mono HB8.out.size)); clear hb9 HR8))
                | (go_at_call 18; refine (law18_awake_any _).mono ?_; rintro e w3 ⟨rfl, hb3⟩; replace HB8 := Lib.hid (HB8.out.trans (hb3.mono HB8.out.size)); clear hb3))
              all_goals
                go_ret
                exact ⟨rfl, HB8.out⟩
  · go_enter Try.func5, Try.ntmps5
    go_wp2_with (first
      | (go_at_call 17; refine (ref17_Few_any _ _ _ _ _ _ HR.out).mono ?_; rintro e w3 ⟨b, rfl, rfl, hq⟩; have HQ := Lib.hid hq; clear hq; cases b)
      | (go_at_call 18; refine (law18_awake_any _).mono ?_; rintro e w3 ⟨rfl, hb3⟩; replace BW := Lib.hid (BW.out.trans (hb3.mono BW.out.size)); clear hb3))
    all_goals
      go_ret
      exact ⟨rfl, BW.out⟩
end Go.Proofs.Ytlniiaopindjnaa
