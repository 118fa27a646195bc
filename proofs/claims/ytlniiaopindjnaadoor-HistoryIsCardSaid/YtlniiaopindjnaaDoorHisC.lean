/-
  Layer 35: the library's ContainsFunc, IndexFunc over numbers, IsSorted, walked.
-/
import Derived.Test.YtlniiaopindjnaaDoorHisB
namespace Go.Proofs.YtlniiaopindjnaaDoor
set_option linter.unusedVariables false
open Go.RowKit

set_option maxHeartbeats 1000000 in
theorem containsFunc_event (a : Option Addr) (n cap : Nat) (xs : List EventD) (e0 : EventD) (g : Nat) (w : World) (h : REvents w w.heap.size [.slice a n cap] xs) (hg : CapAt w g e0) :
    Calls Tryd.prog 42 #[.slice a n cap, .func (.func 43) #[] #[.pointer (some ⟨g, 0, none⟩)]] w fun e w' => e = .returned (.bool (xs.any (Hi.clash e0))) ∧ Below w.heap.size w w' := by
  have H := Lib.hid (indexFunc_event a n cap xs e0 g w h hg)
  clear h hg
  go_enter Tryd.func42, Tryd.ntmps42
  go_wp2_with (go_at_call 62; refine H.out.mono ?_; rintro e w2 ⟨z, rfl, hz, hb2⟩; have HZ := Lib.hid hz; have HB2 := Lib.hid hb2; clear hz hb2)
  all_goals
    go_ret
    exact ⟨ret_bool (by rw [← HZ.out]; try simp [*]), HB2.out⟩

set_option maxHeartbeats 1000000 in
theorem indexFunc_int (a : Option Addr) (n cap : Nat) (xs : List Int) (e0 : EventD) (g : Nat) (w : World) (h : RInts w w.heap.size [.slice a n cap] xs) (hg : CapAt w g e0) :
    Calls Tryd.prog 63 #[.slice a n cap, .func (.func 45) #[] #[.pointer (some ⟨g, 0, none⟩)]] w (SomePlace (xs.any fun t => !Hi.cut e0 t) w) := by
  obtain ⟨rfl, hm1, hm2, _, _⟩ := ints_open h
  rw [maxLen_val] at hm2
  have H := Lib.hid h
  have HG := Lib.hid hg
  clear h hg
  go_enter Tryd.func63, Tryd.ntmps63
  go_wp2
  go_loopw [8] (fun i wr => ∃ k : Nat, k ≤ xs.length ∧ i = .int .i64 k ∧ Below w.heap.size w wr ∧ (xs.take k).any (fun t => !Hi.cut e0 t) = false) (fun i _ => xs.length - (intOf i).toNat)
  case atStart => exact ⟨0, by omega, rfl, Below.refl _ _, by simp⟩
  case round =>
    obtain ⟨k, hk, rfl, hbel, hany⟩ := hrel
    by_cases hlt : k < xs.length
    · obtain ⟨x, hx⟩ := get_at hlt
      obtain ⟨_, _, _, _, hev⟩ := ints_open (kept_ints.on hbel H.out)
      obtain ⟨b, off, rfl, hb, hc⟩ := hev (by omega)
      obtain ⟨hok, hcell⟩ := hc k x hx
      clear hc hev
      have HC1 := Lib.hid (fun W hW => check2_any e0 x g W (CapAt.lt hW) (CapAt.cell hW))
      have HX := Lib.hid hx
      have HA := Lib.hid hany
      have HB := Lib.hid hbel
      have HGr := Lib.hid (HG.out.on hbel)
      clear hx hany hbel
      cases hcl : (!Hi.cut e0 x) with
      | true =>
        simp only [hcl] at HC1
        have HQ := Lib.hid (any_found (p := fun t => !Hi.cut e0 t) HX.out hcl)
        clear hcl
        go_wp2_with (go_at_call 45; refine (HC1.out _ HGr.out).mono ?_; rintro e w2 ⟨rfl, hb2⟩; have HB2 := Lib.hid hb2; clear hb2)
        go_ret
        exact ⟨_, rfl, by rw [HQ.out]; simp, HB.out.trans (HB2.out.mono HB.out.size)⟩
      | false =>
        simp only [hcl] at HC1
        have HQ := Lib.hid (any_grow (p := fun t => !Hi.cut e0 t) HA.out HX.out hcl)
        clear hcl
        go_wp2_with (go_at_call 45; refine (HC1.out _ HGr.out).mono ?_; rintro e w2 ⟨rfl, hb2⟩; have HB2 := Lib.hid hb2; clear hb2)
        go_roundw
        case rel => exact ⟨k + 1, by omega, by go_num, HB.out.trans (HB2.out.mono HB.out.size), HQ.out⟩
        case measure => simp [intOf]; omega
    · have he : k = xs.length := by omega
      subst he
      rw [List.take_length] at hany
      have HA := Lib.hid hany
      have HB := Lib.hid hbel
      clear hany hbel
      go_wp2
      go_ret
      exact ⟨_, rfl, by rw [HA.out]; rfl, HB.out⟩
set_option maxHeartbeats 1000000 in
theorem containsFunc_int (a : Option Addr) (n cap : Nat) (xs : List Int) (e0 : EventD) (g : Nat) (w : World) (h : RInts w w.heap.size [.slice a n cap] xs) (hg : CapAt w g e0) :
    Calls Tryd.prog 44 #[.slice a n cap, .func (.func 45) #[] #[.pointer (some ⟨g, 0, none⟩)]] w fun e w' => e = .returned (.bool (xs.any fun t => !Hi.cut e0 t)) ∧ Below w.heap.size w w' := by
  have H := Lib.hid (indexFunc_int a n cap xs e0 g w h hg)
  clear h hg
  go_enter Tryd.func44, Tryd.ntmps44
  go_wp2_with (go_at_call 63; refine H.out.mono ?_; rintro e w2 ⟨z, rfl, hz, hb2⟩; have HZ := Lib.hid hz; have HB2 := Lib.hid hb2; clear hz hb2)
  all_goals
    go_ret
    exact ⟨ret_bool (by rw [← HZ.out]; try simp [*]), HB2.out⟩
end Go.Proofs.YtlniiaopindjnaaDoor
