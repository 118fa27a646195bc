/-
  Layer 18: LookupFinds: its walk.
-/
import Derived.Test.YtlniiaopindjnaaLookA
namespace Go.Proofs.Ytlniiaopindjnaa
set_option linter.unusedVariables false
open Go.RowKit

set_option maxHeartbeats 2000000 in
set_option maxRecDepth 100000 in
theorem lookupFinds_walk (a : Option Addr) (n c : Nat) (xs : List NamedD) (ref : ByteArray) (d : Int) (w : World) (h : RNameds w w.heap.size [.slice a n c] xs) (hr : ref.size ≤ maxLen) :
    Calls Try.prog 4 #[.slice a n c, .string ref, .int .i64 d] w fun e w' => e = .returned (.bool true) ∧ Below w.heap.size w w' := by
  have HR := Lib.hid h
  have BW := Lib.hid (Below.refl w.heap.size w)
  have HREF := Lib.hid hr
  rw [maxLen_val] at hr
  clear h
  go_enter Try.func4, Try.ntmps4
  go_wp2_with (first
    | (go_at_call 17; refine (ref17_Few_any _ _ _ _ _ _ HR.out).mono ?_; rintro e w3 ⟨b, rfl, rfl, hq⟩; have HQ := Lib.hid hq; clear hq; cases b)
    | (go_at_call 18; refine (law18_awake_any _).mono ?_; rintro e w3 ⟨rfl, hb3⟩; replace BW := Lib.hid (BW.out.trans (hb3.mono BW.out.size)); clear hb3)
    | (go_at_call 19; refine (lookup_Find_any _ _ _ _ _ _ HR.out HREF.out (by have := (HQ.out trivial).1; omega)).mono ?_; rintro e w3 ⟨rfl, hb3⟩; replace HR := Lib.hid (kept_nameds.on hb3 HR.out); replace BW := Lib.hid (BW.out.trans (hb3.mono BW.out.size)); clear hb3)
    | (go_at_call 20; refine (ref18_Find_any _ _ _ _ _ _ HR.out HREF.out (by have := (HQ.out trivial).1; omega)).mono ?_; rintro e w3 ⟨rfl, rfl⟩)
    | (go_at_call 21; refine (lookup_Fresh_any _ _ _ _ _ _ HR.out).mono ?_; rintro e w3 ⟨rfl, hb3⟩; replace HR := Lib.hid (kept_nameds.on hb3 HR.out); replace BW := Lib.hid (BW.out.trans (hb3.mono BW.out.size)); clear hb3)
    | (go_at_call 22; refine (ref18_Fresh_any _ _ _ _ _ _ HR.out).mono ?_; rintro e w3 ⟨rfl, rfl⟩)
    | (go_at_call 23; refine (lookup_Text_any _ _ _ _ _ HR.out (HQ.out trivial)).mono ?_; rintro e w3 ⟨rfl, hb3⟩; replace HR := Lib.hid (kept_nameds.on hb3 HR.out); replace BW := Lib.hid (BW.out.trans (hb3.mono BW.out.size)); clear hb3)
    | (go_at_call 24; refine (ref18_Text_any _ _ _ _ _ HR.out (HQ.out trivial)).mono ?_; rintro e w3 ⟨rfl, rfl⟩))
  all_goals
    go_ret
    exact ⟨rfl, BW.out⟩
end Go.Proofs.Ytlniiaopindjnaa
