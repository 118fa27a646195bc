/-
  slices.IndexFunc, slices.ContainsFunc at records, and lookup's two closures, walked.
-/
import Derived.Test.YtlniiaopindjnaaLookP
import Derived.Test.YtlniiaopindjnaaShelf
import Derived.Shelf.Abstract
namespace Go.Proofs.Ytlniiaopindjnaa
set_option linter.unusedVariables false
open Go.RowKit

/-- slices.Contains, of a list that is read. -/
theorem contains_any (a : Option Addr) (n c : Nat) (xs : List ByteArray) (x : ByteArray) (w : World) (B : Nat) (h : RStrs w B [.slice a n c] xs) :
    Calls Try.prog 38 #[.slice a n c, .string x] w fun e w' => e = .returned (.bool (Lib.containsS xs x)) ∧ w = w' := by
  obtain ⟨rfl, h1, h2, -, hx⟩ := strs_open h
  by_cases h0 : xs.length = 0
  · rw [h0]
    refine (Go.Proofs.Try.slices_Contains_string_empty a c x w).mono ?_
    rintro e w' ⟨rfl, rfl⟩
    refine ⟨?_, rfl⟩
    rw [List.length_eq_zero_iff.1 h0]
    rfl
  · obtain ⟨b, off, rfl, -, hc⟩ := hx (by omega)
    rw [maxLen_val] at h2
    refine (Go.Proofs.Try.slices_Contains_string b off xs.length c xs x w (Nat.le_refl _) (by omega) (fun j hj => ?_)).mono ?_
    · rw [(hc j xs[j] (List.getElem?_eq_getElem hj)).2, List.getD, List.getElem?_eq_getElem hj]; rfl
    · rintro e w' ⟨rfl, rfl⟩
      rw [List.take_length]
      exact ⟨rfl, rfl⟩

/-- What a predicate on records owes. -/
def PredN (g : Nat) (lb : Array Value) (p : NamedD → Bool) (w : World) (xs : List NamedD) : Prop :=
  ∀ (W : World) (x : NamedD) (na : Option Addr) (nc : Nat), Below w.heap.size w W → x ∈ xs → x.id.size ≤ maxLen → RStrs W w.heap.size [.slice na x.names.length nc] x.names →
    Calls Try.prog g (#[.agg #[.string x.id, .slice na x.names.length nc]] ++ lb) W fun e w' => e = .returned (.bool (p x)) ∧ Below w.heap.size w w'

set_option maxHeartbeats 2000000 in
theorem isId_pred (ref : ByteArray) (b : Nat) (w : World) (xs : List NamedD) (hb : b < w.heap.size) (hc : w.cell? ⟨b, 0, none⟩ = some (.string ref)) :
    PredN 50 #[.pointer (some ⟨b, 0, none⟩)] (Lk.hasId ref) w xs := by
  intro W x na nc hB hx hid hn
  have hcW : W.cell? ⟨b, 0, none⟩ = some (.string ref) := (hB.cell (p := ⟨b, 0, none⟩) hb).trans hc
  have hbW : b < W.heap.size := Nat.lt_of_lt_of_le hb hB.size
  have hne : b ≠ W.heap.size := by omega
  have HN := Lib.hid hn
  clear hn hx
  show Calls Try.prog 50 #[.agg #[.string x.id, .slice na x.names.length nc], .pointer (some ⟨b, 0, none⟩)] W _
  go_enter Try.func50, Try.ntmps50
  go_wp2
  go_ret
  exact ⟨by simp_all [Lk.hasId], hB.alloc hB.size _⟩

set_option maxHeartbeats 2000000 in
theorem names_pred (ref : ByteArray) (b : Nat) (w : World) (xs : List NamedD) (hb : b < w.heap.size) (hc : w.cell? ⟨b, 0, none⟩ = some (.string ref)) :
    PredN 37 #[.pointer (some ⟨b, 0, none⟩)] (Lk.hasName ref) w xs := by
  intro W x na nc hB hx hid hn
  have hcW : W.cell? ⟨b, 0, none⟩ = some (.string ref) := (hB.cell (p := ⟨b, 0, none⟩) hb).trans hc
  have hbW : b < W.heap.size := Nat.lt_of_lt_of_le hb hB.size
  have hne : b ≠ W.heap.size := by omega
  have hn2 : ∀ v t, RStrs (W.alloc (.cells v t)) w.heap.size [.slice na x.names.length nc] x.names := fun v t => kept_strs.out (Same.alloc _ _ _ hB.size) hn
  have HN := Lib.hid hn2
  clear hn hx hn2
  show Calls Try.prog 37 #[.agg #[.string x.id, .slice na x.names.length nc], .pointer (some ⟨b, 0, none⟩)] W _
  go_enter Try.func37, Try.ntmps37
  go_wp2_with (go_at_call 38; refine (contains_any _ _ _ _ _ _ _ (HN.out _ _)).mono ?_; rintro e w2 ⟨rfl, rfl⟩)
  go_ret
  exact ⟨rfl, hB.alloc hB.size _⟩

set_option maxHeartbeats 2000000 in
theorem indexFunc_any (a : Option Addr) (n c : Nat) (xs : List NamedD) (p : NamedD → Bool) (g : Nat) (lb : Array Value) (eg : ∀ args w, (callFunc g args).run Try.prog w = .ok (.enter g args) w) (w : World)
    (h : RNameds w w.heap.size [.slice a n c] xs) (hp : PredN g lb p w xs) :
    Calls Try.prog 36 #[.slice a n c, .func (.func g) #[] lb] w fun e w' => e = .returned (.int .i64 (Lk.idxOf p xs)) ∧ Below w.heap.size w w' := by
  obtain ⟨rfl, h1, h2, -, hx⟩ := nameds_open h
  rw [maxLen_val] at h2
  have HX := Lib.hid hx
  have HP := Lib.hid hp
  clear hx h hp
  go_enter Try.func36, Try.ntmps36
  go_wp2
  go_loopw [5, 8] (fun _ i wr => ∃ k : Nat, k ≤ xs.length ∧ i = .int .i64 k ∧ Below w.heap.size w wr ∧ ∀ j x, j < k → xs[j]? = some x → p x = false) (fun _ i _ => xs.length - (intOf i).toNat)
  case atStart => exact ⟨0, Nat.zero_le _, rfl, Below.refl _ _, none_before xs⟩
  case round =>
    obtain ⟨k, hk, rfl, hbel, hall⟩ := hrel
    have HA := Lib.hid hall
    have HB := Lib.hid hbel
    clear hall
    by_cases hlt : k < xs.length
    · obtain ⟨b, off, rfl, hb, hc⟩ := HX.out (by omega)
      obtain ⟨x, hxk⟩ := get_at hlt
      obtain ⟨z, c0, na, nc, c1, hn⟩ := hc k x hxk
      have r0 := (hbel.cell (p := ⟨b, off + k * 2, none⟩) hb).trans c0
      have r1 := (hbel.cell (p := ⟨b, off + k * 2 + 1, none⟩) hb).trans c1
      have hcall := HP.out wr x na nc hbel (List.mem_of_getElem? hxk) z (kept_strs.out (Same.of_below hbel (Nat.le_refl _)) hn)
      have HXK := Lib.hid hxk
      clear hc HX hbel c0 c1 hn hxk HP
      cases hq : p x with
      | true =>
        have HQ := Lib.hid hq
        rw [hq] at hcall
        clear hq
        go_wp2_with (go_at_fn g; refine hcall.mono ?_; rintro e w2 ⟨rfl, hb2⟩)
        go_ret
        exact ⟨by rw [Lk.idx_hit HXK.out HQ.out HA.out]; rfl, hb2⟩
      | false =>
        have HQ := Lib.hid hq
        rw [hq] at hcall
        clear hq
        go_wp2_with (go_at_fn g; refine hcall.mono ?_; rintro e w2 ⟨rfl, hb2⟩)
        go_roundw
        case rel => exact ⟨k + 1, by omega, by go_num, hb2, grow_all HA.out HXK.out HQ.out⟩
        case measure => simp [intOf]; omega
    · have he : k = xs.length := by omega
      subst he
      clear HX HP
      go_wp2
      go_ret
      exact ⟨by rw [Lk.idx_miss (all_of HA.out (Nat.le_refl _))]; rfl, HB.out⟩

set_option maxHeartbeats 2000000 in
theorem containsFunc_any (a : Option Addr) (n c : Nat) (xs : List NamedD) (p : NamedD → Bool) (g : Nat) (lb : Array Value) (eg : ∀ args w, (callFunc g args).run Try.prog w = .ok (.enter g args) w) (w : World)
    (h : RNameds w w.heap.size [.slice a n c] xs) (hp : PredN g lb p w xs) :
    Calls Try.prog 34 #[.slice a n c, .func (.func g) #[] lb] w fun e w' => e = .returned (.bool (xs.any p)) ∧ Below w.heap.size w w' := by
  have HP := Lib.hid hp
  have HH := Lib.hid h
  clear h hp
  have hnn := Lk.nneg p xs
  generalize hr : xs.any p = r at hnn ⊢
  have HN := Lib.hid hnn
  clear hnn hr
  go_enter Try.func34, Try.ntmps34
  go_wp2_with (go_at_call 36; refine (indexFunc_any _ _ _ xs p _ _ eg _ HH.out HP.out).mono ?_; rintro e w2 ⟨rfl, hb2⟩)
  go_ret
  exact ⟨by rw [← HN.out]; rfl, hb2⟩
theorem eg_isId : ∀ args w, (callFunc 50 args).run Try.prog w = .ok (.enter 50 args) w := enters_of Try.func50 (by kernel_rfl) rfl
theorem eg_names : ∀ args w, (callFunc 37 args).run Try.prog w = .ok (.enter 37 args) w := enters_of Try.func37 (by kernel_rfl) rfl
end Go.Proofs.Ytlniiaopindjnaa
