/-
  Fresh of lookup and of the reference, walked.
-/
import Derived.Test.YtlniiaopindjnaaLookR
import Derived.Test.YtlniiaopindjnaaIdW
import Derived.Test.YtlniiaopindjnaaFreeP
namespace Go.Proofs.Ytlniiaopindjnaa
set_option linter.unusedVariables false
open Go.RowKit

theorem i64_and24 (n : Int) : bits .and .i64 n 16777215 = n % 16777216 := by
  have h127 : (BitVec.ofInt 64 16777215).toNat = 2 ^ 24 - 1 := by decide
  have key : (BitVec.ofInt 64 n &&& BitVec.ofInt 64 16777215).toNat = (n % ((2 ^ 64 : Nat) : Int)).toNat % 2 ^ 24 := by
    rw [BitVec.toNat_and, BitVec.toNat_ofInt, h127, Nat.and_two_pow_sub_one_eq_mod]
  show IntKind.i64.wrap ((BitVec.ofInt 64 n &&& BitVec.ofInt 64 16777215).toNat : Nat) = n % 16777216
  rw [key, IntKind.wrap_i64]
  omega
/-- Where the search for an id begins. -/
def Lk.start (d : Int) : Nat := (d % 16777216).toNat
theorem Lk.start_lt (d : Int) : Lk.start d < 16777216 := by unfold Lk.start; omega
theorem Lk.start_bits (d : Int) : bits .and .i64 d 16777215 = (Lk.start d : Int) := by rw [i64_and24]; unfold Lk.start; omega

theorem Lk.round_cases {xs : List NamedD} {f k k0 : Nat} (hk : k ≤ k0) (hn : Lk.taken xs f k0 = false) (hb : ∀ j, j < k0 → Lk.taken xs f j = true) : (k = k0 ∧ Lk.taken xs f k = false) ∨ (k < k0 ∧ Lk.taken xs f k = true) := by
  rcases Nat.lt_or_eq_of_le hk with h | rfl
  · exact .inr ⟨h, hb k h⟩
  · exact .inl ⟨rfl, hn⟩

set_option maxHeartbeats 2000000 in
set_option maxRecDepth 100000 in
theorem ref18_Fresh_any (a : Option Addr) (n c : Nat) (xs : List NamedD) (d : Int) (w : World) (h : RNameds w w.heap.size [.slice a n c] xs) :
    Calls Try.prog 22 #[.slice a n c, .int .i64 d] w fun e w' => e = .returned (.tuple #[.string (Lk.fresh xs (Lk.start d)).1, .int .i64 (Lk.fresh xs (Lk.start d)).2]) ∧ w = w' := by
  have hf := Lk.start_lt d
  have hfb := Lk.start_bits d
  generalize Lk.start d = f at hf hfb ⊢
  obtain ⟨rfl, l1, l2, -, hx⟩ := nameds_open h
  have HX := Lib.hid hx
  rw [maxLen_val] at l2
  clear hx h
  by_cases hfull : 32 ≤ xs.length
  · have HF := Lib.hid (show Lk.fresh xs f = (⟨#[]⟩, 5) by unfold Lk.fresh; rw [if_pos hfull])
    clear HX
    go_enter Try.func22, Try.ntmps22
    go_wp2_with fail
    go_ret2
    exact ⟨by rw [HF.out]; rfl, rfl⟩
  · have hfl : xs.length < 32 := by omega
    obtain ⟨k0, hk0, hn0, hb0⟩ := Lk.exists_free xs f hfl
    have HF := Lib.hid (Lk.fresh_at hfl hk0 hn0 hb0)
    have HN := Lib.hid hn0
    have HB := Lib.hid hb0
    clear hn0 hb0
    go_enter Try.func22, Try.ntmps22
    go_wp2_with fail
    go_loop [7, 8, 9, 10] (fun i _ _ _ => ∃ k : Nat, k ≤ k0 ∧ i = .int .i64 k) (fun i _ _ _ => k0 - (intOf i).toNat)
    case atStart => exact ⟨0, Nat.zero_le _, rfl⟩
    case round =>
      obtain ⟨k, hk, rfl⟩ := hrel
      go_wp2_with (first
        | (go_at_call 42; refine (ref18_Id_any ((f + k) % 16777216) _ (Nat.mod_lt _ (by decide))).mono ?_; rintro e w5 ⟨rfl, rfl⟩; have hq : xs.any (Lk.hasId (Hx.idS ((f + k) % 16777216))) = Lk.taken xs f k := rfl; generalize hs : Hx.idS ((f + k) % 16777216) = s at hq ⊢; have HQ := Lib.hid hq; have HS := Lib.hid hs; clear hq hs))
      go_loop [9, 10] (fun q j => ∃ m : Nat, m ≤ xs.length ∧ j = .int .i64 m ∧ q = .bool ((xs.take m).any (Lk.hasId s))) (fun _ j => xs.length - (intOf j).toNat)
      case atStart => exact ⟨0, Nat.zero_le _, rfl, rfl⟩
      case round =>
        obtain ⟨m, hm, rfl, rfl⟩ := hrel
        by_cases hlt : m < xs.length
        · obtain ⟨b, off, rfl, hb, hc⟩ := HX.out (by omega)
          obtain ⟨x, hxk⟩ := get_at hlt
          obtain ⟨z, c0, -⟩ := hc m x hxk
          have hsn := any_snoc (Lk.hasId s) xs m x hxk
          generalize (xs.take m).any (Lk.hasId s) = q at hsn ⊢
          have HSN := Lib.hid hsn
          clear hc hxk HX hsn
          cases q
          · go_wp2_with fail
            go_round
            case rel => exact ⟨m + 1, by omega, by go_num, by rw [HSN.out]; rfl⟩
            case measure => simp [intOf]; omega
          · go_wp2_with fail
            go_round
            case rel => exact ⟨m + 1, by omega, by go_num, by rw [HSN.out]; rfl⟩
            case measure => simp [intOf]; omega
        · have he : m = xs.length := by omega
          subst he
          rw [List.take_of_length_le (Nat.le_refl _), HQ.out]
          clear HX
          rcases Lk.round_cases hk HN.out HB.out with ⟨hkk, ht⟩ | ⟨hkk, ht⟩
          · rw [ht]
            go_wp2_with fail
            go_ret2
            refine ⟨?_, rfl⟩
            rw [HF.out, ← hkk, HS.out]
            rfl
          · rw [ht]
            go_wp2_with fail
            go_round
            case rel => exact ⟨k + 1, by omega, by go_num⟩
            case measure => simp [intOf]; omega

set_option maxHeartbeats 2000000 in
set_option maxRecDepth 100000 in
theorem lookup_Fresh_any (a : Option Addr) (n c : Nat) (xs : List NamedD) (d : Int) (w : World) (h : RNameds w w.heap.size [.slice a n c] xs) :
    Calls Try.prog 21 #[.slice a n c, .int .i64 d] w fun e w' => e = .returned (.tuple #[.string (Lk.fresh xs (Lk.start d)).1, .int .i64 (Lk.fresh xs (Lk.start d)).2]) ∧ Below w.heap.size w w' := by
  have hf := Lk.start_lt d
  have hfb := Lk.start_bits d
  generalize Lk.start d = f at hf hfb ⊢
  obtain ⟨rfl, l1, l2, -, -⟩ := nameds_open h
  have HR := Lib.hid h
  rw [maxLen_val] at l2
  clear h
  by_cases hfull : 32 ≤ xs.length
  · have HF := Lib.hid (show Lk.fresh xs f = (⟨#[]⟩, 5) by unfold Lk.fresh; rw [if_pos hfull])
    go_enter Try.func21, Try.ntmps21
    go_wp2_with fail
    go_ret2
    exact ⟨by rw [HF.out]; rfl, Below.refl _ _⟩
  · have hfl : xs.length < 32 := by omega
    obtain ⟨k0, hk0, hn0, hb0⟩ := Lk.exists_free xs f hfl
    have HF := Lib.hid (Lk.fresh_at hfl hk0 hn0 hb0)
    have HN := Lib.hid hn0
    have HB := Lib.hid hb0
    clear hn0 hb0
    go_enter Try.func21, Try.ntmps21
    go_wp2_with fail
    go_loopw [7, 8, 17] (fun _ _ i wr => ∃ k : Nat, k ≤ k0 ∧ i = .int .i64 k ∧ Below w.heap.size w wr) (fun _ _ i _ => k0 - (intOf i).toNat)
    case atStart => exact ⟨0, Nat.zero_le _, rfl, Below.refl _ _⟩
    case round =>
      obtain ⟨k, hk, rfl, hbel⟩ := hrel
      have HL := Lib.hid hbel
      clear hbel
      go_wp2_with (first
        | (go_at_call 41; refine (id_any ((f + k) % 16777216) _ (Nat.mod_lt _ (by decide))).mono ?_; rintro e w5 ⟨rfl, hb5⟩; have hq : xs.any (Lk.hasId (Hx.idS ((f + k) % 16777216))) = Lk.taken xs f k := rfl; generalize hs : Hx.idS ((f + k) % 16777216) = s at hq ⊢; have HQ := Lib.hid hq; have HS := Lib.hid hs; have HL5 := Lib.hid (HL.out.trans (hb5.mono HL.out.size)); clear hb5 hq hs HL)
        | (go_at_call 35; refine (isId_any2 _ _).mono ?_; rintro e w6 ⟨g, rfl, hg, hgc, hb6⟩; have HL6 := Lib.hid (HL5.out.trans (hb6.mono HL5.out.size)); clear hb6 HL5)
        | (go_at_call 34; refine (containsFunc_any _ _ _ xs (Lk.hasId s) _ _ eg_isId _ (kept_nameds.on HL6.out HR.out) (isId_pred s g _ xs hg hgc)).mono ?_; rintro e w7 ⟨rfl, hb7⟩; have HL7 := Lib.hid (HL6.out.trans (hb7.mono HL6.out.size)); clear hb7 HL6 hgc; rw [HQ.out]; rcases Lk.round_cases hk HN.out HB.out with ⟨hkk, ht⟩ | ⟨hkk, ht⟩ <;> rw [ht]))
      · go_ret2
        refine ⟨?_, HL7.out⟩
        rw [HF.out, ← hkk, HS.out]
        rfl
      · go_roundw
        case rel => exact ⟨k + 1, by omega, by go_num, HL7.out⟩
        case measure => simp [intOf]; omega
end Go.Proofs.Ytlniiaopindjnaa
