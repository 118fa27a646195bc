/-
  digits.Hex, walked.
-/
import Derived.Test.YtlniiaopindjnaaDoorBuilder
import Derived.Test.YtlniiaopindjnaaDoorShelf
import Derived.Test.YtlniiaopindjnaaDoorHexP
import Derived.Lib.ConvBytes
namespace Go.Proofs.YtlniiaopindjnaaDoor
set_option linter.unusedVariables false
open Go.RowKit

set_option maxHeartbeats 1000000 in
set_option maxRecDepth 100000 in
theorem hex_any (s : ByteArray) (w : World) (hs : s.size ≤ 1000000) :
    Calls Tryd.prog 32 #[.string s] w fun e w' => e = .returned (.string ⟨(Hx.hex s.data.toList).toArray⟩) ∧ Below w.heap.size w w' := by
  have hcv := fun W : World => Lib.run_convert_string_bytes (P := Tryd.prog) W 9 53 5 s Tryd.underlying9 Tryd.underlying53 Tryd.underlying5
  obtain ⟨keep, hkeep⟩ : ∃ keep : Nat → Prop, ∀ k, keep k ↔ (k < w.heap.size ∨ k = w.heap.size + 1) := ⟨_, fun _ => Iff.rfl⟩
  have HK := Lib.hid hkeep
  clear hkeep
  go_enter Tryd.func32, Tryd.ntmps32
  go_wp2
  obtain ⟨w1, hw1⟩ : ∃ w1, w1 = Lib.bytesWorld (w.alloc (.cells #[.pointer none, .slice none 0 0] 55)) 5 s := ⟨_, rfl⟩
  have e1 : (w.alloc (.cells #[.pointer none, .slice none 0 0] 55)).heap.size = w.heap.size + 1 := by simp
  have hsz : w1.heap.size = w.heap.size + 1 + 1 := by rw [hw1, Lib.bytesWorld_size, e1]
  have hcell : ∀ k c, s.data.toList[k]? = some c → w1.cell? ⟨w.heap.size + 1, k, none⟩ = some (.int .u8 c.toNat) := by
    intro k c hc
    have hk : k < s.size := by have := (List.getElem?_eq_some_iff.1 hc).1; simpa using this
    have := Lib.bytesWorld_cell (w.alloc (.cells #[.pointer none, .slice none 0 0] 55)) 5 s k hk
    rw [e1] at this
    rw [hw1, this]
    simp [List.getD, hc]
  have hb0 : IsB 55 5 keep w.heap.size [] w1 := by
    refine IsB.of_fresh (by rw [hw1, Lib.bytesWorld_at_old _ _ _ _ (by rw [e1]; omega)]; exact heap_alloc_new w _) (fun hk => ?_) (fun k hk => ?_)
    · rcases (HK.out _).1 hk with h | h <;> omega
    · rcases (HK.out _).1 hk with h | h <;> omega
  have hbel : Below w.heap.size w w1 := by
    rw [hw1]
    exact ((Below.refl _ _).alloc (Nat.le_refl _) _).trans ⟨rfl, rfl, rfl, by rw [Lib.bytesWorld_size]; omega, fun k hk => Lib.bytesWorld_at_old _ _ _ k (by rw [e1]; omega)⟩
  have HC := Lib.hid hcell
  have HB := Lib.hid hb0
  have HL := Lib.hid hbel
  clear hcell hb0 hbel
  rw [← hw1]
  clear hw1 e1
  go_loopw [9] (fun i wr => ∃ k : Nat, k ≤ s.size ∧ i = .int .i64 k ∧ IsB 55 5 keep w.heap.size (Lib.byteCells (Hx.hex (s.data.toList.take k))) wr ∧ Under keep w1 wr) (fun i _ => s.size - (intOf i).toNat)
  case atStart => exact ⟨0, Nat.zero_le _, rfl, HB.out, Under.refl _ _⟩
  case round =>
    obtain ⟨k, hk, rfl, hisb, hun⟩ := hrel
    by_cases hlt : k < s.size
    · obtain ⟨c, hc⟩ := get_at (show k < s.data.toList.length by simpa using hlt)
      have hcl : wr.cell? ⟨w.heap.size + 1, k, none⟩ = some (.int .u8 c.toNat) := (hun.cell ((HK.out _).2 (.inr rfl))).trans (HC.out k c hc)
      have hl1 := Hx.hex_length (s.data.toList.take k)
      have hl2 : (s.data.toList.take k).length ≤ k := List.length_take_le _ _
      have hl3 : (Lib.byteCells (Hx.hex (s.data.toList.take k))).length ≤ 2000000 := by simp only [Lib.byteCells, List.length_map]; omega
      have hstep : Lib.byteCells (Hx.hex (s.data.toList.take (k + 1))) = Lib.byteCells (Hx.hex (s.data.toList.take k)) ++ [.int .u8 (Hx.dig (c.toNat / 16)).toNat] ++ [.int .u8 (Hx.dig (c.toNat % 16)).toNat] := by
        rw [List.take_add_one, hc, Option.toList_some, Hx.hex_snoc]
        simp [Lib.byteCells]
      obtain ⟨bs, hbs⟩ : ∃ bs, bs = Lib.byteCells (Hx.hex (s.data.toList.take k)) := ⟨_, rfl⟩
      rw [← hbs] at hisb hl3 hstep
      have HS := Lib.hid hstep
      have HU := Lib.hid hun
      have HI := Lib.hid hisb
      have hcb := UInt8.toNat_lt c
      have q1 : 0 ≤ (c.toNat : Int) / 16 ∧ (c.toNat : Int) / 16 < 16 := by omega
      clear hstep hl1 hl2 hbs hc hun hisb
      go_wp2_with fail
      rw [Hx.dig_get]
      refine (writeByte_any keep _ _ _ _ HI.out (by omega)).mono ?_
      rintro e w2 ⟨rfl, h2, u2⟩
      have H2 := Lib.hid h2
      have U2 := Lib.hid u2
      clear h2 u2
      go_wp2_with fail
      rw [Hx.dig_get]
      refine (writeByte_any keep _ _ _ _ H2.out (by simp; omega)).mono ?_
      rintro e w3 ⟨rfl, h3, u3⟩
      have H3 := Lib.hid h3
      have U3 := Lib.hid u3
      clear h3 u3
      go_wp2
      go_roundw
      case rel => exact ⟨k + 1, by omega, by go_num, by rw [HS.out]; exact H3.out, (HU.out.trans U2.out).trans U3.out⟩
      case measure => simp [intOf]; omega
    · have he : k = s.size := by omega
      subst he
      have HI := Lib.hid hisb
      have HU := Lib.hid hun
      clear hisb hun
      have hkb : ∀ k, k < w.heap.size → keep k := fun k hk => (HK.out _).2 (.inl hk)
      have hws : w.heap.size ≤ wr.heap.size := by have := HU.out.size; omega
      have HKB := Lib.hid hkb
      clear hkb
      go_wp2_with fail
      refine (Go.Proofs.Tryd.Builder_String_any w.heap.size w.heap.size _ _ (HI.out.lib HKB.out) hws).mono ?_
      rintro e w3 ⟨rfl, b3⟩
      have B3 := Lib.hid b3
      clear b3
      go_wp2
      go_ret
      exact ⟨by rw [List.take_of_length_le (by simp)]; rfl, (HL.out.trans (HU.out.below HKB.out)).trans B3.out⟩
end Go.Proofs.YtlniiaopindjnaaDoor
