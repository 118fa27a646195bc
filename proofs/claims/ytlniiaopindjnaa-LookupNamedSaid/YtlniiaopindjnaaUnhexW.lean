/-
  digit, value, Unhex, IsId of the references, walked.
-/
import Derived.Test.YtlniiaopindjnaaUnhexP
import Derived.Test.YtlniiaopindjnaaSpaceR
import Derived.Test.YtlniiaopindjnaaBuilder
import Derived.Test.YtlniiaopindjnaaBel
import Derived.Laws.IdiomStrings
import Derived.Laws.BytesArg
namespace Go.Proofs.Ytlniiaopindjnaa
set_option linter.unusedVariables false
open Go.RowKit

set_option maxHeartbeats 1000000 in
theorem ref01_digit_any (k : Nat) (w : World) (hk : k < 16) :
    Calls Try.prog 60 #[.int .i64 k] w fun e w' => e = .returned (.int .u8 (Hx.dig k).toNat) ∧ w = w' := by
  have h := Hx.dig_nat ⟨k, hk⟩
  simp only at h
  rw [h]
  by_cases h10 : k < 10
  · rw [if_pos h10]
    go_enter Try.func60, Try.ntmps60
    go_wp2
    go_ret
    exact ⟨by congr 1 <;> go_num, rfl⟩
  · rw [if_neg h10]
    go_enter Try.func60, Try.ntmps60
    go_wp2
    go_ret
    exact ⟨by congr 1 <;> go_num, rfl⟩

set_option maxHeartbeats 1000000 in
theorem ref01_value_any (c : Nat) (w : World) (hc : c < 256) :
    Calls Try.prog 56 #[.int .u8 c] w fun e w' => e = .returned (.int .i64 (Hx.val c)) ∧ w = w' := by
  go_enter Try.func56, Try.ntmps56
  go_wp2_with fail
  go_loop [3] (fun i => ∃ k : Nat, k ≤ 16 ∧ i = .int .i64 k ∧ ∀ j, j < k → (Hx.dig j).toNat ≠ c) (fun i => 16 - (intOf i).toNat)
  case atStart => exact ⟨0, by omega, rfl, fun j hj => by omega⟩
  case round =>
    obtain ⟨k, hk, rfl, hall⟩ := hrel
    have HA := Lib.hid hall
    clear hall
    by_cases hlt : k < 16
    · by_cases hq : (Hx.dig k).toNat = c
      · have HV := Lib.hid (Hx.val_hit c k hlt hq)
        go_wp2_with (go_at_call 60; refine (ref01_digit_any k _ hlt).mono ?_; rintro e w' ⟨rfl, rfl⟩; rw [hq])
        go_ret
        exact ⟨by rw [HV.out]; rfl, rfl⟩
      · obtain ⟨g, hg⟩ : ∃ g, g = (Hx.dig k).toNat := ⟨_, rfl⟩
        rw [← hg] at hq
        have hne : ((g : Int) == (c : Int)) = false := by rw [beq_eq_false_iff_ne]; omega
        have HG := Lib.hid hg
        clear hg
        go_wp2_with (go_at_call 60; refine (ref01_digit_any k _ hlt).mono ?_; rintro e w' ⟨rfl, rfl⟩; rw [← HG.out])
        go_round
        case rel =>
          refine ⟨k + 1, by omega, by go_num, fun j hj => ?_⟩
          rcases Nat.lt_or_ge j k with h | h
          · exact HA.out j h
          · have : j = k := by omega
            subst this; rw [← HG.out]; exact hq
        case measure => simp [intOf]; omega
    · have he : k = 16 := by omega
      subst he
      have HV := Lib.hid (Hx.val_miss c HA.out)
      go_wp2_with fail
      go_ret
      exact ⟨by rw [HV.out]; rfl, rfl⟩

theorem own_below {w w' : World} {base : Nat} {e : TypeId} {size : Nat} {v : Value} {n : Nat} {xs : List Value} (h : w.ownsRow base e size v n xs) (hb : Below w.heap.size w w') : w'.ownsRow base e size v n xs := by
  obtain ⟨h1, h2⟩ := h
  refine ⟨h1, ?_⟩
  rcases h2 with h2 | ⟨g, cap, cur, e, hg, hgb, r⟩
  · exact .inl h2
  · have hlt : g < w.heap.size := (Array.getElem?_eq_some_iff.1 hgb).1
    exact .inr ⟨g, cap, cur, e, hg, (hb.block g hlt).trans hgb, r⟩

/-- Is a text one of hexadecimal digits, two and two? -/
def Hx.okS (s : ByteArray) : Bool := decide (s.size % 2 = 0) && s.data.toList.all Hx.isHex
/-- The text of an own row of bytes. -/
theorem own_bytes {P : Program} {w : World} {base : Nat} {e src dst : TypeId} {v : Value} {l : List UInt8} (h : w.ownsRow base e 1 v l.length (Lib.byteCells l)) (hs : P.underlying src = some (.slice e)) (he : P.underlying e = some (.int .u8)) (hd : P.underlying dst = some .string) :
    (convert src dst v).run P w = .ok (.string ⟨l.toArray⟩) w := by
  rcases h.2 with ⟨rfl, hn⟩ | ⟨g, cap, cur, rfl, -, hg, -, -, -, hcur⟩
  · rw [List.length_eq_zero_iff.1 hn]
    exact run_convert_bytes_nil w src e hs he 0 0 dst hd
  · refine run_convert_bytes_back w src dst e ⟨g, 0, none⟩ cap l hs he hd ?_
    intro j hj
    rw [Addr.add_lit, Nat.zero_add, cell_of_row w g j cur e _ hg]
    have h1 : (cur.toList.take (l.length * 1))[j]? = (Lib.byteCells l)[j]? := by rw [hcur]
    rw [List.getElem?_take_of_lt (by omega)] at h1
    simpa [Lib.byteCells, List.getElem?_map, List.getElem?_eq_getElem hj] using h1

set_option maxHeartbeats 2000000 in
set_option maxRecDepth 100000 in
theorem ref01_Unhex_any (s : ByteArray) (w : World) (hs : s.size ≤ 1000000) :
    Calls Try.prog 46 #[.string s] w fun e w' => (∃ t, e = .returned (.tuple #[.string t, .bool (Hx.okS s)])) ∧ Below w.heap.size w w' := by
  by_cases hodd : s.size % 2 = 1
  · have ho : ((s.size : Int) % 2 == 1) = true := by rw [beq_iff_eq]; omega
    go_enter Try.func46, Try.ntmps46
    go_wp2_with fail
    go_ret2
    refine ⟨⟨⟨#[]⟩, ?_⟩, Below.refl _ _⟩
    have : Hx.okS s = false := by unfold Hx.okS; rw [decide_eq_false (by omega)]; rfl
    rw [this]
    rfl
  · have hl : s.data.toList.length = s.size := by simp
    have ho : ((s.size : Int) % 2 == 1) = false := by rw [beq_eq_false_iff_ne]; omega
    obtain ⟨i0, hi, hz0, hz1, hz2⟩ := info_parts byte_info
    go_enter Try.func46, Try.ntmps46
    go_wp2_with fail
    go_loopw [4, 5, 6, 7] (fun v i _ _ wr => ∃ k : Nat, k ≤ s.size ∧ k % 2 = 0 ∧ i = .int .i64 k ∧ (s.data.toList.take k).all Hx.isHex = true ∧ (∃ bs : List UInt8, bs.length ≤ k ∧ wr.ownsRow w.heap.size 5 1 v bs.length (Lib.byteCells bs)) ∧ Below w.heap.size w wr) (fun _ i _ _ _ => s.size - (intOf i).toNat)
    case atStart => exact ⟨0, by omega, rfl, rfl, rfl, ⟨[], Nat.le_refl _, World.ownsRow_nil _ _ _ _⟩, Below.refl _ _⟩
    case round =>
      obtain ⟨k, hk, hk2, rfl, hall, ⟨bs, hbl, hown⟩, hbel⟩ := hrel
      have HA := Lib.hid hall
      have HO := Lib.hid hown
      have HB := Lib.hid hbel
      clear hall hown hbel
      by_cases hlt : k < s.size
      · have hlt2 : k + 1 < s.size := by omega
        obtain ⟨a, ha⟩ := get_at (show k < s.data.toList.length by omega)
        obtain ⟨b, hb⟩ := get_at (show k + 1 < s.data.toList.length by omega)
        have hat := Hx.all_take_two ha hb
        have hak : ∀ h, s[k]'h = a := fun h => by
          have := ha; rw [List.getElem?_eq_getElem (by simpa using h)] at this; exact (by simpa using this : s.data[k]'(by simpa using h) = a)
        have hbk : ∀ h, s[k + 1]'h = b := fun h => by
          have := hb; rw [List.getElem?_eq_getElem (by simpa using h)] at this; exact (by simpa using this : s.data[k + 1]'(by simpa using h) = b)
        have q1 : (k : Int) < s.size := by omega
        have q2 : (k : Int) + 1 < s.size := by omega
        go_upto_region 7 with fail
        refine wp_region_bel wr.heap.size (by kernel_rfl) (by kernel_rfl) ?_
        repeat (go_big_quiet_step (first | (go_at_call 56; exact Calls.bel_same (ref01_value_any _ _ (UInt8.toNat_lt _)))))
        refine wpQuiet_nil ?_
        intro x
        have ha1 := Hx.val_lo a.toNat
        have ha2 := Hx.val_hi a.toNat
        have hb1 := Hx.val_lo b.toNat
        have hb2 := Hx.val_hi b.toNat
        have hha : Hx.isHex a = decide (0 ≤ Hx.val a.toNat) := rfl
        have hhb : Hx.isHex b = decide (0 ≤ Hx.val b.toNat) := rfl
        generalize Hx.val a.toNat = va at ha1 ha2 hha ⊢
        generalize Hx.val b.toNat = vb at hb1 hb2 hhb ⊢
        have HBX := Lib.hid (HB.out.trans (x.b.mono HB.out.size))
        have HOX := Lib.hid (own_below HO.out x.b)
        have hxs := HBX.out.size
        have HAT := Lib.hid hat
        have HHA := Lib.hid hha
        have HHB := Lib.hid hhb
        generalize x.w = wx at HBX HOX hxs ⊢
        clear hak hbk ha hb hat hha hhb HO HB
        by_cases hbad : va < 0 ∨ vb < 0
        · go_wp2_with fail
          all_goals
            go_ret2
            refine ⟨⟨⟨#[]⟩, ?_⟩, HBX.out⟩
            have : s.data.toList.all Hx.isHex = false := by
              rw [← List.take_append_drop (k + 2) s.data.toList, List.all_append, HAT.out, HHA.out, HHB.out]
              have hd : (decide (0 ≤ va) && decide (0 ≤ vb)) = false := by
                rw [Bool.and_eq_false_iff]
                rcases hbad with h | h
                · exact .inl (decide_eq_false (by omega))
                · exact .inr (decide_eq_false (by omega))
              rw [hd]
              simp
            have : Hx.okS s = false := by unfold Hx.okS; rw [this, Bool.and_false]
            rw [this]
            rfl
        · obtain ⟨n1, n2⟩ := not_or.1 hbad
          have hnb : ((UInt8.ofNat (16 * va + vb).toNat).toNat : Int) = 16 * va + vb := by rw [UInt8.toNat_ofNat']; omega
          have HNB := Lib.hid hnb
          clear hnb
          go_wp2_with (first
            | (at_builtin; refine wpList_append_own _ rfl _ _ 69 rfl w.heap.size 5 i0 (.int .u8 0) 1 1 Try.underlying69 hi hz0 hz1 hz2 rfl (by decide) _ _ _ rfl (HOX.out.alloc _) ⟨wx.heap.size, 0, none⟩ 1 1 [.int .u8 (16 * va + vb)] rfl rfl (cell_one_new _ _ _) (by intro u hu; simp at hu; subst hu; rfl) (by unfold maxLen; omega) (by omega) (by simp; omega) ?_; intro v' w6 hown' hgrow hnil; have HO6 := Lib.hid hown'; have HB6 := Lib.hid ((HBX.out.alloc (by omega) _).grown hgrow (by simp; omega) (fun j hj => by have := own_block HOX.out j hj; omega)); clear hown' hgrow hnil HOX HBX))
          go_roundw
          case rel =>
            refine ⟨k + 2, by omega, by omega, by go_num, ?_, ⟨bs ++ [UInt8.ofNat (16 * va + vb).toNat], by simp; omega, ?_⟩, HB6.out⟩
            · rw [HAT.out, HHA.out, HHB.out, HA.out]
              simp; omega
            · have h6 := HO6.out
              have e1 : Lib.byteCells (bs ++ [UInt8.ofNat (16 * va + vb).toNat]) = Lib.byteCells bs ++ [.int .u8 (16 * va + vb)] := by
                simp only [Lib.byteCells, List.map_append, List.map_cons, List.map_nil, HNB.out]
              rw [e1]
              simpa using h6
          case measure => simp [intOf]; omega
      · have he : k = s.size := by omega
        subst he
        have HALL := Lib.hid (show s.data.toList.all Hx.isHex = true by have := HA.out; rwa [List.take_of_length_le (by omega)] at this)
        have hcv := own_bytes HO.out Try.underlying69 Try.underlying5 Try.underlying9
        go_wp2_with fail
        go_ret2
        refine ⟨⟨⟨bs.toArray⟩, ?_⟩, HB.out⟩
        have : Hx.okS s = true := by unfold Hx.okS; rw [HALL.out, decide_eq_true hk2]; rfl
        rw [this]
        rfl

set_option maxHeartbeats 1000000 in
theorem ref06_IsId_any (s : ByteArray) (w : World) (hs : s.size ≤ 1000000) :
    Calls Try.prog 25 #[.string s] w fun e w' => e = .returned (.bool (Hx.isId s.data.toList)) ∧ Below w.heap.size w w' := by
  have hl : s.data.toList.length = s.size := by simp
  have hq : Hx.isId s.data.toList = (Hx.okS s && decide (s.size = 6)) := by
    unfold Hx.isId Hx.okS
    rw [hl]
    by_cases h6 : s.size = 6
    · rw [h6]; simp
    · rw [decide_eq_false h6]; simp
  rw [hq]
  clear hq hl
  have hu := fun w => ref01_Unhex_any s w hs
  generalize Hx.okS s = q at hu ⊢
  have HU := Lib.hid hu
  clear hu
  by_cases h6 : s.size = 6
  · have hz : ((s.size : Int) == 6) = true := by rw [beq_iff_eq]; omega
    rw [decide_eq_true h6]
    clear h6
    cases q
    all_goals
      go_enter Try.func25, Try.ntmps25
      go_wp2_with (go_at_call 46; refine (HU.out _).mono ?_; rintro e w2 ⟨⟨t, rfl⟩, hb2⟩; have HB2 := Lib.hid hb2; clear hb2)
      go_ret
      exact ⟨rfl, HB2.out⟩
  · have hz : ((s.size : Int) == 6) = false := by rw [beq_eq_false_iff_ne]; omega
    rw [decide_eq_false h6]
    cases q
    all_goals
      go_enter Try.func25, Try.ntmps25
      go_wp2_with (go_at_call 46; refine (HU.out _).mono ?_; rintro e w2 ⟨⟨t, rfl⟩, hb2⟩; have HB2 := Lib.hid hb2; clear hb2)
      go_ret
      exact ⟨rfl, HB2.out⟩
end Go.Proofs.Ytlniiaopindjnaa
