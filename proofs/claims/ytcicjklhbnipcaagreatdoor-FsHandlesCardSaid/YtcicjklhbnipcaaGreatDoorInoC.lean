/-
  Layer 8: is a text a name? strings.ContainsAny at a nought and a slash, for any bytes.
-/
import Derived.Test.YtcicjklhbnipcaaGreatDoorIno1
import Derived.Test.YtcicjklhbnipcaaGreatDoorShelf
import Derived.Laws.RangeAny
import Derived.Lib.OthersKept
import Derived.Lib.MapLaws
import Derived.Laws.Runes
import Derived.Lib.Hide
import Derived.Deep.LoopGhost
import Derived.WalkMore
namespace Go.Proofs.YtcicjklhbnipcaaGreatDoor
set_option linter.unusedVariables false
set_option linter.unusedSimpArgs false
open Go.RowKit Go.Maps Go.Lib

/-- What may not stand in a name. -/
abbrev zs : ByteArray := ⟨#[0, 47]⟩
set_option maxHeartbeats 2000000 in
set_option maxRecDepth 1000000 in
theorem indexRune_bad (w : World) : Calls Tryz.prog 260 #[.string zs, .int .i32 65533] w fun e w' => e = .returned (.int .i64 (-1)) ∧ Below w.heap.size w w' := by
  have h0 := fun ty => run_next_ascii (P := Tryz.prog) w zs 0 ty (by decide) (by decide)
  have h1 := fun ty => run_next_ascii (P := Tryz.prog) w zs 1 ty (by decide) (by decide)
  have h2 := fun ty => run_next_end (P := Tryz.prog) w zs 2 ty (by decide)
  go_enter Tryz.func260, Tryz.ntmps260
  go_wp2_with fail
  go_loopg [5, 6] 2 (fun g _ _ wx => ∃ i : Nat, i + g = 2 ∧ wx = w.iter zs i)
  case atStart => exact ⟨0, by omega, rfl⟩
  case round =>
    obtain ⟨i, hig, rfl⟩ := hrel
    cases gk with
    | zero =>
      obtain rfl : i = 2 := by omega
      go_wp2_with fail
      go_ret
      exact ⟨rfl, (Below.refl _ _).alloc (Nat.le_refl _) _⟩
    | succ g =>
      have hi : i = 0 ∨ i = 1 := by omega
      rcases hi with rfl | rfl
      · go_wp2_with fail
        go_roundg g
        case measure => omega
        case rel => exact ⟨1, by omega, rfl⟩
      · go_wp2_with fail
        go_roundg g
        case measure => omega
        case rel => exact ⟨2, by omega, rfl⟩
theorem wide_last {c : Int} (h1 : 128 ≤ c) (hv : Utf8.valid c = true) : ∃ (k : Nat) (x : UInt8), (Utf8.encode c).size = k ∧ 2 ≤ k ∧ k ≤ 4 ∧ 128 ≤ x.toNat ∧ ∀ h : k - 1 < (Utf8.encode c).size, (Utf8.encode c)[k - 1]'h = x := by
  obtain ⟨a, b, h⟩ := encode_facts c hv h1
  exact ⟨_, _, rfl, a, b, h (by omega), fun _ => rfl⟩
set_option maxHeartbeats 2000000 in
set_option maxRecDepth 1000000 in
theorem indexRune_wide (c : Int) (h1 : 128 ≤ c) (h2 : c ≤ 2147483647) (hb : c ≠ 65533) (w : World) : Calls Tryz.prog 260 #[.string zs, .int .i32 c] w fun e w' => e = .returned (.int .i64 (-1)) ∧ Below w.heap.size w w' := by
  have e1 : (c == 65533) = false := beq_eq_false_iff_ne.2 hb
  have e0 : decide (c < 128) = false := decide_eq_false (by omega)
  have cv := Tryz.utf8_ValidRune c w
  obtain ⟨b, hbv⟩ : ∃ b, Lib.validRune c = b := ⟨_, rfl⟩
  rw [hbv] at cv
  cases b with
  | false =>
    clear hbv
    go_enter Tryz.func260, Tryz.ntmps260
    go_wp2_with (go_at_call 269; refine cv.mono ?_; rintro e w' ⟨rfl, rfl⟩)
    go_ret
    exact ⟨rfl, Below.refl _ _⟩
  | true =>
    have hv : Utf8.valid c = true := by
      simp only [Lib.validRune, decide_eq_true_eq] at hbv
      simp only [Utf8.valid, Bool.or_eq_true, Bool.and_eq_true, decide_eq_true_eq]
      omega
    obtain ⟨k, x, hk, k2, k4, hx, hl⟩ := wide_last h1 hv
    have hcv := fun (w : World) => run_convert_int_string (P := Tryz.prog) w 21 9 .i32 c (by kernel_rfl) Tryz.underlying9
    generalize Utf8.encode c = rs at hk hl hcv
    have HL := Lib.hid hl
    clear hbv hv hl
    go_enter Tryz.func260, Tryz.ntmps260
    go_wp2_with (go_at_call 269; refine cv.mono ?_; rintro e w' ⟨rfl, rfl⟩)
    by_cases h3 : 3 ≤ k
    · have hlt : decide ((k : Int) - 1 < 2) = false := decide_eq_false (by omega)
      go_step3
      go_wp2_with fail
      go_loopg [9] 0 (fun g x wx => g = 0 ∧ x = .int .i64 ((k : Int) - 1) ∧ wx = w')
      case atStart => exact ⟨rfl, rfl, rfl⟩
      case round =>
        obtain ⟨rfl, rfl, rfl⟩ := hrel
        go_wp2_with fail
        rw [Exit.noGoto_ret]
        go_ret
        exact ⟨rfl, Below.refl _ _⟩
    · obtain rfl : k = 2 := by omega
      have ex : rs[1]'(by omega) = x := HL.out (by omega)
      have ne : Lib.indexByte ByteArray.empty.data.toList (x.toNat : Int).toNat.toUInt8 = -1 := rfl
      have CE := Lib.hid ne
      clear ne
      have nx : (((zs[1]'(by decide)).toNat : Int) != (x.toNat : Int)) = true := by
        rw [bne_iff_ne]
        have : (zs[1]'(by decide)).toNat = 47 := by decide
        omega
      have eb : ((0 : Int) < (rs.size : Int)) := by omega
      have CI := Lib.hid (fun (B : Nat) (W : World) (x1 : Ext B W) => ((Tryz.strings_IndexByte ByteArray.empty x.toNat x1.w).mono (fun e v h => (⟨h.1, x1, h.2⟩ : e = .returned (.int .i64 (-1)) ∧ ∃ z : Ext B W, v = z.w))))
      have hw2 : IntKind.i64.wrap 2 = 2 := by decide
      have hsl : ∀ w : World, (Instr.slice 9 (.string zs) (some (.int .i64 2)) none none).run Tryz.prog w = .ok (.string ByteArray.empty) w := fun w => by kernel_rfl
      go_step3
      go_wp2_with fail
      go_loopg [9] 0 (fun g x wx => g = 0 ∧ x = .int .i64 1 ∧ wx = w')
      case atStart => exact ⟨rfl, rfl, rfl⟩
      case round =>
        obtain ⟨rfl, rfl, rfl⟩ := hrel
        go_wp2_with fail
        go_step3
        go_wp2_with fail
        refine wp_region_bel wr.heap.size (by kernel_rfl) (by kernel_rfl) ?_
        repeat (go_big_quiet_step (fail))
        refine wpQuiet_nil ?_
        intro x1
        go_wp2_with fail
        refine wp_region_bel wr.heap.size (by kernel_rfl) (by kernel_rfl) ?_
        repeat (go_big_quiet_step ((go_at_call 216; exact CI.out _ _ _)))
        refine wpQuiet_nil ?_
        intro x2
        go_wp2_with fail
        rw [Exit.noGoto_ret]
        go_wp2_with fail
        rw [Exit.noGoto_ret]
        go_ret
        exact ⟨rfl, x1.b.trans x2.b⟩

/-- May a byte not stand in a name? -/
def badB (c : UInt8) : Bool := c == 0 || c == 47
def clean (l : List UInt8) (i : Nat) : Prop := (l.take i).any badB = false
theorem get_bang (s : ByteArray) (i : Nat) (h : i < s.size) : s.get! i = s[i]'h := by
  simp [ByteArray.get!, getElem!_pos, h]
  rfl
theorem badB_high {x : UInt8} (h : 128 ≤ x.toNat) : badB x = false := by
  unfold badB
  rw [Bool.or_eq_false_iff]
  refine ⟨beq_eq_false_iff_ne.2 fun e => ?_, beq_eq_false_iff_ne.2 fun e => ?_⟩ <;> subst e <;> simp at h
theorem clean_more {s : ByteArray} {i : Nat} (hc : clean s.data.toList i) : ∀ k, (∀ j, j < k → ∃ h : i + j < s.size, badB (s[i + j]'h) = false) → clean s.data.toList (i + k)
  | 0, _ => hc
  | k + 1, hk => by
    have ih := clean_more hc k fun j hj => hk j (by omega)
    obtain ⟨h, hb⟩ := hk k (by omega)
    unfold clean at ih ⊢
    rw [show i + (k + 1) = (i + k) + 1 by omega, List.take_add_one, List.any_append, ih]
    have : s.data.toList[i + k]? = some (s[i + k]'h) := Lib.data_getElem? s (i + k) h
    rw [this]
    simp [hb]
theorem clean_wide {s : ByteArray} {i : Nat} (hi : i < s.size) (hx : 128 ≤ (s[i]'hi).toNat) (hc : clean s.data.toList i) : clean s.data.toList (i + (Utf8.decode s i).2) ∧ i + (Utf8.decode s i).2 ≤ s.size := by
  have e0 := get_bang s i hi
  have hat : ∀ j, 1 ≤ j → ∀ k, k / 64 = 2 → j < s.size - i → (s.get! (i + j)).toNat = k → ∃ h : i + j < s.size, badB (s[i + j]'h) = false := fun j h1 k hk hj he => by
    have h : i + j < s.size := by omega
    refine ⟨h, badB_high ?_⟩
    rw [get_bang s (i + j) h] at he
    omega
  have z : ∃ h : i + 0 < s.size, badB (s[i + 0]'h) = false := ⟨hi, badB_high hx⟩
  rw [Lib.decode_at, e0]
  rcases Lib.decodeN_shape (s.size - i) (s[i]'hi).toNat (s.get! (i + 1)).toNat (s.get! (i + 2)).toNat (s.get! (i + 3)).toNat with ⟨h, _⟩ | ⟨_, h1, h2, _, e⟩ | ⟨_, h1, h2, h3, _, _, e⟩ | ⟨_, h1, h2, h3, h4, _, _, e⟩ | e
  · omega
  · rw [e]
    refine ⟨clean_more hc 2 fun j hj => ?_, by simp only; omega⟩
    have : j = 0 ∨ j = 1 := by omega
    rcases this with rfl | rfl
    · exact z
    · exact hat 1 (by omega) _ h2 h1 rfl
  · rw [e]
    refine ⟨clean_more hc 3 fun j hj => ?_, by simp only; omega⟩
    have : j = 0 ∨ j = 1 ∨ j = 2 := by omega
    rcases this with rfl | rfl | rfl
    · exact z
    · exact hat 1 (by omega) _ h2 (by omega) rfl
    · exact hat 2 (by omega) _ h3 (by omega) rfl
  · rw [e]
    refine ⟨clean_more hc 4 fun j hj => ?_, by simp only; omega⟩
    have : j = 0 ∨ j = 1 ∨ j = 2 ∨ j = 3 := by omega
    rcases this with rfl | rfl | rfl | rfl
    · exact z
    · exact hat 1 (by omega) _ h2 (by omega) rfl
    · exact hat 2 (by omega) _ h3 (by omega) rfl
    · exact hat 3 (by omega) _ h4 (by omega) rfl
  · rw [e]
    refine ⟨clean_more hc 1 fun j hj => ?_, by simp only; omega⟩
    have : j = 0 := by omega
    subst this
    exact z
theorem decode_top (s : ByteArray) (i : Nat) : (Utf8.decode s i).1 ≤ 2147483647 := decode_le s i
theorem dirty {s : ByteArray} {i : Nat} (hi : i < s.size) (hb : badB (s[i]'hi) = true) : s.data.toList.any badB = true := by
  rw [List.any_eq_true]
  exact ⟨s[i]'hi, List.mem_of_getElem? (Lib.data_getElem? s i hi), hb⟩
/-- Where it is, or below 0 that it is not. -/
def At_ (s : ByteArray) (r : Int) : Prop := decide (0 ≤ r) = s.data.toList.any badB
def SomeAt (s : ByteArray) (w : World) (e : Ending) (w' : World) : Prop := ∃ r : Int, At_ s r ∧ e = .returned (.int .i64 r) ∧ Below w.heap.size w w'
theorem zs_index (x : UInt8) : decide (0 ≤ Lib.indexByte zs.data.toList x) = badB x := by
  show decide (0 ≤ Lib.indexByte [0, 47] x) = badB x
  by_cases h0 : x = 0
  · subst h0; decide
  by_cases h1 : x = 47
  · subst h1; decide
  have e0 : ((0 : UInt8) == x) = false := beq_eq_false_iff_ne.2 fun e => h0 e.symm
  have e1 : ((47 : UInt8) == x) = false := beq_eq_false_iff_ne.2 fun e => h1 e.symm
  unfold badB
  rw [beq_eq_false_iff_ne.2 h0, beq_eq_false_iff_ne.2 h1]
  simp [Lib.indexByte, e0, e1]
set_option maxHeartbeats 4000000 in
set_option maxRecDepth 1000000 in
theorem indexAny_short (s : ByteArray) (w : World) (h8 : s.size ≤ 8) : Calls Tryz.prog 246 #[.string s, .string zs] w (SomeAt s w) := by
  have h8z : decide ((8 : Int) < (s.size : Int)) = false := decide_eq_false (by omega)
  have CU := Tryz.strings_shouldUseASCIISet (s.size : Int) w
  rw [h8z] at CU
  clear h8z
  go_enter Tryz.func246, Tryz.ntmps246
  go_wp2_with (go_at_call 261; refine CU.mono ?_; rintro e w' ⟨rfl, rfl⟩)
  go_loopg [9, 10] s.size (fun g _ _ wx => ∃ i : Nat, i ≤ s.size ∧ i + g = s.size ∧ wx.heap[w'.heap.size]? = some (.stringIter s i) ∧ Hid (Below w'.heap.size w' wx ∧ clean s.data.toList i))
  case atStart => exact ⟨0, by omega, by omega, World.iter_heap _ _ _, Lib.hid ⟨(Below.refl _ _).alloc (Nat.le_refl _) _, rfl⟩⟩
  case round =>
    obtain ⟨i, hle, hig, hit, HN⟩ := hrel
    by_cases hi : i < s.size
    · obtain ⟨x, hx⟩ : ∃ x : UInt8, s[i]'hi = x := ⟨_, rfl⟩
      by_cases h128 : x.toNat < 128
      · have hnx := fun ty => run_next_ascii_at (P := Tryz.prog) wr w'.heap.size s i ty hit hi (by rw [hx]; exact h128)
        rw [hx] at hnx
        have hzi := zs_index x
        have hback : ((x.toNat : Int)).toNat.toUInt8 = x := by simp
        have HW := Lib.hid (below_iterAt HN.out.1 (Nat.le_refl _) s (i + 1))
        have HI := Lib.hid (iterAt_heap wr w'.heap.size s i (i + 1) hit)
        have CR := Tryz.strings_IndexRune_ascii zs (x.toNat : Int) (wr.iterAt w'.heap.size s (i + 1)) (by omega) (by omega)
        rw [hback] at CR
        cases hb : badB x with
        | true =>
          rw [hb] at hzi
          have hge : (0 : Int) ≤ Lib.indexByte zs.data.toList x := of_decide_eq_true hzi
          have HD := Lib.hid (dirty hi (by rw [hx]; exact hb))
          clear hx hb hzi hback hit
          go_wp2_with (go_at_call 260; refine CR.mono ?_; rintro e w2 ⟨rfl, rfl⟩)
          go_ret
          exact ⟨i, by unfold At_; rw [HD.out]; simp, rfl, HW.out⟩
        | false =>
          rw [hb] at hzi
          have hlt : ¬ (0 : Int) ≤ Lib.indexByte zs.data.toList x := of_decide_eq_false hzi
          have HC := Lib.hid (clean_more HN.out.2 1 fun j hj => ⟨by omega, by obtain rfl : j = 0 := by omega
                                                                              show badB (s[i]'hi) = false
                                                                              rw [hx]; exact hb⟩)
          clear hx hb hzi hback hit
          go_wp2_with (go_at_call 260; refine CR.mono ?_; rintro e w2 ⟨rfl, rfl⟩)
          go_roundg (gk - 1)
          case measure => omega
          case rel => exact ⟨i + 1, by omega, by omega, HI.out, Lib.hid ⟨HW.out, HC.out⟩⟩
      · have hnx := fun ty => run_next_any_at (P := Tryz.prog) wr w'.heap.size s i ty hit hi
        have hh := decode_high s i hi (by rw [hx]; omega)
        have ht := decode_top s i
        have hcw := clean_wide hi (by rw [hx]; omega) HN.out.2
        have hw0 := fun q => below_iterAt HN.out.1 (Nat.le_refl _) s q
        have hi0 := fun q => iterAt_heap wr w'.heap.size s i q hit
        have hlt := (Array.getElem?_eq_some_iff.1 hit).1
        generalize Utf8.decode s i = d at hnx hh ht hcw
        obtain ⟨c, k⟩ := d
        simp only at hnx hh ht hcw
        have HC := Lib.hid hcw
        have HW := Lib.hid (hw0 (i + k))
        have HI := Lib.hid (hi0 (i + k))
        have HS := Lib.hid (iterAt_size wr w'.heap.size s (i + k))
        have CR : ∀ W : World, Calls Tryz.prog 260 #[.string zs, .int .i32 (c : Int)] W fun e w' => e = .returned (.int .i64 (-1)) ∧ Below W.heap.size W w' := fun W => by
          by_cases hc : (c : Int) = 65533
          · rw [hc]; exact indexRune_bad W
          · exact indexRune_wide c (by omega) (by omega) hc W
        have HL := Lib.hid hlt
        clear hx hcw hw0 hi0 hit hlt
        go_wp2_with (go_at_call 260; refine (CR _).mono ?_; rintro e w2 ⟨rfl, hb2⟩; have HB2 := Lib.hid hb2; clear hb2)
        go_roundg (gk - k)
        case measure => omega
        case rel =>
          have hsz := HS.out
          have hlt := HL.out
          exact ⟨i + k, HC.out.2, by have := HC.out.2; omega, (HB2.out.block _ (by rw [hsz]; exact hlt)).trans HI.out, Lib.hid ⟨HW.out.trans (HB2.out.mono HW.out.size), HC.out.1⟩⟩
    · obtain rfl : i = s.size := by omega
      have hnx := fun ty => run_next_end_at (P := Tryz.prog) wr w'.heap.size s s.size ty hit hi
      clear hit
      go_wp2_with fail
      go_ret
      exact ⟨-1, by
        have := HN.out.2
        unfold clean at this
        rw [List.take_of_length_le (by simp)] at this
        unfold At_
        rw [this]; rfl, rfl, HN.out.1⟩
theorem zs_any : ∀ l : List UInt8, decide (0 ≤ Lib.indexAny l zs.data.toList) = l.any badB
  | [] => rfl
  | b :: l => by
    have ih := zs_any l
    have hge := Lib.indexAny_ge zs.data.toList l
    have hc : zs.data.toList.contains b = badB b := by
      show ([0, 47] : List UInt8).contains b = badB b
      unfold badB
      simp only [List.contains, List.elem]
      cases b == 0 <;> cases b == 47 <;> rfl
    rw [Lib.indexAny, hc, List.any_cons]
    cases hb : badB b with
    | true => simp
    | false =>
      simp only [Bool.false_eq_true, if_false, Bool.false_or]
      rw [← ih]
      by_cases h : Lib.indexAny l zs.data.toList = -1
      · simp [h]
      · have e : (Lib.indexAny l zs.data.toList == -1) = false := beq_eq_false_iff_ne.2 h
        rw [e]
        by_cases h0 : 0 ≤ Lib.indexAny l zs.data.toList
        · rw [decide_eq_true h0, decide_eq_true]
          show 0 ≤ Lib.indexAny l zs.data.toList + 1
          omega
        · omega
theorem bools_zero (w : World) : (zeroValue 293).run Tryz.prog w = .ok (.agg (Array.replicate 256 (.bool false))) w := by kernel_rfl
theorem indexAny_any (s : ByteArray) (w : World) (hs : s.size ≤ 1000000) : Calls Tryz.prog 246 #[.string s, .string zs] w (SomeAt s w) := by
  by_cases h8 : s.size ≤ 8
  · exact indexAny_short s w h8
  · refine (Tryz.strings_IndexAny_long bools_zero s zs w (by decide) (by omega) (by omega) (by decide) (fun j b hj => by
      match j, hj with
      | 0, hj => simp at hj; subst hj; decide
      | 1, hj => simp at hj; subst hj; decide
      | j + 2, hj => simp at hj)).mono fun e w' ⟨he, hw⟩ => ⟨_, zs_any _, he, ?_⟩
    rw [hw]
    exact ((Below.refl _ _).alloc (Nat.le_refl _) _).alloc (by simp) _
theorem ret_bool {a b : Bool} (h : a = b) : Ending.returned (.bool a) = .returned (.bool b) := by rw [h]
theorem containsAny_any (s : ByteArray) (w : World) (hs : s.size ≤ 1000000) : Calls Tryz.prog 223 #[.string s, .string zs] w fun e w' => e = .returned (.bool (s.data.toList.any badB)) ∧ Below w.heap.size w w' := by
  have C := indexAny_any s w hs
  generalize hB : s.data.toList.any badB = b
  have HB := Lib.hid hB
  clear hB
  go_enter Tryz.func223, Tryz.ntmps223
  go_wp2_with (go_at_call 246; refine C.mono ?_; rintro e w' ⟨r, hr, rfl, hb⟩; have HR := Lib.hid hr; clear hr)
  go_ret
  exact ⟨ret_bool (by rw [← HB.out, ← HR.out]), hb⟩
set_option maxHeartbeats 1000000 in
theorem isName_any (s : ByteArray) (w : World) (hs : s.size ≤ maxLen) : Calls Tryz.prog 195 #[.string s] w fun e w' => e = .returned (.bool (In.isName s)) ∧ Below w.heap.size w w' := by
  unfold maxLen at hs
  obtain ⟨B, hB⟩ : ∃ B, In.isName s = B := ⟨_, rfl⟩
  rw [hB]
  have HB := Lib.hid hB
  clear hB
  by_cases h1 : s.size < 1
  · have e1 : decide ((1 : Int) ≤ (s.size : Int)) = false := decide_eq_false (by omega)
    have HF := Lib.hid (show B = false by rw [← HB.out]; simp [In.isName, show ¬ 1 ≤ s.size by omega])
    clear h1
    go_enter Tryz.func195, Tryz.ntmps195
    go_wp2_with fail
    go_ret
    exact ⟨ret_bool (by rw [HF.out]), Below.refl _ _⟩
  by_cases h32 : 32 < s.size
  · have e1 : decide ((1 : Int) ≤ (s.size : Int)) = true := decide_eq_true (by omega)
    have e2 : decide ((s.size : Int) ≤ (32 : Int)) = false := decide_eq_false (by omega)
    have HF := Lib.hid (show B = false by rw [← HB.out]; simp [In.isName, show ¬ s.size ≤ 32 by omega])
    clear h1
    go_enter Tryz.func195, Tryz.ntmps195
    go_wp2_with fail
    go_ret
    exact ⟨ret_bool (by rw [HF.out]), Below.refl _ _⟩
  have e1 : decide ((1 : Int) ≤ (s.size : Int)) = true := decide_eq_true (by omega)
  have e2 : decide ((s.size : Int) ≤ (32 : Int)) = true := decide_eq_true (by omega)
  have C := containsAny_any s w (by omega)
  have HN := Lib.hid (show B = (!(s.data.toList.any badB) && !(s.data.toList == [46]) && !(s.data.toList == [46, 46])) by
    rw [← HB.out]
    simp only [In.isName, show 1 ≤ s.size by omega, show s.size ≤ 32 by omega, decide_true, Bool.true_and]
    rfl)
  cases hb : s.data.toList.any badB with
  | true =>
    rw [hb] at C
    have HF := Lib.hid (show B = false by rw [HN.out, hb]; rfl)
    clear hb
    go_enter Tryz.func195, Tryz.ntmps195
    go_wp2_with (go_at_call 223; refine C.mono ?_; rintro e w' ⟨rfl, hb2⟩)
    go_ret
    exact ⟨ret_bool (by rw [HF.out]), hb2⟩
  | false =>
    rw [hb] at C
    have HF := Lib.hid (show B = (!(s.data.toList == [46]) && !(s.data.toList == [46, 46])) by rw [HN.out, hb]; rfl)
    clear hb
    go_enter Tryz.func195, Tryz.ntmps195
    go_wp2_with (go_at_call 223; refine C.mono ?_; rintro e w' ⟨rfl, hb2⟩)
    all_goals
      go_ret
      refine ⟨ret_bool ?_, hb2⟩
      rw [HF.out, ← ByteArray.toList_eq]
      try simp [*]
end Go.Proofs.YtcicjklhbnipcaaGreatDoor
