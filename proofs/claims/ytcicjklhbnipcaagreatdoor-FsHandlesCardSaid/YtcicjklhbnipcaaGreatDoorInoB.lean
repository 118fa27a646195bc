/-
  Layer 8: place, empty, Find, file, walked; and at what is no table.
-/
import Derived.Test.YtcicjklhbnipcaaGreatDoorInoC
namespace Go.Proofs.YtcicjklhbnipcaaGreatDoor
set_option linter.unusedVariables false
set_option linter.unusedSimpArgs false
open Go.RowKit Go.Maps

theorem getE_dec {t : TabD} {id : Int} {dir : Bool} : (In.getE t id dir = 0 ∧ ∃ n, In.find t.nodes id = some n ∧ n.dir = dir) ∨ In.getE t id dir ≠ 0 := by
  unfold In.getE
  cases h : In.find t.nodes id with
  | none => right; show (3 : Int) ≠ 0; decide
  | some n =>
    by_cases hd : n.dir = dir
    · left; subst hd; exact ⟨by simp, n, rfl, rfl⟩
    · right
      have : (n.dir == dir) = false := beq_eq_false_iff_ne.2 hd
      simp [this]
theorem at_find {t : TabD} {id : Int} {n : NodeD} (h : In.find t.nodes id = some n) : In.at_ t id = n := by unfold In.at_; rw [h]
section
variable {t : TabD} {id : Int} {n : NodeD} (h : In.find t.nodes id = some n)
include h
theorem nameIn_eq (s : ByteArray) (k : Int) : In.nameIn t id s k = In.setN t { n with names := In.with_ n.names s k } := by unfold In.nameIn; rw [at_find h]; rfl
theorem nameOut_eq (s : ByteArray) : In.nameOut t id s = In.setN t { n with names := In.without n.names s } := by unfold In.nameOut; rw [at_find h]; rfl
theorem linksUp_eq : In.linksUp t id = In.setN t { n with links := n.links + 1 } := by unfold In.linksUp; rw [at_find h]; rfl
theorem linksDown_eq : In.linksDown t id = In.setN t { n with links := n.links - 1 } := by unfold In.linksDown; rw [at_find h]; rfl
theorem holdsUp_eq : In.holdsUp t id = In.setN t { n with holds := n.holds + 1 } := by unfold In.holdsUp; rw [at_find h]; rfl
theorem holdsDown_eq : In.holdsDown t id = In.setN t { n with holds := n.holds - 1 } := by unfold In.holdsDown; rw [at_find h]; rfl
theorem dataOf_eq (v : ByteArray) : In.dataOf t id v = In.setN t { n with data := v } := by unfold In.dataOf; rw [at_find h]; rfl
end
theorem beq0_false {x : Int} (h : x ≠ 0) : (x == 0) = false := beq_eq_false_iff_ne.2 h
theorem bne0_true {x : Int} (h : x ≠ 0) : (x != 0) = true := bne_iff_ne.2 h
theorem node_cells {w : World} {b m : Nat} {n : NodeD} (h : NodeAt w b m n) : w.cell? ⟨b, 0, none⟩ = some (.bool n.dir) ∧ w.cell? ⟨b, 1, none⟩ = some (.int .i64 n.links) ∧ w.cell? ⟨b, 2, none⟩ = some (.int .i64 n.holds) ∧ w.cell? ⟨b, 3, none⟩ = some (.string n.data) ∧ w.cell? ⟨b, 4, none⟩ = some (.map (some m)) :=
  ⟨cell_row h.row 0, cell_row h.row 1, cell_row h.row 2, cell_row h.row 3, cell_row h.row 4⟩
theorem tbl_cells {w : World} {g mb : Nat} {β : Int → Nat × Nat} {t : TabD} (h : TblAt w g mb β t) : w.cell? ⟨g, 0, none⟩ = some (.int .i64 t.quota) ∧ w.cell? ⟨g, 1, none⟩ = some (.int .i64 t.used) ∧ w.cell? ⟨g, 2, none⟩ = some (.int .i64 t.last) ∧ w.cell? ⟨g, 3, none⟩ = some (.map (some mb)) :=
  ⟨cell_row h.row 0, cell_row h.row 1, cell_row h.row 2, cell_row h.row 3⟩
theorem ret_tuple {a b : Value} {x y : Int} (h : x = y) : Ending.returned (.tuple #[a, .int .i64 x]) = .returned (.tuple #[a, .int .i64 y]) := by rw [h]

section
variable {w : World} {g mb : Nat} {β : Int → Nat × Nat} {t : TabD}
theorem place_yes (h : TblAt w g mb β t) (hq : 0 < t.quota) {dir : Int} (hid : Fits dir) {s : ByteArray} (hs : s.size ≤ maxLen) {n : NodeD} (hn : In.find t.nodes dir = some n) (hd : n.dir = true) (hN : In.isName s = true) :
    Calls Tryz.prog 160 #[.pointer (some ⟨g, 0, none⟩), .int .i64 dir, .string s] w fun e w' => e = .returned (.tuple #[.pointer (some ⟨(β dir).1, 0, none⟩), .int .i64 0]) ∧ Below w.heap.size w w' := by
  have cg := get_yes h hq hid hn hd
  have cn := isName_any s w hs
  rw [hN] at cn
  clear h hq hn hd hN
  go_enter Tryz.func160, Tryz.ntmps160
  go_wp2_with (first | (go_at_call 165; refine cg.mono ?_; rintro e w' ⟨rfl, rfl⟩) | (go_at_call 195; refine cn.mono ?_; rintro e w' ⟨rfl, hb⟩))
  go_ret2
  exact ⟨rfl, hb⟩
theorem place_no (h : TblAt w g mb β t) (hq : 0 < t.quota) {dir : Int} (hid : Fits dir) {s : ByteArray} (hs : s.size ≤ maxLen) {E : Int} (hE : In.placeE t dir s = E) (h0 : E ≠ 0) :
    Calls Tryz.prog 160 #[.pointer (some ⟨g, 0, none⟩), .int .i64 dir, .string s] w fun e w' => e = .returned (.tuple #[.pointer none, .int .i64 E]) ∧ Below w.heap.size w w' := by
  unfold In.placeE at hE
  rcases getE_dec (t := t) (id := dir) (dir := true) with ⟨h1, n, hn, hd⟩ | h1
  · have cg := get_yes h hq hid hn hd
    have cn := isName_any s w hs
    cases hN : In.isName s with
    | true => rw [h1, hN] at hE; exact absurd hE.symm h0
    | false =>
      rw [h1, hN] at hE
      have hE : 1 = E := hE
      subst hE
      rw [hN] at cn
      clear h hq hn hd hN h1
      go_enter Tryz.func160, Tryz.ntmps160
      go_wp2_with (first | (go_at_call 165; refine cg.mono ?_; rintro e w' ⟨rfl, rfl⟩) | (go_at_call 195; refine cn.mono ?_; rintro e w' ⟨rfl, hb⟩))
      go_ret2
      exact ⟨rfl, hb⟩
  · rw [beq0_false h1] at hE
    have hE : In.getE t dir true = E := hE
    have cg := get_no h hq hid hE h0
    have e0 := beq0_false h0
    clear h hq h1 hE h0
    go_enter Tryz.func160, Tryz.ntmps160
    go_wp2_with (go_at_call 165; refine cg.mono ?_; rintro e w' ⟨rfl, rfl⟩)
    go_ret2
    exact ⟨rfl, Below.refl _ _⟩
theorem placeE_dec {dir : Int} {s : ByteArray} : (In.placeE t dir s = 0 ∧ ∃ n, In.find t.nodes dir = some n ∧ n.dir = true ∧ In.isName s = true) ∨ In.placeE t dir s ≠ 0 := by
  unfold In.placeE
  rcases getE_dec (t := t) (id := dir) (dir := true) with ⟨h1, n, hn, hd⟩ | h1
  · rw [h1]
    cases hN : In.isName s with
    | true => exact .inl ⟨rfl, n, hn, hd, rfl⟩
    | false => right; decide
  · rw [beq0_false h1]; exact .inr h1
theorem empty_yes (h : TblAt w g mb β t) (hq : 0 < t.quota) {dir : Int} (hid : Fits dir) {s : ByteArray} (hs : s.size ≤ maxLen) {n : NodeD} (hn : In.find t.nodes dir = some n) (hd : n.dir = true) (hN : In.isName s = true) (hl : In.leads n.names s = 0) :
    Calls Tryz.prog 159 #[.pointer (some ⟨g, 0, none⟩), .int .i64 dir, .string s] w fun e w' => e = .returned (.tuple #[.pointer (some ⟨(β dir).1, 0, none⟩), .int .i64 0]) ∧ Below w.heap.size w w' := by
  have cp := place_yes h hq hid hs hn hd hN
  have HT := Lib.hid h
  have HN := Lib.hid hn
  have HL := Lib.hid hl
  clear h hq hn hd hN hl
  go_enter Tryz.func159, Tryz.ntmps159
  go_wp2_with (go_at_call 160; refine cp.mono ?_; rintro e w' ⟨rfl, hb⟩; have HB := Lib.hid hb; have hA := (HT.out.below hb).at HN.out; have d4 := (node_cells hA).2.2.2.2; have ll := look_name hA.names hs; rw [HL.out] at ll; clear hb hA)
  go_ret2
  exact ⟨rfl, HB.out⟩
theorem emptyE_dec {dir : Int} {s : ByteArray} : (In.emptyE t dir s = 0 ∧ ∃ n, In.find t.nodes dir = some n ∧ n.dir = true ∧ In.isName s = true ∧ In.leads n.names s = 0) ∨ In.emptyE t dir s ≠ 0 := by
  unfold In.emptyE
  rcases placeE_dec (t := t) (dir := dir) (s := s) with ⟨h1, n, hn, hd, hN⟩ | h1
  · rw [h1, at_find hn]
    by_cases hl : In.leads n.names s = 0
    · rw [hl]; exact .inl ⟨rfl, n, hn, hd, hN, hl⟩
    · rw [beq0_false hl]; right; decide
  · rw [beq0_false h1]; exact .inr h1
theorem empty_no (h : TblAt w g mb β t) (hq : 0 < t.quota) {dir : Int} (hid : Fits dir) {s : ByteArray} (hs : s.size ≤ maxLen) {E : Int} (hE : In.emptyE t dir s = E) (h0 : E ≠ 0) :
    Calls Tryz.prog 159 #[.pointer (some ⟨g, 0, none⟩), .int .i64 dir, .string s] w fun e w' => e = .returned (.tuple #[.pointer none, .int .i64 E]) ∧ Below w.heap.size w w' := by
  unfold In.emptyE at hE
  rcases placeE_dec (t := t) (dir := dir) (s := s) with ⟨h1, n, hn, hd, hN⟩ | h1
  · have cp := place_yes h hq hid hs hn hd hN
    rw [h1, at_find hn] at hE
    by_cases hl : In.leads n.names s = 0
    · rw [hl] at hE; exact absurd hE.symm h0
    · rw [beq0_false hl] at hE
      have hE : 4 = E := hE
      subst hE
      have HT := Lib.hid h
      have HN := Lib.hid hn
      have HL := Lib.hid hl
      have e1 := bne0_true hl
      clear h hq hn hd hN hl h1
      go_enter Tryz.func159, Tryz.ntmps159
      go_wp2_with (go_at_call 160; refine cp.mono ?_; rintro e w' ⟨rfl, hb⟩; have HB := Lib.hid hb; have hA := (HT.out.below hb).at HN.out; have d4 := (node_cells hA).2.2.2.2; have ll := look_name hA.names hs; clear hb hA)
      go_ret2
      exact ⟨rfl, HB.out⟩
  · rw [beq0_false h1] at hE
    have hE : In.placeE t dir s = E := hE
    have cp := place_no h hq hid hs hE h0
    have e0 := bne0_true h0
    clear h hq h1 hE h0
    go_enter Tryz.func159, Tryz.ntmps159
    go_wp2_with (go_at_call 160; refine cp.mono ?_; rintro e w' ⟨rfl, hb⟩)
    go_ret2
    exact ⟨rfl, hb⟩
theorem findE_dec {dir : Int} {s : ByteArray} : (In.findE t dir s = 0 ∧ ∃ n, In.find t.nodes dir = some n ∧ n.dir = true ∧ In.isName s = true ∧ In.leads n.names s ≠ 0 ∧ In.findN t dir s = In.leads n.names s) ∨ (In.findE t dir s ≠ 0 ∧ In.findN t dir s = 0) := by
  have key : In.findE t dir s = 0 → In.findN t dir s = In.leads (In.at_ t dir).names s := fun h => by unfold In.findN; rw [h]; rfl
  have key2 : In.findE t dir s ≠ 0 → In.findN t dir s = 0 := fun h => by unfold In.findN; rw [beq0_false h]; rfl
  by_cases h0 : In.findE t dir s = 0
  · left
    refine ⟨h0, ?_⟩
    have hk := key h0
    unfold In.findE at h0
    rcases placeE_dec (t := t) (dir := dir) (s := s) with ⟨h1, n, hn, hd, hN⟩ | h1
    · rw [h1, at_find hn] at h0
      rw [at_find hn] at hk
      refine ⟨n, hn, hd, hN, fun hl => ?_, hk⟩
      rw [hl] at h0
      exact absurd h0 (by decide)
    · rw [beq0_false h1] at h0; exact absurd h0 h1
  · exact .inr ⟨h0, key2 h0⟩
theorem Find_any (h : TblAt w g mb β t) (hq : 0 < t.quota) {dir : Int} (hid : Fits dir) {s : ByteArray} (hs : s.size ≤ maxLen) :
    Calls Tryz.prog 107 #[.pointer (some ⟨g, 0, none⟩), .int .i64 dir, .string s] w fun e w' => e = .returned (.tuple #[.int .i64 (In.findN t dir s), .int .i64 (In.findE t dir s)]) ∧ Below w.heap.size w w' := by
  obtain ⟨E, hE⟩ : ∃ E, In.findE t dir s = E := ⟨_, rfl⟩
  obtain ⟨N, hNN⟩ : ∃ N, In.findN t dir s = N := ⟨_, rfl⟩
  have hdec := findE_dec (t := t) (dir := dir) (s := s)
  rw [hE, hNN] at hdec ⊢
  unfold In.findE at hE
  rcases placeE_dec (t := t) (dir := dir) (s := s) with ⟨h1, n, hn, hd, hN⟩ | h1
  · have cp := place_yes h hq hid hs hn hd hN
    rw [h1, at_find hn] at hE
    have HT := Lib.hid h
    have HN := Lib.hid hn
    by_cases hl : In.leads n.names s = 0
    · rw [hl] at hE
      have hE : 3 = E := hE
      subst hE
      have hz : N = 0 := by rcases hdec with ⟨h, _⟩ | ⟨_, h⟩; exact absurd h (by decide); exact h
      subst hz
      have HL := Lib.hid hl
      clear h hq hn hd hN hl h1 hdec hNN
      go_enter Tryz.func107, Tryz.ntmps107
      go_wp2_with (go_at_call 160; refine cp.mono ?_; rintro e w' ⟨rfl, hb⟩; have HB := Lib.hid hb; have hA := (HT.out.below hb).at HN.out; have d4 := (node_cells hA).2.2.2.2; have ll := look_name hA.names hs; rw [HL.out] at ll; clear hb hA)
      go_ret2
      exact ⟨rfl, HB.out⟩
    · rw [beq0_false hl] at hE
      have hE : 0 = E := hE
      subst hE
      have hz : In.leads n.names s = N := by
        rcases hdec with ⟨_, m, hm, _, _, _, h⟩ | ⟨h, _⟩
        · rw [hn] at hm; cases hm; exact h.symm
        · exact absurd rfl h
      rw [hz] at hl
      have HL := Lib.hid hz
      have e1 := beq0_false hl
      clear h hq hn hd hN hl h1 hdec hNN hz
      go_enter Tryz.func107, Tryz.ntmps107
      go_wp2_with (go_at_call 160; refine cp.mono ?_; rintro e w' ⟨rfl, hb⟩; have HB := Lib.hid hb; have hA := (HT.out.below hb).at HN.out; have d4 := (node_cells hA).2.2.2.2; have ll := look_name hA.names hs; rw [HL.out] at ll; clear hb hA)
      go_ret2
      exact ⟨rfl, HB.out⟩
  · rw [beq0_false h1] at hE
    have hE : In.placeE t dir s = E := hE
    have h0 : E ≠ 0 := by rw [← hE]; exact h1
    have cp := place_no h hq hid hs hE h0
    have hz : N = 0 := by rcases hdec with ⟨h, _⟩ | ⟨_, h⟩; exact absurd h h0; exact h
    subst hz
    have e0 := bne0_true h0
    clear h hq h1 hE h0 hdec hNN
    go_enter Tryz.func107, Tryz.ntmps107
    go_wp2_with (go_at_call 160; refine cp.mono ?_; rintro e w' ⟨rfl, hb⟩)
    go_ret2
    exact ⟨rfl, hb⟩
theorem file_yes (h : TblAt w g mb β t) (hq : 0 < t.quota) {id k : Int} (hid : Fits id) {n : NodeD} (hn : In.find t.nodes id = some n) (hd : n.dir = false) (hk : decide (k < 0) = false) :
    Calls Tryz.prog 162 #[.pointer (some ⟨g, 0, none⟩), .int .i64 id, .int .i64 k] w fun e w' => e = .returned (.tuple #[.pointer (some ⟨(β id).1, 0, none⟩), .int .i64 0]) ∧ w = w' := by
  have cg := get_yes h hq hid hn hd
  clear h hq hn hd
  go_enter Tryz.func162, Tryz.ntmps162
  go_wp2_with (go_at_call 165; refine cg.mono ?_; rintro e w' ⟨rfl, rfl⟩)
  go_ret2
  exact ⟨rfl, rfl⟩
theorem fileE_dec {id k : Int} : (In.fileE t id k = 0 ∧ ∃ n, In.find t.nodes id = some n ∧ n.dir = false ∧ decide (k < 0) = false) ∨ In.fileE t id k ≠ 0 := by
  unfold In.fileE
  rcases getE_dec (t := t) (id := id) (dir := false) with ⟨h1, n, hn, hd⟩ | h1
  · rw [h1]
    cases hk : decide (k < 0) with
    | false => exact .inl ⟨rfl, n, hn, hd, rfl⟩
    | true => right; decide
  · rw [beq0_false h1]; exact .inr h1
theorem file_no (h : TblAt w g mb β t) (hq : 0 < t.quota) {id k : Int} (hid : Fits id) {E : Int} (hE : In.fileE t id k = E) (h0 : E ≠ 0) :
    Calls Tryz.prog 162 #[.pointer (some ⟨g, 0, none⟩), .int .i64 id, .int .i64 k] w fun e w' => e = .returned (.tuple #[.pointer none, .int .i64 E]) ∧ w = w' := by
  unfold In.fileE at hE
  rcases getE_dec (t := t) (id := id) (dir := false) with ⟨h1, n, hn, hd⟩ | h1
  · have cg := get_yes h hq hid hn hd
    rw [h1] at hE
    cases hk : decide (k < 0) with
    | false => rw [hk] at hE; exact absurd hE.symm h0
    | true =>
      rw [hk] at hE
      have hE : 1 = E := hE
      subst hE
      clear h hq hn hd h1
      go_enter Tryz.func162, Tryz.ntmps162
      go_wp2_with (go_at_call 165; refine cg.mono ?_; rintro e w' ⟨rfl, rfl⟩)
      go_ret2
      exact ⟨rfl, rfl⟩
  · rw [beq0_false h1] at hE
    have hE : In.getE t id false = E := hE
    have cg := get_no h hq hid hE h0
    have e0 := beq0_false h0
    clear h hq h1 hE h0
    go_enter Tryz.func162, Tryz.ntmps162
    go_wp2_with (go_at_call 165; refine cg.mono ?_; rintro e w' ⟨rfl, rfl⟩)
    go_ret2
    exact ⟨rfl, rfl⟩
end
end Go.Proofs.YtcicjklhbnipcaaGreatDoor
