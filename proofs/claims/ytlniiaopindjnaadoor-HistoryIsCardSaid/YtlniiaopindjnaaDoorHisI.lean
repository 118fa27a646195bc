/-
  Layer 35: rows of numbers that a call owns; SameInts, walked; Few, walked.
-/
import Derived.Test.YtlniiaopindjnaaDoorHisK
import Derived.Test.YtlniiaopindjnaaDoorOwnB
namespace Go.Proofs.YtlniiaopindjnaaDoor
set_option linter.unusedVariables false
open Go.RowKit

theorem int_info : (Tryd.prog.info? 3).map (fun i => (i.zero, i.size, i.bytes)) = some (some (.int .i64 0), 1, 8) := by kernel_rfl
theorem OwnInts.nil (w : World) (base : Nat) (h : base ≤ w.heap.size) : OwnInts w base (.slice none 0 0) [] := ⟨h, World.ownsRow_nil _ _ _ _⟩
theorem OwnInts.on {w w' : World} {base : Nat} {v : Value} {l : List Int} (h : OwnInts w base v l) (hb : Below w.heap.size w w') : OwnInts w' base v l := ⟨Nat.le_trans h.1 hb.size, own_below h.2 hb⟩
theorem OwnInts.less {w : World} {base base' : Nat} {v : Value} {l : List Int} (h : OwnInts w base v l) (hb : base' ≤ base) : OwnInts w base' v l := ⟨Nat.le_trans hb h.1, own_mono h.2 hb⟩
theorem wpList_append_int {w : World} {ops : Array Oper} {rest : List Oper} {o : Oper} {a : Act} {Q : Exit → Act → World → Prop} (hgd : o.guard = none) (sl x : Operand)
    (ho : o.op = .call { callee := .builtin .append, args := #[sl, x], argTypes := #[32, 32] }) (base : Nat) (v : Value) (l : List Int) (hs : a.eval sl = v) (hown : OwnInts w base v l) (c : Int)
    (hx : a.eval x = .slice (some ⟨w.heap.size, 0, none⟩) 1 1) (hlen : l.length ≤ 100000000)
    (h : ∀ v' w', OwnInts w' base v' (l ++ [c]) → Below base w w' → wpList Tryd.prog ops Q rest (a.put o.dst v') w') : wpList Tryd.prog ops Q (o :: rest) a (w.alloc (.cells #[.int .i64 c] 3)) := by
  obtain ⟨i0, hi, hz0, hz1, hz2⟩ := info_parts int_info
  have h0 := hown.1
  refine wpList_append_own _ hgd sl x _ ho base 3 i0 (.int .i64 0) 1 8 Tryd.underlying32 hi hz0 hz1 hz2 rfl (by decide) v l.length (l.map (Value.int .i64)) hs (hown.2.alloc _) ⟨w.heap.size, 0, none⟩ 1 1 [.int .i64 c] hx rfl (cell_one_new _ _ _) (by intro u hu; simp at hu; subst hu; rfl) (by unfold maxLen; omega) (by omega) (by simp; omega) ?_
  intro v' w' h1 h2 h3
  have hb : Below base w w' := ((Below.refl base w).alloc h0 _).grown h2 (by simp; omega) (fun k hk => own_block hown.2 k hk)
  refine h v' w' ⟨Nat.le_trans h0 hb.size, ?_⟩ hb
  have e2 : (l ++ [c]).map (Value.int .i64) = l.map (Value.int .i64) ++ [.int .i64 c] := by simp
  rw [e2]
  simpa using h1

/-- Numbers, however large. -/
def RNum : Rep Int := fun _ _ cs x => cs = [.int .i64 x]
theorem kept_num : Kept RNum := ⟨fun _ _ h => h⟩
def RNums : Rep (List Int) := RSlice 1 RNum
theorem kept_nums : Kept RNums := kept_slice kept_num
theorem nums_of_ints {w : World} {B : Nat} {cs : List Value} {xs : List Int} (h : RInts w B cs xs) : RNums w B cs xs := by
  obtain ⟨a, cap, h1, h2, h3, h5, h4⟩ := h
  refine ⟨a, cap, h1, h2, h3, h5, fun hp => ?_⟩
  obtain ⟨b, off, e, hb, hx⟩ := h4 hp
  refine ⟨b, off, e, hb, fun i x hi => ?_⟩
  obtain ⟨es, e1, e2, e3, _⟩ := hx i x hi
  exact ⟨es, e1, e2, e3⟩
theorem nums_open {w : World} {B : Nat} {a : Option Addr} {n cap : Nat} {xs : List Int} (h : RNums w B [.slice a n cap] xs) :
    n = xs.length ∧ n ≤ cap ∧ cap ≤ maxLen ∧ (a = none → cap = 0) ∧ (0 < n → ∃ b off, a = some ⟨b, off, none⟩ ∧ b < B ∧
      ∀ k x, xs[k]? = some x → w.cell? ⟨b, off + k, none⟩ = some (.int .i64 x)) := by
  obtain ⟨h1, h2, h3, h5, h4⟩ := slice_open h
  refine ⟨h1, h2, h3, h5, fun hp => ?_⟩
  obtain ⟨b, off, rfl, hb, hx⟩ := h4 hp
  refine ⟨b, off, rfl, hb, fun k s hk => ?_⟩
  obtain ⟨es, hl, hc, rfl⟩ := hx k s hk
  simpa using hc 0 (by omega)
theorem nums_of_own {w : World} {base : Nat} {v : Value} {xs : List Int} (h : OwnInts w base v xs) : RNums w w.heap.size [v] xs := by
  obtain ⟨_, hl, ho⟩ := h
  rcases ho with ⟨rfl, h0⟩ | ⟨g, cap, cur, rfl, hg, hrow, hcap, hmax, hsize, htake⟩
  · have h1 : xs = [] := List.length_eq_zero_iff.1 h0
    subst h1
    exact slice_nil
  · have hlt : g < w.heap.size := by
      rcases Nat.lt_or_ge g w.heap.size with h | h
      · exact h
      · rw [Array.getElem?_eq_none h] at hrow; cases hrow
    refine slice_of_block hrow hlt hcap hmax fun i x hi => ⟨[.int .i64 x], rfl, fun j hj => ?_, rfl⟩
    obtain rfl : j = 0 := by omega
    have hil : i < xs.length := (List.getElem?_eq_some_iff.1 hi).1
    have h1 : (cur.toList.take (xs.length * 1))[i]? = (xs.map (Value.int .i64))[i]? := by rw [htake]
    rw [List.getElem?_take_of_lt (by omega), List.getElem?_map, hi] at h1
    rw [← Array.getElem?_toList]
    simpa using h1
theorem own_form {w : World} {base : Nat} {v : Value} {xs : List Int} (h : OwnInts w base v xs) : ∃ a cap, v = .slice a xs.length cap := slice_form (nums_of_own h)

/-- The first k numbers are the same. -/
def AsFar (xs ys : List Int) (k : Nat) : Prop := ∀ j, j < k → xs[j]? = ys[j]?
theorem same_of {xs ys : List Int} (hl : xs.length = ys.length) (h : AsFar xs ys xs.length) : xs = ys := by
  apply List.ext_getElem?
  intro j
  rcases Nat.lt_or_ge j xs.length with h' | h'
  · exact h j h'
  · rw [List.getElem?_eq_none h', List.getElem?_eq_none (by omega)]
set_option maxHeartbeats 2000000 in
set_option maxRecDepth 100000 in
theorem sameInts_any (a b : Option Addr) (m n c d : Nat) (xs ys : List Int) (w : World) (hx : RNums w w.heap.size [.slice a m c] xs) (hy : RNums w w.heap.size [.slice b n d] ys) :
    Calls Tryd.prog 23 #[.slice a m c, .slice b n d] w fun e w' => e = .returned (.bool (decide (xs = ys))) ∧ Below w.heap.size w w' := by
  obtain ⟨rfl, m1, m2, _, fx⟩ := nums_open hx
  obtain ⟨rfl, n1, n2, _, fy⟩ := nums_open hy
  rw [maxLen_val] at m2 n2
  obtain ⟨R, hR⟩ : ∃ R, decide (xs = ys) = R := ⟨_, rfl⟩
  rw [hR]
  by_cases hl : xs.length = ys.length
  · have HX := Lib.hid hx
    have HY := Lib.hid hy
    have HR := Lib.hid hR
    clear hx hy fx fy hR
    have hz : ((xs.length : Int) != (ys.length : Int)) = false := by simp [hl]
    go_enter Tryd.func23, Tryd.ntmps23
    go_wp2_with fail
    go_loopw [5] (fun i wr => ∃ k : Nat, k ≤ xs.length ∧ i = .int .i64 k ∧ Below w.heap.size w wr ∧ AsFar xs ys k) (fun i _ => xs.length - (intOf i).toNat)
    case atStart => exact ⟨0, by omega, rfl, Below.refl _ _, fun j hj => absurd hj (by omega)⟩
    case round =>
      obtain ⟨k, hk, rfl, hbel, hfar⟩ := hrel
      have HB := Lib.hid hbel
      have HF := Lib.hid hfar
      obtain ⟨_, _, _, _, fx⟩ := nums_open (kept_nums.on hbel HX.out)
      obtain ⟨_, _, _, _, fy⟩ := nums_open (kept_nums.on hbel HY.out)
      clear hbel hfar
      by_cases hlt : k < xs.length
      · have hlt2 : k < ys.length := by omega
        obtain ⟨x, hxk⟩ := get_at hlt
        obtain ⟨y, hyk⟩ := get_at hlt2
        obtain ⟨b1, o1, rfl, hb1, fc1⟩ := fx (by omega)
        obtain ⟨b2, o2, rfl, hb2, fc2⟩ := fy (by omega)
        have c1 := Lib.hid (fc1 k x hxk)
        have c2 := Lib.hid (fc2 k y hyk)
        have HXK := Lib.hid hxk
        have HYK := Lib.hid hyk
        have k1 : (k : Int) < (xs.length : Int) := by omega
        have k2 : (k : Int) < (ys.length : Int) := by omega
        clear fx fy fc1 fc2 hxk hyk hlt hlt2
        go_upto_region 6 with fail
        have c1x : ∀ x_ : Ext wr.heap.size wr, x_.w.cell? ⟨b1, o1 + k, none⟩ = some (.int .i64 x) := fun x_ => (x_.b.cell (p := ⟨b1, o1 + k, none⟩) hb1).trans c1.out
        have c2x : ∀ x_ : Ext wr.heap.size wr, x_.w.cell? ⟨b2, o2 + k, none⟩ = some (.int .i64 y) := fun x_ => (x_.b.cell (p := ⟨b2, o2 + k, none⟩) hb2).trans c2.out
        refine wp_region_bel wr.heap.size (by kernel_rfl) (by kernel_rfl) ?_
        repeat (go_big_quiet_step (fail))
        refine wpQuiet_nil ?_
        intro x_
        have HBX := Lib.hid (HB.out.trans (x_.b.mono HB.out.size))
        generalize x_.w = wx at HBX ⊢
        clear c1x c2x
        by_cases he : x = y
        · have hxy : (x != y) = false := by simp [he]
          have HN := Lib.hid (show AsFar xs ys (k + 1) from fun j hj => by
            rcases Nat.lt_or_ge j k with h | h
            · exact HF.out j h
            · obtain rfl : j = k := by omega
              rw [HXK.out, HYK.out, he])
          clear he
          go_wp2_with fail
          go_roundw
          case rel => exact ⟨k + 1, by omega, by go_num, HBX.out, HN.out⟩
          case measure => simp [intOf]; omega
        · have hxy : (x != y) = true := by simp [he]
          have HN := Lib.hid (show false = R by
            rw [← HR.out]
            refine (decide_eq_false fun h => he ?_).symm
            have h1 := HXK.out
            rw [h, HYK.out] at h1
            injection h1 with h1
            exact h1.symm)
          clear he
          go_wp2_with fail
          go_ret
          exact ⟨ret_bool HN.out, HBX.out⟩
      · obtain rfl : k = xs.length := by omega
        have HN := Lib.hid (show true = R by rw [← HR.out]; exact (decide_eq_true (same_of hl HF.out)).symm)
        clear fx fy
        go_wp2_with fail
        go_ret
        exact ⟨ret_bool HN.out, HB.out⟩
  · have hz : ((xs.length : Int) != (ys.length : Int)) = true := by simp; omega
    have HN := Lib.hid (show false = R by rw [← hR]; exact (decide_eq_false fun h => hl (by rw [h])).symm)
    clear hx hy fx fy hl hR
    go_enter Tryd.func23, Tryd.ntmps23
    go_wp2_with fail
    go_ret
    exact ⟨ret_bool HN.out, Below.refl _ _⟩
end Go.Proofs.YtlniiaopindjnaaDoor
