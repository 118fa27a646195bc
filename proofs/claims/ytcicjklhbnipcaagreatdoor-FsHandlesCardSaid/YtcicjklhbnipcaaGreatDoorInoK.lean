/-
  Layer 8: New, walked.
-/
import Derived.Test.YtcicjklhbnipcaaGreatDoorInoJ
namespace Go.Proofs.YtcicjklhbnipcaaGreatDoor
set_option linter.unusedVariables false
set_option linter.unusedSimpArgs false
open Go.RowKit Go.Maps

set_option maxHeartbeats 1000000 in
theorem New_no (q : Int) (w : World) (hq : In.newE q = 1) : Calls Tryz.prog 60 #[.int .i64 q] w fun e w' => e = .returned (.tuple #[.pointer none, .int .i64 1]) ∧ w = w' := by
  unfold In.newE at hq
  cases h1 : decide (q < 64) with
  | true =>
    go_enter Tryz.func60, Tryz.ntmps60
    go_wp2_with fail
    go_ret2
    exact ⟨rfl, rfl⟩
  | false =>
    cases h2 : decide (1099511627776 < q) with
    | true =>
      go_enter Tryz.func60, Tryz.ntmps60
      go_wp2_with fail
      go_ret2
      exact ⟨rfl, rfl⟩
    | false => rw [h1, h2] at hq; simp at hq
set_option maxHeartbeats 2000000 in
theorem New_yes (q : Int) (w : World) (hq : In.newE q = 0) :
    Calls Tryz.prog 60 #[.int .i64 q] w fun e w' => e = .returned (.tuple #[.pointer (some ⟨w.heap.size + 1, 0, none⟩), .int .i64 0]) ∧ TblAt w' (w.heap.size + 1) w.heap.size (fun _ => (w.heap.size + 3, w.heap.size + 2)) (In.new q) ∧ Below w.heap.size w w' := by
  unfold In.newE at hq
  have h1 : decide (q < 64) = false := by
    cases h : decide (q < 64) with
    | false => rfl
    | true => rw [h] at hq; simp at hq
  have h2 : decide (1099511627776 < q) = false := by
    cases h : decide (1099511627776 < q) with
    | false => rfl
    | true => rw [h1, h] at hq; simp at hq
  have hmm := @run_makeMap Tryz.prog
  have HM : MapAt Tryz.prog 3 (((((w.alloc (.map #[] 0)).alloc (.cells #[.int .i64 q, .int .i64 64, .int .i64 1, .map (some w.heap.size)] 162)).alloc (.map #[] 0)).alloc (.cells #[.bool true, .int .i64 1, .int .i64 0, .string { data := #[] }, .map (some (w.heap.size + 2))] 166))) w.heap.size [] := by
    refine MapAt.on (MapAt.made w) ?_
    rw [Below.heap_alloc _ _ _ (by simp only [size_alloc]; omega), Below.heap_alloc _ _ _ (by simp only [size_alloc]; omega), Below.heap_alloc _ _ _ (by simp only [size_alloc]; omega)]
  clear hq
  go_enter Tryz.func60, Tryz.ntmps60
  go_wp2_with (at_mapUpdate; refine wpList_store_at _ rfl _ _ _ 160 rfl 3 163 key_int Tryz.underlying160 w.heap.size _ rfl HM (by decide) (.int .i64 1) (.pointer (some ⟨w.heap.size + 3, 0, none⟩)) _ rfl rfl (keyOf_int_mk Tryz.underlying3 (by decide)) ?_; intro w2 hm2 ht2; have HM2 := Lib.hid hm2; have HT2 := Lib.hid ht2; clear hm2 ht2)
  go_ret2
  refine ⟨rfl, ?_, ?_⟩
  · have hm2 := HM2.out
    have ht2 := HT2.out
    refine ⟨?_, hm2, ?_, ?_⟩
    · rw [turned_other ht2 (by omega), Below.heap_alloc _ _ _ (by simp only [size_alloc]; omega), Below.heap_alloc _ _ _ (by simp only [size_alloc]; omega)]
      have := heap_alloc_new (w.alloc (.map #[] 0)) (.cells #[.int .i64 q, .int .i64 64, .int .i64 1, .map (some w.heap.size)] 162)
      rw [size_alloc] at this
      exact this
    · intro n hn
      have : n = ⟨1, true, 1, 0, ByteArray.empty, []⟩ := by simpa [In.new] using hn
      subst this
      constructor
      · show w2.heap[w.heap.size + 3]? = _
        rw [turned_other ht2 (by omega)]
        have := heap_alloc_new (((w.alloc (.map #[] 0)).alloc (.cells #[.int .i64 q, .int .i64 64, .int .i64 1, .map (some w.heap.size)] 162)).alloc (.map #[] 0)) (.cells #[.bool true, .int .i64 1, .int .i64 0, .string { data := #[] }, .map (some (w.heap.size + 2))] 166)
        rw [size_alloc, size_alloc, size_alloc] at this
        exact this
      · show MapAt _ _ w2 (w.heap.size + 2) _
        have hm := MapAt.made (P := Tryz.prog) (k := 9) ((w.alloc (.map #[] 0)).alloc (.cells #[.int .i64 q, .int .i64 64, .int .i64 1, .map (some w.heap.size)] 162))
        rw [size_alloc, size_alloc] at hm
        refine MapAt.on hm ?_
        rw [turned_other ht2 (by omega), Below.heap_alloc _ _ _ (by simp only [size_alloc]; omega)]
    · show ([w.heap.size + 1, w.heap.size, w.heap.size + 3, w.heap.size + 2] : List Nat).Nodup
      simp
  · have ht2 := HT2.out
    refine Below.trans ?_ ((Below.refl _ _).grown ht2.grown (by simp only [size_alloc]; omega) (fun k hk => by cases hk; exact Nat.le_refl _))
    exact ((((Below.refl _ _).alloc (Nat.le_refl _) _).alloc (by simp only [size_alloc]; omega) _).alloc (by simp only [size_alloc]; omega) _).alloc (by simp only [size_alloc]; omega) _
end Go.Proofs.YtcicjklhbnipcaaGreatDoor
