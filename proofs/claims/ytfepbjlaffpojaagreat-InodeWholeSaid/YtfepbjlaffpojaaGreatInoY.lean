/-
  Layer 8: an act done on a table: List; and any act.
-/
import Derived.Test.YtfepbjlaffpojaaGreatInoX
namespace Go.Proofs.YtfepbjlaffpojaaGreat
set_option linter.unusedVariables false
open Go.RowKit Go.Maps

namespace In
theorem textL_snoc (l : List ByteArray) (x : ByteArray) : textL (l ++ [x]) = textL l ++ x ++ ⟨#[47]⟩ := by simp [textL, List.foldl_append]
theorem textL_len (l : List ByteArray) (h : ∀ s ∈ l, s.size ≤ 32) : (textL l).size ≤ 33 * l.length := by
  have key : ∀ (l : List ByteArray) (a : ByteArray), (∀ s ∈ l, s.size ≤ 32) → (l.foldl (fun s x => s ++ x ++ (⟨#[47]⟩ : ByteArray)) a).size ≤ a.size + 33 * l.length := by
    intro l
    induction l with
    | nil => intro a _; simp
    | cons y r ih =>
      intro a h
      rw [List.foldl_cons]
      have := ih (a ++ y ++ ⟨#[47]⟩) fun s hs => h s (by simp [hs])
      have hy := h y (by simp)
      have e : (a ++ y ++ (⟨#[47]⟩ : ByteArray)).size = a.size + y.size + 1 := by rw [ByteArray.size_append, ByteArray.size_append]; rfl
      rw [e] at this
      rw [List.length_cons]
      omega
  have := key l ByteArray.empty h
  simpa [textL] using this
end In
/-- Texts: at an index. -/
theorem strs_at {w : World} {B : Nat} {a : Option Addr} {n cap : Nat} {xs : List ByteArray} (h : RSlice 1 RStr w B [.slice a n cap] xs) :
    n = xs.length ∧ n ≤ cap ∧ cap ≤ maxLen ∧ (0 < n → ∃ b off, a = some ⟨b, off, none⟩ ∧ b < B ∧ ∀ k s, xs[k]? = some s → s.size ≤ maxLen ∧ w.cell? ⟨b, off + k, none⟩ = some (.string s)) := by
  obtain ⟨a', cap', h1, h2, h3, h5, h4⟩ := h
  simp only [List.cons.injEq, Value.slice.injEq, and_true] at h1
  obtain ⟨rfl, rfl, rfl⟩ := h1
  refine ⟨rfl, h2, h3, fun hp => ?_⟩
  obtain ⟨b, off, rfl, hb, hx⟩ := h4 hp
  refine ⟨b, off, rfl, hb, fun k s hk => ?_⟩
  obtain ⟨es, hl, hc, rfl, hs⟩ := hx k s hk
  exact ⟨hs, by simpa using hc 0 (by omega)⟩
theorem take_at' {α : Type} {xs : List α} {k : Nat} {x : α} (h : xs[k]? = some x) : xs.take (k + 1) = xs.take k ++ [x] := by
  rw [List.take_add_one, h]; rfl
section
variable {w : World} {g mb : Nat} {β : Int → Nat × Nat} {t : TabD} {N : Nat}
set_option maxRecDepth 100000 in
set_option maxHeartbeats 2000000 in
theorem do_list (h : TblAt w g mb β t) (I : In.Inv N t) (hN : N ≤ 1000000000) (a : ActD) (ha : a.Ok) (h1 : a.kind ≠ 1) (h2 : a.kind ≠ 2) (h3 : a.kind ≠ 3) (h4 : a.kind ≠ 4) (h5 : a.kind ≠ 5) (h6 : a.kind ≠ 6) (h7 : a.kind ≠ 7) (h8 : a.kind ≠ 8) (h9 : a.kind ≠ 9) (h10 : a.kind ≠ 10) (h11 : a.kind ≠ 11) :
    Calls Tryz.prog 10 #[.pointer (some ⟨g, 0, none⟩), .agg a.cells.toArray] w (RDo w g mb β t (In.do_ t a)) := by
  have F := fit_inv I hN
  have hb := (Below.refl w.heap.size w).alloc (Nat.le_refl _) (.cells a.cells.toArray 35)
  have HT := Lib.hid (h.below hb)
  have HB := Lib.hid hb
  have C := List_any HT.out F.q0 ha.dir (names_inv I hN)
  obtain ⟨R, hR⟩ : ∃ R, In.do_ t a = R := ⟨_, rfl⟩
  rw [hR]
  unfold In.do_ at hR
  rw [if_neg h1, if_neg h2, if_neg h3, if_neg h4, if_neg h5, if_neg h6, if_neg h7, if_neg h8, if_neg h9, if_neg h10, if_neg h11] at hR
  have HR := Lib.hid hR
  have hsm : ∀ s ∈ In.list t a.dir, s.size ≤ 32 := fun s hs => by
    unfold In.list at hs
    split at hs
    · rename_i he
      obtain ⟨p, hp, rfl⟩ := List.mem_map.1 hs
      obtain ⟨d, hd, _⟩ := In.getE_ok (t := t) (id := a.dir) (dir := true) (by simpa [In.listE] using he)
      rw [at_find hd] at hp
      exact I.short d (find_mem hd).1 p hp
    · cases hs
  have hll : (In.list t a.dir).length ≤ 1000000000 := by
    unfold In.list
    split
    · rename_i he
      obtain ⟨d, hd, _⟩ := In.getE_ok (t := t) (id := a.dir) (dir := true) (by simpa [In.listE] using he)
      rw [at_find hd, List.length_map]
      have h3 := I.tot
      have h4 : d.names.length ≤ In.tot t.nodes := In.le_sum (f := fun n => n.names.length) (find_mem hd).1
      omega
    · simp
  unfold ActD.cells at C hb HT HB ⊢
  obtain ⟨kind, id, dir, at_, n, name, as_, flag⟩ := a
  simp only at h1 h2 h3 h4 h5 h6 h7 h8 h9 h10 h11 C HT HB HR hsm hll ⊢
  have b1 := beq_eq_false_iff_ne.2 h1
  have b2 := beq_eq_false_iff_ne.2 h2
  have b3 := beq_eq_false_iff_ne.2 h3
  have b4 := beq_eq_false_iff_ne.2 h4
  have b5 := beq_eq_false_iff_ne.2 h5
  have b6 := beq_eq_false_iff_ne.2 h6
  have b7 := beq_eq_false_iff_ne.2 h7
  have b8 := beq_eq_false_iff_ne.2 h8
  have b9 := beq_eq_false_iff_ne.2 h9
  have b10 := beq_eq_false_iff_ne.2 h10
  have b11 := beq_eq_false_iff_ne.2 h11
  generalize hL : In.list t dir = L at C HR hsm hll
  have HS := Lib.hid hsm
  clear h hb hR I ha F h1 h2 h3 h4 h5 h6 h7 h8 h9 h10 h11 hsm
  go_enter Tryz.func10, Tryz.ntmps10
  go_wp2_with (go_at_call 23; refine C.mono ?_; rintro e w2 ⟨sa, sc, rfl, hsl, hb2⟩; rw [hL] at hsl; have HSL := Lib.hid hsl; have HB2 := Lib.hid hb2; clear hsl hb2)
  have hop := strs_at HSL.out
  obtain ⟨hlen, hcap, hmax, hx⟩ := hop
  rw [maxLen_val] at hmax
  have HX := Lib.hid hx
  clear hx hlen hL
  go_loop [15, 16] (fun s i => ∃ k : Nat, k ≤ L.length ∧ i = .int .i64 k ∧ s = .string (In.textL (L.take k))) (fun _ i => L.length - (intOf i).toNat)
  case atStart => exact ⟨0, by omega, rfl, rfl⟩
  case round =>
    obtain ⟨k, hk, rfl, rfl⟩ := hrel
    by_cases hlt : k < L.length
    · obtain ⟨x, hxk⟩ := get_at hlt
      obtain ⟨b, off, rfl, hbb, hc⟩ := HX.out (by omega)
      obtain ⟨hxs, hcell⟩ := hc k x hxk
      have hx32 := HS.out x (List.mem_of_getElem? hxk)
      have htl := In.textL_len (L.take k) fun s hs => HS.out s (List.mem_of_mem_take hs)
      have htk : (L.take k).length ≤ k := List.length_take_le _ _
      have g1 : ¬ (9223372036854775807 < (In.textL (L.take k)).size + x.size) := by omega
      have g2 : ¬ (9223372036854775807 < (In.textL (L.take k)).size + x.size + 1) := by omega
      have HK := Lib.hid (show In.textL (L.take (k + 1)) = In.textL (L.take k) ++ x ++ ⟨#[47]⟩ by rw [take_at' hxk, In.textL_snoc])
      clear hc hxk htl htk
      go_wp2_with fail
      go_round
      case rel => exact ⟨k + 1, by omega, by go_num, by rw [HK.out]⟩
      case measure => simp [intOf]; omega
    · have he : k = L.length := by omega
      subst he
      go_wp2_with fail
      go_ret3
      rw [← HR.out]
      exact ⟨rfl, Goes.pre HB.out (Step.below HT.out HB2.out).goes⟩
theorem do_any (h : TblAt w g mb β t) (I : In.Inv N t) (hN : N ≤ 1000000000) (a : ActD) (ha : a.Ok) : Calls Tryz.prog 10 #[.pointer (some ⟨g, 0, none⟩), .agg a.cells.toArray] w (RDo w g mb β t (In.do_ t a)) := by
  by_cases h1 : a.kind = 1
  · exact do_1 h I hN a ha h1
  by_cases h2 : a.kind = 2
  · exact do_2 h I hN a ha h2
  by_cases h3 : a.kind = 3
  · exact do_3 h I hN a ha h3
  by_cases h4 : a.kind = 4
  · exact do_4 h I hN a ha h4
  by_cases h5 : a.kind = 5
  · exact do_5 h I hN a ha h5
  by_cases h6 : a.kind = 6
  · exact do_6 h I hN a ha h6
  by_cases h7 : a.kind = 7
  · exact do_7 h I hN a ha h7
  by_cases h8 : a.kind = 8
  · exact do_8 h I hN a ha h8
  by_cases h9 : a.kind = 9
  · exact do_9 h I hN a ha h9
  by_cases h10 : a.kind = 10
  · exact do_10 h I hN a ha h10
  by_cases h11 : a.kind = 11
  · exact do_11 h I hN a ha h11
  exact do_list h I hN a ha h1 h2 h3 h4 h5 h6 h7 h8 h9 h10 h11
end
end Go.Proofs.YtfepbjlaffpojaaGreat
