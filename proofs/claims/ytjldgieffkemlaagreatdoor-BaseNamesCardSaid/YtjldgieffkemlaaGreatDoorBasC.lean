/-
  Layers that are complete, walked: the program's, with names of their own, and the document's.
-/
import Derived.Test.YtjldgieffkemlaaGreatDoorBasS
import Derived.Test.YtjldgieffkemlaaGreatDoorRepW
namespace Go.Proofs.YtjldgieffkemlaaGreatDoor
set_option linter.unusedVariables false
set_option linter.unusedSimpArgs false
open Go.RowKit

namespace Ba
def shut (x : LayerD) : LayerD := ⟨x.id, x.parent, x.names, x.diff, x.size, 0, x.done⟩
def complete (xs : List LayerD) : List LayerD := (xs.filter (·.done)).map shut
theorem complete_yes {xs : List LayerD} {k : Nat} {x : LayerD} (h : xs[k]? = some x) (hd : x.done = true) : complete (xs.take (k + 1)) = complete (xs.take k) ++ [shut x] := by
  unfold complete
  rw [List.take_add_one, h, Option.toList_some, List.filter_append, List.map_append]
  simp [hd]
theorem complete_no {xs : List LayerD} {k : Nat} {x : LayerD} (h : xs[k]? = some x) (hd : x.done = false) : complete (xs.take (k + 1)) = complete (xs.take k) := by
  unfold complete
  rw [List.take_add_one, h, Option.toList_some, List.filter_append, List.map_append]
  simp [hd]
theorem complete_len (xs : List LayerD) : (complete xs).length ≤ xs.length := by
  unfold complete
  rw [List.length_map]
  exact List.length_filter_le _ _
end Ba
/-- A layer, and where its names lie. -/
abbrev LayV := LayerD × Option Addr × Nat × Nat
def LayV.cells (z : LayV) : List Value := z.1.cells z.2.1 z.2.2.1 z.2.2.2
theorem LayV.len (z : LayV) : (LayV.cells z).length = 7 := rfl
theorem flat_get {β : Type} {f : β → List Value} {n : Nat} (hf : ∀ z, (f z).length = n) : ∀ {zs : List β} {i j : Nat} {z : β}, zs[i]? = some z → j < n → (zs.flatMap f)[i * n + j]? = (f z)[j]?
  | y :: zs, 0, j, z, h, hj => by
    obtain rfl : y = z := by simpa using h
    rw [List.flatMap_cons, Nat.zero_mul, Nat.zero_add, List.getElem?_append_left (by rw [hf]; exact hj)]
  | y :: zs, i + 1, j, z, h, hj => by
    rw [List.flatMap_cons, List.getElem?_append_right (by rw [hf, Nat.succ_mul]; omega), hf, Nat.succ_mul, show i * n + n + j - n = i * n + j by omega]
    exact flat_get hf (by simpa using h) hj
  | [], _, _, _, h, _ => by simp at h
theorem flat_len {β : Type} {f : β → List Value} {n : Nat} (hf : ∀ z, (f z).length = n) : ∀ (zs : List β), (zs.flatMap f).length = zs.length * n
  | [] => by simp
  | y :: zs => by rw [List.flatMap_cons, List.length_append, hf, flat_len hf zs, List.length_cons, Nat.succ_mul, Nat.add_comm]
/-- A slice of the call's own, whose elements are known, is read. -/
theorem own_read {α β : Type} {R : Rep α} {w0 w : World} {F : List Nat} {L : List Ent} {s : Option (Nat × Nat)} {n size : Nat} {e : TypeId} {f : β → List Value} {zs : List β} {v : β → α} (hM : St w0 F w L) (hs : ∀ z ∈ slL s (zs.flatMap f) e size, z ∈ L) (hk : SlOK s n (zs.flatMap f) size) (hf : ∀ z, (f z).length = size) (hp : 0 < size)
    (hr : ∀ z ∈ zs, R w w.heap.size (f z) (v z)) : RSlice size R w w.heap.size [slV s n] (zs.map v) := by
  obtain ⟨hl, hk⟩ := hk
  rw [flat_len hf] at hl
  have hn : n = (zs.map v).length := by rw [List.length_map]; exact (Nat.eq_of_mul_eq_mul_right hp hl).symm
  subst hn
  cases s with
  | none =>
    have : zs.map v = [] := List.length_eq_zero_iff.1 hk
    rw [this]
    exact slice_nil
  | some gc =>
    obtain ⟨g, cap⟩ := gc
    have hm : (g, true, Res.pre (zs.flatMap f) e (cap * size)) ∈ L := hs _ (List.mem_singleton.2 rfl)
    obtain ⟨rest, hb, -⟩ := hM.holds _ hm
    refine slice_of_block hb (hM.lt hm) hk.1 hk.2 fun i x hi => ?_
    rw [List.getElem?_map] at hi
    cases hz : zs[i]? with
    | none => rw [hz] at hi; cases hi
    | some z =>
      rw [hz] at hi
      obtain rfl : v z = x := by simpa using hi
      refine ⟨f z, hf z, fun j hj => ?_, hr z (List.mem_of_getElem? hz)⟩
      have hlt : i * size + j < (zs.flatMap f).length := by
        have h1 : i < zs.length := (List.getElem?_eq_some_iff.1 hz).1
        rw [flat_len hf]
        calc i * size + j < i * size + size := by omega
          _ = (i + 1) * size := by rw [Nat.succ_mul]
          _ ≤ zs.length * size := Nat.mul_le_mul_right _ h1
      rw [List.getElem?_toArray, List.getElem?_append_left hlt]
      exact flat_get hf hz hj
/-- Texts in a block of the call's own. -/
theorem texts_read {w0 w : World} {F : List Nat} {L : List Ent} {g cap : Nat} {e : TypeId} {l : List ByteArray} (hM : St w0 F w L) (hm : (g, true, Res.pre (l.map Value.string) e cap) ∈ L) (hl : l.length ≤ cap) (hc : cap ≤ maxLen) (hs : ∀ s ∈ l, s.size ≤ maxLen) : RStrs w w.heap.size [.slice (some ⟨g, 0, none⟩) l.length cap] l := by
  obtain ⟨rest, hb, -⟩ := hM.holds _ hm
  refine slice_of_block hb (hM.lt hm) hl hc fun i x hi => ⟨[.string x], rfl, fun j hj => ?_, rfl, hs x (List.mem_of_getElem? hi)⟩
  obtain rfl : j = 0 := by omega
  have hlt : i * 1 + 0 < (l.map Value.string).length := by rw [List.length_map]; have := (List.getElem?_eq_some_iff.1 hi).1; omega
  rw [List.getElem?_toArray, List.getElem?_append_left hlt, Nat.mul_one, Nat.add_zero, List.getElem?_map, hi]
  rfl
def RLayerS : Rep LayerD := fun w B cs x => ∃ a n c, cs = x.cells a n c ∧ RSized 16 RStrs w B [.slice a n c] x.names
abbrev RLayersS : Rep (List LayerD) := RSlice 7 RLayerS
theorem kept_layerS : Kept RLayerS := ⟨fun hs hB ⟨a, n, c, h, hr⟩ => ⟨a, n, c, h, (kept_sized kept_strs).go hs hB hr⟩⟩
theorem layersS_open {w : World} {B : Nat} {a : Option Addr} {n cap : Nat} {xs : List LayerD} (h : RLayersS w B [.slice a n cap] xs) :
    n = xs.length ∧ n ≤ cap ∧ cap ≤ maxLen ∧ (a = none → cap = 0) ∧ (0 < n → ∃ b off, a = some ⟨b, off, none⟩ ∧ b < B ∧
      ∀ k x, xs[k]? = some x → ∃ na nn nc, w.rangeAt b (off + k * 7) (x.cells na nn nc) ∧ RSized 16 RStrs w B [.slice na nn nc] x.names) := by
  obtain ⟨h1, h2, h3, h5, h4⟩ := slice_open h
  refine ⟨h1, h2, h3, h5, fun hp => ?_⟩
  obtain ⟨b, off, rfl, hb, hx⟩ := h4 hp
  refine ⟨b, off, rfl, hb, fun k x hk => ?_⟩
  obtain ⟨es, hl, hc, na, nn, nc, rfl, hr⟩ := hx k x hk
  exact ⟨na, nn, nc, row_of fun j hj => hc j (by rw [← hl]; exact hj), hr⟩
def SomeLayers (xs : List LayerD) (w : World) (e : Ending) (w' : World) : Prop := ∃ a n c, e = .returned (.slice a n c) ∧ Below w.heap.size w w' ∧ RLayers w' w'.heap.size [.slice a n c] xs
theorem slV_form (s : Option (Nat × Nat)) (n : Nat) : ∃ a n' c, slV s n = .slice a n' c := by
  cases s with
  | none => exact ⟨none, 0, 0, rfl⟩
  | some gc => exact ⟨_, _, _, rfl⟩
set_option maxHeartbeats 4000000 in
set_option maxRecDepth 100000 in
theorem ref31_Complete_any (a : Option Addr) (n c : Nat) (xs : List LayerD) (w0 : World) (hx : RLayersS w0 w0.heap.size [.slice a n c] xs) (h40 : n ≤ 40) :
    Calls Tryz.prog 21 #[.slice a n c] w0 (SomeLayers (Ba.complete xs) w0) := by
  obtain ⟨rfl, m1, m2, _, fx⟩ := layersS_open hx
  rw [maxLen_val] at m2
  have hM := St.start w0 []
  have HX := Lib.hid fx
  clear hx fx
  go_enter Tryz.func21, Tryz.ntmps21
  (repeat (first | ((with_reducible show wpSeq _ _ _ _ _ _ _); first | ((with_reducible refine wpSeq_nil ?_); refine hKr.out _ _ ?_; clear hKr Kr) | ((first | (refine St.copy (v := ?_) (by first | exact .inl rfl | exact .inr rfl) rfl rfl ?_ ?_; rotate_left; (focus ((try simp only [Act.eval, getD_lit, List.getD_cons_zero, List.getD_cons_succ]); with_reducible rfl))) | refine St.cat rfl rfl rfl rfl rfl (by first | omega | (simp only [ByteArray.size_append, ba_size, List.size_toArray, List.length_cons, List.length_nil, Nat.reduceAdd]; omega)) ?_ | refine St.inc rfl rfl rfl rfl rfl (by omega) ?_ | (refine St.pure (v := ?_) rfl rfl rfl (fun w => ?_) ?_; rotate_left; (focus (go_simp; all_goals with_reducible rfl))) | refine St.load rfl hM rfl rfl rfl rfl (by repeat constructor) (by rfl) (by kernel_rfl) ?_ | refine St.load1 rfl rfl rfl rfl (by repeat constructor) (by rfl) (by kernel_rfl) ?_ | ((first | refine St.loadRow rfl hM rfl rfl rfl rfl (by repeat constructor) (Nat.le_of_ble_eq_true rfl) (by kernel_rfl) ?_ | refine St.loadRow1 rfl rfl rfl rfl (by repeat constructor) (Nat.le_of_ble_eq_true rfl) (by kernel_rfl) ?_); (try simp only [Res.known, List.drop_succ_cons, List.drop_zero, List.take_succ_cons, List.take_zero])) | refine St.loadF rfl rfl rfl rfl rfl (hM.old (by assumption)) (by kernel_rfl) ?_ | refine St.loadF1 rfl rfl rfl rfl (fun w' hS => hS.old (by assumption)) (by kernel_rfl) ?_ | refine St.loadRowF rfl rfl rfl rfl rfl (hM.oldRow (by assumption)) (by kernel_rfl) ?_ | refine St.loadRowF1 rfl rfl rfl rfl (fun w' hS => hS.oldRow (by assumption)) (by kernel_rfl) ?_ | refine wpSeq_off rfl rfl ?_ | ((first | ((first | refine St.store rfl hM rfl rfl rfl rfl rfl (by repeat constructor) (Nat.le_of_ble_eq_true rfl) (by kernel_rfl) rfl ?_ ?_ | refine St.storeRow rfl hM rfl rfl rfl rfl rfl (by repeat constructor) (Nat.le_of_ble_eq_true rfl) (Nat.le_of_ble_eq_true rfl) (by kernel_rfl) rfl ?_ ?_); (focus (first | (intro h; cases h; done) | (intro _; repeat (first | exact Rest.here (Sub.all _) | exact Rest.here Sub.nil | apply Rest.take | apply Rest.skip)))); clear hM; intro w hM) | ((first | refine St.box rfl hM rfl rfl rfl ?_ | (refine St.buildSlice (cells := ?_) (e := ?_) rfl hM rfl rfl (fun w => ?_) ?_; rotate_left 2; (focus (go_simp; all_goals with_reducible rfl)))); clear hM; intro w bk hM)); (try simp only [Res.put, Res.known, Act.eval, Value.cells, getD_lit, List.getD_cons_zero, List.getD_cons_succ, List.toList_toArray, List.set_cons_zero, List.set_cons_succ, over, Nat.reduceAdd] at hM))); (try simp only [Act.put, List.setIfInBounds_toArray, List.set_cons_zero, List.set_cons_succ])) | (((first | refine St.alloc (ty := 64) (z := .agg #[.string ⟨#[]⟩, .string ⟨#[]⟩, .slice none 0 0, .string ⟨#[]⟩, .int .i64 0, .int .i64 0, .bool false]) rfl hM rfl rfl (by kernel_rfl) ?_); clear hM; intro w bk hM); (try simp only [Res.put, Res.known, Act.eval, Value.cells, getD_lit, List.getD_cons_zero, List.getD_cons_succ, List.toList_toArray, List.set_cons_zero, List.set_cons_succ, over, Nat.reduceAdd] at hM); (try simp only [Act.put, List.setIfInBounds_toArray, List.set_cons_zero, List.set_cons_succ]))) | (first | (refine wp_seq_shut (fun K hK => ?_)) | (refine wp_text hM (fun Kr hKr => ?_); simp only [inText]) | refine wp_block ?_ | refine wp_skip ?_ | (first | refine wp_cond_true rfl ?_ | refine wp_cond_false rfl ?_) | (refine wp_exit ?_; simp only [Exit.then, Exit.inBlock, if_true, if_false, reduceCtorEq, Nat.reduceEqDiff, Nat.succ_ne_zero]) | ((first | refine hK.out _ _ ?_ | (clear hK K; first | refine hK.out _ _ ?_ | (clear hK K; first | refine hK.out _ _ ?_ | (clear hK K; refine hK.out _ _ ?_)))); clear hK K)) | fail))
  go_loopw [3, 4] (fun v i wr => ∃ (k : Nat) (s : Option (Nat × Nat)) (zs : List LayV), k ≤ xs.length ∧ i = .int .i64 k ∧ v = slV s zs.length ∧ zs.map (·.1) = Ba.complete (xs.take k) ∧ SlOK s zs.length (zs.flatMap LayV.cells) 7 ∧
    (∀ z ∈ zs, RStrs w0 w0.heap.size [.slice z.2.1 z.2.2.1 z.2.2.2] z.1.names) ∧ St w0 [] wr (slL s (zs.flatMap LayV.cells) 64 7)) (fun _ i _ => xs.length - (intOf i).toNat)
  case atStart => exact ⟨0, none, [], by omega, rfl, rfl, rfl, ⟨rfl, rfl⟩, nofun, hM⟩
  case round =>
    clear hM
    obtain ⟨k, s, zs, hk, rfl, rfl, hzs, hsl, hnm, hM⟩ := hrel
    by_cases hlt : k < xs.length
    · obtain ⟨x, hxk⟩ := get_at hlt
      obtain ⟨b1, o1, rfl, hb1, fc1⟩ := HX.out (by omega)
      obtain ⟨na1, nn1, nc1, c1, r1⟩ := fc1 k x hxk
      have cd : w0.cell? ⟨b1, o1 + k * 7 + 6, none⟩ = some (.bool x.done) := c1 6 _ rfl
      have HZ := Lib.hid hzs
      have HS := Lib.hid hsl
      have HN := Lib.hid hnm
      have HK := Lib.hid hxk
      have R1 := Lib.hid r1
      have k1 : (k : Int) < (xs.length : Int) := by omega
      have z40 : zs.length ≤ 40 := by
        have h1 := congrArg List.length hzs
        rw [List.length_map] at h1
        have h2 := Ba.complete_len (xs.take k)
        rw [List.length_take] at h2
        omega
      clear fc1 hxk hlt hzs hsl hnm r1
      cases hd : x.done with
      | false =>
        rw [hd] at cd
        (repeat (first | ((with_reducible show wpSeq _ _ _ _ _ _ _); first | ((with_reducible refine wpSeq_nil ?_); refine hKr.out _ _ ?_; clear hKr Kr) | ((first | (refine St.copy (v := ?_) (by first | exact .inl rfl | exact .inr rfl) rfl rfl ?_ ?_; rotate_left; (focus ((try simp only [Act.eval, getD_lit, List.getD_cons_zero, List.getD_cons_succ]); with_reducible rfl))) | refine St.cat rfl rfl rfl rfl rfl (by first | omega | (simp only [ByteArray.size_append, ba_size, List.size_toArray, List.length_cons, List.length_nil, Nat.reduceAdd]; omega)) ?_ | refine St.inc rfl rfl rfl rfl rfl (by omega) ?_ | (refine St.pure (v := ?_) rfl rfl rfl (fun w => ?_) ?_; rotate_left; (focus (go_simp; all_goals with_reducible rfl))) | refine St.load rfl hM rfl rfl rfl rfl (by repeat constructor) (by rfl) (by kernel_rfl) ?_ | refine St.load1 rfl rfl rfl rfl (by repeat constructor) (by rfl) (by kernel_rfl) ?_ | ((first | refine St.loadRow rfl hM rfl rfl rfl rfl (by repeat constructor) (Nat.le_of_ble_eq_true rfl) (by kernel_rfl) ?_ | refine St.loadRow1 rfl rfl rfl rfl (by repeat constructor) (Nat.le_of_ble_eq_true rfl) (by kernel_rfl) ?_); (try simp only [Res.known, List.drop_succ_cons, List.drop_zero, List.take_succ_cons, List.take_zero])) | refine St.loadF rfl rfl rfl rfl rfl (hM.old (by assumption)) (by kernel_rfl) ?_ | refine St.loadF1 rfl rfl rfl rfl (fun w' hS => hS.old (by assumption)) (by kernel_rfl) ?_ | refine St.loadRowF rfl rfl rfl rfl rfl (hM.oldRow (by assumption)) (by kernel_rfl) ?_ | refine St.loadRowF1 rfl rfl rfl rfl (fun w' hS => hS.oldRow (by assumption)) (by kernel_rfl) ?_ | refine wpSeq_off rfl rfl ?_ | ((first | ((first | refine St.store rfl hM rfl rfl rfl rfl rfl (by repeat constructor) (Nat.le_of_ble_eq_true rfl) (by kernel_rfl) rfl ?_ ?_ | refine St.storeRow rfl hM rfl rfl rfl rfl rfl (by repeat constructor) (Nat.le_of_ble_eq_true rfl) (Nat.le_of_ble_eq_true rfl) (by kernel_rfl) rfl ?_ ?_); (focus (first | (intro h; cases h; done) | (intro _; repeat (first | exact Rest.here (Sub.all _) | exact Rest.here Sub.nil | apply Rest.take | apply Rest.skip)))); clear hM; intro w hM) | ((first | refine St.box rfl hM rfl rfl rfl ?_ | (refine St.buildSlice (cells := ?_) (e := ?_) rfl hM rfl rfl (fun w => ?_) ?_; rotate_left 2; (focus (go_simp; all_goals with_reducible rfl)))); clear hM; intro w bk hM)); (try simp only [Res.put, Res.known, Act.eval, Value.cells, getD_lit, List.getD_cons_zero, List.getD_cons_succ, List.toList_toArray, List.set_cons_zero, List.set_cons_succ, over, Nat.reduceAdd] at hM))); (try simp only [Act.put, List.setIfInBounds_toArray, List.set_cons_zero, List.set_cons_succ])) | (((first | refine St.alloc (ty := 64) (z := .agg #[.string ⟨#[]⟩, .string ⟨#[]⟩, .slice none 0 0, .string ⟨#[]⟩, .int .i64 0, .int .i64 0, .bool false]) rfl hM rfl rfl (by kernel_rfl) ?_); clear hM; intro w bk hM); (try simp only [Res.put, Res.known, Act.eval, Value.cells, getD_lit, List.getD_cons_zero, List.getD_cons_succ, List.toList_toArray, List.set_cons_zero, List.set_cons_succ, over, Nat.reduceAdd] at hM); (try simp only [Act.put, List.setIfInBounds_toArray, List.set_cons_zero, List.set_cons_succ]))) | (first | (refine wp_seq_shut (fun K hK => ?_)) | (refine wp_text hM (fun Kr hKr => ?_); simp only [inText]) | refine wp_block ?_ | refine wp_skip ?_ | (first | refine wp_cond_true rfl ?_ | refine wp_cond_false rfl ?_) | (refine wp_exit ?_; simp only [Exit.then, Exit.inBlock, if_true, if_false, reduceCtorEq, Nat.reduceEqDiff, Nat.succ_ne_zero]) | ((first | refine hK.out _ _ ?_ | (clear hK K; first | refine hK.out _ _ ?_ | (clear hK K; first | refine hK.out _ _ ?_ | (clear hK K; refine hK.out _ _ ?_)))); clear hK K)) | fail))
        (refine ⟨?_, ?_⟩; (focus (repeat (first | exact ⟨⟨k + 1, s, zs, by omega, rfl, rfl, by rw [Ba.complete_no HK.out hd]; exact HZ.out, HS.out, HN.out, hM⟩, rfl⟩ | apply Exists.intro))); (simp only [getD_lit, List.getD_cons_zero, List.getD_cons_succ, intOf]; omega))
      | true =>
        rw [hd] at cd
        obtain ⟨xi, xp, xn, xd, xz, xb, xo⟩ := x
        simp only [LayerD.cells] at c1
        (repeat (first | ((with_reducible show wpSeq _ _ _ _ _ _ _); first | ((with_reducible refine wpSeq_nil ?_); refine hKr.out _ _ ?_; clear hKr Kr) | ((first | (refine St.copy (v := ?_) (by first | exact .inl rfl | exact .inr rfl) rfl rfl ?_ ?_; rotate_left; (focus ((try simp only [Act.eval, getD_lit, List.getD_cons_zero, List.getD_cons_succ]); with_reducible rfl))) | refine St.cat rfl rfl rfl rfl rfl (by first | omega | (simp only [ByteArray.size_append, ba_size, List.size_toArray, List.length_cons, List.length_nil, Nat.reduceAdd]; omega)) ?_ | refine St.inc rfl rfl rfl rfl rfl (by omega) ?_ | (refine St.pure (v := ?_) rfl rfl rfl (fun w => ?_) ?_; rotate_left; (focus (go_simp; all_goals with_reducible rfl))) | refine St.load rfl hM rfl rfl rfl rfl (by repeat constructor) (by rfl) (by kernel_rfl) ?_ | refine St.load1 rfl rfl rfl rfl (by repeat constructor) (by rfl) (by kernel_rfl) ?_ | ((first | refine St.loadRow rfl hM rfl rfl rfl rfl (by repeat constructor) (Nat.le_of_ble_eq_true rfl) (by kernel_rfl) ?_ | refine St.loadRow1 rfl rfl rfl rfl (by repeat constructor) (Nat.le_of_ble_eq_true rfl) (by kernel_rfl) ?_); (try simp only [Res.known, List.drop_succ_cons, List.drop_zero, List.take_succ_cons, List.take_zero])) | refine St.loadF rfl rfl rfl rfl rfl (hM.old (by assumption)) (by kernel_rfl) ?_ | refine St.loadF1 rfl rfl rfl rfl (fun w' hS => hS.old (by assumption)) (by kernel_rfl) ?_ | refine St.loadRowF rfl rfl rfl rfl rfl (hM.oldRow (by assumption)) (by kernel_rfl) ?_ | refine St.loadRowF1 rfl rfl rfl rfl (fun w' hS => hS.oldRow (by assumption)) (by kernel_rfl) ?_ | refine wpSeq_off rfl rfl ?_ | ((first | ((first | refine St.store rfl hM rfl rfl rfl rfl rfl (by repeat constructor) (Nat.le_of_ble_eq_true rfl) (by kernel_rfl) rfl ?_ ?_ | refine St.storeRow rfl hM rfl rfl rfl rfl rfl (by repeat constructor) (Nat.le_of_ble_eq_true rfl) (Nat.le_of_ble_eq_true rfl) (by kernel_rfl) rfl ?_ ?_); (focus (first | (intro h; cases h; done) | (intro _; repeat (first | exact Rest.here (Sub.all _) | exact Rest.here Sub.nil | apply Rest.take | apply Rest.skip)))); clear hM; intro w hM) | ((first | refine St.box rfl hM rfl rfl rfl ?_ | (refine St.buildSlice (cells := ?_) (e := ?_) rfl hM rfl rfl (fun w => ?_) ?_; rotate_left 2; (focus (go_simp; all_goals with_reducible rfl)))); clear hM; intro w bk hM)); (try simp only [Res.put, Res.known, Act.eval, Value.cells, getD_lit, List.getD_cons_zero, List.getD_cons_succ, List.toList_toArray, List.set_cons_zero, List.set_cons_succ, over, Nat.reduceAdd] at hM))); (try simp only [Act.put, List.setIfInBounds_toArray, List.set_cons_zero, List.set_cons_succ])) | (((first | refine St.alloc (ty := 64) (z := .agg #[.string ⟨#[]⟩, .string ⟨#[]⟩, .slice none 0 0, .string ⟨#[]⟩, .int .i64 0, .int .i64 0, .bool false]) rfl hM rfl rfl (by kernel_rfl) ?_); clear hM; intro w bk hM); (try simp only [Res.put, Res.known, Act.eval, Value.cells, getD_lit, List.getD_cons_zero, List.getD_cons_succ, List.toList_toArray, List.set_cons_zero, List.set_cons_succ, over, Nat.reduceAdd] at hM); (try simp only [Act.put, List.setIfInBounds_toArray, List.set_cons_zero, List.set_cons_succ]))) | (first | (refine wp_seq_shut (fun K hK => ?_)) | (refine wp_text hM (fun Kr hKr => ?_); simp only [inText]) | refine wp_block ?_ | refine wp_skip ?_ | (first | refine wp_cond_true rfl ?_ | refine wp_cond_false rfl ?_) | (refine wp_exit ?_; simp only [Exit.then, Exit.inBlock, if_true, if_false, reduceCtorEq, Nat.reduceEqDiff, Nat.succ_ne_zero]) | ((first | refine hK.out _ _ ?_ | (clear hK K; first | refine hK.out _ _ ?_ | (clear hK K; first | refine hK.out _ _ ?_ | (clear hK K; refine hK.out _ _ ?_)))); clear hK K)) | fail))
        refine St.append (s := s) (n := zs.length) (xs := zs.flatMap LayV.cells) rfl hM rfl rfl rfl rfl rfl (by kernel_rfl) (by intro s'; repeat (first | exact Swap.all | exact Swap.here | exact Swap.one | apply Swap.skip | apply Swap.past)) HS.out rfl (hM.news (by repeat constructor)) rfl (by rw [maxLen_val]; omega) (by omega) (fun _ => .inl rfl) ?_
        clear hM; intro w s' hM hk' hs'
        simp only [Res.known] at hM hk'
        replace hM := hM.forget.forget
        let z : LayV := (Ba.shut ⟨xi, xp, xn, xd, xz, xb, xo⟩, na1, nn1, nc1)
        have hfl : zs.flatMap LayV.cells ++ [.string xi, .string xp, .slice na1 nn1 nc1, .string xd, .int .i64 xz, .int .i64 0, .bool xo] = (zs ++ [z]).flatMap LayV.cells := by simp [z, List.flatMap_append, LayV.cells, LayerD.cells, Ba.shut]
        have hle : zs.length + 1 = (zs ++ [z]).length := by simp
        rw [hfl] at hM hk'
        rw [hle] at hk'
        have HS' := Lib.hid hk'
        rw [hle]
        have hz' : (zs ++ [z]).map (·.1) = Ba.complete (xs.take (k + 1)) := by
          rw [Ba.complete_yes HK.out hd, List.map_append, HZ.out]
          rfl
        have hn' : ∀ y ∈ zs ++ [z], RStrs w0 w0.heap.size [.slice y.2.1 y.2.2.1 y.2.2.2] y.1.names := fun y hy => by
          rcases List.mem_append.1 hy with hy | hy
          · exact HN.out y hy
          · rcases List.mem_singleton.1 hy with rfl
            exact R1.out.1
        generalize zs ++ [z] = zs' at *
        clear hk' hs' hfl hle
        (try simp only [Act.put, List.setIfInBounds_toArray, List.set_cons_zero, List.set_cons_succ])
        (repeat (first | ((with_reducible show wpSeq _ _ _ _ _ _ _); first | ((with_reducible refine wpSeq_nil ?_); refine hKr.out _ _ ?_; clear hKr Kr) | ((first | (refine St.copy (v := ?_) (by first | exact .inl rfl | exact .inr rfl) rfl rfl ?_ ?_; rotate_left; (focus ((try simp only [Act.eval, getD_lit, List.getD_cons_zero, List.getD_cons_succ]); with_reducible rfl))) | refine St.cat rfl rfl rfl rfl rfl (by first | omega | (simp only [ByteArray.size_append, ba_size, List.size_toArray, List.length_cons, List.length_nil, Nat.reduceAdd]; omega)) ?_ | refine St.inc rfl rfl rfl rfl rfl (by omega) ?_ | (refine St.pure (v := ?_) rfl rfl rfl (fun w => ?_) ?_; rotate_left; (focus (go_simp; all_goals with_reducible rfl))) | refine St.load rfl hM rfl rfl rfl rfl (by repeat constructor) (by rfl) (by kernel_rfl) ?_ | refine St.load1 rfl rfl rfl rfl (by repeat constructor) (by rfl) (by kernel_rfl) ?_ | ((first | refine St.loadRow rfl hM rfl rfl rfl rfl (by repeat constructor) (Nat.le_of_ble_eq_true rfl) (by kernel_rfl) ?_ | refine St.loadRow1 rfl rfl rfl rfl (by repeat constructor) (Nat.le_of_ble_eq_true rfl) (by kernel_rfl) ?_); (try simp only [Res.known, List.drop_succ_cons, List.drop_zero, List.take_succ_cons, List.take_zero])) | refine St.loadF rfl rfl rfl rfl rfl (hM.old (by assumption)) (by kernel_rfl) ?_ | refine St.loadF1 rfl rfl rfl rfl (fun w' hS => hS.old (by assumption)) (by kernel_rfl) ?_ | refine St.loadRowF rfl rfl rfl rfl rfl (hM.oldRow (by assumption)) (by kernel_rfl) ?_ | refine St.loadRowF1 rfl rfl rfl rfl (fun w' hS => hS.oldRow (by assumption)) (by kernel_rfl) ?_ | refine wpSeq_off rfl rfl ?_ | ((first | ((first | refine St.store rfl hM rfl rfl rfl rfl rfl (by repeat constructor) (Nat.le_of_ble_eq_true rfl) (by kernel_rfl) rfl ?_ ?_ | refine St.storeRow rfl hM rfl rfl rfl rfl rfl (by repeat constructor) (Nat.le_of_ble_eq_true rfl) (Nat.le_of_ble_eq_true rfl) (by kernel_rfl) rfl ?_ ?_); (focus (first | (intro h; cases h; done) | (intro _; repeat (first | exact Rest.here (Sub.all _) | exact Rest.here Sub.nil | apply Rest.take | apply Rest.skip)))); clear hM; intro w hM) | ((first | refine St.box rfl hM rfl rfl rfl ?_ | (refine St.buildSlice (cells := ?_) (e := ?_) rfl hM rfl rfl (fun w => ?_) ?_; rotate_left 2; (focus (go_simp; all_goals with_reducible rfl)))); clear hM; intro w bk hM)); (try simp only [Res.put, Res.known, Act.eval, Value.cells, getD_lit, List.getD_cons_zero, List.getD_cons_succ, List.toList_toArray, List.set_cons_zero, List.set_cons_succ, over, Nat.reduceAdd] at hM))); (try simp only [Act.put, List.setIfInBounds_toArray, List.set_cons_zero, List.set_cons_succ])) | (((first | refine St.alloc (ty := 64) (z := .agg #[.string ⟨#[]⟩, .string ⟨#[]⟩, .slice none 0 0, .string ⟨#[]⟩, .int .i64 0, .int .i64 0, .bool false]) rfl hM rfl rfl (by kernel_rfl) ?_); clear hM; intro w bk hM); (try simp only [Res.put, Res.known, Act.eval, Value.cells, getD_lit, List.getD_cons_zero, List.getD_cons_succ, List.toList_toArray, List.set_cons_zero, List.set_cons_succ, over, Nat.reduceAdd] at hM); (try simp only [Act.put, List.setIfInBounds_toArray, List.set_cons_zero, List.set_cons_succ]))) | (first | (refine wp_seq_shut (fun K hK => ?_)) | (refine wp_text hM (fun Kr hKr => ?_); simp only [inText]) | refine wp_block ?_ | refine wp_skip ?_ | (first | refine wp_cond_true rfl ?_ | refine wp_cond_false rfl ?_) | (refine wp_exit ?_; simp only [Exit.then, Exit.inBlock, if_true, if_false, reduceCtorEq, Nat.reduceEqDiff, Nat.succ_ne_zero]) | ((first | refine hK.out _ _ ?_ | (clear hK K; first | refine hK.out _ _ ?_ | (clear hK K; first | refine hK.out _ _ ?_ | (clear hK K; refine hK.out _ _ ?_)))); clear hK K)) | fail))
        (refine ⟨?_, ?_⟩; (focus (repeat (first | exact ⟨⟨k + 1, s', zs', by omega, rfl, rfl, hz', HS'.out, hn', hM⟩, rfl⟩ | apply Exists.intro))); (simp only [getD_lit, List.getD_cons_zero, List.getD_cons_succ, intOf]; omega))
    · have k0 : ¬ ((k : Int) < (xs.length : Int)) := by omega
      obtain rfl : k = xs.length := by omega
      rw [List.take_length] at hzs
      have HZ := Lib.hid hzs
      have HS := Lib.hid hsl
      have HN := Lib.hid hnm
      clear hlt hk hzs hsl hnm
      (repeat (first | ((with_reducible show wpSeq _ _ _ _ _ _ _); first | ((with_reducible refine wpSeq_nil ?_); refine hKr.out _ _ ?_; clear hKr Kr) | ((first | (refine St.copy (v := ?_) (by first | exact .inl rfl | exact .inr rfl) rfl rfl ?_ ?_; rotate_left; (focus ((try simp only [Act.eval, getD_lit, List.getD_cons_zero, List.getD_cons_succ]); with_reducible rfl))) | refine St.cat rfl rfl rfl rfl rfl (by first | omega | (simp only [ByteArray.size_append, ba_size, List.size_toArray, List.length_cons, List.length_nil, Nat.reduceAdd]; omega)) ?_ | refine St.inc rfl rfl rfl rfl rfl (by omega) ?_ | (refine St.pure (v := ?_) rfl rfl rfl (fun w => ?_) ?_; rotate_left; (focus (go_simp; all_goals with_reducible rfl))) | refine St.load rfl hM rfl rfl rfl rfl (by repeat constructor) (by rfl) (by kernel_rfl) ?_ | refine St.load1 rfl rfl rfl rfl (by repeat constructor) (by rfl) (by kernel_rfl) ?_ | ((first | refine St.loadRow rfl hM rfl rfl rfl rfl (by repeat constructor) (Nat.le_of_ble_eq_true rfl) (by kernel_rfl) ?_ | refine St.loadRow1 rfl rfl rfl rfl (by repeat constructor) (Nat.le_of_ble_eq_true rfl) (by kernel_rfl) ?_); (try simp only [Res.known, List.drop_succ_cons, List.drop_zero, List.take_succ_cons, List.take_zero])) | refine St.loadF rfl rfl rfl rfl rfl (hM.old (by assumption)) (by kernel_rfl) ?_ | refine St.loadF1 rfl rfl rfl rfl (fun w' hS => hS.old (by assumption)) (by kernel_rfl) ?_ | refine St.loadRowF rfl rfl rfl rfl rfl (hM.oldRow (by assumption)) (by kernel_rfl) ?_ | refine St.loadRowF1 rfl rfl rfl rfl (fun w' hS => hS.oldRow (by assumption)) (by kernel_rfl) ?_ | refine wpSeq_off rfl rfl ?_ | ((first | ((first | refine St.store rfl hM rfl rfl rfl rfl rfl (by repeat constructor) (Nat.le_of_ble_eq_true rfl) (by kernel_rfl) rfl ?_ ?_ | refine St.storeRow rfl hM rfl rfl rfl rfl rfl (by repeat constructor) (Nat.le_of_ble_eq_true rfl) (Nat.le_of_ble_eq_true rfl) (by kernel_rfl) rfl ?_ ?_); (focus (first | (intro h; cases h; done) | (intro _; repeat (first | exact Rest.here (Sub.all _) | exact Rest.here Sub.nil | apply Rest.take | apply Rest.skip)))); clear hM; intro w hM) | ((first | refine St.box rfl hM rfl rfl rfl ?_ | (refine St.buildSlice (cells := ?_) (e := ?_) rfl hM rfl rfl (fun w => ?_) ?_; rotate_left 2; (focus (go_simp; all_goals with_reducible rfl)))); clear hM; intro w bk hM)); (try simp only [Res.put, Res.known, Act.eval, Value.cells, getD_lit, List.getD_cons_zero, List.getD_cons_succ, List.toList_toArray, List.set_cons_zero, List.set_cons_succ, over, Nat.reduceAdd] at hM))); (try simp only [Act.put, List.setIfInBounds_toArray, List.set_cons_zero, List.set_cons_succ])) | (((first | refine St.alloc (ty := 64) (z := .agg #[.string ⟨#[]⟩, .string ⟨#[]⟩, .slice none 0 0, .string ⟨#[]⟩, .int .i64 0, .int .i64 0, .bool false]) rfl hM rfl rfl (by kernel_rfl) ?_); clear hM; intro w bk hM); (try simp only [Res.put, Res.known, Act.eval, Value.cells, getD_lit, List.getD_cons_zero, List.getD_cons_succ, List.toList_toArray, List.set_cons_zero, List.set_cons_succ, over, Nat.reduceAdd] at hM); (try simp only [Act.put, List.setIfInBounds_toArray, List.set_cons_zero, List.set_cons_succ]))) | (first | (refine wp_seq_shut (fun K hK => ?_)) | (refine wp_text hM (fun Kr hKr => ?_); simp only [inText]) | refine wp_block ?_ | refine wp_skip ?_ | (first | refine wp_cond_true rfl ?_ | refine wp_cond_false rfl ?_) | (refine wp_exit ?_; simp only [Exit.then, Exit.inBlock, if_true, if_false, reduceCtorEq, Nat.reduceEqDiff, Nat.succ_ne_zero]) | ((first | refine hK.out _ _ ?_ | (clear hK K; first | refine hK.out _ _ ?_ | (clear hK K; first | refine hK.out _ _ ?_ | (clear hK K; refine hK.out _ _ ?_)))); clear hK K)) | fail))
      (refine wp_ret ?_; (try simp only [Exit.then, Exit.inBlock]); refine St.ret hM rfl (by repeat (first | exact Outs.nil | apply Outs.tmp rfl | (apply Outs.row rfl rfl (by repeat constructor) (by kernel_rfl)) | (apply Outs.one rfl rfl (by repeat constructor) (by rfl) (by kernel_rfl)))) rfl ?_)
      obtain ⟨a', n', c', hv⟩ := slV_form s zs.length
      refine ⟨a', n', c', by rw [← hv]; rfl, hM.to_below, ?_⟩
      rw [← hv, ← HZ.out]
      exact own_read hM (fun z hz => hz) HS.out LayV.len (by decide) fun z hz => ⟨_, _, _, rfl, kept_strs.on hM.to_below (HN.out z hz)⟩

theorem St.sub {w0 w : World} {F : List Nat} {L L' : List Ent} (h : St w0 F w L) (hs : L'.Sublist L) : St w0 F w L' := h.drop (fun _ hx => hs.subset hx) ((hs.map _).nodup h.nd)
theorem strs_news {w : World} {B : Nat} {na : Option Addr} {m c : Nat} {ys : List ByteArray} (h : RStrs w B [.slice na m c] ys) :
    m = ys.length ∧ (na = none → m = 0 ∧ c = 0) ∧ (∀ ad, na = some ad → ∀ j u, (ys.map Value.string)[j]? = some u → w.cell? (ad.add j) = some u) ∧ ∀ s ∈ ys, s.size ≤ maxLen := by
  obtain ⟨rfl, h1, -, h3, hc⟩ := strs_open h
  refine ⟨rfl, fun hn => ?_, ?_, fun s hs => ?_⟩
  · have := h3 hn; omega
  · rintro ad rfl j u hu
    rw [List.getElem?_map] at hu
    cases hy : ys[j]? with
    | none => rw [hy] at hu; cases hu
    | some y =>
      rw [hy] at hu
      simp only [Option.map_some, Option.some.injEq] at hu
      have hj : j < ys.length := (List.getElem?_eq_some_iff.1 hy).1
      obtain ⟨b, off, hb, -, hcc⟩ := hc (by omega)
      injection hb with hb
      subst hb
      rw [Addr.add_mid, (hcc j y hy).2, hu]
  · obtain ⟨j, hj, rfl⟩ := List.getElem_of_mem hs
    obtain ⟨b, off, hb, -, hcc⟩ := hc (by omega)
    exact (hcc j _ (List.getElem?_eq_getElem hj)).1
/-- A layer with names of its own, and where they lie. -/
abbrev LayO := LayerD × Nat × Nat
def LayO.cells (z : LayO) : List Value := z.1.cells (some ⟨z.2.1, 0, none⟩) z.1.names.length z.2.2
def LayO.ent (z : LayO) : Ent := (z.2.1, true, .pre (z.1.names.map Value.string) 9 z.2.2)
theorem LayO.len (z : LayO) : (LayO.cells z).length = 7 := rfl
set_option maxHeartbeats 4000000 in
set_option maxRecDepth 100000 in
theorem dbase_Complete_any (a : Option Addr) (n c : Nat) (xs : List LayerD) (w0 : World) (hx : RLayersS w0 w0.heap.size [.slice a n c] xs) (h40 : n ≤ 40) :
    Calls Tryz.prog 20 #[.slice a n c] w0 (SomeLayers (Ba.complete xs) w0) := by
  obtain ⟨rfl, m1, m2, _, fx⟩ := layersS_open hx
  rw [maxLen_val] at m2
  have hM := St.start w0 []
  have HX := Lib.hid fx
  clear hx fx
  go_enter Tryz.func20, Tryz.ntmps20
  (repeat (first | ((with_reducible show wpSeq _ _ _ _ _ _ _); first | ((with_reducible refine wpSeq_nil ?_); refine hKr.out _ _ ?_; clear hKr Kr) | ((first | (refine St.copy (v := ?_) (by first | exact .inl rfl | exact .inr rfl) rfl rfl ?_ ?_; rotate_left; (focus ((try simp only [Act.eval, getD_lit, List.getD_cons_zero, List.getD_cons_succ]); with_reducible rfl))) | refine St.cat rfl rfl rfl rfl rfl (by first | omega | (simp only [ByteArray.size_append, ba_size, List.size_toArray, List.length_cons, List.length_nil, Nat.reduceAdd]; omega)) ?_ | refine St.inc rfl rfl rfl rfl rfl (by omega) ?_ | (refine St.pure (v := ?_) rfl rfl rfl (fun w => ?_) ?_; rotate_left; (focus (go_simp; all_goals with_reducible rfl))) | refine St.load rfl hM rfl rfl rfl rfl (by repeat constructor) (by rfl) (by kernel_rfl) ?_ | refine St.load1 rfl rfl rfl rfl (by repeat constructor) (by rfl) (by kernel_rfl) ?_ | ((first | refine St.loadRow rfl hM rfl rfl rfl rfl (by repeat constructor) (Nat.le_of_ble_eq_true rfl) (by kernel_rfl) ?_ | refine St.loadRow1 rfl rfl rfl rfl (by repeat constructor) (Nat.le_of_ble_eq_true rfl) (by kernel_rfl) ?_); (try simp only [Res.known, List.drop_succ_cons, List.drop_zero, List.take_succ_cons, List.take_zero])) | refine St.loadF rfl rfl rfl rfl rfl (hM.old (by assumption)) (by kernel_rfl) ?_ | refine St.loadF1 rfl rfl rfl rfl (fun w' hS => hS.old (by assumption)) (by kernel_rfl) ?_ | refine St.loadRowF rfl rfl rfl rfl rfl (hM.oldRow (by assumption)) (by kernel_rfl) ?_ | refine St.loadRowF1 rfl rfl rfl rfl (fun w' hS => hS.oldRow (by assumption)) (by kernel_rfl) ?_ | refine wpSeq_off rfl rfl ?_ | ((first | ((first | refine St.store rfl hM rfl rfl rfl rfl rfl (by repeat constructor) (Nat.le_of_ble_eq_true rfl) (by kernel_rfl) rfl ?_ ?_ | refine St.storeRow rfl hM rfl rfl rfl rfl rfl (by repeat constructor) (Nat.le_of_ble_eq_true rfl) (Nat.le_of_ble_eq_true rfl) (by kernel_rfl) rfl ?_ ?_); (focus (first | (intro h; cases h; done) | (intro _; repeat (first | exact Rest.here (Sub.all _) | exact Rest.here Sub.nil | apply Rest.take | apply Rest.skip)))); clear hM; intro w hM) | ((first | refine St.box rfl hM rfl rfl rfl ?_ | (refine St.buildSlice (cells := ?_) (e := ?_) rfl hM rfl rfl (fun w => ?_) ?_; rotate_left 2; (focus (go_simp; all_goals with_reducible rfl)))); clear hM; intro w bk hM)); (try simp only [Res.put, Res.known, Act.eval, Value.cells, getD_lit, List.getD_cons_zero, List.getD_cons_succ, List.toList_toArray, List.set_cons_zero, List.set_cons_succ, over, Nat.reduceAdd] at hM))); (try simp only [Act.put, List.setIfInBounds_toArray, List.set_cons_zero, List.set_cons_succ])) | (((first | refine St.alloc (ty := 64) (z := .agg #[.string ⟨#[]⟩, .string ⟨#[]⟩, .slice none 0 0, .string ⟨#[]⟩, .int .i64 0, .int .i64 0, .bool false]) rfl hM rfl rfl (by kernel_rfl) ?_); clear hM; intro w bk hM); (try simp only [Res.put, Res.known, Act.eval, Value.cells, getD_lit, List.getD_cons_zero, List.getD_cons_succ, List.toList_toArray, List.set_cons_zero, List.set_cons_succ, over, Nat.reduceAdd] at hM); (try simp only [Act.put, List.setIfInBounds_toArray, List.set_cons_zero, List.set_cons_succ]))) | (first | (refine wp_seq_shut (fun K hK => ?_)) | (refine wp_text hM (fun Kr hKr => ?_); simp only [inText]) | refine wp_block ?_ | refine wp_skip ?_ | (first | refine wp_cond_true rfl ?_ | refine wp_cond_false rfl ?_) | (refine wp_exit ?_; simp only [Exit.then, Exit.inBlock, if_true, if_false, reduceCtorEq, Nat.reduceEqDiff, Nat.succ_ne_zero]) | ((first | refine hK.out _ _ ?_ | (clear hK K; first | refine hK.out _ _ ?_ | (clear hK K; first | refine hK.out _ _ ?_ | (clear hK K; refine hK.out _ _ ?_)))); clear hK K)) | fail))
  go_loopw [3, 8] (fun v i wr => ∃ (k : Nat) (s : Option (Nat × Nat)) (zs : List LayO), k ≤ xs.length ∧ i = .int .i64 k ∧ v = slV s zs.length ∧ zs.map (·.1) = Ba.complete (xs.take k) ∧ SlOK s zs.length (zs.flatMap LayO.cells) 7 ∧
    (∀ z ∈ zs, z.1.names.length ≤ z.2.2 ∧ z.2.2 ≤ maxLen ∧ ∀ s ∈ z.1.names, s.size ≤ maxLen) ∧ St w0 [] wr (slL s (zs.flatMap LayO.cells) 64 7 ++ zs.map LayO.ent)) (fun _ i _ => xs.length - (intOf i).toNat)
  case atStart => exact ⟨0, none, [], by omega, rfl, rfl, rfl, ⟨rfl, rfl⟩, nofun, hM⟩
  case round =>
    clear hM
    obtain ⟨k, s, zs, hk, rfl, rfl, hzs, hsl, hnm, hM⟩ := hrel
    by_cases hlt : k < xs.length
    · obtain ⟨x, hxk⟩ := get_at hlt
      obtain ⟨b1, o1, rfl, hb1, fc1⟩ := HX.out (by omega)
      obtain ⟨na1, nn1, nc1, c1, r1⟩ := fc1 k x hxk
      have HZ := Lib.hid hzs
      have HS := Lib.hid hsl
      have HN := Lib.hid hnm
      have HK := Lib.hid hxk
      have R1 := Lib.hid r1
      have k1 : (k : Int) < (xs.length : Int) := by omega
      have z40 : zs.length ≤ 40 := by
        have h1 := congrArg List.length hzs
        rw [List.length_map] at h1
        have h2 := Ba.complete_len (xs.take k)
        rw [List.length_take] at h2
        omega
      clear fc1 hxk hlt hzs hsl hnm r1
      obtain ⟨xi, xp, xn, xd, xz, xb, xo⟩ := x
      simp only [LayerD.cells] at c1
      cases xo with
      | false =>
        (repeat (first | ((with_reducible show wpSeq _ _ _ _ _ _ _); first | ((with_reducible refine wpSeq_nil ?_); refine hKr.out _ _ ?_; clear hKr Kr) | ((first | (refine St.copy (v := ?_) (by first | exact .inl rfl | exact .inr rfl) rfl rfl ?_ ?_; rotate_left; (focus ((try simp only [Act.eval, getD_lit, List.getD_cons_zero, List.getD_cons_succ]); with_reducible rfl))) | refine St.cat rfl rfl rfl rfl rfl (by first | omega | (simp only [ByteArray.size_append, ba_size, List.size_toArray, List.length_cons, List.length_nil, Nat.reduceAdd]; omega)) ?_ | refine St.inc rfl rfl rfl rfl rfl (by omega) ?_ | (refine St.pure (v := ?_) rfl rfl rfl (fun w => ?_) ?_; rotate_left; (focus (go_simp; all_goals with_reducible rfl))) | refine St.load rfl hM rfl rfl rfl rfl (by repeat constructor) (by rfl) (by kernel_rfl) ?_ | refine St.load1 rfl rfl rfl rfl (by repeat constructor) (by rfl) (by kernel_rfl) ?_ | ((first | refine St.loadRow rfl hM rfl rfl rfl rfl (by repeat constructor) (Nat.le_of_ble_eq_true rfl) (by kernel_rfl) ?_ | refine St.loadRow1 rfl rfl rfl rfl (by repeat constructor) (Nat.le_of_ble_eq_true rfl) (by kernel_rfl) ?_); (try simp only [Res.known, List.drop_succ_cons, List.drop_zero, List.take_succ_cons, List.take_zero])) | refine St.loadF rfl rfl rfl rfl rfl (hM.old (by assumption)) (by kernel_rfl) ?_ | refine St.loadF1 rfl rfl rfl rfl (fun w' hS => hS.old (by assumption)) (by kernel_rfl) ?_ | refine St.loadRowF rfl rfl rfl rfl rfl (hM.oldRow (by assumption)) (by kernel_rfl) ?_ | refine St.loadRowF1 rfl rfl rfl rfl (fun w' hS => hS.oldRow (by assumption)) (by kernel_rfl) ?_ | refine wpSeq_off rfl rfl ?_ | ((first | ((first | refine St.store rfl hM rfl rfl rfl rfl rfl (by repeat constructor) (Nat.le_of_ble_eq_true rfl) (by kernel_rfl) rfl ?_ ?_ | refine St.storeRow rfl hM rfl rfl rfl rfl rfl (by repeat constructor) (Nat.le_of_ble_eq_true rfl) (Nat.le_of_ble_eq_true rfl) (by kernel_rfl) rfl ?_ ?_); (focus (first | (intro h; cases h; done) | (intro _; repeat (first | exact Rest.here (Sub.all _) | exact Rest.here Sub.nil | apply Rest.take | apply Rest.skip)))); clear hM; intro w hM) | ((first | refine St.box rfl hM rfl rfl rfl ?_ | (refine St.buildSlice (cells := ?_) (e := ?_) rfl hM rfl rfl (fun w => ?_) ?_; rotate_left 2; (focus (go_simp; all_goals with_reducible rfl)))); clear hM; intro w bk hM)); (try simp only [Res.put, Res.known, Act.eval, Value.cells, getD_lit, List.getD_cons_zero, List.getD_cons_succ, List.toList_toArray, List.set_cons_zero, List.set_cons_succ, over, Nat.reduceAdd] at hM))); (try simp only [Act.put, List.setIfInBounds_toArray, List.set_cons_zero, List.set_cons_succ])) | (((first | refine St.alloc (ty := 64) (z := .agg #[.string ⟨#[]⟩, .string ⟨#[]⟩, .slice none 0 0, .string ⟨#[]⟩, .int .i64 0, .int .i64 0, .bool false]) rfl hM rfl rfl (by kernel_rfl) ?_); clear hM; intro w bk hM); (try simp only [Res.put, Res.known, Act.eval, Value.cells, getD_lit, List.getD_cons_zero, List.getD_cons_succ, List.toList_toArray, List.set_cons_zero, List.set_cons_succ, over, Nat.reduceAdd] at hM); (try simp only [Act.put, List.setIfInBounds_toArray, List.set_cons_zero, List.set_cons_succ]))) | (first | (refine wp_seq_shut (fun K hK => ?_)) | (refine wp_text hM (fun Kr hKr => ?_); simp only [inText]) | refine wp_block ?_ | refine wp_skip ?_ | (first | refine wp_cond_true rfl ?_ | refine wp_cond_false rfl ?_) | (refine wp_exit ?_; simp only [Exit.then, Exit.inBlock, if_true, if_false, reduceCtorEq, Nat.reduceEqDiff, Nat.succ_ne_zero]) | ((first | refine hK.out _ _ ?_ | (clear hK K; first | refine hK.out _ _ ?_ | (clear hK K; first | refine hK.out _ _ ?_ | (clear hK K; refine hK.out _ _ ?_)))); clear hK K)) | fail))
        replace hM := hM.forget
        (refine ⟨?_, ?_⟩; (focus (repeat (first | exact ⟨⟨k + 1, s, zs, by omega, rfl, rfl, by rw [Ba.complete_no HK.out rfl]; exact HZ.out, HS.out, HN.out, hM⟩, rfl⟩ | apply Exists.intro))); (simp only [getD_lit, List.getD_cons_zero, List.getD_cons_succ, intOf]; omega))
      | true =>
        (repeat (first | ((with_reducible show wpSeq _ _ _ _ _ _ _); first | ((with_reducible refine wpSeq_nil ?_); refine hKr.out _ _ ?_; clear hKr Kr) | ((first | (refine St.copy (v := ?_) (by first | exact .inl rfl | exact .inr rfl) rfl rfl ?_ ?_; rotate_left; (focus ((try simp only [Act.eval, getD_lit, List.getD_cons_zero, List.getD_cons_succ]); with_reducible rfl))) | refine St.cat rfl rfl rfl rfl rfl (by first | omega | (simp only [ByteArray.size_append, ba_size, List.size_toArray, List.length_cons, List.length_nil, Nat.reduceAdd]; omega)) ?_ | refine St.inc rfl rfl rfl rfl rfl (by omega) ?_ | (refine St.pure (v := ?_) rfl rfl rfl (fun w => ?_) ?_; rotate_left; (focus (go_simp; all_goals with_reducible rfl))) | refine St.load rfl hM rfl rfl rfl rfl (by repeat constructor) (by rfl) (by kernel_rfl) ?_ | refine St.load1 rfl rfl rfl rfl (by repeat constructor) (by rfl) (by kernel_rfl) ?_ | ((first | refine St.loadRow rfl hM rfl rfl rfl rfl (by repeat constructor) (Nat.le_of_ble_eq_true rfl) (by kernel_rfl) ?_ | refine St.loadRow1 rfl rfl rfl rfl (by repeat constructor) (Nat.le_of_ble_eq_true rfl) (by kernel_rfl) ?_); (try simp only [Res.known, List.drop_succ_cons, List.drop_zero, List.take_succ_cons, List.take_zero])) | refine St.loadF rfl rfl rfl rfl rfl (hM.old (by assumption)) (by kernel_rfl) ?_ | refine St.loadF1 rfl rfl rfl rfl (fun w' hS => hS.old (by assumption)) (by kernel_rfl) ?_ | refine St.loadRowF rfl rfl rfl rfl rfl (hM.oldRow (by assumption)) (by kernel_rfl) ?_ | refine St.loadRowF1 rfl rfl rfl rfl (fun w' hS => hS.oldRow (by assumption)) (by kernel_rfl) ?_ | refine wpSeq_off rfl rfl ?_ | ((first | ((first | refine St.store rfl hM rfl rfl rfl rfl rfl (by repeat constructor) (Nat.le_of_ble_eq_true rfl) (by kernel_rfl) rfl ?_ ?_ | refine St.storeRow rfl hM rfl rfl rfl rfl rfl (by repeat constructor) (Nat.le_of_ble_eq_true rfl) (Nat.le_of_ble_eq_true rfl) (by kernel_rfl) rfl ?_ ?_); (focus (first | (intro h; cases h; done) | (intro _; repeat (first | exact Rest.here (Sub.all _) | exact Rest.here Sub.nil | apply Rest.take | apply Rest.skip)))); clear hM; intro w hM) | ((first | refine St.box rfl hM rfl rfl rfl ?_ | (refine St.buildSlice (cells := ?_) (e := ?_) rfl hM rfl rfl (fun w => ?_) ?_; rotate_left 2; (focus (go_simp; all_goals with_reducible rfl)))); clear hM; intro w bk hM)); (try simp only [Res.put, Res.known, Act.eval, Value.cells, getD_lit, List.getD_cons_zero, List.getD_cons_succ, List.toList_toArray, List.set_cons_zero, List.set_cons_succ, over, Nat.reduceAdd] at hM))); (try simp only [Act.put, List.setIfInBounds_toArray, List.set_cons_zero, List.set_cons_succ])) | (((first | refine St.alloc (ty := 64) (z := .agg #[.string ⟨#[]⟩, .string ⟨#[]⟩, .slice none 0 0, .string ⟨#[]⟩, .int .i64 0, .int .i64 0, .bool false]) rfl hM rfl rfl (by kernel_rfl) ?_); clear hM; intro w bk hM); (try simp only [Res.put, Res.known, Act.eval, Value.cells, getD_lit, List.getD_cons_zero, List.getD_cons_succ, List.toList_toArray, List.set_cons_zero, List.set_cons_succ, over, Nat.reduceAdd] at hM); (try simp only [Act.put, List.setIfInBounds_toArray, List.set_cons_zero, List.set_cons_succ]))) | (first | (refine wp_seq_shut (fun K hK => ?_)) | (refine wp_text hM (fun Kr hKr => ?_); simp only [inText]) | refine wp_block ?_ | refine wp_skip ?_ | (first | refine wp_cond_true rfl ?_ | refine wp_cond_false rfl ?_) | (refine wp_exit ?_; simp only [Exit.then, Exit.inBlock, if_true, if_false, reduceCtorEq, Nat.reduceEqDiff, Nat.succ_ne_zero]) | ((first | refine hK.out _ _ ?_ | (clear hK K; first | refine hK.out _ _ ?_ | (clear hK K; first | refine hK.out _ _ ?_ | (clear hK K; refine hK.out _ _ ?_)))); clear hK K)) | fail))
        have hr1 : RSized 16 RStrs w0 w0.heap.size [.slice na1 nn1 nc1] xn := R1.out
        obtain ⟨hnn, hno, hnw, hsz⟩ := strs_news (kept_strs.on hM.to_below hr1.1)
        have hre := hr1.2
        simp only [reachBytes] at hre
        replace hM := hM.weaken (r' := .pre [] 9 (0 * 1)) (by repeat constructor) (Res.toPre rfl)
        refine St.appendAny (s := some (_, 0)) (n := 0) (xs := []) rfl hM rfl rfl rfl rfl rfl (by kernel_rfl) (by intro s'; repeat (first | exact Swap.all | exact Swap.here | exact Swap.one | apply Swap.skip | apply Swap.past)) ⟨rfl, Nat.le_refl _, Nat.zero_le _⟩ hno (by rw [List.length_map, hnn, Nat.mul_one]) hnw (by simp [Value.oneCell']) (by rw [maxLen_val]; omega) (by omega) (fun _ => .inl rfl) ?_
        clear hM; intro w s1 hM hk1 hs1 hs1'
        cases s1 with
        | none => exact absurd rfl (hs1' (by simp))
        | some gc =>
        obtain ⟨g, cap⟩ := gc
        obtain ⟨-, hg1, hg2⟩ := hk1
        rw [Nat.zero_add] at hg1
        subst hnn
        clear hs1 hs1' hnw hno
        simp only [slL, slV, List.nil_append, List.cons_append, Nat.mul_one, Nat.zero_add] at hM ⊢
        (try simp only [Act.put, List.setIfInBounds_toArray, List.set_cons_zero, List.set_cons_succ])
        (repeat (first | ((with_reducible show wpSeq _ _ _ _ _ _ _); first | ((with_reducible refine wpSeq_nil ?_); refine hKr.out _ _ ?_; clear hKr Kr) | ((first | (refine St.copy (v := ?_) (by first | exact .inl rfl | exact .inr rfl) rfl rfl ?_ ?_; rotate_left; (focus ((try simp only [Act.eval, getD_lit, List.getD_cons_zero, List.getD_cons_succ]); with_reducible rfl))) | refine St.cat rfl rfl rfl rfl rfl (by first | omega | (simp only [ByteArray.size_append, ba_size, List.size_toArray, List.length_cons, List.length_nil, Nat.reduceAdd]; omega)) ?_ | refine St.inc rfl rfl rfl rfl rfl (by omega) ?_ | (refine St.pure (v := ?_) rfl rfl rfl (fun w => ?_) ?_; rotate_left; (focus (go_simp; all_goals with_reducible rfl))) | refine St.load rfl hM rfl rfl rfl rfl (by repeat constructor) (by rfl) (by kernel_rfl) ?_ | refine St.load1 rfl rfl rfl rfl (by repeat constructor) (by rfl) (by kernel_rfl) ?_ | ((first | refine St.loadRow rfl hM rfl rfl rfl rfl (by repeat constructor) (Nat.le_of_ble_eq_true rfl) (by kernel_rfl) ?_ | refine St.loadRow1 rfl rfl rfl rfl (by repeat constructor) (Nat.le_of_ble_eq_true rfl) (by kernel_rfl) ?_); (try simp only [Res.known, List.drop_succ_cons, List.drop_zero, List.take_succ_cons, List.take_zero])) | refine St.loadF rfl rfl rfl rfl rfl (hM.old (by assumption)) (by kernel_rfl) ?_ | refine St.loadF1 rfl rfl rfl rfl (fun w' hS => hS.old (by assumption)) (by kernel_rfl) ?_ | refine St.loadRowF rfl rfl rfl rfl rfl (hM.oldRow (by assumption)) (by kernel_rfl) ?_ | refine St.loadRowF1 rfl rfl rfl rfl (fun w' hS => hS.oldRow (by assumption)) (by kernel_rfl) ?_ | refine wpSeq_off rfl rfl ?_ | ((first | ((first | refine St.store rfl hM rfl rfl rfl rfl rfl (by repeat constructor) (Nat.le_of_ble_eq_true rfl) (by kernel_rfl) rfl ?_ ?_ | refine St.storeRow rfl hM rfl rfl rfl rfl rfl (by repeat constructor) (Nat.le_of_ble_eq_true rfl) (Nat.le_of_ble_eq_true rfl) (by kernel_rfl) rfl ?_ ?_); (focus (first | (intro h; cases h; done) | (intro _; repeat (first | exact Rest.here (Sub.all _) | exact Rest.here Sub.nil | apply Rest.take | apply Rest.skip)))); clear hM; intro w hM) | ((first | refine St.box rfl hM rfl rfl rfl ?_ | (refine St.buildSlice (cells := ?_) (e := ?_) rfl hM rfl rfl (fun w => ?_) ?_; rotate_left 2; (focus (go_simp; all_goals with_reducible rfl)))); clear hM; intro w bk hM)); (try simp only [Res.put, Res.known, Act.eval, Value.cells, getD_lit, List.getD_cons_zero, List.getD_cons_succ, List.toList_toArray, List.set_cons_zero, List.set_cons_succ, over, Nat.reduceAdd] at hM))); (try simp only [Act.put, List.setIfInBounds_toArray, List.set_cons_zero, List.set_cons_succ])) | (((first | refine St.alloc (ty := 64) (z := .agg #[.string ⟨#[]⟩, .string ⟨#[]⟩, .slice none 0 0, .string ⟨#[]⟩, .int .i64 0, .int .i64 0, .bool false]) rfl hM rfl rfl (by kernel_rfl) ?_); clear hM; intro w bk hM); (try simp only [Res.put, Res.known, Act.eval, Value.cells, getD_lit, List.getD_cons_zero, List.getD_cons_succ, List.toList_toArray, List.set_cons_zero, List.set_cons_succ, over, Nat.reduceAdd] at hM); (try simp only [Act.put, List.setIfInBounds_toArray, List.set_cons_zero, List.set_cons_succ]))) | (first | (refine wp_seq_shut (fun K hK => ?_)) | (refine wp_text hM (fun Kr hKr => ?_); simp only [inText]) | refine wp_block ?_ | refine wp_skip ?_ | (first | refine wp_cond_true rfl ?_ | refine wp_cond_false rfl ?_) | (refine wp_exit ?_; simp only [Exit.then, Exit.inBlock, if_true, if_false, reduceCtorEq, Nat.reduceEqDiff, Nat.succ_ne_zero]) | ((first | refine hK.out _ _ ?_ | (clear hK K; first | refine hK.out _ _ ?_ | (clear hK K; first | refine hK.out _ _ ?_ | (clear hK K; refine hK.out _ _ ?_)))); clear hK K)) | fail))
        refine St.append (s := s) (n := zs.length) (xs := zs.flatMap LayO.cells) rfl hM rfl rfl rfl rfl rfl (by kernel_rfl) (by intro s'; repeat (first | exact Swap.all | exact Swap.here | exact Swap.one | apply Swap.skip | apply Swap.past)) HS.out rfl (hM.news (by repeat constructor)) rfl (by rw [maxLen_val]; omega) (by omega) (fun _ => .inl rfl) ?_
        clear hM; intro w s' hM hk' hs'
        simp only [Res.known] at hM hk'
        let z : LayO := (Ba.shut ⟨xi, xp, xn, xd, xz, xb, true⟩, g, cap)
        have hfl : zs.flatMap LayO.cells ++ [.string xi, .string xp, .slice (some ⟨g, 0, none⟩) xn.length cap, .string xd, .int .i64 xz, .int .i64 0, .bool true] = (zs ++ [z]).flatMap LayO.cells := by simp [z, List.flatMap_append, LayO.cells, LayerD.cells, Ba.shut]
        have hle : zs.length + 1 = (zs ++ [z]).length := by simp
        replace hM := (hM.forget.sub (.cons_cons _ (.cons _ (.refl _)))).perm (L' := slL s' (zs.flatMap LayO.cells ++ [.string xi, .string xp, .slice (some ⟨g, 0, none⟩) xn.length cap, .string xd, .int .i64 xz, .int .i64 0, .bool true]) 64 7 ++ (zs ++ [z]).map LayO.ent) (by
          rw [List.map_append, ← List.append_assoc]
          exact (List.perm_append_singleton _ _).symm)
        rw [hfl] at hM hk'
        rw [hle] at hk'
        have HS' := Lib.hid hk'
        rw [hle]
        have hz' : (zs ++ [z]).map (·.1) = Ba.complete (xs.take (k + 1)) := by
          rw [Ba.complete_yes HK.out rfl, List.map_append, HZ.out]
          rfl
        have hn' : ∀ y ∈ zs ++ [z], y.1.names.length ≤ y.2.2 ∧ y.2.2 ≤ maxLen ∧ ∀ s ∈ y.1.names, s.size ≤ maxLen := fun y hy => by
          rcases List.mem_append.1 hy with hy | hy
          · exact HN.out y hy
          · rcases List.mem_singleton.1 hy with rfl
            exact ⟨hg1, hg2, hsz⟩
        generalize zs ++ [z] = zs' at *
        clear hk' hs' hfl hle
        (try simp only [Act.put, List.setIfInBounds_toArray, List.set_cons_zero, List.set_cons_succ])
        (repeat (first | ((with_reducible show wpSeq _ _ _ _ _ _ _); first | ((with_reducible refine wpSeq_nil ?_); refine hKr.out _ _ ?_; clear hKr Kr) | ((first | (refine St.copy (v := ?_) (by first | exact .inl rfl | exact .inr rfl) rfl rfl ?_ ?_; rotate_left; (focus ((try simp only [Act.eval, getD_lit, List.getD_cons_zero, List.getD_cons_succ]); with_reducible rfl))) | refine St.cat rfl rfl rfl rfl rfl (by first | omega | (simp only [ByteArray.size_append, ba_size, List.size_toArray, List.length_cons, List.length_nil, Nat.reduceAdd]; omega)) ?_ | refine St.inc rfl rfl rfl rfl rfl (by omega) ?_ | (refine St.pure (v := ?_) rfl rfl rfl (fun w => ?_) ?_; rotate_left; (focus (go_simp; all_goals with_reducible rfl))) | refine St.load rfl hM rfl rfl rfl rfl (by repeat constructor) (by rfl) (by kernel_rfl) ?_ | refine St.load1 rfl rfl rfl rfl (by repeat constructor) (by rfl) (by kernel_rfl) ?_ | ((first | refine St.loadRow rfl hM rfl rfl rfl rfl (by repeat constructor) (Nat.le_of_ble_eq_true rfl) (by kernel_rfl) ?_ | refine St.loadRow1 rfl rfl rfl rfl (by repeat constructor) (Nat.le_of_ble_eq_true rfl) (by kernel_rfl) ?_); (try simp only [Res.known, List.drop_succ_cons, List.drop_zero, List.take_succ_cons, List.take_zero])) | refine St.loadF rfl rfl rfl rfl rfl (hM.old (by assumption)) (by kernel_rfl) ?_ | refine St.loadF1 rfl rfl rfl rfl (fun w' hS => hS.old (by assumption)) (by kernel_rfl) ?_ | refine St.loadRowF rfl rfl rfl rfl rfl (hM.oldRow (by assumption)) (by kernel_rfl) ?_ | refine St.loadRowF1 rfl rfl rfl rfl (fun w' hS => hS.oldRow (by assumption)) (by kernel_rfl) ?_ | refine wpSeq_off rfl rfl ?_ | ((first | ((first | refine St.store rfl hM rfl rfl rfl rfl rfl (by repeat constructor) (Nat.le_of_ble_eq_true rfl) (by kernel_rfl) rfl ?_ ?_ | refine St.storeRow rfl hM rfl rfl rfl rfl rfl (by repeat constructor) (Nat.le_of_ble_eq_true rfl) (Nat.le_of_ble_eq_true rfl) (by kernel_rfl) rfl ?_ ?_); (focus (first | (intro h; cases h; done) | (intro _; repeat (first | exact Rest.here (Sub.all _) | exact Rest.here Sub.nil | apply Rest.take | apply Rest.skip)))); clear hM; intro w hM) | ((first | refine St.box rfl hM rfl rfl rfl ?_ | (refine St.buildSlice (cells := ?_) (e := ?_) rfl hM rfl rfl (fun w => ?_) ?_; rotate_left 2; (focus (go_simp; all_goals with_reducible rfl)))); clear hM; intro w bk hM)); (try simp only [Res.put, Res.known, Act.eval, Value.cells, getD_lit, List.getD_cons_zero, List.getD_cons_succ, List.toList_toArray, List.set_cons_zero, List.set_cons_succ, over, Nat.reduceAdd] at hM))); (try simp only [Act.put, List.setIfInBounds_toArray, List.set_cons_zero, List.set_cons_succ])) | (((first | refine St.alloc (ty := 64) (z := .agg #[.string ⟨#[]⟩, .string ⟨#[]⟩, .slice none 0 0, .string ⟨#[]⟩, .int .i64 0, .int .i64 0, .bool false]) rfl hM rfl rfl (by kernel_rfl) ?_); clear hM; intro w bk hM); (try simp only [Res.put, Res.known, Act.eval, Value.cells, getD_lit, List.getD_cons_zero, List.getD_cons_succ, List.toList_toArray, List.set_cons_zero, List.set_cons_succ, over, Nat.reduceAdd] at hM); (try simp only [Act.put, List.setIfInBounds_toArray, List.set_cons_zero, List.set_cons_succ]))) | (first | (refine wp_seq_shut (fun K hK => ?_)) | (refine wp_text hM (fun Kr hKr => ?_); simp only [inText]) | refine wp_block ?_ | refine wp_skip ?_ | (first | refine wp_cond_true rfl ?_ | refine wp_cond_false rfl ?_) | (refine wp_exit ?_; simp only [Exit.then, Exit.inBlock, if_true, if_false, reduceCtorEq, Nat.reduceEqDiff, Nat.succ_ne_zero]) | ((first | refine hK.out _ _ ?_ | (clear hK K; first | refine hK.out _ _ ?_ | (clear hK K; first | refine hK.out _ _ ?_ | (clear hK K; refine hK.out _ _ ?_)))); clear hK K)) | fail))
        (refine ⟨?_, ?_⟩; (focus (repeat (first | exact ⟨⟨k + 1, s', zs', by omega, rfl, rfl, hz', HS'.out, hn', hM⟩, rfl⟩ | apply Exists.intro))); (simp only [getD_lit, List.getD_cons_zero, List.getD_cons_succ, intOf]; omega))
    · have k0 : ¬ ((k : Int) < (xs.length : Int)) := by omega
      obtain rfl : k = xs.length := by omega
      rw [List.take_length] at hzs
      have HZ := Lib.hid hzs
      have HS := Lib.hid hsl
      have HN := Lib.hid hnm
      clear hlt hk hzs hsl hnm
      (repeat (first | ((with_reducible show wpSeq _ _ _ _ _ _ _); first | ((with_reducible refine wpSeq_nil ?_); refine hKr.out _ _ ?_; clear hKr Kr) | ((first | (refine St.copy (v := ?_) (by first | exact .inl rfl | exact .inr rfl) rfl rfl ?_ ?_; rotate_left; (focus ((try simp only [Act.eval, getD_lit, List.getD_cons_zero, List.getD_cons_succ]); with_reducible rfl))) | refine St.cat rfl rfl rfl rfl rfl (by first | omega | (simp only [ByteArray.size_append, ba_size, List.size_toArray, List.length_cons, List.length_nil, Nat.reduceAdd]; omega)) ?_ | refine St.inc rfl rfl rfl rfl rfl (by omega) ?_ | (refine St.pure (v := ?_) rfl rfl rfl (fun w => ?_) ?_; rotate_left; (focus (go_simp; all_goals with_reducible rfl))) | refine St.load rfl hM rfl rfl rfl rfl (by repeat constructor) (by rfl) (by kernel_rfl) ?_ | refine St.load1 rfl rfl rfl rfl (by repeat constructor) (by rfl) (by kernel_rfl) ?_ | ((first | refine St.loadRow rfl hM rfl rfl rfl rfl (by repeat constructor) (Nat.le_of_ble_eq_true rfl) (by kernel_rfl) ?_ | refine St.loadRow1 rfl rfl rfl rfl (by repeat constructor) (Nat.le_of_ble_eq_true rfl) (by kernel_rfl) ?_); (try simp only [Res.known, List.drop_succ_cons, List.drop_zero, List.take_succ_cons, List.take_zero])) | refine St.loadF rfl rfl rfl rfl rfl (hM.old (by assumption)) (by kernel_rfl) ?_ | refine St.loadF1 rfl rfl rfl rfl (fun w' hS => hS.old (by assumption)) (by kernel_rfl) ?_ | refine St.loadRowF rfl rfl rfl rfl rfl (hM.oldRow (by assumption)) (by kernel_rfl) ?_ | refine St.loadRowF1 rfl rfl rfl rfl (fun w' hS => hS.oldRow (by assumption)) (by kernel_rfl) ?_ | refine wpSeq_off rfl rfl ?_ | ((first | ((first | refine St.store rfl hM rfl rfl rfl rfl rfl (by repeat constructor) (Nat.le_of_ble_eq_true rfl) (by kernel_rfl) rfl ?_ ?_ | refine St.storeRow rfl hM rfl rfl rfl rfl rfl (by repeat constructor) (Nat.le_of_ble_eq_true rfl) (Nat.le_of_ble_eq_true rfl) (by kernel_rfl) rfl ?_ ?_); (focus (first | (intro h; cases h; done) | (intro _; repeat (first | exact Rest.here (Sub.all _) | exact Rest.here Sub.nil | apply Rest.take | apply Rest.skip)))); clear hM; intro w hM) | ((first | refine St.box rfl hM rfl rfl rfl ?_ | (refine St.buildSlice (cells := ?_) (e := ?_) rfl hM rfl rfl (fun w => ?_) ?_; rotate_left 2; (focus (go_simp; all_goals with_reducible rfl)))); clear hM; intro w bk hM)); (try simp only [Res.put, Res.known, Act.eval, Value.cells, getD_lit, List.getD_cons_zero, List.getD_cons_succ, List.toList_toArray, List.set_cons_zero, List.set_cons_succ, over, Nat.reduceAdd] at hM))); (try simp only [Act.put, List.setIfInBounds_toArray, List.set_cons_zero, List.set_cons_succ])) | (((first | refine St.alloc (ty := 64) (z := .agg #[.string ⟨#[]⟩, .string ⟨#[]⟩, .slice none 0 0, .string ⟨#[]⟩, .int .i64 0, .int .i64 0, .bool false]) rfl hM rfl rfl (by kernel_rfl) ?_); clear hM; intro w bk hM); (try simp only [Res.put, Res.known, Act.eval, Value.cells, getD_lit, List.getD_cons_zero, List.getD_cons_succ, List.toList_toArray, List.set_cons_zero, List.set_cons_succ, over, Nat.reduceAdd] at hM); (try simp only [Act.put, List.setIfInBounds_toArray, List.set_cons_zero, List.set_cons_succ]))) | (first | (refine wp_seq_shut (fun K hK => ?_)) | (refine wp_text hM (fun Kr hKr => ?_); simp only [inText]) | refine wp_block ?_ | refine wp_skip ?_ | (first | refine wp_cond_true rfl ?_ | refine wp_cond_false rfl ?_) | (refine wp_exit ?_; simp only [Exit.then, Exit.inBlock, if_true, if_false, reduceCtorEq, Nat.reduceEqDiff, Nat.succ_ne_zero]) | ((first | refine hK.out _ _ ?_ | (clear hK K; first | refine hK.out _ _ ?_ | (clear hK K; first | refine hK.out _ _ ?_ | (clear hK K; refine hK.out _ _ ?_)))); clear hK K)) | fail))
      (refine wp_ret ?_; (try simp only [Exit.then, Exit.inBlock]); refine St.ret hM rfl (by repeat (first | exact Outs.nil | apply Outs.tmp rfl | (apply Outs.row rfl rfl (by repeat constructor) (by kernel_rfl)) | (apply Outs.one rfl rfl (by repeat constructor) (by rfl) (by kernel_rfl)))) rfl ?_)
      obtain ⟨a', n', c', hv⟩ := slV_form s zs.length
      refine ⟨a', n', c', by rw [← hv]; rfl, hM.to_below, ?_⟩
      rw [← hv, ← HZ.out]
      exact own_read hM (fun z hz => List.mem_append_left _ hz) HS.out LayO.len (by decide) fun z hz => ⟨_, _, _, rfl, texts_read hM (List.mem_append_right _ (List.mem_map_of_mem (f := LayO.ent) hz)) (HN.out z hz).1 (HN.out z hz).2.1 (HN.out z hz).2.2⟩
end Go.Proofs.YtjldgieffkemlaaGreatDoor
