/-
  Layer 7: a path in one form, walked.
-/
import Derived.Test.YtcicjklhbnipcaaGreatDoorPth
namespace Go.Proofs.YtcicjklhbnipcaaGreatDoor
set_option linter.unusedVariables false
set_option linter.unusedSimpArgs false
open Go.RowKit

namespace Pt
/-- The names that are kept; none: one may not be. -/
def scan : List ByteArray → Option (List ByteArray)
  | [] => some []
  | n :: r => if n.data.toList = [] ∨ n.data.toList = [46] then scan r else if isName n = true then (scan r).map (n :: ·) else none
def joined (l : List ByteArray) : ByteArray := ⟨(Lib.join (l.map (·.data.toList)) [47]).toArray⟩
def cleanOf (p : ByteArray) (l : List ByteArray) : ByteArray × Int :=
  if Lib.hasPrefix p.data.toList [47] || decide (8 < l.length) || decide (96 < (joined l).size) then (⟨#[]⟩, 2) else (joined l, 0)
def clean (p : ByteArray) : ByteArray × Int :=
  match scan (parts p) with
  | none => (⟨#[]⟩, 2)
  | some l => cleanOf p l
theorem join_len : ∀ (l : List ByteArray), (∀ s ∈ l, s.size ≤ 32) → (Lib.join (l.map (·.data.toList)) [47]).length ≤ l.length * 33
  | [], _ => by simp [Lib.join_nil]
  | x :: r, h => by
    rw [List.map_cons, Lib.join_cons]
    have hx := h x (by simp)
    have ht : ∀ (r : List ByteArray), (∀ s ∈ r, s.size ≤ 32) → (Lib.joinTail [47] (r.map (·.data.toList))).length ≤ r.length * 33 := fun r => by
      induction r with
      | nil => intro _; simp [Lib.joinTail]
      | cons y r ih =>
        intro h
        have hy := h y (by simp)
        have := ih fun s hs => h s (by simp [hs])
        unfold Lib.joinTail at this ⊢
        simp only [List.map_cons, List.flatten_cons, List.length_append, List.length_cons, List.length_nil]
        rw [Lib.size_eq] at hy
        omega
    have := ht r fun s hs => h s (by simp [hs])
    rw [List.length_append, List.length_cons]
    rw [Lib.size_eq] at hx
    omega
theorem name_small {s : ByteArray} (h : isName s = true) : s.size ≤ 32 := by
  unfold isName at h
  simp only [Bool.and_eq_true, decide_eq_true_eq] at h
  exact h.1.2
theorem splitB_small (sep : ByteArray) : ∀ (n : Nat) (s : ByteArray), ∀ x ∈ Lib.splitB sep 0 n s, x.size ≤ s.size
  | 0, s, x, hx => by
    rcases List.mem_singleton.1 hx with rfl
    exact Nat.le_refl _
  | n + 1, s, x, hx => by
    unfold Lib.splitB at hx
    split at hx
    · rcases List.mem_singleton.1 hx with rfl
      exact Nat.le_refl _
    · rcases List.mem_cons.1 hx with rfl | hx
      · rw [ByteArray.size_extract]; omega
      · have := splitB_small sep n _ x hx
        rw [ByteArray.size_extract] at this
        omega
theorem parts_len (p : ByteArray) (hp : p.size ≤ 1000000) : (parts p).length ≤ 1000001 := by
  unfold parts
  split
  · simp
  · rw [Lib.splitB_all slash (by decide) 0 _ p rfl]
    have := Lib.countB_le slash (by decide) _ p (Nat.le_refl _)
    omega
theorem parts_small (p : ByteArray) : ∀ x ∈ parts p, x.size ≤ p.size := fun x hx => by
  unfold parts at hx
  split at hx
  · cases hx
  · exact splitB_small _ _ _ x hx
/-- From here on these names are kept ahead. -/
def From (ps : List ByteArray) (k : Nat) (ks : List ByteArray) : Prop := scan ps = (scan (ps.drop k)).map (ks ++ ·)
theorem From.start (ps : List ByteArray) : From ps 0 [] := by unfold From; simp
theorem drop_at {ps : List ByteArray} {k : Nat} {x : ByteArray} (h : ps[k]? = some x) : ps.drop k = x :: ps.drop (k + 1) := by
  obtain ⟨hk, rfl⟩ := List.getElem?_eq_some_iff.1 h
  exact List.drop_eq_getElem_cons hk
theorem From.skip {ps ks : List ByteArray} {k : Nat} {x : ByteArray} (h : From ps k ks) (hx : ps[k]? = some x) (hs : x.data.toList = [] ∨ x.data.toList = [46]) : From ps (k + 1) ks := by
  unfold From at h ⊢
  rw [h, drop_at hx]
  conv => lhs; unfold scan
  rw [if_pos hs]
theorem From.keep {ps ks : List ByteArray} {k : Nat} {x : ByteArray} (h : From ps k ks) (hx : ps[k]? = some x) (hs : ¬ (x.data.toList = [] ∨ x.data.toList = [46])) (hn : isName x = true) : From ps (k + 1) (ks ++ [x]) := by
  unfold From at h ⊢
  rw [h, drop_at hx]
  conv => lhs; unfold scan
  rw [if_neg hs, if_pos hn, Option.map_map]
  congr 1
  funext l
  simp
theorem From.stop {ps ks : List ByteArray} {k : Nat} {x : ByteArray} (h : From ps k ks) (hx : ps[k]? = some x) (hs : ¬ (x.data.toList = [] ∨ x.data.toList = [46])) (hn : isName x = false) : scan ps = none := by
  unfold From at h
  rw [h, drop_at hx]
  conv => lhs; unfold scan
  rw [if_neg hs, if_neg (by simp [hn])]
  rfl
theorem From.done {ps ks : List ByteArray} (h : From ps ps.length ks) : scan ps = some ks := by
  unfold From at h
  rw [h, List.drop_length]
  simp [scan]
end Pt
theorem slV_open {s : Option (Nat × Nat)} {n size : Nat} {xs : List Value} (hk : SlOK s n xs size) : ∃ a c, slV s n = .slice a n c ∧ ∀ g cap, s = some (g, cap) → a = some ⟨g, 0, none⟩ ∧ c = cap := by
  cases s with
  | none =>
    obtain rfl : n = 0 := hk.2
    exact ⟨none, 0, rfl, nofun⟩
  | some gc => exact ⟨_, _, rfl, fun g cap h => by cases h; exact ⟨rfl, rfl⟩⟩
theorem strs_one {xs : List ByteArray} {x : ByteArray} : xs.map Value.string ++ [.string x] = (xs ++ [x]).map Value.string := by simp
/-- Texts of the call's own are joined. -/
theorem joinTx_any {w0 w : World} {F : List Nat} {L : List Ent} {s : Option (Nat × Nat)} {ks : List ByteArray} (hM : St w0 F w L) (hm : ∀ z ∈ txL s ks, z ∈ L) (hok : TxOK s ks) (hsm : ∀ x ∈ ks, x.size ≤ 32) (hl : ks.length ≤ 1000001) :
    Calls Tryz.prog 192 #[slV s ks.length, .string Pt.slash] w fun e w' => e = .returned (.string (Pt.joined ks)) ∧ Below w.heap.size w w' := by
  have hj := Pt.join_len ks hsm
  cases s with
  | none =>
    obtain rfl : ks = [] := List.length_eq_zero_iff.1 hok.2
    refine (Tryz.strings_Join_none none 0 Pt.slash w).mono ?_
    rintro e w' ⟨rfl, rfl⟩
    exact ⟨rfl, Below.refl _ _⟩
  | some gc =>
    obtain ⟨g, cap⟩ := gc
    obtain ⟨-, h1, h2⟩ := hok
    have hg : (g, true, Res.pre (ks.map Value.string) 9 (cap * 1)) ∈ L := hm _ (List.mem_singleton.2 rfl)
    refine (Tryz.strings_Join g 0 cap ks Pt.slash w (fun j x hx => ?_) (hM.lt hg) (by omega) h1 (by show (Lib.join (ks.map (·.data.toList)) [47]).length ≤ _; omega)).mono fun e w' h => h
    rw [Nat.zero_add]
    refine Res.cell (hM.holds _ hg) ?_
    show (ks.map Value.string)[j]? = _
    rw [List.getElem?_map, hx]
    rfl
theorem Pt.cleanOf_bad {p : ByteArray} {l : List ByteArray} (h : Lib.hasPrefix p.data.toList [47] = true ∨ 8 < l.length ∨ 96 < (Pt.joined l).size) : Pt.cleanOf p l = (⟨#[]⟩, 2) := by
  unfold Pt.cleanOf
  rw [if_pos]
  rcases h with h | h | h
  · simp [h]
  · simp [h]
  · simp [h]
theorem Pt.cleanOf_ok {p : ByteArray} {l : List ByteArray} (h1 : Lib.hasPrefix p.data.toList [47] = false) (h2 : l.length ≤ 8) (h3 : (Pt.joined l).size ≤ 96) : Pt.cleanOf p l = (Pt.joined l, 0) := by
  unfold Pt.cleanOf
  rw [if_neg]
  simp [h1, h2, h3]
set_option maxHeartbeats 8000000 in
set_option maxRecDepth 100000 in
theorem Clean_any (p : ByteArray) (w0 : World) (hp : p.size ≤ 1000000) (hm : Mx w0) : Calls Tryz.prog 157 #[.string p] w0 fun e w' => e = .returned (.tuple #[.string (Pt.clean p).1, .int .i64 (Pt.clean p).2]) ∧ Below w0.heap.size w0 w' := by
  have hM := St.start w0 []
  have CP := Lib.hid (Parts_any p w0 hp hm)
  have hlen : (Pt.parts p).length ≤ 1000001 := by
    unfold Pt.parts
    split
    · simp
    · rw [Lib.splitB_all Pt.slash (by decide) 0 _ p rfl]
      have := Lib.countB_le Pt.slash (by decide) _ p (Nat.le_refl _)
      omega
  obtain ⟨R0, hR0⟩ : ∃ R0, Pt.clean p = R0 := ⟨_, rfl⟩
  have HR0 := Lib.hid hR0
  rw [hR0]
  have hps : ∀ x ∈ Pt.parts p, x.size ≤ maxLen := fun x hx => Nat.le_trans (Pt.parts_small p x hx) (by unfold maxLen; omega)
  unfold Pt.clean at HR0
  generalize Pt.parts p = ps at *
  have HS := Lib.hid hps
  clear hR0 hps
  go_enter Tryz.func157, Tryz.ntmps157
  (repeat (first | ((with_reducible show wpSeq _ _ _ _ _ _ _); first | ((with_reducible refine wpSeq_nil ?_); refine hKr.out _ _ ?_; clear hKr Kr) | (((refine St.copy (v := ?_) (by first | exact .inl rfl | exact .inr rfl) rfl rfl ?_ ?_; rotate_left; (focus ((try simp only [Act.eval, getD_lit, List.getD_cons_zero, List.getD_cons_succ]); with_reducible rfl)))); (try simp only [Act.put, List.setIfInBounds_toArray, List.set_cons_zero, List.set_cons_succ]))) | (first | (refine wp_seq_shut (fun K hK => ?_)) | (refine wp_text hM (fun Kr hKr => ?_); simp only [inText]) | ((refine hK.out _ _ ?_); clear hK K))))
  (refine St.call rfl rfl rfl (by kernel_rfl) (fun R hR => ?_); simp only [List.map_toArray, List.map_cons, List.map_nil, Act.eval, getD_lit, List.getD_cons_zero, List.getD_cons_succ])
  refine CP.out.mono ?_
  rintro e w' ⟨s, rfl, hk, hN⟩
  refine hR.out _ _ (fun h => h.below hN.to_below) ?_; clear hR R; replace hM := hM.madeM hN (txL_flag _ _); clear hN
  rw [List.append_nil] at hM
  obtain ⟨sa, sc, hsv, hsa⟩ := slV_open hk
  rw [hsv]
  have HK := Lib.hid hk
  clear hk CP hsv
  (try simp only [Act.put, List.setIfInBounds_toArray, List.set_cons_zero, List.set_cons_succ])
  (repeat (first | ((with_reducible show wpSeq _ _ _ _ _ _ _); first | ((with_reducible refine wpSeq_nil ?_); refine hKr.out _ _ ?_; clear hKr Kr) | ((first | (refine St.copy (v := ?_) (by exact .inl rfl) rfl rfl ?_ ?_; rotate_left; (focus ((try simp only [Act.eval, getD_lit, List.getD_cons_zero, List.getD_cons_succ]); with_reducible rfl))) | (refine St.pure (v := ?_) rfl rfl rfl (fun w => ?_) ?_; rotate_left; (focus (go_simp; all_goals with_reducible rfl)))); (try simp only [Act.put, List.setIfInBounds_toArray, List.set_cons_zero, List.set_cons_succ]))) | (first | refine wp_block ?_ | ((refine hK.out _ _ ?_); clear hK K))))
  go_loopw [4, 11] (fun v i wr => ∃ (k : Nat) (s' : Option (Nat × Nat)) (ks : List ByteArray), k ≤ ps.length ∧ i = .int .i64 k ∧ v = slV s' ks.length ∧ TxOK s' ks ∧ Pt.From ps k ks ∧ (∀ x ∈ ks, Pt.isName x = true) ∧ ks.length ≤ k ∧ St w0 [] wr (txL s ps ++ txL s' ks)) (fun _ i _ => ps.length - (intOf i).toNat)
  case atStart => exact ⟨0, none, [], by omega, rfl, rfl, ⟨rfl, rfl⟩, Pt.From.start ps, nofun, by simp, by simpa [slL] using hM⟩
  case round =>
    clear hM
    obtain ⟨k, s', ks, hk, rfl, rfl, hok, hfr, hnm, hkl, hM⟩ := hrel
    have HOK := Lib.hid hok
    have HFR := Lib.hid hfr
    have HNM := Lib.hid hnm
    clear hok hfr hnm
    by_cases hlt : k < ps.length
    · obtain ⟨x, hx⟩ := get_at hlt
      cases s with
      | none => exact absurd HK.out.2 (by omega)
      | some gc =>
      obtain ⟨g, cap⟩ := gc
      obtain ⟨rfl, rfl⟩ := hsa g cap rfl
      have hx' : (ps.map Value.string)[k]? = some (.string x) := by rw [List.getElem?_map, hx]; rfl
      have k1 : (k : Int) < (ps.length : Int) := by omega
      have hxs := HS.out x (List.mem_of_getElem? hx)
      have HX := Lib.hid hx
      clear hx hlt
      simp only [slL, List.singleton_append, List.cons_append, List.nil_append] at hM
      by_cases hd : x.data.toList = [] ∨ x.data.toList = [46]
      · have HD := Lib.hid hd
        rcases hd with hd | hd
        · have q1 := beqs_yes hd
          clear hd
          (repeat (first | ((with_reducible show wpSeq _ _ _ _ _ _ _); first | ((with_reducible refine wpSeq_nil ?_); refine hKr.out _ _ ?_; clear hKr Kr) | ((first | (refine St.copy (v := ?_) (by first | exact .inl rfl | exact .inr rfl) rfl rfl ?_ ?_; rotate_left; (focus ((try simp only [Act.eval, getD_lit, List.getD_cons_zero, List.getD_cons_succ]); with_reducible rfl))) | refine St.inc rfl rfl rfl rfl rfl (by omega) ?_ | (refine St.pure (v := ?_) rfl rfl rfl (fun w => ?_) ?_; rotate_left; (focus (go_simp; all_goals with_reducible rfl))) | refine St.load rfl hM rfl rfl rfl rfl (by repeat constructor) (by assumption) (by kernel_rfl) ?_ | refine wpSeq_off rfl rfl ?_); (try simp only [Act.put, List.setIfInBounds_toArray, List.set_cons_zero, List.set_cons_succ]))) | (first | (refine wp_seq_shut (fun K hK => ?_)) | (refine wp_text hM (fun Kr hKr => ?_); simp only [inText]) | refine wp_block ?_ | refine wp_skip ?_ | (refine wp_cond_true rfl ?_) | ((refine hK.out _ _ ?_); clear hK K))))
          (refine ⟨?_, ?_⟩; (focus (repeat (first | exact ⟨⟨k + 1, s', ks, by omega, rfl, rfl, HOK.out, HFR.out.skip HX.out HD.out, HNM.out, by omega, hM⟩, rfl⟩ | apply Exists.intro))); (simp only [getD_lit, List.getD_cons_zero, List.getD_cons_succ, intOf]; omega))
        · have q1 := beqs_no (l := []) (by rw [hd]; simp)
          have q2 := beqs_yes hd
          clear hd
          (repeat (first | ((with_reducible show wpSeq _ _ _ _ _ _ _); first | ((with_reducible refine wpSeq_nil ?_); refine hKr.out _ _ ?_; clear hKr Kr) | ((first | (refine St.copy (v := ?_) (by first | exact .inl rfl | exact .inr rfl) rfl rfl ?_ ?_; rotate_left; (focus ((try simp only [Act.eval, getD_lit, List.getD_cons_zero, List.getD_cons_succ]); with_reducible rfl))) | refine St.inc rfl rfl rfl rfl rfl (by omega) ?_ | (refine St.pure (v := ?_) rfl rfl rfl (fun w => ?_) ?_; rotate_left; (focus (go_simp; all_goals with_reducible rfl))) | refine St.load rfl hM rfl rfl rfl rfl (by repeat constructor) (by assumption) (by kernel_rfl) ?_); (try simp only [Act.put, List.setIfInBounds_toArray, List.set_cons_zero, List.set_cons_succ]))) | (first | (refine wp_seq_shut (fun K hK => ?_)) | (refine wp_text hM (fun Kr hKr => ?_); simp only [inText]) | refine wp_block ?_ | refine wp_skip ?_ | (refine wp_cond_true rfl ?_) | ((refine hK.out _ _ ?_); clear hK K))))
          (refine ⟨?_, ?_⟩; (focus (repeat (first | exact ⟨⟨k + 1, s', ks, by omega, rfl, rfl, HOK.out, HFR.out.skip HX.out HD.out, HNM.out, by omega, hM⟩, rfl⟩ | apply Exists.intro))); (simp only [getD_lit, List.getD_cons_zero, List.getD_cons_succ, intOf]; omega))
      · have HD := Lib.hid hd
        have q1 := beqs_no (l := []) (fun h => hd (.inl h))
        have q2 := beqs_no (l := [46]) (fun h => hd (.inr h))
        clear hd
        have CI := Lib.hid (fun W : World => isName7_any x W hxs)
        clear hxs
        cases hb : Pt.isName x with
        | false =>
          rw [hb] at CI
          have HB := Lib.hid hb
          clear hb
          (repeat (first | (first | ((with_reducible show wpSeq _ _ _ _ _ _ _); first | ((with_reducible refine wpSeq_nil ?_); refine hKr.out _ _ ?_; clear hKr Kr) | ((first | (refine St.copy (v := ?_) (by first | exact .inl rfl | exact .inr rfl) rfl rfl ?_ ?_; rotate_left; (focus ((try simp only [Act.eval, getD_lit, List.getD_cons_zero, List.getD_cons_succ]); with_reducible rfl))) | (refine St.pure (v := ?_) rfl rfl rfl (fun w => ?_) ?_; rotate_left; (focus (go_simp; all_goals with_reducible rfl))) | refine St.load rfl hM rfl rfl rfl rfl (by repeat constructor) (by assumption) (by kernel_rfl) ?_); (try simp only [Act.put, List.setIfInBounds_toArray, List.set_cons_zero, List.set_cons_succ]))) | (first | (refine wp_seq_shut (fun K hK => ?_)) | (refine wp_text hM (fun Kr hKr => ?_); simp only [inText]) | refine wp_block ?_ | refine wp_skip ?_ | (first | refine wp_cond_true rfl ?_ | refine wp_cond_false rfl ?_) | ((refine hK.out _ _ ?_); clear hK K))) | ((refine St.call rfl rfl rfl (by kernel_rfl) (fun R hR => ?_); simp only [List.map_toArray, List.map_cons, List.map_nil, Act.eval, getD_lit, List.getD_cons_zero, List.getD_cons_succ]); ((with_reducible refine (CI.out _).mono ?_); (rintro e w' ⟨rfl, hb⟩; refine hR.out _ _ (fun h => h.below hb) ?_; clear hR R; replace hM := hM.below hb; clear hb; (try simp only [Act.put, List.setIfInBounds_toArray, List.set_cons_zero, List.set_cons_succ]))))))
          (refine wp_ret ?_; (try simp only [Exit.then, Exit.inBlock]); refine St.ret hM rfl (by repeat (first | exact Outs.nil | apply Outs.tmp rfl)) rfl ?_)
          have e := HR0.out
          rw [HFR.out.stop HX.out HD.out HB.out] at e
          rw [← e]
          exact ⟨rfl, hM.to_below⟩
        | true =>
          rw [hb] at CI
          have HB := Lib.hid hb
          clear hb
          (repeat (first | (first | ((with_reducible show wpSeq _ _ _ _ _ _ _); first | ((with_reducible refine wpSeq_nil ?_); refine hKr.out _ _ ?_; clear hKr Kr) | ((first | (refine St.copy (v := ?_) (by first | exact .inl rfl | exact .inr rfl) rfl rfl ?_ ?_; rotate_left; (focus ((try simp only [Act.eval, getD_lit, List.getD_cons_zero, List.getD_cons_succ]); with_reducible rfl))) | (refine St.pure (v := ?_) rfl rfl rfl (fun w => ?_) ?_; rotate_left; (focus (go_simp; all_goals with_reducible rfl))) | refine St.load rfl hM rfl rfl rfl rfl (by repeat constructor) (by assumption) (by kernel_rfl) ?_ | (((((refine St.buildSlice (cells := ?_) (e := ?_) rfl hM rfl rfl (fun w => ?_) ?_; rotate_left 2; (focus (go_simp; all_goals with_reducible rfl)))); clear hM; intro w bk hM)); (try simp only [Res.put, Res.known, Act.eval, Value.cells, getD_lit, List.getD_cons_zero, List.getD_cons_succ, List.toList_toArray, List.set_cons_zero, List.set_cons_succ, over, Nat.reduceAdd] at hM))); (try simp only [Act.put, List.setIfInBounds_toArray, List.set_cons_zero, List.set_cons_succ]))) | (first | (refine wp_seq_shut (fun K hK => ?_)) | (refine wp_text hM (fun Kr hKr => ?_); simp only [inText]) | refine wp_block ?_ | refine wp_skip ?_ | (first | refine wp_cond_true rfl ?_ | refine wp_cond_false rfl ?_) | ((refine hK.out _ _ ?_); clear hK K))) | ((refine St.call rfl rfl rfl (by kernel_rfl) (fun R hR => ?_); simp only [List.map_toArray, List.map_cons, List.map_nil, Act.eval, getD_lit, List.getD_cons_zero, List.getD_cons_succ]); ((with_reducible refine (CI.out _).mono ?_); (rintro e w' ⟨rfl, hb⟩; refine hR.out _ _ (fun h => h.below hb) ?_; clear hR R; replace hM := hM.below hb; clear hb; (try simp only [Act.put, List.setIfInBounds_toArray, List.set_cons_zero, List.set_cons_succ]))))))
          refine St.append (s := s') (n := ks.length) (xs := ks.map Value.string) rfl hM rfl rfl rfl rfl rfl (by kernel_rfl) (by intro s'; repeat (first | exact Swap.all | apply Swap.skip)) HOK.out rfl (hM.news (by repeat constructor)) rfl (by rw [maxLen_val]; omega) (by omega) (fun _ => .inl rfl) ?_
          clear hM; intro w s2 hM hk2 hs2
          simp only [Res.known] at hM hk2
          rw [strs_one] at hM hk2
          have hle : ks.length + 1 = (ks ++ [x]).length := by simp
          rw [hle] at hk2 ⊢
          have HOK2 := Lib.hid hk2
          have HFR2 := Lib.hid (HFR.out.keep HX.out HD.out HB.out)
          have HNM2 : Hid (∀ y ∈ ks ++ [x], Pt.isName y = true) := Lib.hid fun y hy => by
            rcases List.mem_append.1 hy with hy | hy
            · exact HNM.out y hy
            · rcases List.mem_singleton.1 hy with rfl
              exact HB.out
          have hkl2 : (ks ++ [x]).length ≤ k + 1 := by simp; omega
          replace hM := hM.forget
          generalize ks ++ [x] = ks2 at *
          clear hk2 hs2 hle
          (try simp only [Act.put, List.setIfInBounds_toArray, List.set_cons_zero, List.set_cons_succ])
          (repeat (first | ((with_reducible show wpSeq _ _ _ _ _ _ _); first | ((with_reducible refine wpSeq_nil ?_); refine hKr.out _ _ ?_; clear hKr Kr) | ((first | (refine St.copy (v := ?_) (by first | exact .inl rfl | exact .inr rfl) rfl rfl ?_ ?_; rotate_left; (focus ((try simp only [Act.eval, getD_lit, List.getD_cons_zero, List.getD_cons_succ]); with_reducible rfl))) | refine St.inc rfl rfl rfl rfl rfl (by omega) ?_); (try simp only [Act.put, List.setIfInBounds_toArray, List.set_cons_zero, List.set_cons_succ]))) | (first | (refine wp_text hM (fun Kr hKr => ?_); simp only [inText]) | ((refine hK.out _ _ ?_); clear hK K))))
          (refine ⟨?_, ?_⟩; (focus (repeat (first | exact ⟨⟨k + 1, s2, ks2, by omega, rfl, rfl, HOK2.out, HFR2.out, HNM2.out, hkl2, hM⟩, rfl⟩ | apply Exists.intro))); (simp only [getD_lit, List.getD_cons_zero, List.getD_cons_succ, intOf]; omega))
    · have k0 : ¬ ((k : Int) < (ps.length : Int)) := by omega
      obtain rfl : k = ps.length := by omega
      have hsc := HFR.out.done
      have e := HR0.out
      rw [hsc] at e
      have HE : Hid (Pt.cleanOf p ks = R0) := Lib.hid e
      have hsm : ∀ x ∈ ks, x.size ≤ 32 := fun x hx => Pt.name_small (HNM.out x hx)
      have CJ := Lib.hid (fun (W : World) (h : St w0 [] W (txL s ps ++ txL s' ks)) => joinTx_any h (fun z hz => List.mem_append_right _ hz) HOK.out hsm (by omega))
      have CH := Lib.hid (Tryz.strings_HasPrefix p Pt.slash)
      rw [show Pt.slash.data.toList = [47] from rfl] at CH
      have B1 := Lib.hid (fun h => (HE.out).symm.trans (Pt.cleanOf_bad (p := p) (l := ks) h))
      have B2 := Lib.hid (fun h1 h2 h3 => (HE.out).symm.trans (Pt.cleanOf_ok (p := p) (l := ks) h1 h2 h3))
      obtain ⟨va, vc, hsv', -⟩ := slV_open HOK.out
      rw [hsv'] at CJ ⊢
      generalize Lib.hasPrefix p.data.toList [47] = b at *
      generalize Pt.joined ks = J at *
      clear hlt hk hsc e hsm hsa HK HS HFR HNM HOK hsv' hlen
      (repeat (first | ((with_reducible show wpSeq _ _ _ _ _ _ _); first | ((with_reducible refine wpSeq_nil ?_); refine hKr.out _ _ ?_; clear hKr Kr) | ((first | (refine St.copy (v := ?_) (by exact .inl rfl) rfl rfl ?_ ?_; rotate_left; (focus ((try simp only [Act.eval, getD_lit, List.getD_cons_zero, List.getD_cons_succ]); with_reducible rfl))) | (refine St.pure (v := ?_) rfl rfl rfl (fun w => ?_) ?_; rotate_left; (focus (go_simp; all_goals with_reducible rfl)))); (try simp only [Act.put, List.setIfInBounds_toArray, List.set_cons_zero, List.set_cons_succ]))) | (first | (refine wp_seq_shut (fun K hK => ?_)) | (refine wp_text hM (fun Kr hKr => ?_); simp only [inText]) | (refine wp_cond_false rfl ?_) | (refine wp_exit ?_; simp only [Exit.then, Exit.inBlock, if_true, if_false, reduceCtorEq, Nat.reduceEqDiff, Nat.succ_ne_zero]) | ((first | refine hK.out _ _ ?_ | (clear hK K; refine hK.out _ _ ?_)); clear hK K))))
      (refine St.call rfl rfl rfl (by kernel_rfl) (fun R hR => ?_); simp only [List.map_toArray, List.map_cons, List.map_nil, Act.eval, getD_lit, List.getD_cons_zero, List.getD_cons_succ])
      refine (CJ.out _ hM).mono ?_
      (rintro e w' ⟨rfl, hb⟩; refine hR.out _ _ (fun h => h.below hb) ?_; clear hR R; replace hM := hM.below hb; clear hb; (try simp only [Act.put, List.setIfInBounds_toArray, List.set_cons_zero, List.set_cons_succ]))
      cases b with
      | true =>
        have e := B1.out (.inl rfl)
        (repeat (first | (first | ((with_reducible show wpSeq _ _ _ _ _ _ _); first | ((with_reducible refine wpSeq_nil ?_); refine hKr.out _ _ ?_; clear hKr Kr) | ((first | (refine St.copy (v := ?_) (by first | exact .inl rfl | exact .inr rfl) rfl rfl ?_ ?_; rotate_left; (focus ((try simp only [Act.eval, getD_lit, List.getD_cons_zero, List.getD_cons_succ]); with_reducible rfl))) | (refine St.pure (v := ?_) rfl rfl rfl (fun w => ?_) ?_; rotate_left; (focus (go_simp; all_goals with_reducible rfl))) | refine wpSeq_off rfl rfl ?_); (try simp only [Act.put, List.setIfInBounds_toArray, List.set_cons_zero, List.set_cons_succ]))) | (first | (refine wp_seq_shut (fun K hK => ?_)) | (refine wp_text hM (fun Kr hKr => ?_); simp only [inText]) | (refine wp_cond_true rfl ?_) | ((refine hK.out _ _ ?_); clear hK K))) | ((refine St.call rfl rfl rfl (by kernel_rfl) (fun R hR => ?_); simp only [List.map_toArray, List.map_cons, List.map_nil, Act.eval, getD_lit, List.getD_cons_zero, List.getD_cons_succ]); (refine (CH.out _).mono ?_; (rintro e w' ⟨rfl, rfl⟩; refine hR.out _ _ (fun h => h) ?_; clear hR R; (try simp only [Act.put, List.setIfInBounds_toArray, List.set_cons_zero, List.set_cons_succ]))))))
        (refine wp_ret ?_; (try simp only [Exit.then, Exit.inBlock]); refine St.ret hM rfl (by repeat (first | exact Outs.nil | apply Outs.tmp rfl)) rfl ?_)
        rw [e]
        exact ⟨rfl, hM.to_below⟩
      | false =>
        by_cases h8 : 8 < ks.length
        · have e := B1.out (.inr (.inl h8))
          have d1 : decide ((8 : Int) < (ks.length : Int)) = true := decide_eq_true (by omega)
          clear h8
          (repeat (first | (first | ((with_reducible show wpSeq _ _ _ _ _ _ _); first | ((with_reducible refine wpSeq_nil ?_); refine hKr.out _ _ ?_; clear hKr Kr) | ((first | (refine St.copy (v := ?_) (by first | exact .inl rfl | exact .inr rfl) rfl rfl ?_ ?_; rotate_left; (focus ((try simp only [Act.eval, getD_lit, List.getD_cons_zero, List.getD_cons_succ]); with_reducible rfl))) | (refine St.pure (v := ?_) rfl rfl rfl (fun w => ?_) ?_; rotate_left; (focus (go_simp; all_goals with_reducible rfl))) | refine wpSeq_off rfl rfl ?_); (try simp only [Act.put, List.setIfInBounds_toArray, List.set_cons_zero, List.set_cons_succ]))) | (first | (refine wp_seq_shut (fun K hK => ?_)) | (refine wp_text hM (fun Kr hKr => ?_); simp only [inText]) | (refine wp_cond_true rfl ?_) | ((refine hK.out _ _ ?_); clear hK K))) | ((refine St.call rfl rfl rfl (by kernel_rfl) (fun R hR => ?_); simp only [List.map_toArray, List.map_cons, List.map_nil, Act.eval, getD_lit, List.getD_cons_zero, List.getD_cons_succ]); (refine (CH.out _).mono ?_; (rintro e w' ⟨rfl, rfl⟩; refine hR.out _ _ (fun h => h) ?_; clear hR R; (try simp only [Act.put, List.setIfInBounds_toArray, List.set_cons_zero, List.set_cons_succ]))))))
          (refine wp_ret ?_; (try simp only [Exit.then, Exit.inBlock]); refine St.ret hM rfl (by repeat (first | exact Outs.nil | apply Outs.tmp rfl)) rfl ?_)
          rw [e]
          exact ⟨rfl, hM.to_below⟩
        · have d1 : decide ((8 : Int) < (ks.length : Int)) = false := decide_eq_false (by omega)
          by_cases h96 : 96 < J.size
          · have e := B1.out (.inr (.inr h96))
            have d2 : decide ((96 : Int) < (J.size : Int)) = true := decide_eq_true (by omega)
            clear h8 h96
            (repeat (first | (first | ((with_reducible show wpSeq _ _ _ _ _ _ _); first | ((with_reducible refine wpSeq_nil ?_); refine hKr.out _ _ ?_; clear hKr Kr) | ((first | (refine St.copy (v := ?_) (by first | exact .inl rfl | exact .inr rfl) rfl rfl ?_ ?_; rotate_left; (focus ((try simp only [Act.eval, getD_lit, List.getD_cons_zero, List.getD_cons_succ]); with_reducible rfl))) | (refine St.pure (v := ?_) rfl rfl rfl (fun w => ?_) ?_; rotate_left; (focus (go_simp; all_goals with_reducible rfl)))); (try simp only [Act.put, List.setIfInBounds_toArray, List.set_cons_zero, List.set_cons_succ]))) | (first | (refine wp_seq_shut (fun K hK => ?_)) | (refine wp_text hM (fun Kr hKr => ?_); simp only [inText]) | (refine wp_cond_true rfl ?_) | ((refine hK.out _ _ ?_); clear hK K))) | ((refine St.call rfl rfl rfl (by kernel_rfl) (fun R hR => ?_); simp only [List.map_toArray, List.map_cons, List.map_nil, Act.eval, getD_lit, List.getD_cons_zero, List.getD_cons_succ]); (refine (CH.out _).mono ?_; (rintro e w' ⟨rfl, rfl⟩; refine hR.out _ _ (fun h => h) ?_; clear hR R; (try simp only [Act.put, List.setIfInBounds_toArray, List.set_cons_zero, List.set_cons_succ]))))))
            (refine wp_ret ?_; (try simp only [Exit.then, Exit.inBlock]); refine St.ret hM rfl (by repeat (first | exact Outs.nil | apply Outs.tmp rfl)) rfl ?_)
            rw [e]
            exact ⟨rfl, hM.to_below⟩
          · have e := B2.out rfl (by omega) (by omega)
            have d2 : decide ((96 : Int) < (J.size : Int)) = false := decide_eq_false (by omega)
            clear h8 h96
            (repeat (first | (first | ((with_reducible show wpSeq _ _ _ _ _ _ _); first | ((with_reducible refine wpSeq_nil ?_); refine hKr.out _ _ ?_; clear hKr Kr) | ((first | (refine St.copy (v := ?_) (by first | exact .inl rfl | exact .inr rfl) rfl rfl ?_ ?_; rotate_left; (focus ((try simp only [Act.eval, getD_lit, List.getD_cons_zero, List.getD_cons_succ]); with_reducible rfl))) | (refine St.pure (v := ?_) rfl rfl rfl (fun w => ?_) ?_; rotate_left; (focus (go_simp; all_goals with_reducible rfl)))); (try simp only [Act.put, List.setIfInBounds_toArray, List.set_cons_zero, List.set_cons_succ]))) | (first | (refine wp_seq_shut (fun K hK => ?_)) | (refine wp_text hM (fun Kr hKr => ?_); simp only [inText]) | refine wp_skip ?_ | (refine wp_cond_false rfl ?_) | ((refine hK.out _ _ ?_); clear hK K))) | ((refine St.call rfl rfl rfl (by kernel_rfl) (fun R hR => ?_); simp only [List.map_toArray, List.map_cons, List.map_nil, Act.eval, getD_lit, List.getD_cons_zero, List.getD_cons_succ]); (refine (CH.out _).mono ?_; (rintro e w' ⟨rfl, rfl⟩; refine hR.out _ _ (fun h => h) ?_; clear hR R; (try simp only [Act.put, List.setIfInBounds_toArray, List.set_cons_zero, List.set_cons_succ]))))))
            (refine wp_ret ?_; (try simp only [Exit.then, Exit.inBlock]); refine St.ret hM rfl (by repeat (first | exact Outs.nil | apply Outs.tmp rfl)) rfl ?_)
            rw [e]
            exact ⟨rfl, hM.to_below⟩
end Go.Proofs.YtcicjklhbnipcaaGreatDoor
