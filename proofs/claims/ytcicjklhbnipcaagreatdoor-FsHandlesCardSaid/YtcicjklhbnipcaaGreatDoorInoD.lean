/-
  Layer 8: gone, loses, walked.
-/
import Derived.Test.YtcicjklhbnipcaaGreatDoorInoB
import Derived.RegionTactic
import Derived.ChangeAlike
import Derived.BigRegion
namespace Go.Proofs.YtcicjklhbnipcaaGreatDoor
set_option linter.unusedVariables false
set_option linter.unusedSimpArgs false
open Go.RowKit Go.Maps

/-- A table has gone on; its inodes lie where they lay. -/
structure Step (w w' : World) (g mb : Nat) (β : Int → Nat × Nat) (t t' : TabD) : Prop where
  tbl : TblAt w' g mb β t'
  only : Only (foot g mb β t.nodes) w w'
  foot : ∀ k ∈ foot g mb β t'.nodes, k ∈ foot g mb β t.nodes
theorem Step.trans {a b c : World} {g mb : Nat} {β : Int → Nat × Nat} {t t1 t2 : TabD} (h : Step a b g mb β t t1) (k : Step b c g mb β t1 t2) : Step a c g mb β t t2 :=
  ⟨k.tbl, h.only.trans (k.only.mono h.foot), fun x hx => h.foot x (k.foot x hx)⟩
theorem wpList_delete_at {P : Program} (w : World) {ops : Array Oper} {rest : List Oper} {o : Oper} {a : Act} {Q : Exit → Act → World → Prop} (hg : o.guard = none) (m x : Operand) (t k : TypeId) (hop : o.op = Op.call { callee := Callee.builtin Builtin.delete, args := #[m, x], argTypes := #[t, k] })
    (e : TypeId) (K : Keyed P k) (ht : P.underlying t = some (.map k e)) (b : Nat) (l : List (Lit × Value)) (hm : a.eval m = .map (some b)) (h : MapAt P k w b l) (key : Value) (kl : Lit) (hx : a.eval x = key) (hkey : keyOf P k key = some kl)
    (hK : ∀ w', MapAt P k w' b (delL kl l) → w.mapTurned w' b → wpList P ops Q rest (a.put o.dst (.tuple #[])) w') : wpList P ops Q (o :: rest) a w := by
  refine wpList_delete_own w hg m x t k hop e K ht anyElem b l.length (heldD l) hm h key kl hx hkey ?_
  intro w' h1 h2
  rw [del_held] at h1
  exact hK w' (MapAt.of h1) h2
theorem wpList_store_at {P : Program} (w : World) {ops : Array Oper} {rest : List Oper} {o : Oper} {a : Act} {Q : Exit → Act → World → Prop} (hg : o.guard = none) (m x v : Operand) (t : TypeId) (hop : o.op = Op.mapUpdate t m x v)
    (k e : TypeId) (K : Keyed P k) (ht : P.underlying t = some (.map k e)) (b : Nat) (l : List (Lit × Value)) (hm : a.eval m = .map (some b)) (h : MapAt P k w b l) (hn : l.length < maxLen) (key val : Value) (kl : Lit) (hx : a.eval x = key) (hv : a.eval v = val) (hkey : keyOf P k key = some kl)
    (hK : ∀ w', MapAt P k w' b (putL kl val l) → w.mapTurned w' b → wpList P ops Q rest (a.put o.dst undef) w') : wpList P ops Q (o :: rest) a w := by
  refine wpList_plain hg fun K' hK' => ?_
  obtain ⟨w', hrun, r1, r2⟩ := MapAt.store h K ht hn (val := val) hkey
  unfold Oper.wp
  simp [execOp, hop, hm, hx, hv, hrun, Result.andThen]
  exact hK' _ _ (hK w' r1 r2)

section
variable {w : World} {g mb : Nat} {β : Int → Nat × Nat} {t : TabD}
set_option maxHeartbeats 1000000 in
set_option maxRecDepth 100000 in
theorem gone_any (h : TblAt w g mb β t) {id : Int} (hid : Fits id) {n : NodeD} (hn : In.find t.nodes id = some n) (hs : n.data.size ≤ 1048576) (hu0 : 0 ≤ t.used) (hu : t.used ≤ 1099511627776) :
    Calls Tryz.prog 167 #[.pointer (some ⟨g, 0, none⟩), .int .i64 id] w fun e w' => e = .returned (.tuple #[]) ∧ Step w w' g mb β t (In.gone t id) := by
  have hl := look_at h hid
  rw [ptr_some hn] at hl
  obtain ⟨c0, c1, c2, c3⟩ := tbl_cells h
  obtain ⟨d0, d1, d2, d3, d4⟩ := node_cells (h.at hn)
  have HG := Lib.hid (show In.gone t id = if n.links == 0 && n.holds == 0 then { t with used := t.used - (64 + n.data.size), nodes := In.del t.nodes id } else t by unfold In.gone; rw [at_find hn])
  have HT := Lib.hid h
  cases e1 : n.links == 0 with
  | false =>
    have HF := Lib.hid (show In.gone t id = t by rw [HG.out, e1]; rfl)
    clear h hn HG
    go_enter Tryz.func167, Tryz.ntmps167
    go_wp2_with fail
    go_end0
    exact ⟨rfl, by rw [HF.out]; exact ⟨HT.out, Only.refl _ _, fun _ h => h⟩⟩
  | true =>
    cases e2 : n.holds == 0 with
    | false =>
      have HF := Lib.hid (show In.gone t id = t by rw [HG.out, e1, e2]; rfl)
      clear h hn HG
      go_enter Tryz.func167, Tryz.ntmps167
      go_wp2_with fail
      go_end0
      exact ⟨rfl, by rw [HF.out]; exact ⟨HT.out, Only.refl _ _, fun _ h => h⟩⟩
    | true =>
      have HF := Lib.hid (show In.gone t id = { t with used := t.used - (64 + n.data.size), nodes := In.del t.nodes id } by rw [HG.out, e1, e2]; rfl)
      have f1 := free_row h.row 1
      have HU := Lib.hid (h.set_used (t.used - (64 + n.data.size)))
      have HM := Lib.hid HU.out.map
      clear h hn HG
      go_enter Tryz.func167, Tryz.ntmps167
      go_wp2_with fail
      go_region
      go_wp2_with (at_delete; refine wpList_delete_at _ rfl _ _ 160 3 rfl 163 key_int Tryz.underlying160 mb _ rfl HM.out _ _ rfl (keyOf_int_mk Tryz.underlying3 hid) ?_; intro w2 hm2 ht2; have HM2 := Lib.hid hm2; have HT2 := Lib.hid ht2; clear hm2 ht2)
      go_end0
      refine ⟨rfl, ?_⟩
      rw [HF.out]
      exact ⟨(HU.out.on (w' := (w.setCell ⟨g, 1, none⟩ (.int .i64 (t.used - (64 + n.data.size)))).drew) (fun _ _ => rfl)).del_upd (fun k _ hk => turned_other HT2.out hk) HM2.out,
        (((Only.refl _ w).setCell (.inl (mem_foot.2 (.inl rfl))) _).drew).turned HT2.out (.inl (mem_foot.2 (.inr (.inl rfl)))),
        fun k hk => (foot_del_sub _ _ _ _ _).subset hk⟩
theorem setN_ids {t : TabD} {n : NodeD} : (In.setN t n).nodes = In.set t.nodes n := rfl
theorem isSome_of {l : List NodeD} {id : Int} {n : NodeD} (h : In.find l id = some n) : (In.find l id).isSome = true := by rw [h]; rfl
/-- An inode turned: what is found. -/
theorem find_upd {t : TabD} {id' : Int} {n o : NodeD} (ho : In.find t.nodes id' = some o) (hi : n.id = id') (id : Int) : In.find (In.setN t n).nodes id = if id = id' then some n else In.find t.nodes id := by
  subst hi; exact find_setN (isSome_of ho)
theorem find_self {t : TabD} {id : Int} {n o : NodeD} (ho : In.find t.nodes id = some o) (hi : n.id = id) : In.find (In.setN t n).nodes id = some n := by rw [find_upd ho hi, if_pos rfl]
set_option maxHeartbeats 1000000 in
set_option maxRecDepth 100000 in
theorem loses_any (h : TblAt w g mb β t) {dir : Int} {s : ByteArray} (hs : s.size ≤ maxLen) {d : NodeD} (hd : In.find t.nodes dir = some d) {id : Int} (hid : Fits id) (hl : In.leads d.names s = id) {t1 : TabD} (ht1 : In.setN t { d with names := In.without d.names s } = t1)
    {n : NodeD} (hn : In.find t1.nodes id = some n) (hsz : n.data.size ≤ 1048576) (hu0 : 0 ≤ t.used) (hu : t.used ≤ 1099511627776) (hl0 : 0 ≤ n.links) (hl1 : n.links ≤ 4611686018427387904) :
    Calls Tryz.prog 166 #[.pointer (some ⟨g, 0, none⟩), .pointer (some ⟨(β dir).1, 0, none⟩), .string s] w fun e w' => e = .returned (.tuple #[]) ∧ Step w w' g mb β t (In.gone (In.setN t1 { n with links := n.links - 1 }) id) := by
  have hA := h.at hd
  obtain ⟨-, -, -, -, d4⟩ := node_cells hA
  have ll := look_name hA.names hs
  rw [hl] at ll
  have HNm := Lib.hid hA.names
  have hdi := (find_mem hd).2
  have hni := (find_mem hn).2
  have HT := Lib.hid h
  have T1 : ∀ w1 : World, NamesAt w1 (β dir).2 (In.without d.names s) → w.mapTurned w1 (β dir).2 → TblAt w1 g mb β t1 := fun w1 h1 h2 => by
    rw [← ht1]
    exact h.set_names hd h1 h2
  have hft : foot g mb β t1.nodes = foot g mb β t.nodes := by rw [← ht1]; exact foot_set _ _ _ _ _
  have hu1 : t1.used = t.used := by rw [← ht1]; rfl
  have HF := Lib.hid hft
  have HM : (β dir).2 ∈ foot g mb β t.nodes := mem_foot.2 (.inr (.inr ⟨d, (find_mem hd).1, .inr (by rw [hdi])⟩))
  have G := Lib.hid (fun (w1 : World) (T : TblAt w1 g mb β t1) => gone_any (T.set_links hn (n.links - 1)) hid (n := { n with links := n.links - 1 }) (find_self (n := { n with links := n.links - 1 }) hn hni) hsz (show 0 ≤ t1.used by omega) (show t1.used ≤ 1099511627776 by omega))
  have HLk := Lib.hid (fun (w1 : World) (T : TblAt w1 g mb β t1) => T.set_links hn (n.links - 1))
  have HM1 : (β id).1 ∈ foot g mb β t1.nodes := mem_foot.2 (.inr (.inr ⟨n, (find_mem hn).1, .inl (by rw [hni])⟩))
  have HT1 := Lib.hid T1
  have HN := Lib.hid hn
  have HI := Lib.hid hni
  clear h hA hl hd hdi hni T1 hft hn ht1 hu1
  go_enter Tryz.func166, Tryz.ntmps166
  go_wp2_with (first
    | (at_delete; refine wpList_delete_at _ rfl _ _ 164 9 rfl 3 key_str Tryz.underlying164 (β dir).2 _ rfl HNm.out _ _ rfl (WideMaps.keyOf_string_mk Tryz.underlying9 hs) ?_; intro w1 hm1 ht1; rw [del_names] at hm1; have T := HT1.out w1 hm1 ht1; have c3 := (tbl_cells T).2.2.2; have hl1' := look_at T hid; rw [ptr_some HN.out] at hl1'; have dl := (node_cells (T.at HN.out)).2.1; have fl := free_row (T.at HN.out).row 1; have HTT := Lib.hid T; have HW := Lib.hid ht1; clear hm1 ht1 T ll d4)
    | (go_at_call 167; refine (G.out _ HTT.out).mono ?_; rintro e w3 ⟨rfl, hs3⟩; have HS3 := Lib.hid hs3; clear hs3))
  go_end0
  refine ⟨rfl, ?_⟩
  have T := HTT.out
  have S3 := HS3.out
  have hf2 : foot g mb β (In.setN t1 { n with links := n.links - 1 }).nodes = foot g mb β t.nodes := (foot_set _ _ _ _ _).trans HF.out
  rw [HF.out] at HM1
  exact ⟨S3.tbl, (((Only.refl _ w).turned HW.out (.inl HM)).setCell (.inl HM1) _).trans (S3.only.mono (fun x hx => by rw [hf2] at hx; exact hx)), fun k hk => by have := S3.foot k hk; rw [hf2] at this; exact this⟩
end
end Go.Proofs.YtcicjklhbnipcaaGreatDoor
