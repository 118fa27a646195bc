/-
  Layer 8: Nodes, in slices of its own, walked.
-/
import Derived.Test.YtcicjklhbnipcaaGreatDoorLst
import Derived.Test.YtcicjklhbnipcaaGreatDoorIterI
import Derived.Test.YtcicjklhbnipcaaGreatDoorPtc
import Derived.Test.YtcicjklhbnipcaaGreatDoorAp2
namespace Go.Proofs.YtcicjklhbnipcaaGreatDoor
set_option linter.unusedVariables false
set_option linter.unusedSimpArgs false
open Go.RowKit Go.Maps
theorem St.subM {w0 w : World} {F : List Nat} {L L' : List Ent} (h : St w0 F w L) (hs : L'.Sublist L) : St w0 F w L' := h.drop (fun _ hx => hs.subset hx) ((hs.map _).nodup h.nd)
section
variable {P : Program} {K : Act → World → Prop} {a : Act} {w w0 : World} {ops : Array Oper} {l : List (Oper × Nat)} {c : Nat} {o : Oper} {L Lr : List Ent} {b : Nat} {ty kt et : TypeId} {x y : Operand} {S : World → Prop} {m : List (Lit × Value)} {kl : Lit} {key : Value}
theorem map_old (h : Only [] w0 w) (hm : MapAt P kt w0 b m) : (mapR P kt m).holds w.heap[b]? := by
  have := mapR_of (MapAt.on hm (h.block b (MapAt.lt hm) (by simp)))
  exact this
/-- A map of which a fact tells is looked into. -/
theorem St.lookupF (hx : o.op = .lookup ty x y false) (hM : St w0 [] w L) (hc : (c == 2 || c == 3) = true) (hw : Region.wanted o (yielded ops a.tmps) = true) (hev : a.eval x = .map (some b)) (hy : a.eval y = key) (hm : MapAt P kt w0 b m) (hK : Keyed P kt) (ht : P.underlying ty = some (.map kt et)) {zv : Value} (hz : ∀ w, (zeroValue et).run P w = .ok zv w) (hkey : keyOf P kt key = some kl) {v : Value} (hv : lookL m kl zv = v)
    (h : wpSeq P ops K S l (a.put o.dst v) w) : wpSeq P ops K S ((o, c) :: l) a w :=
  wpSeq_yields hc hw (by rw [← hv]; exact run_lookupM hx hev hy (map_old hM.only hm) hK ht hz hkey) h
theorem St.lookupF1 (hx : o.op = .lookup ty x y false) (hw : Region.wanted o (yielded ops a.tmps) = true) (hev : a.eval x = .map (some b)) (hy : a.eval y = key) (hm : MapAt P kt w0 b m) (hK : Keyed P kt) (ht : P.underlying ty = some (.map kt et)) {zv : Value} (hz : ∀ w, (zeroValue et).run P w = .ok zv w) (hkey : keyOf P kt key = some kl) {v : Value} (hv : lookL m kl zv = v)
    (h : wpSeq P ops K (Held w0 [] Lr) l (a.put o.dst v) w) : wpSeq P ops K (Held w0 [] Lr) ((o, 1) :: l) a w :=
  wpSeq_at1 hw (fun w hS => by rw [← hv]; exact run_lookupM hx hev hy (map_old hS.only hm) hK ht hz hkey) h
end
/-- An inode, and where its names lie. -/
abbrev NodV := NodeD × Option (Nat × Nat)
def entC (d : List (ByteArray × Int)) : List Value := d.flatMap fun p => [.string p.1, .int .i64 p.2]
def NodV.cells (z : NodV) : List Value := [.int .i64 z.1.id, .bool z.1.dir, .int .i64 z.1.links, .int .i64 z.1.holds, .string z.1.data, slV z.2 z.1.names.length]
def NodV.ents (z : NodV) : List Ent := slL z.2 (entC z.1.names) 127 2
/-- It answers these inodes, in slices of its own. -/
def SomeNodes (ns : List NodeD) (w : World) (e : Ending) (w' : World) : Prop :=
  ∃ (s : Option (Nat × Nat)) (zs : List NodV), e = .returned (slV s zs.length) ∧ zs.map (·.1) = ns ∧ SlOK s zs.length (zs.flatMap NodV.cells) 6 ∧ (∀ z ∈ zs, SlOK z.2 z.1.names.length (entC z.1.names) 2) ∧
    St w [] w' (slL s (zs.flatMap NodV.cells) 124 6 ++ zs.flatMap NodV.ents)
section
variable {w0 : World} {g mb : Nat} {β : Int → Nat × Nat} {t : TabD}
theorem rowI_of {w w' : World} {base : Nat} {v : Value} {xs : List Int} (h : w'.ownsRow base 3 1 v xs.length (xs.map (Value.int .i64))) (hb : Below w.heap.size w w') (hB : w.heap.size ≤ base) :
    ∃ s, v = slV s xs.length ∧ SlOK s xs.length (xs.map (Value.int .i64)) 1 ∧ St w [] w' (slL s (xs.map (Value.int .i64)) 3 1) := st_of_own h hb hB
set_option maxHeartbeats 8000000 in
set_option maxRecDepth 100000 in
theorem Nodes9_any (h : TblAt w0 g mb β t) (hq : 0 < t.quota) (hid : ∀ n ∈ t.nodes, Fits n.id) (hl : t.nodes.length ≤ 1000000) (hlen : ∀ n ∈ t.nodes, n.names.length ≤ 1000000) (hso : ∀ n ∈ t.nodes, In.nameSorted n.names) :
    Calls Tryz.prog 69 #[.pointer (some ⟨g, 0, none⟩)] w0 (SomeNodes t.nodes w0) := by
  have hM := St.start w0 []
  have hg := Lib.hid (fun (W : World) (hb : Below w0.heap.size w0 W) => given_yes (h.below hb) hq)
  have c3 := (tbl_cells h).2.2.2
  have CK := Lib.hid (fun W : World => keysI_any (some mb) W)
  have CS := Lib.hid (fun (W : World) (hb : Below w0.heap.size w0 W) => sortedI_any W (h.below hb).map (by omega))
  have HT := Lib.hid h
  have HID := Lib.hid hid
  have HLN := Lib.hid hlen
  have HSO := Lib.hid hso
  clear h hq hid hlen hso
  go_enter Tryz.func69, Tryz.ntmps69
  (repeat (first | ((with_reducible show wpSeq _ _ _ _ _ _ _); first | ((with_reducible refine wpSeq_nil ?_); refine hKr.out _ _ ?_; clear hKr Kr) | (((refine St.copy (v := ?_) (by first | exact .inl rfl | exact .inr rfl) rfl rfl ?_ ?_; rotate_left; (focus ((try simp only [Act.eval, getD_lit, List.getD_cons_zero, List.getD_cons_succ]); with_reducible rfl)))); (try simp only [Act.put, List.setIfInBounds_toArray, List.set_cons_zero, List.set_cons_succ]))) | (first | (refine wp_seq_shut (fun K hK => ?_)) | (refine wp_text hM (fun Kr hKr => ?_); simp only [inText]) | ((refine hK.out _ _ ?_); clear hK K))))
  (refine St.call3 rfl rfl (by kernel_rfl) (fun R hR => ?_); simp only [List.map_toArray, List.map_cons, List.map_nil, Act.eval, getD_lit, List.getD_cons_zero, List.getD_cons_succ])
  refine (hg.out _ hM.to_below).mono ?_
  rintro e w' ⟨rfl, rfl⟩; refine hR.out _ _ ?_; clear hR R; (try simp only [Act.put, List.setIfInBounds_toArray, List.set_cons_zero, List.set_cons_succ])
  (repeat (first | ((with_reducible show wpSeq _ _ _ _ _ _ _); first | ((with_reducible refine wpSeq_nil ?_); refine hKr.out _ _ ?_; clear hKr Kr) | ((first | (refine St.copy (v := ?_) (by first | exact .inl rfl | exact .inr rfl) rfl rfl ?_ ?_; rotate_left; (focus ((try simp only [Act.eval, getD_lit, List.getD_cons_zero, List.getD_cons_succ]); with_reducible rfl))) | (refine St.pure (v := ?_) rfl rfl rfl (fun w => ?_) ?_; rotate_left; (focus (go_simp; all_goals with_reducible rfl))) | refine St.loadF rfl rfl rfl rfl rfl (hM.old (by assumption)) (by kernel_rfl) ?_); (try simp only [Act.put, List.setIfInBounds_toArray, List.set_cons_zero, List.set_cons_succ]))) | (first | (refine wp_seq_shut (fun K hK => ?_)) | (refine wp_text hM (fun Kr hKr => ?_); simp only [inText]) | refine wp_skip ?_ | (refine wp_cond_false rfl ?_) | ((refine hK.out _ _ ?_); clear hK K))))
  (refine St.call3 rfl rfl (by kernel_rfl) (fun R hR => ?_); simp only [List.map_toArray, List.map_cons, List.map_nil, Act.eval, getD_lit, List.getD_cons_zero, List.getD_cons_succ])
  have hbl := hM.to_below
  refine (CK.out _).mono ?_
  rintro e w' ⟨rfl, rfl⟩; refine hR.out _ _ ?_; clear hR R; (try simp only [Act.put, List.setIfInBounds_toArray, List.set_cons_zero, List.set_cons_succ])
  (refine St.call3 rfl rfl (by kernel_rfl) (fun R hR => ?_); simp only [List.map_toArray, List.map_cons, List.map_nil, Act.eval, getD_lit, List.getD_cons_zero, List.getD_cons_succ])
  refine (CS.out _ hbl).mono ?_
  rintro e w' ⟨v, rfl, hrow, hb⟩
  have e1 : (t.nodes.map fun n => Value.int .i64 n.id) = (t.nodes.map (·.id)).map (Value.int .i64) := by rw [List.map_map]; rfl
  have e2 : t.nodes.length = (t.nodes.map (·.id)).length := by simp
  rw [e1, e2] at hrow
  obtain ⟨s1, rfl, hok1, hst⟩ := rowI_of hrow hb (Nat.le_succ _)
  refine hR.out _ _ ?_; clear hR R hM hbl hrow hb e1
  have hM := hst
  clear hst
  obtain ⟨va, vc, hsv, hsa⟩ := slV_open hok1
  rw [hsv]
  rw [← e2] at hsv hok1 ⊢
  have HK1 := Lib.hid hok1
  clear hok1 hsv e2 CS
  (try simp only [Act.put, List.setIfInBounds_toArray, List.set_cons_zero, List.set_cons_succ])
  (repeat (first | ((with_reducible show wpSeq _ _ _ _ _ _ _); first | ((with_reducible refine wpSeq_nil ?_); refine hKr.out _ _ ?_; clear hKr Kr) | ((first | (refine St.copy (v := ?_) (by exact .inl rfl) rfl rfl ?_ ?_; rotate_left; (focus ((try simp only [Act.eval, getD_lit, List.getD_cons_zero, List.getD_cons_succ]); with_reducible rfl))) | (refine St.pure (v := ?_) rfl rfl rfl (fun w => ?_) ?_; rotate_left; (focus (go_simp; all_goals with_reducible rfl)))); (try simp only [Act.put, List.setIfInBounds_toArray, List.set_cons_zero, List.set_cons_succ]))) | (first | refine wp_block ?_ | ((refine hK.out _ _ ?_); clear hK K))))
  go_loopw [3, 20] (fun v i wr => ∃ (k : Nat) (s : Option (Nat × Nat)) (zs : List NodV), k ≤ t.nodes.length ∧ i = .int .i64 k ∧ v = slV s zs.length ∧ zs.map (·.1) = t.nodes.take k ∧ SlOK s zs.length (zs.flatMap NodV.cells) 6 ∧ (∀ z ∈ zs, SlOK z.2 z.1.names.length (entC z.1.names) 2) ∧
    St w0 [] wr (slL s1 ((t.nodes.map (·.id)).map (Value.int .i64)) 3 1 ++ (slL s (zs.flatMap NodV.cells) 124 6 ++ zs.flatMap NodV.ents))) (fun _ i _ => t.nodes.length - (intOf i).toNat)
  case atStart => exact ⟨0, none, [], by omega, rfl, rfl, rfl, ⟨rfl, rfl⟩, nofun, by simpa [slL] using hM⟩
  case round =>
    clear hM
    obtain ⟨k, s, zs, hk, rfl, rfl, hzs, hsl, hen, hM⟩ := hrel
    have HZ := Lib.hid hzs
    have HS := Lib.hid hsl
    have HE := Lib.hid hen
    have zl : zs.length ≤ 1000000 := by
      have h1 := congrArg List.length hzs
      rw [List.length_map, List.length_take] at h1
      omega
    clear hzs hsl hen
    by_cases hlt : k < t.nodes.length
    · obtain ⟨n, hn⟩ := get_at hlt
      cases s1 with
      | none => exact absurd HK1.out.2 (by omega)
      | some gc =>
      obtain ⟨g1, cap1⟩ := gc
      obtain ⟨rfl, rfl⟩ := hsa g1 cap1 rfl
      have hnm := List.mem_of_getElem? hn
      have hx' : ((t.nodes.map (·.id)).map (Value.int .i64))[k]? = some (.int .i64 n.id) := by rw [List.getElem?_map, List.getElem?_map, hn]; rfl
      have k1 : (k : Int) < (t.nodes.length : Int) := by omega
      have hA := HT.out.node n hnm
      obtain ⟨d0, d1, d2, d3, d4⟩ := node_cells hA
      have hfit := HID.out n hnm
      have hptr : lookL (nodesL β t.nodes) (.int .i64 n.id) (.pointer none) = .pointer (some ⟨(β n.id).1, 0, none⟩) := by rw [look_nodes, find_of HT.out.ids hnm]
      have HMP := Lib.hid HT.out.map
      have HNM := Lib.hid hA.names
      have HSN := Lib.hid (HSO.out n hnm)
      have hnl := HLN.out n hnm
      have CS2 := Lib.hid (fun (W : World) (hb : Below w0.heap.size w0 W) => sortedS_any W (MapAt.on HNM.out (hb.block _ (MapAt.lt HNM.out))) (by omega))
      have CK2 := Lib.hid (fun W : World => keysS_any (some (β n.id).2) W)
      have HN := Lib.hid hn
      clear hn hlt hnm hA
      change St w0 [] wr ((g1, true, Res.pre ((t.nodes.map (·.id)).map (Value.int .i64)) 3 (vc * 1)) :: (slL s (zs.flatMap NodV.cells) 124 6 ++ zs.flatMap NodV.ents)) at hM
      (repeat (first | ((with_reducible show wpSeq _ _ _ _ _ _ _); first | ((with_reducible refine wpSeq_nil ?_); refine hKr.out _ _ ?_; clear hKr Kr) | ((first | (refine St.copy (v := ?_) (by first | exact .inl rfl | exact .inr rfl) rfl rfl ?_ ?_; rotate_left; (focus ((try simp only [Act.eval, getD_lit, List.getD_cons_zero, List.getD_cons_succ]); with_reducible rfl))) | (refine St.pure (v := ?_) rfl rfl rfl (fun w => ?_) ?_; rotate_left; (focus (go_simp; all_goals with_reducible rfl))) | refine St.load rfl hM rfl rfl rfl rfl (by repeat constructor) (by assumption) (by kernel_rfl) ?_ | refine St.loadF rfl rfl rfl rfl rfl (hM.old (by assumption)) (by kernel_rfl) ?_); (try simp only [Act.put, List.setIfInBounds_toArray, List.set_cons_zero, List.set_cons_succ]))) | (first | (refine wp_seq_shut (fun K hK => ?_)) | (refine wp_text hM (fun Kr hKr => ?_); simp only [inText]) | refine wp_block ?_ | refine wp_skip ?_ | (refine wp_cond_true rfl ?_) | ((refine hK.out _ _ ?_); clear hK K))))
      refine St.lookupF rfl hM rfl rfl rfl rfl HMP.out key_int Tryz.underlying160 zero_ptr (keyOf_int_mk Tryz.underlying3 hfit) hptr ?_
      clear hptr HMP
      (try simp only [Act.put, List.setIfInBounds_toArray, List.set_cons_zero, List.set_cons_succ])
      (repeat (first | ((with_reducible show wpSeq _ _ _ _ _ _ _); first | ((with_reducible refine wpSeq_nil ?_); refine hKr.out _ _ ?_; clear hKr Kr) | ((first | (refine St.copy (v := ?_) (by first | exact .inl rfl | exact .inr rfl) rfl rfl ?_ ?_; rotate_left; (focus ((try simp only [Act.eval, getD_lit, List.getD_cons_zero, List.getD_cons_succ]); with_reducible rfl))) | (refine St.pure (v := ?_) rfl rfl rfl (fun w => ?_) ?_; rotate_left; (focus (go_simp; all_goals with_reducible rfl))) | refine St.loadF rfl rfl rfl rfl rfl (hM.old (by assumption)) (by kernel_rfl) ?_ | refine St.loadF1 rfl rfl rfl rfl (fun w' hS => hS.old (by assumption)) (by kernel_rfl) ?_ | ((((refine St.storeRow rfl hM rfl rfl rfl rfl rfl (by repeat constructor) (Nat.le_of_ble_eq_true rfl) (Nat.le_of_ble_eq_true rfl) (by kernel_rfl) rfl ?_ ?_); (focus ((intro h; cases h; done))); clear hM; intro w hM)); (try simp only [Res.put, Res.known, Act.eval, Value.cells, getD_lit, List.getD_cons_zero, List.getD_cons_succ, List.toList_toArray, List.set_cons_zero, List.set_cons_succ, over, Nat.reduceAdd] at hM))); (try simp only [Act.put, List.setIfInBounds_toArray, List.set_cons_zero, List.set_cons_succ])) | (((refine St.alloc (ty := 124) (z := .agg #[.int .i64 0, .bool false, .int .i64 0, .int .i64 0, .string ⟨#[]⟩, .slice none 0 0]) rfl hM rfl rfl (by kernel_rfl) ?_); clear hM; intro w bk hM); (try simp only [Res.put, Res.known, Act.eval, Value.cells, getD_lit, List.getD_cons_zero, List.getD_cons_succ, List.toList_toArray, List.set_cons_zero, List.set_cons_succ, over, Nat.reduceAdd] at hM); (try simp only [Act.put, List.setIfInBounds_toArray, List.set_cons_zero, List.set_cons_succ]))) | (first | (refine wp_seq_shut (fun K hK => ?_)) | (refine wp_text hM (fun Kr hKr => ?_); simp only [inText]) | ((refine hK.out _ _ ?_); clear hK K)) | ((refine wp_drawn (id := 8) hM (Sub.all _) [4, 8, 12, 16] [(0, 0), (1, 0), (2, 0), (3, 0), (4, 1), (5, 0), (6, 0), (7, 0), (8, 1), (9, 0), (10, 0), (11, 0), (12, 1), (13, 0), (14, 0), (15, 0), (16, 1), (17, 0), (18, 2), (19, 3)] (by kernel_rfl) (by kernel_rfl) ?_); (clear hM; intro w hM Kr hKr); simp only [opsOf, List.getD_cons_zero, List.getD_cons_succ])))
      (refine St.call3 rfl rfl (by kernel_rfl) (fun R hR => ?_); simp only [List.map_toArray, List.map_cons, List.map_nil, Act.eval, getD_lit, List.getD_cons_zero, List.getD_cons_succ])
      have hbl := hM.to_below
      have hMw := hM
      refine (CK2.out _).mono ?_
      rintro e w' ⟨rfl, rfl⟩; refine hR.out _ _ ?_; clear hR R; (try simp only [Act.put, List.setIfInBounds_toArray, List.set_cons_zero, List.set_cons_succ])
      (repeat (fail))
      (refine St.call3 rfl rfl (by kernel_rfl) (fun R hR => ?_); simp only [List.map_toArray, List.map_cons, List.map_nil, Act.eval, getD_lit, List.getD_cons_zero, List.getD_cons_succ])
      refine (CS2.out _ hbl).mono ?_
      rintro e w' ⟨v, rfl, hrow, hb⟩
      have e1 : (n.names.map fun p => Value.string p.1) = (n.names.map Prod.fst).map Value.string := by rw [List.map_map]; rfl
      have e2 : n.names.length = (n.names.map Prod.fst).length := by simp
      rw [e1, e2] at hrow
      obtain ⟨s2, rfl, hok2, hst⟩ := st_of_own hrow hb (Nat.le_succ _)
      refine hR.out _ _ ?_; clear hR R hM hbl hrow hb e1
      have hM := hMw.madeM hst (txL_flag s2 (n.names.map Prod.fst))
      clear hst hMw
      obtain ⟨vb, vd, hsv2, hsb⟩ := slV_open hok2
      rw [hsv2]
      rw [← e2] at hsv2 hok2 ⊢
      have HK2 := Lib.hid hok2
      clear hok2 hsv2 e2 CS2 CK2
      (try simp only [Act.put, List.setIfInBounds_toArray, List.set_cons_zero, List.set_cons_succ])
      (repeat (first | ((with_reducible show wpSeq _ _ _ _ _ _ _); first | ((with_reducible refine wpSeq_nil ?_); refine hKr.out _ _ ?_; clear hKr Kr) | ((first | (refine St.copy (v := ?_) (by exact .inl rfl) rfl rfl ?_ ?_; rotate_left; (focus ((try simp only [Act.eval, getD_lit, List.getD_cons_zero, List.getD_cons_succ]); with_reducible rfl))) | (refine St.pure (v := ?_) rfl rfl rfl (fun w => ?_) ?_; rotate_left; (focus (go_simp; all_goals with_reducible rfl)))); (try simp only [Act.put, List.setIfInBounds_toArray, List.set_cons_zero, List.set_cons_succ]))) | (first | refine wp_block ?_ | ((refine hK.out _ _ ?_); clear hK K))))
      generalize bk = nb at *
      go_loopw [55] (fun i wr2 => ∃ (j : Nat) (s3 : Option (Nat × Nat)), j ≤ n.names.length ∧ i = .int .i64 j ∧ SlOK s3 j (entC (n.names.take j)) 2 ∧
        St w0 [] wr2 (txL s2 (n.names.map Prod.fst) ++ ((nb, true, .cells [.int .i64 n.id, .bool n.dir, .int .i64 n.links, .int .i64 n.holds, .string n.data, slV s3 j] 124) :: (slL s3 (entC (n.names.take j)) 127 2 ++
          ((g1, true, Res.pre ((t.nodes.map (·.id)).map (Value.int .i64)) 3 (vc * 1)) :: (slL s (zs.flatMap NodV.cells) 124 6 ++ zs.flatMap NodV.ents)))))) (fun i _ => n.names.length - (intOf i).toNat)
      case atStart => exact ⟨0, none, by omega, rfl, ⟨rfl, rfl⟩, hM⟩
      case round =>
        clear hM
        obtain ⟨j, s3, hj, rfl, hok3, hM⟩ := hrel
        have HK3 := Lib.hid hok3
        clear hok3
        by_cases hlt : j < n.names.length
        · obtain ⟨p, hp⟩ := get_at hlt
          obtain ⟨nm, idv⟩ := p
          cases s2 with
          | none => exact absurd HK2.out.2 (by omega)
          | some gc =>
          obtain ⟨g2, cap2⟩ := gc
          obtain ⟨rfl, rfl⟩ := hsb g2 cap2 rfl
          have hpm := List.mem_of_getElem? hp
          have hx2 : ((n.names.map Prod.fst).map Value.string)[j]? = some (.string nm) := by rw [List.getElem?_map, List.getElem?_map, hp]; rfl
          have j1 : (j : Int) < (n.names.length : Int) := by omega
          have hks := keys_small HNM.out (nm, idv) hpm
          have hlk : lookL (namesL n.names) (.string nm.data.toList) (.int .i64 0) = .int .i64 idv := by rw [look_names, In.leads_at HSN.out hpm]
          have hen : entC (n.names.take j) ++ [.string nm, .int .i64 idv] = entC (n.names.take (j + 1)) := by
            unfold entC
            rw [List.take_add_one, hp, Option.toList_some, List.flatMap_append]
            rfl
          clear hp hpm hlt
          change St w0 [] _ ((g2, true, Res.pre ((n.names.map Prod.fst).map Value.string) 9 (vd * 1)) :: (nb, true, _) :: (slL s3 (entC (n.names.take j)) 127 2 ++ _)) at hM
          (repeat (first | ((with_reducible show wpSeq _ _ _ _ _ _ _); first | ((with_reducible refine wpSeq_nil ?_); refine hKr.out _ _ ?_; clear hKr Kr) | ((first | (refine St.copy (v := ?_) (by first | exact .inl rfl | exact .inr rfl) rfl rfl ?_ ?_; rotate_left; (focus ((try simp only [Act.eval, getD_lit, List.getD_cons_zero, List.getD_cons_succ]); with_reducible rfl))) | (refine St.pure (v := ?_) rfl rfl rfl (fun w => ?_) ?_; rotate_left; (focus (go_simp; all_goals with_reducible rfl))) | refine St.load rfl hM rfl rfl rfl rfl (by repeat constructor) (by first | rfl | assumption) (by kernel_rfl) ?_ | refine St.load1 rfl rfl rfl rfl (by repeat constructor) (by rfl) (by kernel_rfl) ?_ | refine St.loadF1 rfl rfl rfl rfl (fun w' hS => hS.old (by assumption)) (by kernel_rfl) ?_); (try simp only [Act.put, List.setIfInBounds_toArray, List.set_cons_zero, List.set_cons_succ]))) | (first | (refine wp_seq_shut (fun K hK => ?_)) | (refine wp_text hM (fun Kr hKr => ?_); simp only [inText]) | refine wp_block ?_ | refine wp_skip ?_ | (refine wp_cond_true rfl ?_) | ((refine hK.out _ _ ?_); clear hK K)) | ((refine wp_drawn (id := 12) hM (Sub.skip (Sub.take Sub.nil)) [1, 6] [(0, 0), (1, 1), (2, 0), (3, 0), (4, 0), (5, 0), (6, 1), (7, 2), (8, 2), (9, 2), (10, 2), (11, 2), (12, 3), (13, 3)] (by kernel_rfl) (by kernel_rfl) ?_); (clear hM; intro w hM Kr hKr); simp only [opsOf, List.getD_cons_zero, List.getD_cons_succ])))
          (refine St.lookupF rfl hM rfl rfl rfl rfl HNM.out key_str Tryz.underlying164 zero_int (WideMaps.keyOf_string_mk Tryz.underlying9 hks) hlk ?_)
          (try simp only [Act.put, List.setIfInBounds_toArray, List.set_cons_zero, List.set_cons_succ])
          (repeat (((with_reducible show wpSeq _ _ _ _ _ _ _); ((first | (refine St.pure (v := ?_) rfl rfl rfl (fun w => ?_) ?_; rotate_left; (focus (go_simp; all_goals with_reducible rfl))) | (((((refine St.buildSlice (cells := ?_) (e := ?_) rfl hM rfl rfl (fun w => ?_) ?_; rotate_left 2; (focus (go_simp; all_goals with_reducible rfl)))); clear hM; intro w bk hM)); (try simp only [Res.put, Res.known, Act.eval, Value.cells, getD_lit, List.getD_cons_zero, List.getD_cons_succ, List.toList_toArray, List.set_cons_zero, List.set_cons_succ, over, Nat.reduceAdd] at hM))); (try simp only [Act.put, List.setIfInBounds_toArray, List.set_cons_zero, List.set_cons_succ])))))
          have hap : ∀ k', s3.map (·.1) = some k' → nb ≠ k' := fun k' hk' e => by
            cases s3 with
            | none => cases hk'
            | some gg =>
              have hnd := hM.nd
              simp only [slL, List.map_cons, List.map_append, List.nodup_cons, List.mem_cons, List.mem_append, List.map_nil, List.not_mem_nil, or_false, not_or] at hnd
              have : gg.1 = k' := by simpa using hk'
              omega
          refine St.append2 (s := s3) (n := j) (xs := entC (n.names.take j)) rfl hM rfl rfl rfl rfl rfl (by kernel_rfl) (by intro s'; repeat (first | exact Swap.here | apply Swap.skip)) HK3.out rfl (hM.news (by repeat constructor)) rfl (by rw [maxLen_val]; omega) (by omega) (fun _ z hz => by rcases List.mem_singleton.1 hz with rfl; exact hap) ?_
          clear hM hap; intro w s4 hM hk4 hs4
          simp only [Res.known] at hM hk4
          rw [hen] at hM hk4
          cases s4 with
          | none => exact absurd rfl (hs4 (Nat.succ_pos _))
          | some gc4 =>
          obtain ⟨g4, cap4⟩ := gc4
          have HK4 := Lib.hid hk4
          replace hM := hM.forget
          clear hs4 hk4 hlk hen
          (try simp only [Act.put, List.setIfInBounds_toArray, List.set_cons_zero, List.set_cons_succ])
          (repeat (first | ((with_reducible show wpSeq _ _ _ _ _ _ _); first | ((with_reducible refine wpSeq_nil ?_); refine hKr.out _ _ ?_; clear hKr Kr) | ((first | (refine St.copy (v := ?_) (by exact .inl rfl) rfl rfl ?_ ?_; rotate_left; (focus ((try simp only [Act.eval, getD_lit, List.getD_cons_zero, List.getD_cons_succ]); with_reducible rfl))) | refine St.inc rfl rfl rfl rfl rfl (by omega) ?_ | (refine St.pure (v := ?_) rfl rfl rfl (fun w => ?_) ?_; rotate_left; (focus (go_simp; all_goals with_reducible rfl))) | ((((refine St.store rfl hM rfl rfl rfl rfl rfl (by repeat constructor) (Nat.le_of_ble_eq_true rfl) (by kernel_rfl) rfl ?_ ?_); (focus ((intro h; cases h; done))); clear hM; intro w hM)); (try simp only [Res.put, Res.known, Act.eval, Value.cells, getD_lit, List.getD_cons_zero, List.getD_cons_succ, List.toList_toArray, List.set_cons_zero, List.set_cons_succ, over, Nat.reduceAdd] at hM))); (try simp only [Act.put, List.setIfInBounds_toArray, List.set_cons_zero, List.set_cons_succ]))) | (first | (refine wp_text hM (fun Kr hKr => ?_); simp only [inText]) | ((refine hK.out _ _ ?_); clear hK K))))
          (refine ⟨?_, ?_⟩; (focus (repeat (first | exact ⟨⟨j + 1, some (g4, cap4), by omega, rfl, HK4.out, hM⟩, rfl⟩ | apply Exists.intro))); (simp only [getD_lit, List.getD_cons_zero, List.getD_cons_succ, intOf]; omega))
        · have k0 : ¬ ((j : Int) < (n.names.length : Int)) := by omega
          obtain rfl : j = n.names.length := by omega
          clear hlt hj
          rw [List.take_length] at hM HK3
          replace hM := hM.subM (List.sublist_append_right _ _)
          obtain ⟨v3, c3', hsv3, -⟩ := slV_open HK3.out
          rw [hsv3] at hM
          have HV3 := Lib.hid hsv3
          clear hsv3
          (repeat (first | ((with_reducible show wpSeq _ _ _ _ _ _ _); first | ((with_reducible refine wpSeq_nil ?_); refine hKr.out _ _ ?_; clear hKr Kr) | ((first | (refine St.copy (v := ?_) (by exact .inl rfl) rfl rfl ?_ ?_; rotate_left; (focus ((try simp only [Act.eval, getD_lit, List.getD_cons_zero, List.getD_cons_succ]); with_reducible rfl))) | (refine St.pure (v := ?_) rfl rfl rfl (fun w => ?_) ?_; rotate_left; (focus (go_simp; all_goals with_reducible rfl))) | ((refine St.loadRow rfl hM rfl rfl rfl rfl (by repeat constructor) (Nat.le_of_ble_eq_true rfl) (by kernel_rfl) ?_); (try simp only [Res.known, List.drop_succ_cons, List.drop_zero, List.take_succ_cons, List.take_zero])) | (((((refine St.buildSlice (cells := ?_) (e := ?_) rfl hM rfl rfl (fun w => ?_) ?_; rotate_left 2; (focus (go_simp; all_goals with_reducible rfl)))); clear hM; intro w bk hM)); (try simp only [Res.put, Res.known, Act.eval, Value.cells, getD_lit, List.getD_cons_zero, List.getD_cons_succ, List.toList_toArray, List.set_cons_zero, List.set_cons_succ, over, Nat.reduceAdd] at hM))); (try simp only [Act.put, List.setIfInBounds_toArray, List.set_cons_zero, List.set_cons_succ]))) | (first | (refine wp_seq_shut (fun K hK => ?_)) | (refine wp_text hM (fun Kr hKr => ?_); simp only [inText]) | (refine wp_cond_false rfl ?_) | (refine wp_exit ?_; simp only [Exit.then, Exit.inBlock, if_true, if_false, reduceCtorEq, Nat.reduceEqDiff, Nat.succ_ne_zero]) | ((first | refine hK.out _ _ ?_ | (clear hK K; refine hK.out _ _ ?_)); clear hK K))))
          refine St.append (s := s) (n := zs.length) (xs := zs.flatMap NodV.cells) rfl hM rfl rfl rfl rfl rfl (by kernel_rfl) (by intro s'; repeat (first | exact Swap.here | apply Swap.skip | apply Swap.past)) HS.out rfl (hM.news (by repeat constructor)) rfl (by rw [maxLen_val]; omega) (by omega) (fun _ => .inl rfl) ?_
          clear hM; intro w s' hM hk' hs'
          simp only [Res.known] at hM hk'
          let z : NodV := (n, s3)
          have hfl : zs.flatMap NodV.cells ++ [.int .i64 n.id, .bool n.dir, .int .i64 n.links, .int .i64 n.holds, .string n.data, .slice v3 n.names.length c3'] = (zs ++ [z]).flatMap NodV.cells := by
            rw [← HV3.out]
            simp [z, List.flatMap_append, NodV.cells]
          have hle : zs.length + 1 = (zs ++ [z]).length := by simp
          have hee : (zs ++ [z]).flatMap NodV.ents = zs.flatMap NodV.ents ++ slL s3 (entC n.names) 127 2 := by simp [z, List.flatMap_append, NodV.ents]
          rw [hfl] at hM hk'
          replace hM := (hM.forget.forget).perm (L' := (g1, true, Res.pre ((t.nodes.map (·.id)).map (Value.int .i64)) 3 (vc * 1)) :: (slL s' ((zs ++ [z]).flatMap NodV.cells) 124 6 ++ (zs ++ [z]).flatMap NodV.ents)) (by
            rw [hee]
            refine List.perm_append_comm.trans ?_
            simp only [List.cons_append, List.append_assoc]
            exact List.Perm.refl _)
          rw [hle] at hk' ⊢
          have HS' := Lib.hid hk'
          have hz' : (zs ++ [z]).map (·.1) = t.nodes.take (k + 1) := by
            rw [List.take_add_one, HN.out, List.map_append, HZ.out]
            rfl
          have hn' : ∀ y ∈ zs ++ [z], SlOK y.2 y.1.names.length (entC y.1.names) 2 := fun y hy => by
            rcases List.mem_append.1 hy with hy | hy
            · exact HE.out y hy
            · rcases List.mem_singleton.1 hy with rfl
              exact HK3.out
          generalize zs ++ [z] = zs' at *
          clear hk' hs' hfl hle hee
          (try simp only [Act.put, List.setIfInBounds_toArray, List.set_cons_zero, List.set_cons_succ])
          (repeat (first | ((with_reducible show wpSeq _ _ _ _ _ _ _); first | ((with_reducible refine wpSeq_nil ?_); refine hKr.out _ _ ?_; clear hKr Kr) | ((first | (refine St.copy (v := ?_) (by first | exact .inl rfl | exact .inr rfl) rfl rfl ?_ ?_; rotate_left; (focus ((try simp only [Act.eval, getD_lit, List.getD_cons_zero, List.getD_cons_succ]); with_reducible rfl))) | refine St.inc rfl rfl rfl rfl rfl (by omega) ?_); (try simp only [Act.put, List.setIfInBounds_toArray, List.set_cons_zero, List.set_cons_succ]))) | (first | (refine wp_text hM (fun Kr hKr => ?_); simp only [inText]) | ((refine hK.out _ _ ?_); clear hK K))))
          (refine ⟨?_, ?_⟩; (focus (repeat (first | exact ⟨⟨k + 1, s', zs', by omega, rfl, rfl, hz', HS'.out, hn', hM⟩, rfl⟩ | apply Exists.intro))); (simp only [getD_lit, List.getD_cons_zero, List.getD_cons_succ, intOf]; omega))
    · have k0 : ¬ ((k : Int) < (t.nodes.length : Int)) := by omega
      obtain rfl : k = t.nodes.length := by omega
      clear hlt hk
      (repeat (first | ((with_reducible show wpSeq _ _ _ _ _ _ _); first | ((with_reducible refine wpSeq_nil ?_); refine hKr.out _ _ ?_; clear hKr Kr) | ((first | (refine St.copy (v := ?_) (by first | exact .inl rfl | exact .inr rfl) rfl rfl ?_ ?_; rotate_left; (focus ((try simp only [Act.eval, getD_lit, List.getD_cons_zero, List.getD_cons_succ]); with_reducible rfl))) | (refine St.pure (v := ?_) rfl rfl rfl (fun w => ?_) ?_; rotate_left; (focus (go_simp; all_goals with_reducible rfl)))); (try simp only [Act.put, List.setIfInBounds_toArray, List.set_cons_zero, List.set_cons_succ]))) | (first | (refine wp_seq_shut (fun K hK => ?_)) | (refine wp_text hM (fun Kr hKr => ?_); simp only [inText]) | (refine wp_cond_false rfl ?_) | (refine wp_exit ?_; simp only [Exit.then, Exit.inBlock, if_true, if_false, reduceCtorEq, Nat.reduceEqDiff, Nat.succ_ne_zero]) | ((first | refine hK.out _ _ ?_ | (clear hK K; refine hK.out _ _ ?_)); clear hK K))))
      ((refine wp_ret ?_; (try simp only [Exit.then, Exit.inBlock]); refine St.ret hM rfl (by repeat (first | exact Outs.nil | apply Outs.tmp rfl)) rfl ?_))
      have e := HZ.out
      rw [List.take_length] at e
      refine ⟨s, zs, rfl, e, HS.out, HE.out, ?_⟩
      exact hM.subM (List.sublist_append_right _ _)
end
end Go.Proofs.YtcicjklhbnipcaaGreatDoor
