/-
  Layer 8: Nodes, walked: a table's inodes by their numbers, each with its names, in lists that the call itself makes.
-/
import Derived.Test.YtfepbjlaffpojaaGreatNodA
import Derived.Test.YtfepbjlaffpojaaGreatInoV
import Derived.BigRegion
import Derived.Deep.RegionLaw
namespace Go.Proofs.YtfepbjlaffpojaaGreat
set_option linter.unusedVariables false
open Go.RowKit Go.Maps

theorem node_info : (Tryz.prog.info? 73).map (fun i => (i.zero, i.size, i.bytes)) = some (some (.agg #[.int .i64 0, .bool false, .int .i64 0, .int .i64 0, .string ByteArray.empty, .slice none 0 0]), 6, 72) := by kernel_rfl
theorem entry_info : (Tryz.prog.info? 79).map (fun i => (i.zero, i.size, i.bytes)) = some (some (.agg #[.string ByteArray.empty, .int .i64 0]), 2, 24) := by kernel_rfl
theorem own_cell {w : World} {base : Nat} {e : TypeId} {v : Value} {n : Nat} {xs : List Value} (h : w.ownsRow base e 1 v n xs) {k : Nat} {u : Value} (hu : xs[k]? = some u) : ∃ b c, v = .slice (some ⟨b, 0, none⟩) n c ∧ base ≤ b ∧ b < w.heap.size ∧ w.cell? ⟨b, k, none⟩ = some u := by
  obtain ⟨h1, h2⟩ := h
  have hk := (List.getElem?_eq_some_iff.1 hu).1
  rcases h2 with ⟨rfl, h0⟩ | ⟨g, cap, cur, rfl, hb, hg, _, _, _, h4⟩
  · omega
  · refine ⟨g, cap, rfl, hb, (Array.getElem?_eq_some_iff.1 hg).1, ?_⟩
    rw [cell_of_row w g k cur e _ hg]
    rw [← h4, List.getElem?_take_of_lt (by omega), Array.getElem?_toList] at hu
    exact hu
theorem bel_lt {w : World} {g mb : Nat} {β : Int → Nat × Nat} {t : TabD} (h : TblAt w g mb β t) {n : NodeD} (hn : n ∈ t.nodes) : g < w.heap.size ∧ (β n.id).1 < w.heap.size ∧ (β n.id).2 < w.heap.size :=
  ⟨h.lt _ (mem_foot.2 (.inl rfl)), h.lt _ (mem_foot.2 (.inr (.inr ⟨n, hn, .inl rfl⟩))), h.lt _ (mem_foot.2 (.inr (.inr ⟨n, hn, .inr rfl⟩)))⟩
theorem NodeAt.below {w w' : World} {b m : Nat} {n : NodeD} (h : NodeAt w b m n) (hb : Below w.heap.size w w') (h1 : b < w.heap.size) (h2 : m < w.heap.size) : NodeAt w' b m n := h.on (hb.block b h1) (hb.block m h2)
theorem Only.cell {F : List Nat} {w w' : World} (h : Only F w w') {p : Addr} (hp : p.block < w.heap.size) (hF : p.block ∉ F) : w'.cell? p = w.cell? p := World.cell?_of_block (h.block p.block hp hF)
theorem NodeIn.keeps {W9 W w1 : World} {gb : Nat} {n : NodeD} {j : Nat} {v : Value} (h : NodeIn W9 gb n j W v) {o : Obj} (hg : (W.drew.alloc o).grownBy w1 v.ownBlock) : w1.cell? ⟨gb, 5, none⟩ = some v ∧ w1.frozen? ⟨gb, 5, none⟩ = false := by
  have hs := h.only.size
  have lt := h.lt
  have hr : w1.heap[gb]? = W.heap[gb]? := (hg.block gb (by simp; omega) (fun e => by have := (own_block h.own gb e.symm).1; omega)).trans (Below.heap_alloc _ _ gb (by show gb < W.heap.size; omega))
  have hr := hr.trans h.row
  exact ⟨cell_row hr 5, free_row hr 5⟩
/-- One more inode is appended to the list. -/
theorem out_law {a b : Operand} {c : Oper} {d : List Oper} {e : Act} {f : Array Oper} {Q : Exit → Act → World → Prop} {W : World} {base : Nat} {oa : Option Addr} {k oc : Nat} {l : List NodeD} {n : NodeD} {nv : Value}
    (ho : OutAt W base (.slice oa k oc) l) (hn : NodeRow base (Value.slice oa k oc).ownBlock W 0 [.int .i64 n.id, .bool n.dir, .int .i64 n.links, .int .i64 n.holds, .string n.data, nv] n) (hk : l.length = k) (hl : k ≤ 1000000)
    (hgd : c.guard = none) (hop : c.op = .call { callee := .builtin .append, args := #[a, b], argTypes := #[30, 30] }) (ha : e.eval a = .slice oa k oc) (hb : e.eval b = .slice (some ⟨W.heap.size, 0, none⟩) 1 1)
    (h : ∀ v1 w5 cap g1, v1 = Value.slice (some ⟨g1, 0, none⟩) (k + 1) cap → OutAt w5 base v1 (l ++ [n]) → Below base W w5 → wpList Tryz.prog f Q d (e.put c.dst v1) w5) :
    wpList Tryz.prog f Q (c :: d) e (W.alloc (.cells #[.int .i64 n.id, .bool n.dir, .int .i64 n.links, .int .i64 n.holds, .string n.data, nv] 73)) := by
  obtain ⟨i0, hi, hz0, hz1, hz2⟩ := info_parts node_info
  have bA : Below W.heap.size W (W.alloc (.cells #[.int .i64 n.id, .bool n.dir, .int .i64 n.links, .int .i64 n.holds, .string n.data, nv] 73)) := (Below.refl _ W).alloc (Nat.le_refl _) _
  have hbase := ho.1
  obtain ⟨hb2, cells, h1, h2⟩ := ho.on bA
  have hnv : nv.oneCell' = true := by
    obtain ⟨nv', e1, e2, _⟩ := hn
    simp only [List.cons.injEq, and_true, true_and] at e1
    subst e1
    obtain ⟨_, _, rfl⟩ := own_form e2
    rfl
  subst hk
  refine wpList_append_lies _ hgd a b 30 hop base 73 i0 _ 6 72 Tryz.underlying30 hi hz0 hz1 hz2 rfl (by decide) (.slice oa l.length oc) l.length cells ha h1 ⟨W.heap.size, 0, none⟩ 1 1 [.int .i64 n.id, .bool n.dir, .int .i64 n.links, .int .i64 n.holds, .string n.data, nv] hb rfl (World.news_of_block (heap_alloc_new _ _))
    (by intro u hu; simp only [List.mem_cons, List.not_mem_nil, or_false] at hu; rcases hu with rfl | rfl | rfl | rfl | rfl | rfl <;> first | rfl | exact hnv) (by omega) (by rw [maxLen_val]; omega) (by omega) hb2 _ rfl ?_
  intro g1 cap w1 hown hgrow hat hlt
  refine h _ w1 cap g1 rfl ?_ ?_
  · exact OutAt.add h2 (hn.on (fun k _ hk _ => bA.block k hk) (.inl rfl)) hb2 hown hgrow hat rfl
  · exact (bA.mono hbase).grown hgrow hb2 (fun k hk => (own_block h1 k hk).1)
def RNodesOut (w : World) (t : TabD) (e : Ending) (w' : World) : Prop := ∃ a c base, e = .returned (.slice a t.nodes.length c) ∧ OutAt w' base (.slice a t.nodes.length c) t.nodes ∧ w.heap.size ≤ base ∧ Below w.heap.size w w'
section
variable {w : World} {g mb : Nat} {β : Int → Nat × Nat} {t : TabD}
set_option maxHeartbeats 4000000 in
set_option maxRecDepth 100000 in
theorem Nodes_any (h : TblAt w g mb β t) (hq : 0 < t.quota) (hid : ∀ n ∈ t.nodes, Fits n.id) (hl : t.nodes.length ≤ 1000000) (hlen : ∀ n ∈ t.nodes, n.names.length ≤ 1000000) (hso : ∀ n ∈ t.nodes, In.nameSorted n.names) :
    Calls Tryz.prog 9 #[.pointer (some ⟨g, 0, none⟩)] w (RNodesOut w t) := by
  have hg := given_yes h hq
  have c3 := (tbl_cells h).2.2.2
  have CK := Lib.hid (keysI_any (some mb) w)
  have CS := Lib.hid (sortedI_any w h.map (by omega))
  obtain ⟨L, hL⟩ : ∃ L, t.nodes.length = L := ⟨_, rfl⟩
  rw [hL] at hl
  have H := Lib.hid h
  have HI := Lib.hid hid
  have HN := Lib.hid hlen
  have HO := Lib.hid hso
  have HL := Lib.hid hL
  clear h hq hid hlen hso hL
  go_enter Tryz.func9, Tryz.ntmps9
  go_upto_region 5 with (first
    | (go_at_call 24; refine hg.mono ?_; rintro e w' ⟨rfl, rfl⟩)
    | (go_at_call 26; refine CK.out.mono ?_; rintro e w' ⟨rfl, rfl⟩)
    | (go_at_call 25; refine CS.out.mono ?_; rintro e w2 ⟨v, rfl, hrow, hb⟩; rw [HL.out] at hrow; obtain ⟨sa, sc, rfl⟩ := own_form hrow; have HR := Lib.hid hrow; have HB := Lib.hid hb; clear hrow hb))
  go_loopw [3, 20] (fun out i W => ∃ k a c, k ≤ L ∧ i = .int .i64 k ∧ out = .slice a k c ∧ Below w2.heap.size w2 W ∧ Hid (OutAt W w2.heap.size (.slice a k c) (t.nodes.take k))) (fun _ i _ => L - (intOf i).toNat)
  case atStart => exact ⟨0, none, 0, by omega, rfl, rfl, Below.refl _ _, OutAt.nil _⟩
  case round =>
    obtain ⟨k, oa, oc, hk, rfl, rfl, hbW, HOut⟩ := hrel
    by_cases hlt : k < L
    · obtain ⟨n, hn⟩ := get_at (show k < t.nodes.length by rw [HL.out]; omega)
      have hT := (H.out.below HB.out).below hbW
      have hm := List.mem_of_getElem? hn
      obtain ⟨d0, d1, d2, d3, d4⟩ := node_cells (hT.node n hm)
      have t3 := (tbl_cells hT).2.2.2
      have lk := look_at hT (HI.out n hm)
      rw [ptr_some (find_of hT.ids hm)] at lk
      obtain ⟨sb, sc', e1, _, sl, s0⟩ := own_cell (own_below HR.out hbW) (k := k) (u := .int .i64 n.id) (by rw [List.getElem?_map, hn]; rfl)
      injection e1 with e1 e2 e3
      subst e1 e3
      have hnode := Lib.hid (hT.node n hm)
      have HT := Lib.hid hT
      have hkz : (k : Int) < L := by omega
      have HB2 := Lib.hid hbW
      have HM := Lib.hid hm
      have hN := Lib.hid hn
      have fg := bel_lt hT hm
      clear hT hm hn hbW
      go_upto_region 8 with fail
      generalize β n.id = bm at d0 d1 d2 d3 d4 lk fg hnode
      go_region
      generalize hw8 : (wr.alloc _).drew = w8
      have HB8 := Lib.hid (show Below wr.heap.size wr w8 by rw [← hw8]; exact ((Below.refl _ wr).alloc (Nat.le_refl _) _).drew)
      have s8 : w8.heap.size = wr.heap.size + 1 := by rw [← hw8]; exact size_alloc _ _
      have r8 : w8.heap[wr.heap.size]? = some (.cells #[.int .i64 n.id, .bool n.dir, .int .i64 n.links, .int .i64 n.holds, .string n.data, .slice none 0 0] 73 (0, 0)) := by rw [← hw8]; exact heap_alloc_new wr _
      clear hw8 d0 d1 d2 d3 t3 lk s0
      obtain ⟨gb, hgb⟩ : ∃ gb, wr.heap.size = gb := ⟨_, rfl⟩
      have hN8 := Lib.hid (hnode.out.below HB8.out fg.2.1 fg.2.2)
      have d4 := (node_cells hN8.out).2.2.2.2
      have CK2 := Lib.hid (keysS_any (some bm.2) w8)
      obtain ⟨M, hM⟩ : ∃ M, n.names.length = M := ⟨_, rfl⟩
      have hMl := HN.out n HM.out
      rw [hM] at hMl
      have CS2 := Lib.hid (sortedS_any w8 hN8.out.names (by omega))
      have HMM := Lib.hid hM
      rw [hgb] at s8 r8 ⊢
      have F := Lib.hid fg
      have R8 := Lib.hid r8
      have S8 := Lib.hid s8
      clear hM r8 fg s8
      go_upto_region 10 with (first
        | (go_at_call 28; refine CK2.out.mono ?_; rintro e w' ⟨rfl, rfl⟩)
        | (go_at_call 27; refine CS2.out.mono ?_; rintro e w9 ⟨v, rfl, hrow, hb⟩; rw [HMM.out] at hrow; obtain ⟨na, nc, rfl⟩ := own_form hrow; have HR9 := Lib.hid hrow; have HB9 := Lib.hid hb; clear hrow hb))
      have s9 := HB9.out.size
      have s8 := S8.out
      have NI0 : NodeIn w9 gb n 0 w9 (.slice none 0 0) := ⟨Only.refl _ _, (HB9.out.block gb (by omega)).trans R8.out, World.ownsRow_nil _ _ _ _, by omega⟩
      go_loopw [55] (fun i W => ∃ j a c, j ≤ M ∧ i = .int .i64 j ∧ Hid (NodeIn w9 gb n j W (.slice a j c))) (fun i _ => M - (intOf i).toNat)
      case atStart => exact ⟨0, none, 0, by omega, rfl, NI0⟩
      case round =>
        obtain ⟨j, ja, jc, hj, rfl, HNI⟩ := hrel
        rename World => wi
        have hWs := HNI.out.only.size
        have hN8W : NodeAt wr bm.1 bm.2 n := hnode.out
        have bW : Below gb wr wi := (HB8.out.mono (by omega)).trans ((HB9.out.mono (by have := S8.out; omega)).trans (HNI.out.only.to_below (by omega) (by intro x hx; simp at hx; omega)))
        have hNW := Lib.hid (hN8W.on (bW.block bm.1 (by have := F.out; omega)) (bW.block bm.2 (by have := F.out; omega)))
        by_cases hlj : j < M
        · obtain ⟨p, hp⟩ := get_at (show j < n.names.length by rw [HMM.out]; omega)
          obtain ⟨nb, nc', q1, q2, q3, q4⟩ := own_cell HR9.out (k := j) (u := .string p.1) (by rw [List.getElem?_map, hp]; rfl)
          injection q1 with q5 q6 q7
          subst q5 q7
          have c0 : wi.cell? ⟨nb, j, none⟩ = some (.string p.1) := (HNI.out.only.cell (p := ⟨nb, j, none⟩) q3 (by simp; omega)).trans q4
          have c5 : wi.cell? ⟨gb, 5, none⟩ = some (.slice ja j jc) := cell_row HNI.out.row 5
          have e4 := (node_cells hNW.out).2.2.2.2
          have hpm := List.mem_of_getElem? hp
          have lk2 := look_name (w := wi.drew) (MapAt.on hNW.out.names rfl) (s := p.1) (keys_small hNW.out.names p hpm)
          rw [In.leads_at (HO.out n HM.out) hpm] at lk2
          have HOWN := Lib.hid (fun o => (own_below (w' := wi.drew.alloc o) HNI.out.own (((Below.refl _ wi).drew).alloc (Nat.le_refl _) o)))
          have KP := Lib.hid (fun o w1 (hg : (wi.drew.alloc o).grownBy w1 _) => HNI.out.keeps hg)
          have ltg : gb < wi.heap.size := by omega
          have ltb : bm.1 < wi.heap.size := by have := F.out; omega
          have hjz : (j : Int) < M := by omega
          have HP := Lib.hid hp
          obtain ⟨i0, hi, hz0, hz1, hz2⟩ := info_parts entry_info
          clear q2 q3 q4 hp hpm bW hN8W
          go_upto_region 12 with fail
          go_region_law (refine step_append_lies _ (by rfl) (.tmp 60) (.tmp 69) 71 (by rfl) w9.heap.size 79 i0 _ 2 24 Tryz.underlying71 hi hz0 hz1 hz2 rfl (by decide) (.slice ja j jc) j (entryCells (n.names.take j)) (by rfl) (HOWN.out _) ⟨wi.heap.size, 0, none⟩ 1 1 [.string p.1, .int .i64 p.2] (by rfl) rfl (World.news_of_block (heap_alloc_new _ _)) (by intro u hu; simp at hu; rcases hu with rfl | rfl <;> rfl) (by omega) (by rw [maxLen_val]; omega) (by omega) (by simp; omega) (wi.heap.size + 1) (by simp) ?_; intro g1 cap w1 hown hgrow hat hlt; obtain ⟨k5, f5⟩ := KP.out _ w1 hgrow; have HOW := Lib.hid hown; have HGR := Lib.hid hgrow; clear hown hgrow hat)
          all_goals
            have NI := Lib.hid (HNI.out.add HP.out HOW.out HGR.out)
            generalize World.setCell _ _ _ = w5 at NI ⊢
            clear k5 f5 HOW HGR c5 e4 lk2 c0
            go_wp2_with fail
            go_roundw
            case rel => exact ⟨j + 1, by omega, by go_num, some ⟨g1, 0, none⟩, cap, NI⟩
            case measure => simp [intOf]; omega
        · obtain rfl : j = M := by omega
          have m0 := cell_row HNI.out.row 0
          have m1 := cell_row HNI.out.row 1
          have m2 := cell_row HNI.out.row 2
          have m3 := cell_row HNI.out.row 3
          have m4 := cell_row HNI.out.row 4
          have m5 := cell_row HNI.out.row 5
          simp only [List.getElem?_toArray, List.getElem?_cons_zero, List.getElem?_cons_succ] at m0 m1 m2 m3 m4 m5
          have s2 := HB2.out.size
          have OI := (HOut.out.on (by rw [hgb]; exact bW))
          have hkl : (t.nodes.take k).length = k := by rw [List.length_take, HL.out]; omega
          have NR : NodeRow w2.heap.size (Value.slice oa k oc).ownBlock wi 0 [.int .i64 n.id, .bool n.dir, .int .i64 n.links, .int .i64 n.holds, .string n.data, .slice ja j jc] n := by
            refine ⟨_, rfl, ?_, ?_⟩
            · have := own_mono (base' := w2.heap.size) HNI.out.own (by omega)
              rw [List.take_of_length_le (by rw [HMM.out]; omega)] at this
              rw [HMM.out]
              exact this
            · intro kk hkk e
              obtain ⟨_, cells, oc1, _⟩ := HOut.out
              have a1 := (own_block oc1 kk e).2
              have a2 := (own_block HNI.out.own kk hkk).1
              omega
          have LAW := Lib.hid (fun Q a b c d e f => out_law (Q := Q) (a := a) (b := b) (c := c) (d := d) (e := e) (f := f) OI NR hkl (by omega))
          have BB := Lib.hid ((HB2.out.trans (bW.mono (by omega))))
          have HN2 := Lib.hid (show t.nodes.take k ++ [n] = t.nodes.take (k + 1) by rw [List.take_add_one, hN.out]; rfl)
          clear OI NR bW hN8W hNW
          go_wp2_with (refine LAW.out _ _ _ _ _ _ _ rfl (by rfl) (by rfl) (by rfl) ?_; intro v1 w5 cap g1 hv hO hB5; subst hv; have HO5 := Lib.hid hO; have HB5 := Lib.hid hB5; clear hO hB5)
          go_roundw
          case rel =>
            have ho5 := HO5.out
            rw [HN2.out] at ho5
            have hb5 := BB.out.trans HB5.out
            have hle : k + 1 ≤ L := by omega
            first
              | exact ⟨k + 1, hle, by go_num, some ⟨g1, 0, none⟩, cap, rfl, hb5, ho5⟩
              | exact ⟨k + 1, some ⟨g1, 0, none⟩, cap, hle, by go_num, rfl, hb5, ho5⟩
              | exact ⟨k + 1, hle, by go_num, some ⟨g1, 0, none⟩, cap, by simp, hb5, ho5⟩
              | exact ⟨k + 1, hle, by go_num, hb5, ho5⟩
          case measure => simp [intOf]; omega
    · obtain rfl : k = L := by omega
      have ho := HOut.out
      rw [List.take_of_length_le (by rw [HL.out]; omega)] at ho
      have ho := Lib.hid ho
      have HB2 := Lib.hid (HB.out.trans (hbW.mono HB.out.size))
      clear HOut
      go_wp2_with fail
      go_ret
      exact ⟨oa, oc, w2.heap.size, by rw [HL.out]; rfl, by rw [HL.out]; exact ho.out, HB.out.size, HB2.out⟩
end
end Go.Proofs.YtfepbjlaffpojaaGreat
