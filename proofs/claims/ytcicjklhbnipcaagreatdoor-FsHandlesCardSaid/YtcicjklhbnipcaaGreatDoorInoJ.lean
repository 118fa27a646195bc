/-
  Layer 8: Read, Make, New, walked.
-/
import Derived.Test.YtcicjklhbnipcaaGreatDoorInoI
namespace Go.Proofs.YtcicjklhbnipcaaGreatDoor
set_option linter.unusedVariables false
set_option linter.unusedSimpArgs false
open Go.RowKit Go.Maps

theorem extract_twice (d : ByteArray) (a k : Nat) (ha : a ≤ d.size) (hk : k ≤ d.size - a) : (d.extract a d.size).extract 0 k = d.extract a (a + k) := by
  apply ByteArray.ext
  rw [ByteArray.data_extract, ByteArray.data_extract, ByteArray.data_extract]
  rw [Array.extract_extract]
  congr 1
  omega
section
variable {w : World} {g mb : Nat} {β : Int → Nat × Nat} {t : TabD}
set_option maxHeartbeats 1000000 in
theorem Read_any (h : TblAt w g mb β t) (F : Fit t) {id : Int} (hid : Fits id) (a n : Int) :
    Calls Tryz.prog 109 #[.pointer (some ⟨g, 0, none⟩), .int .i64 id, .int .i64 a, .int .i64 n] w fun e w' => e = .returned (.tuple #[.string (In.read t id a n), .int .i64 (In.readE t id a n)]) ∧ Below w.heap.size w w' := by
  obtain ⟨E, hE⟩ : ∃ E, In.readE t id a n = E := ⟨_, rfl⟩
  obtain ⟨S, hS⟩ : ∃ S, In.read t id a n = S := ⟨_, rfl⟩
  have hS' : S = if E == 0 then In.part (In.at_ t id).data a n else ByteArray.empty := by rw [← hS, ← hE]; rfl
  rw [hE, hS]
  have HS := Lib.hid hS'
  clear hS hS'
  have hE : In.fileE t id (min a n) = E := hE
  rcases fileE_dec (t := t) (id := id) (k := min a n) with ⟨h1, x, hx, hxd, hk⟩ | h1
  · have cf := file_yes h F.q0 hid hx hxd hk
    rw [h1] at hE
    subst hE
    have hk0 := of_decide_eq_false hk
    obtain ⟨m, rfl⟩ : ∃ m : Nat, a = m := ⟨a.toNat, by omega⟩
    obtain ⟨k, rfl⟩ : ∃ k : Nat, n = k := ⟨n.toNat, by omega⟩
    have HP := Lib.hid (show S = In.part x.data m k by rw [HS.out, at_find hx]; rfl)
    have d3 := (node_cells (h.at hx)).2.2.2.1
    have hds := F.data x (find_mem hx).1
    have e1 : min (m : Int) (x.data.size : Int) = ((min m x.data.size : Nat) : Int) := by omega
    have z1 : (0 : Int) ≤ ((min m x.data.size : Nat) : Int) := by omega
    have z2 : ((min m x.data.size : Nat) : Int) ≤ x.data.size := by omega
    clear h F h1 hx hxd hk hk0
    go_enter Tryz.func109, Tryz.ntmps109
    go_wp2_with (go_at_call 162; refine cf.mono ?_; rintro e w' ⟨rfl, rfl⟩)
    go_quiet (fail)
    go_wp2_with fail
    go_ret2
    refine ⟨?_, drewN_same _ _⟩
    rw [HP.out]
    refine congrArg (fun z => Ending.returned (.tuple #[.string z, .int .i64 0])) (?_ : (x.data.extract (min m x.data.size) x.data.size).extract 0 _ = _)
    rw [extract_twice _ _ _ (by omega) (by omega)]
    show x.data.extract _ _ = x.data.extract (min (m : Int).toNat x.data.size) _
    congr 1
    omega
  · have cf := file_no h F.q0 hid hE (hE ▸ h1)
    have e0 := bne0_true (hE ▸ h1 : E ≠ 0)
    have HP := Lib.hid (show S = ByteArray.empty by rw [HS.out, beq0_false (hE ▸ h1 : E ≠ 0)]; rfl)
    clear h F h1 hE
    go_enter Tryz.func109, Tryz.ntmps109
    go_wp2_with (go_at_call 162; refine cf.mono ?_; rintro e w' ⟨rfl, rfl⟩)
    go_ret2
    rw [HP.out]
    exact ⟨rfl, Below.refl _ _⟩
/-- A table has gone on: its inodes may lie elsewhere, in new blocks. -/
def Goes (w : World) (g mb : Nat) (β : Int → Nat × Nat) (t : TabD) (w' : World) (t' : TabD) : Prop :=
  ∃ β', TblAt w' g mb β' t' ∧ Only (foot g mb β t.nodes) w w' ∧ ∀ k ∈ foot g mb β' t'.nodes, k ∈ foot g mb β t.nodes ∨ w.heap.size ≤ k
theorem Step.goes {w' : World} {t' : TabD} (S : Step w w' g mb β t t') : Goes w g mb β t w' t' := ⟨β, S.tbl, S.only, fun k hk => .inl (S.foot k hk)⟩
/-- A new inode's block and its names' block are laid; it is put into the map, and its name into the directory. -/
def putβ (β : Int → Nat × Nat) (id : Int) (p : Nat × Nat) : Int → Nat × Nat := fun i => if i = id then p else β i
theorem nodesL_putβ {l : List NodeD} {id : Int} {p : Nat × Nat} (hl : ∀ n ∈ l, n.id ≠ id) : nodesL (putβ β id p) l = nodesL β l := by
  unfold nodesL putβ
  refine List.map_congr_left fun n hn => ?_
  rw [if_neg (hl n hn)]
theorem foot_putβ {l : List NodeD} {id : Int} {p : Nat × Nat} (hl : ∀ n ∈ l, n.id ≠ id) : foot g mb (putβ β id p) l = foot g mb β l := by
  unfold foot putβ
  congr 2
  rw [List.flatMap_def, List.flatMap_def]
  congr 1
  refine List.map_congr_left fun n hn => ?_
  rw [if_neg (hl n hn)]
theorem ins_last {β : Int → Nat × Nat} {id : Int} {v : Value} : ∀ {l : List NodeD}, (∀ n ∈ l, n.id < id) → insL (.int .i64 id, v) (nodesL β l) = nodesL β l ++ [(.int .i64 id, v)]
  | [], _ => rfl
  | y :: r, h => by
    have ih := ins_last (β := β) (v := v) (l := r) fun n hn => h n (by simp [hn])
    unfold nodesL at ih ⊢
    simp only [List.map_cons, insL]
    have e : (Lit.int .i64 id).before (.int .i64 y.id) = false := by
      show decide (id < y.id) = false
      have := h y (by simp)
      exact decide_eq_false (by omega)
    rw [e]
    simp only [Bool.false_eq_true, if_false, ih, List.cons_append]
theorem put_last {id : Int} {v : Value} {l : List NodeD} (h : ∀ n ∈ l, n.id < id) : putL (.int .i64 id) v (nodesL β l) = nodesL β l ++ [(.int .i64 id, v)] := by
  unfold putL
  rw [del_nodes]
  have e : In.del l id = l := by
    unfold In.del
    rw [List.filter_eq_self]
    intro n hn
    have := h n hn
    have e2 : (n.id == id) = false := beq_eq_false_iff_ne.2 (by omega)
    rw [e2]; rfl
  rw [e]
  exact ins_last h
theorem foot_grow {l : List NodeD} {n : NodeD} {b m : Nat} (hne : ∀ k ∈ l, k.id ≠ n.id) : foot g mb (putβ β n.id (b, m)) (l ++ [n]) = foot g mb β l ++ [b, m] := by
  have e := foot_putβ (g := g) (mb := mb) (β := β) (p := (b, m)) hne
  unfold foot at e ⊢
  rw [List.flatMap_append]
  simp only [List.flatMap_cons, List.flatMap_nil, List.append_nil, List.cons_append]
  simp only [List.cons.injEq, true_and] at e
  rw [e]
  simp [putβ]
/-- A table that has one more inode, its last. -/
theorem TblAt.grow {w' : World} (h : TblAt w g mb β t) {id : Int} (hl : ∀ n ∈ t.nodes, n.id < id) {b m : Nat} {n : NodeD} (hid : n.id = id) (hw : ∀ k ∈ foot g mb β t.nodes, k ≠ mb → w'.heap[k]? = w.heap[k]?)
    (hm : MapAt Tryz.prog 3 w' mb (putL (.int .i64 id) (.pointer (some ⟨b, 0, none⟩)) (nodesL β t.nodes))) (hN : NodeAt w' b m n) (hb : w.heap.size ≤ b) (hmm : w.heap.size ≤ m) : TblAt w' g mb (putβ β id (b, m)) { t with nodes := t.nodes ++ [n] } := by
  subst hid
  have hne : ∀ k ∈ t.nodes, k.id ≠ n.id := fun k hk => by have := hl k hk; omega
  have hbm : b ≠ m := fun e => by
    obtain ⟨es, clock, h2, _⟩ := hN.names
    have h1 := hN.row
    rw [e, h2] at h1
    cases h1
  have hf : foot g mb (putβ β n.id (b, m)) (t.nodes ++ [n]) = foot g mb β t.nodes ++ [b, m] := foot_grow hne
  have hlt := h.lt
  refine ⟨?_, ?_, ?_, ?_⟩
  · exact (hw g (mem_foot.2 (.inl rfl)) h.apart_mb).trans h.row
  · rw [put_last hl] at hm
    show MapAt _ _ _ _ (nodesL _ (t.nodes ++ [n]))
    have e : nodesL (putβ β n.id (b, m)) (t.nodes ++ [n]) = nodesL β t.nodes ++ [(.int .i64 n.id, .pointer (some ⟨b, 0, none⟩))] := by
      rw [← nodesL_putβ (β := β) (p := (b, m)) hne]
      unfold nodesL
      rw [List.map_append]
      simp [putβ]
    rw [e]
    exact hm
  · intro k hk
    rcases List.mem_append.1 hk with hk | hk
    · have e : putβ β n.id (b, m) k.id = β k.id := by unfold putβ; rw [if_neg (hne k hk)]
      rw [e]
      exact (h.node k hk).on (hw _ (mem_foot.2 (.inr (.inr ⟨k, hk, .inl rfl⟩))) (fun e => (h.apart_self hk).2.2.2.1 e.symm)) (hw _ (mem_foot.2 (.inr (.inr ⟨k, hk, .inr rfl⟩))) (fun e => (h.apart_self hk).2.2.2.2 e.symm))
    · have : k = n := by simpa using hk
      subst this
      have e : putβ β k.id (b, m) k.id = (b, m) := by unfold putβ; rw [if_pos rfl]
      rw [e]
      exact hN
  · show (foot g mb (putβ β n.id (b, m)) (t.nodes ++ [n])).Nodup
    rw [hf, List.nodup_append]
    refine ⟨h.apart, by simp [hbm], fun a ha c hc e => ?_⟩
    have := hlt a ha
    rcases List.mem_cons.1 hc with rfl | hc
    · omega
    · have : c = m := by simpa using hc
      omega
theorem putβ_ne {id : Int} {p : Nat × Nat} {i : Int} (h : i ≠ id) : putβ β id p i = β i := by unfold putβ; rw [if_neg h]
theorem find_append {l : List NodeD} {n d : NodeD} {id : Int} (h : In.find l id = some d) : In.find (l ++ [n]) id = some d := by
  unfold In.find at h ⊢
  rw [List.find?_append, h]; rfl
theorem makeT_eq {dir : Int} {d : NodeD} (hd : In.find t.nodes dir = some d) {s : ByteArray} {isDir : Bool} (hne : dir ≠ t.last + 1) :
    In.makeT t dir s isDir = In.setN ⟨t.quota, t.used + 64, t.last + 1, t.nodes ++ [⟨t.last + 1, isDir, 1, 0, ByteArray.empty, []⟩]⟩ { d with names := In.with_ d.names s (t.last + 1) } := by
  unfold In.makeT
  rw [nameIn_eq hd]
  unfold In.setN
  simp only [TabD.mk.injEq, true_and]
  show In.set _ _ ++ _ = In.set (_ ++ _) _
  unfold In.set
  rw [List.map_append]
  congr 1
  have hi := (find_mem hd).2
  have e : ((t.last + 1 : Int) == d.id) = false := by rw [hi]; exact beq_eq_false_iff_ne.2 fun e => hne e.symm
  simp only [List.map_cons, List.map_nil, e, Bool.false_eq_true, if_false]
/-- What Make's last two statements begin with. -/
theorem make_tail {wA wB : World} (h : TblAt wA g mb β { t with last := t.last + 1, used := t.used + 64 }) {dir : Int} {d : NodeD} (hd : In.find t.nodes dir = some d) (isDir : Bool) (hlast : ∀ n ∈ t.nodes, n.id ≤ t.last) (hid : Fits (t.last + 1))
    (hm : MapAt Tryz.prog 3 wB mb (putL (.int .i64 (t.last + 1)) (.pointer (some ⟨wA.heap.size + 1, 0, none⟩)) (nodesL β t.nodes)))
    (ht : (((wA.alloc (Obj.map #[] 0)).alloc (Obj.cells #[.bool isDir, .int .i64 1, .int .i64 0, .string { data := #[] }, .map (some wA.heap.size)] 166)).drew).mapTurned wB mb) :
    TblAt wB g mb (putβ β (t.last + 1) (wA.heap.size + 1, wA.heap.size)) ⟨t.quota, t.used + 64, t.last + 1, t.nodes ++ [⟨t.last + 1, isDir, 1, 0, ByteArray.empty, []⟩]⟩ ∧
      In.find (t.nodes ++ [⟨t.last + 1, isDir, 1, 0, ByteArray.empty, []⟩]) dir = some d ∧ Only (foot g mb β t.nodes) wA wB := by
  have hmb := MapAt.lt h.map
  have hold : ∀ k, k < wA.heap.size → k ≠ mb → wB.heap[k]? = wA.heap[k]? := fun k hk hne => by
    rw [turned_other ht hne]
    show ((wA.alloc (Obj.map #[] 0)).alloc _).heap[k]? = _
    rw [Below.heap_alloc _ _ _ (by simp; omega), Below.heap_alloc _ _ _ hk]
  have hN : NodeAt wB (wA.heap.size + 1) wA.heap.size ⟨t.last + 1, isDir, 1, 0, ByteArray.empty, []⟩ := by
    constructor
    · rw [turned_other ht (by omega)]
      show ((wA.alloc (Obj.map #[] 0)).alloc _).heap[wA.heap.size + 1]? = _
      have := heap_alloc_new (wA.alloc (Obj.map #[] 0)) (Obj.cells #[.bool isDir, .int .i64 1, .int .i64 0, .string { data := #[] }, .map (some wA.heap.size)] 166)
      have e : (wA.alloc (Obj.map #[] 0)).heap.size = wA.heap.size + 1 := by simp
      rw [e] at this
      exact this
    · refine MapAt.on (w := wA.alloc (Obj.map #[] 0)) (MapAt.made wA) ?_
      rw [turned_other ht (by omega)]
      show ((wA.alloc (Obj.map #[] 0)).alloc _).heap[wA.heap.size]? = _
      rw [Below.heap_alloc _ _ _ (by simp)]
  refine ⟨h.grow (fun n hn => by have := hlast n hn; omega) rfl (fun k hk hne => hold k (h.lt k hk) hne) hm hN (by omega) (Nat.le_refl _), find_append hd, ?_⟩
  refine Only.turned (w := ((wA.alloc (Obj.map #[] 0)).alloc (Obj.cells #[.bool isDir, .int .i64 1, .int .i64 0, .string { data := #[] }, .map (some wA.heap.size)] 166)).drew) ?_ ht (.inl (mem_foot.2 (.inr (.inl rfl))))
  exact (((Only.refl _ _).alloc _).alloc _).drew
theorem nodes_len : (nodesL β t.nodes).length = t.nodes.length := by simp [nodesL]
set_option maxHeartbeats 4000000 in
set_option maxRecDepth 100000 in
theorem Make_yes (h : TblAt w g mb β t) (F : Fit t) {dir : Int} (hdir : Fits dir) {s : ByteArray} (hs : s.size ≤ maxLen) (isDir : Bool) (hE : In.makeE t dir s = 0) (hlast : ∀ n ∈ t.nodes, n.id ≤ t.last) (hl0 : 0 ≤ t.last) (hl1 : t.last ≤ 4611686018427387904) :
    Calls Tryz.prog 106 #[.pointer (some ⟨g, 0, none⟩), .int .i64 dir, .string s, .bool isDir] w fun e w' => e = .returned (.tuple #[.int .i64 (t.last + 1), .int .i64 0]) ∧ Goes w g mb β t w' (In.makeT t dir s isDir) := by
  unfold In.makeE at hE
  rcases emptyE_dec (t := t) (dir := dir) (s := s) with ⟨h2, d, hd, hdd, hN, hl⟩ | h2
  · have ce := empty_yes h F.q0 hdir hs hd hdd hN hl
    rw [h2] at hE
    have k1 : decide (4096 ≤ (t.nodes.length : Int)) = false := by
      cases hk : decide (4096 ≤ (t.nodes.length : Int)) with
      | false => rfl
      | true => rw [hk] at hE; simp at hE
    rw [k1] at hE
    have k2 : decide (t.quota - t.used < 64) = false := by
      cases hk : decide (t.quota - t.used < 64) with
      | false => rfl
      | true => rw [hk] at hE; simp at hE
    have c1 := of_decide_eq_false k1
    have c2 := of_decide_eq_false k2
    have q1 := F.q1
    have q0 := F.q0
    have u0 := F.u0
    have u1 := F.u1
    have hlen := (F.node d (find_mem hd).1).2.2
    have hdl : dir ≠ t.last + 1 := by have := hlast d (find_mem hd).1; rw [(find_mem hd).2] at this; omega
    have hidL : Fits (t.last + 1) := fits_of (by omega) (by omega)
    have HT := Lib.hid h
    clear h F h2 hE
    go_enter Tryz.func106, Tryz.ntmps106
    go_wp2_with (first
      | (go_at_call 159; refine ce.mono ?_; rintro e w1 ⟨rfl, hb⟩; have TB := HT.out.below hb; have HTB := Lib.hid TB; have HB := Lib.hid hb; obtain ⟨b0, b1, b2, b3⟩ := tbl_cells TB; have f1 := free_row TB.row 1; have f2 := free_row TB.row 2; have HNm := Lib.hid TB.map; clear TB hb)
      | (at_len; refine wpList_len_at _ rfl _ 160 rfl 3 163 Tryz.underlying160 mb _ _ nodes_len rfl HNm.out ?_))
    go_quiet (fail)
    go_upto_region 10 with fail
    have TA : TblAt (((w1.drewN nq).setCell ⟨g, 2, none⟩ (.int .i64 (t.last + 1))).setCell ⟨g, 1, none⟩ (.int .i64 (t.used + 64))) g mb β { t with last := t.last + 1, used := t.used + 64 } :=
      ((HTB.out.on (w' := w1.drewN nq) (fun _ _ => rfl)).set_last (t.last + 1)).set_used (t.used + 64)
    have hOA : Only (foot g mb β t.nodes) w1 (((w1.drewN nq).setCell ⟨g, 2, none⟩ (.int .i64 (t.last + 1))).setCell ⟨g, 1, none⟩ (.int .i64 (t.used + 64))) :=
      (((Only.of_below (drewN_same w1 nq)).setCell (p := ⟨g, 2, none⟩) (.inl (mem_foot.2 (.inl rfl))) _).setCell (p := ⟨g, 1, none⟩) (.inl (mem_foot.2 (.inl rfl))) _)
    have HTA := Lib.hid TA
    have HOA := Lib.hid hOA
    clear TA hOA b0 b1 b2 b3 f1 f2
    generalize World.setCell (World.setCell _ _ _) _ _ = wA at *
    obtain ⟨b0, b1, b2, b3⟩ := tbl_cells HTA.out
    have hmm := @run_makeMap Tryz.prog
    have hg := HTA.out.lt g (mem_foot.2 (.inl rfl))
    have hid1 : Fits (t.last + 1) := fits_of (by omega) (by omega)
    obtain ⟨wB, hrun, hmB, htB⟩ := MapAt.store (P := Tryz.prog) (w := ((wA.alloc (Obj.map #[] 0)).alloc (Obj.cells #[.bool isDir, .int .i64 1, .int .i64 0, .string { data := #[] }, .map (some wA.heap.size)] 166)).drew)
      (MapAt.on HTA.out.map (by
        have hlt := MapAt.lt HTA.out.map
        show ((wA.alloc (Obj.map #[] 0)).alloc _).heap[mb]? = _
        rw [Below.heap_alloc _ _ _ (by simp; omega), Below.heap_alloc _ _ _ hlt])) key_int Tryz.underlying160 (by rw [nodes_len, maxLen_val]; show t.nodes.length < _; omega) (key := .int .i64 (t.last + 1)) (val := .pointer (some ⟨wA.heap.size + 1, 0, none⟩)) (keyOf_int_mk Tryz.underlying3 hid1)
    have HMB := Lib.hid hmB
    have HTB2 := Lib.hid htB
    clear hmB htB
    go_region
    have HG := Lib.hid (make_tail HTA.out hd isDir hlast hidL HMB.out HTB2.out)
    clear hrun b0 b1 b2 b3 hg
    obtain ⟨T1, hd1, hOB⟩ := HG.out
    obtain ⟨b0, b1, b2, b3⟩ := tbl_cells T1
    have hA1 := T1.at hd1
    rw [putβ_ne hdl] at hA1
    have d4 := (node_cells hA1).2.2.2.2
    obtain ⟨wC, hrun, hmC, htC⟩ := MapAt.store (P := Tryz.prog) (w := wB.drew) (MapAt.on hA1.names rfl) key_str Tryz.underlying164 (by rw [names_len, maxLen_val]; omega) (key := .string s) (val := .int .i64 (t.last + 1)) (WideMaps.keyOf_string_mk Tryz.underlying9 hs)
    rw [put_names] at hmC
    have HT2 := Lib.hid ((T1.on (w' := wB.drew) (fun _ _ => rfl)).set_names hd1 (d := In.with_ d.names s (t.last + 1)) (by rw [putβ_ne hdl]; exact hmC) (by rw [putβ_ne hdl]; exact htC))
    have HTC := Lib.hid htC
    have HOB := Lib.hid hOB
    have HHD := Lib.hid hd
    clear hmC htC T1 hd1 hOB hA1 hd
    go_wp2_with fail
    go_region
    clear hrun b0 b1 b2 b3 d4
    obtain ⟨b0, b1, b2, b3⟩ := tbl_cells HT2.out
    go_wp2_with fail
    go_ret2
    refine ⟨rfl, putβ β (t.last + 1) (wA.heap.size + 1, wA.heap.size), ?_, ?_, ?_⟩
    · rw [makeT_eq HHD.out hdl]; exact HT2.out
    · exact ((Only.of_below HB.out).trans HOA.out).trans (HOB.out.trans ((Only.refl _ _).drew.turned HTC.out (.inl (in_foot2 HHD.out))))
    · intro k hk
      rw [makeT_eq HHD.out hdl, foot_setN] at hk
      have hs1 : w.heap.size ≤ wA.heap.size := Nat.le_trans HB.out.size HOA.out.size
      have e := foot_grow (g := g) (mb := mb) (β := β) (n := ⟨t.last + 1, isDir, 1, 0, ByteArray.empty, []⟩) (b := wA.heap.size + 1) (m := wA.heap.size) (l := t.nodes) (fun k hk => by have := hlast k hk; show k.id ≠ t.last + 1; omega)
      rw [e] at hk
      rcases List.mem_append.1 hk with hk | hk
      · exact .inl hk
      · right
        simp only [List.mem_cons, List.not_mem_nil, or_false] at hk
        omega
  · rw [beq0_false h2] at hE
    exact absurd hE h2
set_option maxHeartbeats 1000000 in
theorem Make_no (h : TblAt w g mb β t) (F : Fit t) {dir : Int} (hdir : Fits dir) {s : ByteArray} (hs : s.size ≤ maxLen) (isDir : Bool) {E : Int} (hE : In.makeE t dir s = E) (h0 : E ≠ 0) (hsmall : t.nodes.length ≤ 4611686018427387904) :
    Calls Tryz.prog 106 #[.pointer (some ⟨g, 0, none⟩), .int .i64 dir, .string s, .bool isDir] w fun e w' => e = .returned (.tuple #[.int .i64 0, .int .i64 E]) ∧ Below w.heap.size w w' := by
  unfold In.makeE at hE
  have HT := Lib.hid h
  have q1 := F.q1
  have q0 := F.q0
  have u0 := F.u0
  have u1 := F.u1
  rcases emptyE_dec (t := t) (dir := dir) (s := s) with ⟨h2, d, hd, hdd, hN, hl⟩ | h2
  · have ce := empty_yes h F.q0 hdir hs hd hdd hN hl
    rw [h2] at hE
    cases k1 : decide (4096 ≤ (t.nodes.length : Int)) with
    | true =>
      rw [k1] at hE
      have hE : 5 = E := hE
      subst hE
      clear h F h2 h0
      go_enter Tryz.func106, Tryz.ntmps106
      go_wp2_with (first
        | (go_at_call 159; refine ce.mono ?_; rintro e w1 ⟨rfl, hb⟩; have TB := HT.out.below hb; have HB := Lib.hid hb; have b3 := (tbl_cells TB).2.2.2; have HNm := Lib.hid TB.map; clear TB hb)
        | (at_len; refine wpList_len_at _ rfl _ 160 rfl 3 163 Tryz.underlying160 mb _ _ nodes_len rfl HNm.out ?_))
      go_ret2
      exact ⟨rfl, HB.out⟩
    | false =>
      rw [k1] at hE
      cases k2 : decide (t.quota - t.used < 64) with
      | false => rw [k2] at hE; exact absurd hE.symm h0
      | true =>
        rw [k2] at hE
        have hE : 6 = E := hE
        subst hE
        clear h F h2 h0
        go_enter Tryz.func106, Tryz.ntmps106
        go_wp2_with (first
          | (go_at_call 159; refine ce.mono ?_; rintro e w1 ⟨rfl, hb⟩; have TB := HT.out.below hb; have HB := Lib.hid hb; obtain ⟨b0, b1, b2, b3⟩ := tbl_cells TB; have HNm := Lib.hid TB.map; clear TB hb)
          | (at_len; refine wpList_len_at _ rfl _ 160 rfl 3 163 Tryz.underlying160 mb _ _ nodes_len rfl HNm.out ?_))
        go_quiet (fail)
        go_wp2_with fail
        go_ret2
        exact ⟨rfl, HB.out.trans (drewN_same _ _ |>.mono HB.out.size)⟩
  · rw [beq0_false h2] at hE
    have hE : In.emptyE t dir s = E := hE
    have ce := empty_no h F.q0 hdir hs hE h0
    have e1 := bne0_true h0
    clear h F h2 hE h0
    go_enter Tryz.func106, Tryz.ntmps106
    go_wp2_with (go_at_call 159; refine ce.mono ?_; rintro e w1 ⟨rfl, hb⟩; have HB := Lib.hid hb; clear hb)
    go_ret2
    exact ⟨rfl, HB.out⟩
end
end Go.Proofs.YtcicjklhbnipcaaGreatDoor
