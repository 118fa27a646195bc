/-
  Texts laid one behind the other: what MorZ asks for.
-/
import Derived.Test.YtcicjklhbnipcaaGreatDoorPkMoD
import Derived.ChangeOld
import Derived.Deep.DeepHandedRow
import Derived.Deep.DeepWitnessRowRef
import Derived.LaidSub
import Derived.Lib.LaidIn
import Derived.Lib.LaidU8T
import Derived.Maps.RangeWalk
import Derived.OpenShut
import Derived.ProofKit
import Derived.SevenTiedAt
import Derived.SizedLaws
import Derived.Test.YtcicjklhbnipcaaGreatDoorCards
import Derived.Test.YtcicjklhbnipcaaGreatDoorRows
import Derived.Test.YtcicjklhbnipcaaGreatDoorTie
namespace Go.Proofs.YtcicjklhbnipcaaGreatDoor
set_option linter.unusedVariables false
set_option linter.unusedSimpArgs false
open Go.RowKit Go.Maps Go.Sort Go.Shelf

theorem sort_ints {ss ks : List Int} (h : ss.Perm ks) (hs : ks.Pairwise fun a b => a < b) : ss.mergeSort leI = ks := by
  rw [mergeSort_of_perm_i h]
  refine List.mergeSort_of_pairwise (hs.imp fun {a b} hab => ?_)
  simp only [leI, decide_eq_true_eq]
  omega
theorem keys_nodes (β : Int → Nat × Nat) (l : List NodeD) : intKeys (heldD (nodesL β l)) = l.map fun n => n.id := by
  simp [heldD, nodesL, intKeys, Go.intOf]
theorem sortsI (m : Nat) : AnyZI.SortsIn Tryz.prog Tryz.sortedI_ren Fence.wide m :=
  ⟨fun blk off cap ss W hH hblk hsz => callsIn_wide.2 (AnyM.slices_Sort_int Tryz.sortI blk off cap ss W hH hblk hsz), fun p cap W => callsIn_wide.2 (AnyM.slices_Sort_int_none Tryz.sortI p cap W)⟩
theorem keysI_any (mb : Option Nat) (W : World) : Calls Tryz.prog 120 #[.map mb] W fun e w' => e = .returned (.func (.func 168) #[] #[.pointer (some ⟨W.heap.size, 0, none⟩)]) ∧ w' = W.alloc (.cells #[.map mb] 160) :=
  (callsIn_wide (n := 5)).1 (AnyZI.keys_in Tryz.keysI Fence.wide 5 trivial rfl mb W)
/-- The inodes' numbers, in order, in a new slice. -/
theorem sortedI_any {m : Nat} {β : Int → Nat × Nat} {l : List NodeD} (w : World) (h : NodesAt w m β l) (hl : l.length ≤ 4611686018427) :
    Calls Tryz.prog 72 #[.func (.func 168) #[] #[.pointer (some ⟨w.heap.size, 0, none⟩)]] (w.alloc (.cells #[.map (some m)] 160)) fun e w' => ∃ v : Value, e = .returned v ∧
      w'.ownsRow (w.heap.size + 1) 3 1 v l.length (l.map fun n => .int .i64 n.id) ∧ Below w.heap.size w w' := by
  have hbl := MapAt.lt h
  have hsz : Maps.size (heldD (nodesL β l)) = l.length := by rw [size_held]; simp [nodesL]
  have hown : w.ownsMap Tryz.prog 3 anyElem m (nodesL β l).length (heldD (nodesL β l)) := h
  have hseq : SeqGives Fence.wide 2 Tryz.prog 168 #[.pointer (some ⟨w.heap.size, 0, none⟩)] encZ (fun ss => ss.Perm (intKeys (heldD (nodesL β l)))) (Maps.size (heldD (nodesL β l))) (w.alloc (.cells #[.map (some m)] 160)) :=
    AnyZI.keys_gives (ρ := Tryz.keysI_ren) { Tryz.keysI with } Fence.wide _ trivial rfl (by omega) w.heap.size m _ _ _ (by simp) (by simp) (by
      obtain ⟨es, clock, hb, Ft, hs, hD⟩ := hown
      exact ⟨es, clock, (Below.heap_alloc _ _ m hbl).trans hb, Ft, hs, hD⟩)
  have key := AnyZI.sorted_in Tryz.sortedI Fence.wide 5 trivial trivial trivial trivial rfl (by omega) (sortsI _) (enters_of Tryz.func124 (by kernel_rfl) rfl) 168 #[.pointer (some ⟨w.heap.size, 0, none⟩)] trivial (enters_of Tryz.func168 (by kernel_rfl) rfl) _ _ (by rw [hsz, maxLen_val]; omega) (by rw [hsz]; omega) _ hseq
  refine ((callsIn_wide (n := 5)).1 key).mono fun e w' hx => ?_
  obtain ⟨v, ss, he, hp, hrow, _, hb⟩ := hx
  refine ⟨v, he, ?_, ((Below.refl _ w).alloc (Nat.le_refl _) _).trans (hb.mono (by simp))⟩
  rw [keys_nodes] at hp
  have hs : (l.map fun n => n.id).Pairwise fun a b => a < b := by
    have := MapAt.sorted h key_int
    unfold nodesL at this
    rw [List.pairwise_map] at this ⊢
    exact this.imp fun h => by simpa [Lit.before] using h
  have e := sort_ints hp hs
  have hlen : ss.length = l.length := by rw [hp.length_eq]; simp
  rw [show (fun x y : Int => decide (x ≤ y)) = leI from rfl, e, hlen, List.map_map] at hrow
  rw [size_alloc] at hrow
  exact hrow
end Go.Proofs.YtcicjklhbnipcaaGreatDoor
namespace Go.Proofs.YtcicjklhbnipcaaGreatDoor
set_option linter.unusedVariables false
set_option linter.unusedSimpArgs false
open Go.RowKit
section
variable {P : Program} {K : Act → World → Prop} {a : Act} {w w0 : World} {ops : Array Oper} {l : List (Oper × Nat)} {c : Nat} {o : Oper} {F : List Nat} {L Lr : List Ent} {t e : TypeId} {x y : Operand}
/-- What an append makes of what is known. -/
theorem St.appendCore2 (hM : St w0 F w L) (hc : (c == 2 || c == 3) = true) (hw : Region.wanted o (yielded ops a.tmps) = true) {s : Option (Nat × Nat)} {n m size : Nat} {xs news : List Value} {L' : Option (Nat × Nat) → List Ent} (hL : ∀ s', Swap L (slL s xs e size) (slL s' (xs ++ news) e size) (L' s')) {v' : Value} {w' : World}
    (hrun0 : (execOp a.eval o).run P w = .ok (.value v') w') (ho' : w'.ownsRow 0 e size v' (n + m) (xs ++ news)) (hg : w.grownBy w' (slV s n).ownBlock) (hat : v'.ownBlock = (slV s n).ownBlock ∨ v'.ownBlock = some w.heap.size)
    (hS : c = 2 → ∀ z ∈ Lr, ∀ k, s.map (·.1) = some k → z.1 ≠ k) (h : ∀ w' s', St w0 F w' (L' s') → SlOK s' (n + m) (xs ++ news) size → (0 < n + m → s' ≠ none) → (s ≠ none → s' ≠ none) → wpSeq P ops K (Held w0 F Lr) l (a.put o.dst (slV s' (n + m))) w') : wpSeq P ops K (Held w0 F Lr) ((o, c) :: l) a w := by
  obtain ⟨s', rfl, hk', hh', hb'⟩ := of_ownsRow ho'
  have hrun : (execOp a.eval o).run P w = .ok (.value (slV s' (n + m))) w' := hrun0
  have hob : (slV s n).ownBlock = s.map (·.1) := by cases s <;> rfl
  have hO : Only ((s.map (·.1)).toList) w w' := ⟨hg.os, hg.tape, hg.output, hg.size, fun k hk hn => hg.block k hk (fun e => by rw [hob] at e; exact hn (by rw [← e]; simp))⟩
  obtain ⟨A', B', hA', hL'⟩ := (hL s').split
  have hM' : St w0 F w' (L' s') := by
    have hnd := hM.nd
    rw [hA'] at hnd
    have hsown : ∀ k, s.map (·.1) = some k → (k ∈ F ∨ w0.heap.size ≤ k) ∧ k < w.heap.size := fun k hk => by
      match s with
      | none => cases hk
      | some (g, cp) =>
        obtain rfl : g = k := by simpa using hk
        have hm : (g, true, Res.pre xs e (cp * size)) ∈ L := by rw [hA']; simp [slL]
        exact ⟨hM.own _ hm rfl, hM.lt hm⟩
    have hsnew : ∀ k, s'.map (·.1) = some k → (k ∈ F ∨ w0.heap.size ≤ k) ∧ (s.map (·.1) = some k ∨ k = w.heap.size) := fun k hk => by
      rw [hb', hob] at hat
      rcases hat with h1 | h1
      · rw [h1] at hk; exact ⟨(hsown k hk).1, .inl hk⟩
      · rw [h1] at hk; obtain rfl : w.heap.size = k := by simpa using hk
        exact ⟨.inr hM.only.size, .inr rfl⟩
    have hrestne : ∀ z, z ∈ A' ∨ z ∈ B' → (∀ k, s.map (·.1) = some k → z.1 ≠ k) ∧ z ∈ L := fun z hz => by
      refine ⟨fun k hk => ?_, by rw [hA']; rcases hz with h | h <;> simp [h]⟩
      match s with
      | none => cases hk
      | some (g, cp) =>
        obtain rfl : g = k := by simpa using hk
        simp only [slL, List.map_append, List.map_cons, List.map_nil, List.nodup_append, List.mem_append, List.mem_cons, List.mem_map] at hnd
        obtain ⟨-, ⟨-, -, h2⟩, h3⟩ := hnd
        rcases hz with h | h
        · exact fun e => h3 z.1 ⟨z, h, rfl⟩ g (.inl (.inl rfl)) e
        · exact fun e => h2 g (.inl rfl) z.1 ⟨z, h, rfl⟩ e.symm
    refine ⟨hM.only.then hO (fun k hk => (hsown k (by simpa using hk)).1), fun z hz => ?_, ?_, fun z hz h1 => ?_⟩
    · rw [hL'] at hz
      rcases List.mem_append.1 hz with hz | hz
      · obtain ⟨hne, hzL⟩ := hrestne z (.inl hz)
        rw [hO.block z.1 (hM.lt hzL) (fun hm => hne z.1 (by simpa using hm) rfl)]
        exact hM.holds z hzL
      · rcases List.mem_append.1 hz with hz | hz
        · exact hh' z hz
        · obtain ⟨hne, hzL⟩ := hrestne z (.inr hz)
          rw [hO.block z.1 (hM.lt hzL) (fun hm => hne z.1 (by simpa using hm) rfl)]
          exact hM.holds z hzL
    · rw [hL']
      cases hse : s' with
      | none =>
        simp only [slL, List.nil_append]
        have : (A' ++ B').Sublist (A' ++ (slL s xs e size ++ B')) := List.Sublist.append_left (List.sublist_append_right _ _) _
        exact List.Sublist.nodup (this.map _) hnd
      | some gc =>
        obtain ⟨g', cp'⟩ := gc
        have hn := hsnew g' (by rw [hse]; rfl)
        have hfree : ∀ z, z ∈ A' ∨ z ∈ B' → z.1 ≠ g' := fun z hz e => by
          obtain ⟨hne, hzL⟩ := hrestne z hz
          rcases hn.2 with h2 | h2
          · exact hne g' h2 e
          · have := hM.lt hzL
            omega
        have hAB : ((A' ++ B').map (·.1)).Nodup := by
          have : (A' ++ B').Sublist (A' ++ (slL s xs e size ++ B')) := List.Sublist.append_left (List.sublist_append_right _ _) _
          exact List.Sublist.nodup (this.map _) hnd
        simp only [List.map_append, List.nodup_append, List.mem_map] at hAB
        simp only [slL, List.map_append, List.map_cons, List.map_nil, List.nodup_append, List.mem_append, List.mem_cons, List.mem_map, List.cons_append, List.nil_append, List.nodup_cons]
        refine ⟨hAB.1, ⟨fun ⟨z, hz, e⟩ => hfree z (.inr hz) e, hAB.2.1⟩, fun k hk u hu => ?_⟩
        obtain ⟨z, hz, rfl⟩ := hk
        rcases hu with rfl | hu
        · exact hfree z (.inl hz)
        · exact hAB.2.2 z.1 ⟨z, hz, rfl⟩ u hu
    · rw [hL'] at hz
      rcases List.mem_append.1 hz with hz | hz
      · exact hM.own z (hrestne z (.inl hz)).2 h1
      · rcases List.mem_append.1 hz with hz | hz
        · cases hse : s' with
          | none => rw [hse] at hz; cases hz
          | some gc =>
            obtain ⟨g', cp'⟩ := gc
            rw [hse] at hz
            obtain rfl := List.mem_singleton.1 hz
            exact (hsnew g' (by rw [hse]; rfl)).1
        · exact hM.own z (hrestne z (.inr hz)).2 h1
  refine wpSeq_turns hc hw hrun (.inl rfl) (fun h2 hh => ?_) (h w' s' hM' hk' (fun hp e => ?_) fun hs0 e => ?_)
  · refine ⟨hM'.only, ?_⟩
    exact fun z hz => by
      rw [hO.block z.1 (hh.has.lt hz) (fun hm => hS h2 z hz z.1 (by simpa using hm) rfl)]
      exact hh.has z hz
  · subst e
    have := hk'.2
    simp only at this
    omega
  · subst e
    rw [hb', hob] at hat
    rcases hat with h1 | h1
    · cases s with
      | none => exact hs0 rfl
      | some _ => cases h1
    · cases h1
theorem St.append2 (hx : o.op = .call { callee := .builtin .append, args := #[x, y], argTypes := #[t, t] }) (hM : St w0 F w L) (hc : (c == 2 || c == 3) = true) (hw : Region.wanted o (yielded ops a.tmps) = true) {s : Option (Nat × Nat)} {n : Nat} (hs : a.eval x = slV s n) {ad : Addr} {m cap : Nat} (hy : a.eval y = .slice (some ad) m cap) {size bytes : Nat} (hE : elemIn elemTab t = some (e, size, bytes)) (hB : appB P t e size bytes = true)
    {xs news : List Value} {L' : Option (Nat × Nat) → List Ent} (hL : ∀ s', Swap L (slL s xs e size) (slL s' (xs ++ news) e size) (L' s')) (hk : SlOK s n xs size) (hl : news.length = m * size) (hnews : ∀ j u, news[j]? = some u → w.cell? (ad.add j) = some u) (h1 : news.all (·.oneCell') = true) (h63 : n + m ≤ maxLen) (hby : (n + m) * bytes ≤ 140737488355328)
    (hS : c = 2 → ∀ z ∈ Lr, ∀ k, s.map (·.1) = some k → z.1 ≠ k) (h : ∀ w' s', St w0 F w' (L' s') → SlOK s' (n + m) (xs ++ news) size → (0 < n + m → s' ≠ none) → wpSeq P ops K (Held w0 F Lr) l (a.put o.dst (slV s' (n + m))) w') : wpSeq P ops K (Held w0 F Lr) ((o, c) :: l) a w := by
  obtain ⟨i, z, e1, e2, e3, e4, e5, e6, e7⟩ := appB_spec hB
  obtain ⟨A, B, hA, -⟩ := (hL none).split
  have hown : w.ownsRow 0 e size (slV s n) n xs := ownsRow_of (fun z hz => hM.holds z (by rw [hA]; simp [hz])) hk
  obtain ⟨v', w', hr, ho', hg, -, hat⟩ := run_append_own_at (P := P) w 0 t o.type e i z size bytes e1 e2 e3 e4 e5 e6 e7 (slV s n) n xs hown ad m cap news hl hnews (by simpa using h1) h63 hby (Nat.zero_le _)
  refine St.appendCore2 (v' := v') (w' := w') hM hc hw hL ?_ ho' hg hat hS fun w' s' a1 a2 a3 _ => h w' s' a1 a2 a3
  unfold execOp
  simp only [hx, resolve, invoke, builtin, Sem.run_bind, Sem.run_pure, Result.andThen_ok, List.map_toArray, List.map_cons, List.map_nil, hs, hy, hr]
end
end Go.Proofs.YtcicjklhbnipcaaGreatDoor
namespace Go.Proofs.YtcicjklhbnipcaaGreatDoor
set_option linter.unusedVariables false
set_option linter.unusedSimpArgs false
open Go.RowKit Go.Maps
theorem St.subM {w0 w : World} {F : List Nat} {L L' : List Ent} (h : St w0 F w L) (hs : L'.Sublist L) : St w0 F w L' := h.drop (fun _ hx => hs.subset hx) ((hs.map _).nodup h.nd)
section
variable {P : Program} {K : Act → World → Prop} {a : Act} {w w0 : World} {ops : Array Oper} {l : List (Oper × Nat)} {c : Nat} {o : Oper} {L Lr : List Ent} {b : Nat} {ty kt et : TypeId} {x y : Operand} {S : World → Prop} {m : List (Lit × Value)} {kl : Lit} {key : Value}
theorem map_old (h : Only [] w0 w) (hm : MapAt P kt w0 b m) : (mapR P kt m).holds w.heap[b]? := by
  have := mapR_of (MapAt.on hm (h.block b (MapAt.lt hm) (by simp)))
  exact this
/-- A map of which a fact tells is looked into. -/
theorem St.lookupF (hx : o.op = .lookup ty x y false) (hM : St w0 [] w L) (hc : (c == 2 || c == 3) = true) (hw : Region.wanted o (yielded ops a.tmps) = true) (hev : a.eval x = .map (some b)) (hy : a.eval y = key) (hm : MapAt P kt w0 b m) (hK : Keyed P kt) (ht : P.underlying ty = some (.map kt et)) {zv : Value} (hz : ∀ w, (zeroValue et).run P w = .ok zv w) (hkey : keyOf P kt key = some kl) {v : Value} (hv : lookL m kl zv = v)
    (h : wpSeq P ops K S l (a.put o.dst v) w) : wpSeq P ops K S ((o, c) :: l) a w :=
  wpSeq_yields hc hw (by rw [← hv]; exact run_lookupM hx hev hy (map_old hM.only hm) hK ht hz hkey) h
end
/-- An inode, and where its names lie. -/
abbrev NodV := NodeD × Option (Nat × Nat)
def entC (d : List (ByteArray × Int)) : List Value := d.flatMap fun p => [.string p.1, .int .i64 p.2]
def NodV.cells (z : NodV) : List Value := [.int .i64 z.1.id, .bool z.1.dir, .int .i64 z.1.links, .int .i64 z.1.holds, .string z.1.data, slV z.2 z.1.names.length]
def NodV.ents (z : NodV) : List Ent := slL z.2 (entC z.1.names) 127 2
/-- It answers these inodes, in slices of its own. -/
def SomeNodes (ns : List NodeD) (w : World) (e : Ending) (w' : World) : Prop :=
  ∃ (s : Option (Nat × Nat)) (zs : List NodV), e = .returned (slV s zs.length) ∧ zs.map (·.1) = ns ∧ SlOK s zs.length (zs.flatMap NodV.cells) 6 ∧ (∀ z ∈ zs, SlOK z.2 z.1.names.length (entC z.1.names) 2) ∧
    St w [] w' (slL s (zs.flatMap NodV.cells) 124 6 ++ zs.flatMap NodV.ents)
section
variable {w0 : World} {g mb : Nat} {β : Int → Nat × Nat} {t : TabD}
theorem rowI_of {w w' : World} {base : Nat} {v : Value} {xs : List Int} (h : w'.ownsRow base 3 1 v xs.length (xs.map (Value.int .i64))) (hb : Below w.heap.size w w') (hB : w.heap.size ≤ base) :
    ∃ s, v = slV s xs.length ∧ SlOK s xs.length (xs.map (Value.int .i64)) 1 ∧ St w [] w' (slL s (xs.map (Value.int .i64)) 3 1) := st_of_own h hb hB
set_option maxHeartbeats 8000000 in
set_option maxRecDepth 100000 in
theorem Nodes9_any (h : TblAt w0 g mb β t) (hq : 0 < t.quota) (hid : ∀ n ∈ t.nodes, Fits n.id) (hl : t.nodes.length ≤ 1000000) (hlen : ∀ n ∈ t.nodes, n.names.length ≤ 1000000) (hso : ∀ n ∈ t.nodes, In.nameSorted n.names) :
    Calls Tryz.prog 69 #[.pointer (some ⟨g, 0, none⟩)] w0 (SomeNodes t.nodes w0) := by
  have hM := St.start w0 []
  have hg := Lib.hid (fun (W : World) (hb : Below w0.heap.size w0 W) => given_yes (h.below hb) hq)
  have c3 := (tbl_cells h).2.2.2
  have CK := Lib.hid (fun W : World => keysI_any (some mb) W)
  have CS := Lib.hid (fun (W : World) (hb : Below w0.heap.size w0 W) => sortedI_any W (h.below hb).map (by omega))
  have HT := Lib.hid h
  have HID := Lib.hid hid
  have HLN := Lib.hid hlen
  have HSO := Lib.hid hso
  clear h hq hid hlen hso
  go_enter Tryz.func69, Tryz.ntmps69
  (repeat (first | ((with_reducible show wpSeq _ _ _ _ _ _ _); first | ((with_reducible refine wpSeq_nil ?_); refine hKr.out _ _ ?_; clear hKr Kr) | (((refine St.copy (v := ?_) (by first | exact .inl rfl | exact .inr rfl) rfl rfl ?_ ?_; rotate_left; (focus ((try simp only [Act.eval, getD_lit, List.getD_cons_zero, List.getD_cons_succ]); with_reducible rfl)))); (try simp only [Act.put, List.setIfInBounds_toArray, List.set_cons_zero, List.set_cons_succ]))) | (first | (refine wp_seq_shut (fun K hK => ?_)) | (refine wp_text hM (fun Kr hKr => ?_); simp only [inText]) | ((refine hK.out _ _ ?_); clear hK K))))
  (refine St.call3 rfl rfl (by kernel_rfl) (fun R hR => ?_); simp only [List.map_toArray, List.map_cons, List.map_nil, Act.eval, getD_lit, List.getD_cons_zero, List.getD_cons_succ])
  refine (hg.out _ hM.to_below).mono ?_
  rintro e w' ⟨rfl, rfl⟩; refine hR.out _ _ ?_; clear hR R; (try simp only [Act.put, List.setIfInBounds_toArray, List.set_cons_zero, List.set_cons_succ])
  (repeat (first | ((with_reducible show wpSeq _ _ _ _ _ _ _); first | ((with_reducible refine wpSeq_nil ?_); refine hKr.out _ _ ?_; clear hKr Kr) | ((first | (refine St.copy (v := ?_) (by first | exact .inl rfl | exact .inr rfl) rfl rfl ?_ ?_; rotate_left; (focus ((try simp only [Act.eval, getD_lit, List.getD_cons_zero, List.getD_cons_succ]); with_reducible rfl))) | (refine St.pure (v := ?_) rfl rfl rfl (fun w => ?_) ?_; rotate_left; (focus (go_simp; all_goals with_reducible rfl))) | refine St.loadF rfl rfl rfl rfl rfl (hM.old (by assumption)) (by kernel_rfl) ?_); (try simp only [Act.put, List.setIfInBounds_toArray, List.set_cons_zero, List.set_cons_succ]))) | (first | (refine wp_seq_shut (fun K hK => ?_)) | (refine wp_text hM (fun Kr hKr => ?_); simp only [inText]) | refine wp_skip ?_ | (refine wp_cond_false rfl ?_) | ((refine hK.out _ _ ?_); clear hK K))))
  (refine St.call3 rfl rfl (by kernel_rfl) (fun R hR => ?_); simp only [List.map_toArray, List.map_cons, List.map_nil, Act.eval, getD_lit, List.getD_cons_zero, List.getD_cons_succ])
  have hbl := hM.to_below
  refine (CK.out _).mono ?_
  rintro e w' ⟨rfl, rfl⟩; refine hR.out _ _ ?_; clear hR R; (try simp only [Act.put, List.setIfInBounds_toArray, List.set_cons_zero, List.set_cons_succ])
  (refine St.call3 rfl rfl (by kernel_rfl) (fun R hR => ?_); simp only [List.map_toArray, List.map_cons, List.map_nil, Act.eval, getD_lit, List.getD_cons_zero, List.getD_cons_succ])
  refine (CS.out _ hbl).mono ?_
  rintro e w' ⟨v, rfl, hrow, hb⟩
  have e1 : (t.nodes.map fun n => Value.int .i64 n.id) = (t.nodes.map (·.id)).map (Value.int .i64) := by rw [List.map_map]; rfl
  have e2 : t.nodes.length = (t.nodes.map (·.id)).length := by simp
  rw [e1, e2] at hrow
  obtain ⟨s1, rfl, hok1, hst⟩ := rowI_of hrow hb (Nat.le_succ _)
  refine hR.out _ _ ?_; clear hR R hM hbl hrow hb e1
  have hM := hst
  clear hst
  obtain ⟨va, vc, hsv, hsa⟩ := slV_open hok1
  rw [hsv]
  rw [← e2] at hsv hok1 ⊢
  have HK1 := Lib.hid hok1
  clear hok1 hsv e2 CS
  (try simp only [Act.put, List.setIfInBounds_toArray, List.set_cons_zero, List.set_cons_succ])
  (repeat (first | ((with_reducible show wpSeq _ _ _ _ _ _ _); first | ((with_reducible refine wpSeq_nil ?_); refine hKr.out _ _ ?_; clear hKr Kr) | ((first | (refine St.copy (v := ?_) (by exact .inl rfl) rfl rfl ?_ ?_; rotate_left; (focus ((try simp only [Act.eval, getD_lit, List.getD_cons_zero, List.getD_cons_succ]); with_reducible rfl))) | (refine St.pure (v := ?_) rfl rfl rfl (fun w => ?_) ?_; rotate_left; (focus (go_simp; all_goals with_reducible rfl)))); (try simp only [Act.put, List.setIfInBounds_toArray, List.set_cons_zero, List.set_cons_succ]))) | (first | refine wp_block ?_ | ((refine hK.out _ _ ?_); clear hK K))))
  go_loopw [3, 20] (fun v i wr => ∃ (k : Nat) (s : Option (Nat × Nat)) (zs : List NodV), k ≤ t.nodes.length ∧ i = .int .i64 k ∧ v = slV s zs.length ∧ zs.map (·.1) = t.nodes.take k ∧ SlOK s zs.length (zs.flatMap NodV.cells) 6 ∧ (∀ z ∈ zs, SlOK z.2 z.1.names.length (entC z.1.names) 2) ∧
    St w0 [] wr (slL s1 ((t.nodes.map (·.id)).map (Value.int .i64)) 3 1 ++ (slL s (zs.flatMap NodV.cells) 124 6 ++ zs.flatMap NodV.ents))) (fun _ i _ => t.nodes.length - (intOf i).toNat)
  case atStart => exact ⟨0, none, [], by omega, rfl, rfl, rfl, ⟨rfl, rfl⟩, nofun, by simpa [slL] using hM⟩
  case round =>
    clear hM
    obtain ⟨k, s, zs, hk, rfl, rfl, hzs, hsl, hen, hM⟩ := hrel
    have HZ := Lib.hid hzs
    have HS := Lib.hid hsl
    have HE := Lib.hid hen
    have zl : zs.length ≤ 1000000 := by
      have h1 := congrArg List.length hzs
      rw [List.length_map, List.length_take] at h1
      omega
    clear hzs hsl hen
    by_cases hlt : k < t.nodes.length
    · obtain ⟨n, hn⟩ := get_at hlt
      cases s1 with
      | none => exact absurd HK1.out.2 (by omega)
      | some gc =>
      obtain ⟨g1, cap1⟩ := gc
      obtain ⟨rfl, rfl⟩ := hsa g1 cap1 rfl
      have hnm := List.mem_of_getElem? hn
      have hx' : ((t.nodes.map (·.id)).map (Value.int .i64))[k]? = some (.int .i64 n.id) := by rw [List.getElem?_map, List.getElem?_map, hn]; rfl
      have k1 : (k : Int) < (t.nodes.length : Int) := by omega
      have hA := HT.out.node n hnm
      obtain ⟨d0, d1, d2, d3, d4⟩ := node_cells hA
      have hfit := HID.out n hnm
      have hptr : lookL (nodesL β t.nodes) (.int .i64 n.id) (.pointer none) = .pointer (some ⟨(β n.id).1, 0, none⟩) := by rw [look_nodes, find_of HT.out.ids hnm]
      have HMP := Lib.hid HT.out.map
      have HNM := Lib.hid hA.names
      have HSN := Lib.hid (HSO.out n hnm)
      have hnl := HLN.out n hnm
      have CS2 := Lib.hid (fun (W : World) (hb : Below w0.heap.size w0 W) => sortedS_any W (MapAt.on HNM.out (hb.block _ (MapAt.lt HNM.out))) (by omega))
      have CK2 := Lib.hid (fun W : World => keysS_any (some (β n.id).2) W)
      have HN := Lib.hid hn
      clear hn hlt hnm hA
      change St w0 [] wr ((g1, true, Res.pre ((t.nodes.map (·.id)).map (Value.int .i64)) 3 (vc * 1)) :: (slL s (zs.flatMap NodV.cells) 124 6 ++ zs.flatMap NodV.ents)) at hM
      (repeat (first | ((with_reducible show wpSeq _ _ _ _ _ _ _); first | ((with_reducible refine wpSeq_nil ?_); refine hKr.out _ _ ?_; clear hKr Kr) | ((first | (refine St.copy (v := ?_) (by first | exact .inl rfl | exact .inr rfl) rfl rfl ?_ ?_; rotate_left; (focus ((try simp only [Act.eval, getD_lit, List.getD_cons_zero, List.getD_cons_succ]); with_reducible rfl))) | (refine St.pure (v := ?_) rfl rfl rfl (fun w => ?_) ?_; rotate_left; (focus (go_simp; all_goals with_reducible rfl))) | refine St.load rfl hM rfl rfl rfl rfl (by repeat constructor) (by assumption) (by kernel_rfl) ?_ | refine St.loadF rfl rfl rfl rfl rfl (hM.old (by assumption)) (by kernel_rfl) ?_); (try simp only [Act.put, List.setIfInBounds_toArray, List.set_cons_zero, List.set_cons_succ]))) | (first | (refine wp_seq_shut (fun K hK => ?_)) | (refine wp_text hM (fun Kr hKr => ?_); simp only [inText]) | refine wp_block ?_ | refine wp_skip ?_ | (refine wp_cond_true rfl ?_) | ((refine hK.out _ _ ?_); clear hK K))))
      refine St.lookupF rfl hM rfl rfl rfl rfl HMP.out key_int Tryz.underlying160 zero_ptr (keyOf_int_mk Tryz.underlying3 hfit) hptr ?_
      clear hptr HMP
      (try simp only [Act.put, List.setIfInBounds_toArray, List.set_cons_zero, List.set_cons_succ])
      (repeat (first | ((with_reducible show wpSeq _ _ _ _ _ _ _); first | ((with_reducible refine wpSeq_nil ?_); refine hKr.out _ _ ?_; clear hKr Kr) | ((first | (refine St.copy (v := ?_) (by first | exact .inl rfl | exact .inr rfl) rfl rfl ?_ ?_; rotate_left; (focus ((try simp only [Act.eval, getD_lit, List.getD_cons_zero, List.getD_cons_succ]); with_reducible rfl))) | (refine St.pure (v := ?_) rfl rfl rfl (fun w => ?_) ?_; rotate_left; (focus (go_simp; all_goals with_reducible rfl))) | refine St.loadF rfl rfl rfl rfl rfl (hM.old (by assumption)) (by kernel_rfl) ?_ | refine St.loadF1 rfl rfl rfl rfl (fun w' hS => hS.old (by assumption)) (by kernel_rfl) ?_ | ((((refine St.storeRow rfl hM rfl rfl rfl rfl rfl (by repeat constructor) (Nat.le_of_ble_eq_true rfl) (Nat.le_of_ble_eq_true rfl) (by kernel_rfl) rfl ?_ ?_); (focus ((intro h; cases h; done))); clear hM; intro w hM)); (try simp only [Res.put, Res.known, Act.eval, Value.cells, getD_lit, List.getD_cons_zero, List.getD_cons_succ, List.toList_toArray, List.set_cons_zero, List.set_cons_succ, over, Nat.reduceAdd] at hM))); (try simp only [Act.put, List.setIfInBounds_toArray, List.set_cons_zero, List.set_cons_succ])) | (((refine St.alloc (ty := 124) (z := .agg #[.int .i64 0, .bool false, .int .i64 0, .int .i64 0, .string ⟨#[]⟩, .slice none 0 0]) rfl hM rfl rfl (by kernel_rfl) ?_); clear hM; intro w bk hM); (try simp only [Res.put, Res.known, Act.eval, Value.cells, getD_lit, List.getD_cons_zero, List.getD_cons_succ, List.toList_toArray, List.set_cons_zero, List.set_cons_succ, over, Nat.reduceAdd] at hM); (try simp only [Act.put, List.setIfInBounds_toArray, List.set_cons_zero, List.set_cons_succ]))) | (first | (refine wp_seq_shut (fun K hK => ?_)) | (refine wp_text hM (fun Kr hKr => ?_); simp only [inText]) | ((refine hK.out _ _ ?_); clear hK K)) | ((refine wp_drawn (id := 8) hM (Sub.all _) [4, 8, 12, 16] [(0, 0), (1, 0), (2, 0), (3, 0), (4, 1), (5, 0), (6, 0), (7, 0), (8, 1), (9, 0), (10, 0), (11, 0), (12, 1), (13, 0), (14, 0), (15, 0), (16, 1), (17, 0), (18, 2), (19, 3)] (by kernel_rfl) (by kernel_rfl) ?_); (clear hM; intro w hM Kr hKr); simp only [opsOf, List.getD_cons_zero, List.getD_cons_succ])))
      (refine St.call3 rfl rfl (by kernel_rfl) (fun R hR => ?_); simp only [List.map_toArray, List.map_cons, List.map_nil, Act.eval, getD_lit, List.getD_cons_zero, List.getD_cons_succ])
      have hbl := hM.to_below
      have hMw := hM
      refine (CK2.out _).mono ?_
      rintro e w' ⟨rfl, rfl⟩; refine hR.out _ _ ?_; clear hR R; (try simp only [Act.put, List.setIfInBounds_toArray, List.set_cons_zero, List.set_cons_succ])
      (repeat (fail))
      (refine St.call3 rfl rfl (by kernel_rfl) (fun R hR => ?_); simp only [List.map_toArray, List.map_cons, List.map_nil, Act.eval, getD_lit, List.getD_cons_zero, List.getD_cons_succ])
      refine (CS2.out _ hbl).mono ?_
      rintro e w' ⟨v, rfl, hrow, hb⟩
      have e1 : (n.names.map fun p => Value.string p.1) = (n.names.map Prod.fst).map Value.string := by rw [List.map_map]; rfl
      have e2 : n.names.length = (n.names.map Prod.fst).length := by simp
      rw [e1, e2] at hrow
      obtain ⟨s2, rfl, hok2, hst⟩ := st_of_own hrow hb (Nat.le_succ _)
      refine hR.out _ _ ?_; clear hR R hM hbl hrow hb e1
      have hM := hMw.madeM hst (txL_flag s2 (n.names.map Prod.fst))
      clear hst hMw
      obtain ⟨vb, vd, hsv2, hsb⟩ := slV_open hok2
      rw [hsv2]
      rw [← e2] at hsv2 hok2 ⊢
      have HK2 := Lib.hid hok2
      clear hok2 hsv2 e2 CS2 CK2
      (try simp only [Act.put, List.setIfInBounds_toArray, List.set_cons_zero, List.set_cons_succ])
      (repeat (first | ((with_reducible show wpSeq _ _ _ _ _ _ _); first | ((with_reducible refine wpSeq_nil ?_); refine hKr.out _ _ ?_; clear hKr Kr) | ((first | (refine St.copy (v := ?_) (by exact .inl rfl) rfl rfl ?_ ?_; rotate_left; (focus ((try simp only [Act.eval, getD_lit, List.getD_cons_zero, List.getD_cons_succ]); with_reducible rfl))) | (refine St.pure (v := ?_) rfl rfl rfl (fun w => ?_) ?_; rotate_left; (focus (go_simp; all_goals with_reducible rfl)))); (try simp only [Act.put, List.setIfInBounds_toArray, List.set_cons_zero, List.set_cons_succ]))) | (first | refine wp_block ?_ | ((refine hK.out _ _ ?_); clear hK K))))
      generalize bk = nb at *
      go_loopw [55] (fun i wr2 => ∃ (j : Nat) (s3 : Option (Nat × Nat)), j ≤ n.names.length ∧ i = .int .i64 j ∧ SlOK s3 j (entC (n.names.take j)) 2 ∧
        St w0 [] wr2 (txL s2 (n.names.map Prod.fst) ++ ((nb, true, .cells [.int .i64 n.id, .bool n.dir, .int .i64 n.links, .int .i64 n.holds, .string n.data, slV s3 j] 124) :: (slL s3 (entC (n.names.take j)) 127 2 ++
          ((g1, true, Res.pre ((t.nodes.map (·.id)).map (Value.int .i64)) 3 (vc * 1)) :: (slL s (zs.flatMap NodV.cells) 124 6 ++ zs.flatMap NodV.ents)))))) (fun i _ => n.names.length - (intOf i).toNat)
      case atStart => exact ⟨0, none, by omega, rfl, ⟨rfl, rfl⟩, hM⟩
      case round =>
        clear hM
        obtain ⟨j, s3, hj, rfl, hok3, hM⟩ := hrel
        have HK3 := Lib.hid hok3
        clear hok3
        by_cases hlt : j < n.names.length
        · obtain ⟨p, hp⟩ := get_at hlt
          obtain ⟨nm, idv⟩ := p
          cases s2 with
          | none => exact absurd HK2.out.2 (by omega)
          | some gc =>
          obtain ⟨g2, cap2⟩ := gc
          obtain ⟨rfl, rfl⟩ := hsb g2 cap2 rfl
          have hpm := List.mem_of_getElem? hp
          have hx2 : ((n.names.map Prod.fst).map Value.string)[j]? = some (.string nm) := by rw [List.getElem?_map, List.getElem?_map, hp]; rfl
          have j1 : (j : Int) < (n.names.length : Int) := by omega
          have hks := keys_small HNM.out (nm, idv) hpm
          have hlk : lookL (namesL n.names) (.string nm.data.toList) (.int .i64 0) = .int .i64 idv := by rw [look_names, In.leads_at HSN.out hpm]
          have hen : entC (n.names.take j) ++ [.string nm, .int .i64 idv] = entC (n.names.take (j + 1)) := by
            unfold entC
            rw [List.take_add_one, hp, Option.toList_some, List.flatMap_append]
            rfl
          clear hp hpm hlt
          change St w0 [] _ ((g2, true, Res.pre ((n.names.map Prod.fst).map Value.string) 9 (vd * 1)) :: (nb, true, _) :: (slL s3 (entC (n.names.take j)) 127 2 ++ _)) at hM
          (repeat (first | ((with_reducible show wpSeq _ _ _ _ _ _ _); first | ((with_reducible refine wpSeq_nil ?_); refine hKr.out _ _ ?_; clear hKr Kr) | ((first | (refine St.copy (v := ?_) (by first | exact .inl rfl | exact .inr rfl) rfl rfl ?_ ?_; rotate_left; (focus ((try simp only [Act.eval, getD_lit, List.getD_cons_zero, List.getD_cons_succ]); with_reducible rfl))) | (refine St.pure (v := ?_) rfl rfl rfl (fun w => ?_) ?_; rotate_left; (focus (go_simp; all_goals with_reducible rfl))) | refine St.load rfl hM rfl rfl rfl rfl (by repeat constructor) (by first | rfl | assumption) (by kernel_rfl) ?_ | refine St.load1 rfl rfl rfl rfl (by repeat constructor) (by rfl) (by kernel_rfl) ?_ | refine St.loadF1 rfl rfl rfl rfl (fun w' hS => hS.old (by assumption)) (by kernel_rfl) ?_); (try simp only [Act.put, List.setIfInBounds_toArray, List.set_cons_zero, List.set_cons_succ]))) | (first | (refine wp_seq_shut (fun K hK => ?_)) | (refine wp_text hM (fun Kr hKr => ?_); simp only [inText]) | refine wp_block ?_ | refine wp_skip ?_ | (refine wp_cond_true rfl ?_) | ((refine hK.out _ _ ?_); clear hK K)) | ((refine wp_drawn (id := 12) hM (Sub.skip (Sub.take Sub.nil)) [1, 6] [(0, 0), (1, 1), (2, 0), (3, 0), (4, 0), (5, 0), (6, 1), (7, 2), (8, 2), (9, 2), (10, 2), (11, 2), (12, 3), (13, 3)] (by kernel_rfl) (by kernel_rfl) ?_); (clear hM; intro w hM Kr hKr); simp only [opsOf, List.getD_cons_zero, List.getD_cons_succ])))
          (refine St.lookupF rfl hM rfl rfl rfl rfl HNM.out key_str Tryz.underlying164 zero_int (WideMaps.keyOf_string_mk Tryz.underlying9 hks) hlk ?_)
          (try simp only [Act.put, List.setIfInBounds_toArray, List.set_cons_zero, List.set_cons_succ])
          (repeat (((with_reducible show wpSeq _ _ _ _ _ _ _); ((first | (refine St.pure (v := ?_) rfl rfl rfl (fun w => ?_) ?_; rotate_left; (focus (go_simp; all_goals with_reducible rfl))) | (((((refine St.buildSlice (cells := ?_) (e := ?_) rfl hM rfl rfl (fun w => ?_) ?_; rotate_left 2; (focus (go_simp; all_goals with_reducible rfl)))); clear hM; intro w bk hM)); (try simp only [Res.put, Res.known, Act.eval, Value.cells, getD_lit, List.getD_cons_zero, List.getD_cons_succ, List.toList_toArray, List.set_cons_zero, List.set_cons_succ, over, Nat.reduceAdd] at hM))); (try simp only [Act.put, List.setIfInBounds_toArray, List.set_cons_zero, List.set_cons_succ])))))
          have hap : ∀ k', s3.map (·.1) = some k' → nb ≠ k' := fun k' hk' e => by
            cases s3 with
            | none => cases hk'
            | some gg =>
              have hnd := hM.nd
              simp only [slL, List.map_cons, List.map_append, List.nodup_cons, List.mem_cons, List.mem_append, List.map_nil, List.not_mem_nil, or_false, not_or] at hnd
              have : gg.1 = k' := by simpa using hk'
              omega
          refine St.append2 (s := s3) (n := j) (xs := entC (n.names.take j)) rfl hM rfl rfl rfl rfl rfl (by kernel_rfl) (by intro s'; repeat (first | exact Swap.here | apply Swap.skip)) HK3.out rfl (hM.news (by repeat constructor)) rfl (by rw [maxLen_val]; omega) (by omega) (fun _ z hz => by rcases List.mem_singleton.1 hz with rfl; exact hap) ?_
          clear hM hap; intro w s4 hM hk4 hs4
          simp only [Res.known] at hM hk4
          rw [hen] at hM hk4
          cases s4 with
          | none => exact absurd rfl (hs4 (Nat.succ_pos _))
          | some gc4 =>
          obtain ⟨g4, cap4⟩ := gc4
          have HK4 := Lib.hid hk4
          replace hM := hM.forget
          clear hs4 hk4 hlk hen
          (try simp only [Act.put, List.setIfInBounds_toArray, List.set_cons_zero, List.set_cons_succ])
          (repeat (first | ((with_reducible show wpSeq _ _ _ _ _ _ _); first | ((with_reducible refine wpSeq_nil ?_); refine hKr.out _ _ ?_; clear hKr Kr) | ((first | (refine St.copy (v := ?_) (by exact .inl rfl) rfl rfl ?_ ?_; rotate_left; (focus ((try simp only [Act.eval, getD_lit, List.getD_cons_zero, List.getD_cons_succ]); with_reducible rfl))) | refine St.inc rfl rfl rfl rfl rfl (by omega) ?_ | (refine St.pure (v := ?_) rfl rfl rfl (fun w => ?_) ?_; rotate_left; (focus (go_simp; all_goals with_reducible rfl))) | ((((refine St.store rfl hM rfl rfl rfl rfl rfl (by repeat constructor) (Nat.le_of_ble_eq_true rfl) (by kernel_rfl) rfl ?_ ?_); (focus ((intro h; cases h; done))); clear hM; intro w hM)); (try simp only [Res.put, Res.known, Act.eval, Value.cells, getD_lit, List.getD_cons_zero, List.getD_cons_succ, List.toList_toArray, List.set_cons_zero, List.set_cons_succ, over, Nat.reduceAdd] at hM))); (try simp only [Act.put, List.setIfInBounds_toArray, List.set_cons_zero, List.set_cons_succ]))) | (first | (refine wp_text hM (fun Kr hKr => ?_); simp only [inText]) | ((refine hK.out _ _ ?_); clear hK K))))
          (refine ⟨?_, ?_⟩; (focus (repeat (first | exact ⟨⟨j + 1, some (g4, cap4), by omega, rfl, HK4.out, hM⟩, rfl⟩ | apply Exists.intro))); (simp only [getD_lit, List.getD_cons_zero, List.getD_cons_succ, intOf]; omega))
        · have k0 : ¬ ((j : Int) < (n.names.length : Int)) := by omega
          obtain rfl : j = n.names.length := by omega
          clear hlt hj
          rw [List.take_length] at hM HK3
          replace hM := hM.subM (List.sublist_append_right _ _)
          obtain ⟨v3, c3', hsv3, -⟩ := slV_open HK3.out
          rw [hsv3] at hM
          have HV3 := Lib.hid hsv3
          clear hsv3
          (repeat (first | ((with_reducible show wpSeq _ _ _ _ _ _ _); first | ((with_reducible refine wpSeq_nil ?_); refine hKr.out _ _ ?_; clear hKr Kr) | ((first | (refine St.copy (v := ?_) (by exact .inl rfl) rfl rfl ?_ ?_; rotate_left; (focus ((try simp only [Act.eval, getD_lit, List.getD_cons_zero, List.getD_cons_succ]); with_reducible rfl))) | (refine St.pure (v := ?_) rfl rfl rfl (fun w => ?_) ?_; rotate_left; (focus (go_simp; all_goals with_reducible rfl))) | ((refine St.loadRow rfl hM rfl rfl rfl rfl (by repeat constructor) (Nat.le_of_ble_eq_true rfl) (by kernel_rfl) ?_); (try simp only [Res.known, List.drop_succ_cons, List.drop_zero, List.take_succ_cons, List.take_zero])) | (((((refine St.buildSlice (cells := ?_) (e := ?_) rfl hM rfl rfl (fun w => ?_) ?_; rotate_left 2; (focus (go_simp; all_goals with_reducible rfl)))); clear hM; intro w bk hM)); (try simp only [Res.put, Res.known, Act.eval, Value.cells, getD_lit, List.getD_cons_zero, List.getD_cons_succ, List.toList_toArray, List.set_cons_zero, List.set_cons_succ, over, Nat.reduceAdd] at hM))); (try simp only [Act.put, List.setIfInBounds_toArray, List.set_cons_zero, List.set_cons_succ]))) | (first | (refine wp_seq_shut (fun K hK => ?_)) | (refine wp_text hM (fun Kr hKr => ?_); simp only [inText]) | (refine wp_cond_false rfl ?_) | (refine wp_exit ?_; simp only [Exit.then, Exit.inBlock, if_true, if_false, reduceCtorEq, Nat.reduceEqDiff, Nat.succ_ne_zero]) | ((first | refine hK.out _ _ ?_ | (clear hK K; refine hK.out _ _ ?_)); clear hK K))))
          refine St.append (s := s) (n := zs.length) (xs := zs.flatMap NodV.cells) rfl hM rfl rfl rfl rfl rfl (by kernel_rfl) (by intro s'; repeat (first | exact Swap.here | apply Swap.skip | apply Swap.past)) HS.out rfl (hM.news (by repeat constructor)) rfl (by rw [maxLen_val]; omega) (by omega) (fun _ => .inl rfl) ?_
          clear hM; intro w s' hM hk' hs'
          simp only [Res.known] at hM hk'
          let z : NodV := (n, s3)
          have hfl : zs.flatMap NodV.cells ++ [.int .i64 n.id, .bool n.dir, .int .i64 n.links, .int .i64 n.holds, .string n.data, .slice v3 n.names.length c3'] = (zs ++ [z]).flatMap NodV.cells := by
            rw [← HV3.out]
            simp [z, List.flatMap_append, NodV.cells]
          have hle : zs.length + 1 = (zs ++ [z]).length := by simp
          have hee : (zs ++ [z]).flatMap NodV.ents = zs.flatMap NodV.ents ++ slL s3 (entC n.names) 127 2 := by simp [z, List.flatMap_append, NodV.ents]
          rw [hfl] at hM hk'
          replace hM := (hM.forget.forget).perm (L' := (g1, true, Res.pre ((t.nodes.map (·.id)).map (Value.int .i64)) 3 (vc * 1)) :: (slL s' ((zs ++ [z]).flatMap NodV.cells) 124 6 ++ (zs ++ [z]).flatMap NodV.ents)) (by
            rw [hee]
            refine List.perm_append_comm.trans ?_
            simp only [List.cons_append, List.append_assoc]
            exact List.Perm.refl _)
          rw [hle] at hk' ⊢
          have HS' := Lib.hid hk'
          have hz' : (zs ++ [z]).map (·.1) = t.nodes.take (k + 1) := by
            rw [List.take_add_one, HN.out, List.map_append, HZ.out]
            rfl
          have hn' : ∀ y ∈ zs ++ [z], SlOK y.2 y.1.names.length (entC y.1.names) 2 := fun y hy => by
            rcases List.mem_append.1 hy with hy | hy
            · exact HE.out y hy
            · rcases List.mem_singleton.1 hy with rfl
              exact HK3.out
          generalize zs ++ [z] = zs' at *
          clear hk' hs' hfl hle hee
          (try simp only [Act.put, List.setIfInBounds_toArray, List.set_cons_zero, List.set_cons_succ])
          (repeat (first | ((with_reducible show wpSeq _ _ _ _ _ _ _); first | ((with_reducible refine wpSeq_nil ?_); refine hKr.out _ _ ?_; clear hKr Kr) | ((first | (refine St.copy (v := ?_) (by first | exact .inl rfl | exact .inr rfl) rfl rfl ?_ ?_; rotate_left; (focus ((try simp only [Act.eval, getD_lit, List.getD_cons_zero, List.getD_cons_succ]); with_reducible rfl))) | refine St.inc rfl rfl rfl rfl rfl (by omega) ?_); (try simp only [Act.put, List.setIfInBounds_toArray, List.set_cons_zero, List.set_cons_succ]))) | (first | (refine wp_text hM (fun Kr hKr => ?_); simp only [inText]) | ((refine hK.out _ _ ?_); clear hK K))))
          (refine ⟨?_, ?_⟩; (focus (repeat (first | exact ⟨⟨k + 1, s', zs', by omega, rfl, rfl, hz', HS'.out, hn', hM⟩, rfl⟩ | apply Exists.intro))); (simp only [getD_lit, List.getD_cons_zero, List.getD_cons_succ, intOf]; omega))
    · have k0 : ¬ ((k : Int) < (t.nodes.length : Int)) := by omega
      obtain rfl : k = t.nodes.length := by omega
      clear hlt hk
      (repeat (first | ((with_reducible show wpSeq _ _ _ _ _ _ _); first | ((with_reducible refine wpSeq_nil ?_); refine hKr.out _ _ ?_; clear hKr Kr) | ((first | (refine St.copy (v := ?_) (by first | exact .inl rfl | exact .inr rfl) rfl rfl ?_ ?_; rotate_left; (focus ((try simp only [Act.eval, getD_lit, List.getD_cons_zero, List.getD_cons_succ]); with_reducible rfl))) | (refine St.pure (v := ?_) rfl rfl rfl (fun w => ?_) ?_; rotate_left; (focus (go_simp; all_goals with_reducible rfl)))); (try simp only [Act.put, List.setIfInBounds_toArray, List.set_cons_zero, List.set_cons_succ]))) | (first | (refine wp_seq_shut (fun K hK => ?_)) | (refine wp_text hM (fun Kr hKr => ?_); simp only [inText]) | (refine wp_cond_false rfl ?_) | (refine wp_exit ?_; simp only [Exit.then, Exit.inBlock, if_true, if_false, reduceCtorEq, Nat.reduceEqDiff, Nat.succ_ne_zero]) | ((first | refine hK.out _ _ ?_ | (clear hK K; refine hK.out _ _ ?_)); clear hK K))))
      ((refine wp_ret ?_; (try simp only [Exit.then, Exit.inBlock]); refine St.ret hM rfl (by repeat (first | exact Outs.nil | apply Outs.tmp rfl)) rfl ?_))
      have e := HZ.out
      rw [List.take_length] at e
      refine ⟨s, zs, rfl, e, HS.out, HE.out, ?_⟩
      exact hM.subM (List.sublist_append_right _ _)
end
end Go.Proofs.YtcicjklhbnipcaaGreatDoor
namespace Go.Proofs.YtcicjklhbnipcaaGreatDoor
set_option linter.unusedVariables false
set_option linter.unusedSimpArgs false
open Go.RowKit Go.Maps
namespace Pt
def join (d n : ByteArray) : ByteArray := if d.data.toList = [] ∨ n.data.toList = [] then d ++ n else d ++ slash ++ n
end Pt
set_option maxHeartbeats 4000000 in
set_option maxRecDepth 100000 in
theorem Join_any (d n : ByteArray) (w : World) (hd : d.size ≤ 4611686018427387904) (hn : n.size ≤ 1000000) : Calls Tryz.prog 71 #[.string d, .string n] w fun e w' => e = .returned (.string (Pt.join d n)) ∧ w = w' := by
  have hM := St.start w []
  by_cases h1 : d.data.toList = []
  · have q1 := beqs_yes h1
    have e : Pt.join d n = d ++ n := if_pos (.inl h1)
    rw [e]
    clear h1 e
    go_enter Tryz.func71, Tryz.ntmps71
    (repeat (first | ((with_reducible show wpSeq _ _ _ _ _ _ _); first | ((with_reducible refine wpSeq_nil ?_); refine hKr.out _ _ ?_; clear hKr Kr) | ((first | (refine St.copy (v := ?_) (by first | exact .inl rfl | exact .inr rfl) rfl rfl ?_ ?_; rotate_left; (focus ((try simp only [Act.eval, getD_lit, List.getD_cons_zero, List.getD_cons_succ]); with_reducible rfl))) | refine St.cat rfl rfl rfl rfl rfl (by omega) ?_ | (refine St.pure (v := ?_) rfl rfl rfl (fun w => ?_) ?_; rotate_left; (focus (go_simp; all_goals with_reducible rfl))) | refine wpSeq_off rfl rfl ?_); (try simp only [Act.put, List.setIfInBounds_toArray, List.set_cons_zero, List.set_cons_succ]))) | (first | (refine wp_seq_shut (fun K hK => ?_)) | (refine wp_text hM (fun Kr hKr => ?_); simp only [inText]) | (refine wp_cond_true rfl ?_) | ((refine hK.out _ _ ?_); clear hK K))))
    (refine wp_ret ?_; (try simp only [Exit.then, Exit.inBlock]); refine St.ret hM rfl (by repeat (first | exact Outs.nil | apply Outs.tmp rfl)) rfl ?_)
    exact ⟨rfl, rfl⟩
  · have q1 := beqs_no h1
    by_cases h2 : n.data.toList = []
    · have q2 := beqs_yes h2
      have e : Pt.join d n = d ++ n := if_pos (.inr h2)
      rw [e]
      clear h1 h2 e
      go_enter Tryz.func71, Tryz.ntmps71
      (repeat (first | ((with_reducible show wpSeq _ _ _ _ _ _ _); first | ((with_reducible refine wpSeq_nil ?_); refine hKr.out _ _ ?_; clear hKr Kr) | ((first | (refine St.copy (v := ?_) (by first | exact .inl rfl | exact .inr rfl) rfl rfl ?_ ?_; rotate_left; (focus ((try simp only [Act.eval, getD_lit, List.getD_cons_zero, List.getD_cons_succ]); with_reducible rfl))) | refine St.cat rfl rfl rfl rfl rfl (by omega) ?_ | (refine St.pure (v := ?_) rfl rfl rfl (fun w => ?_) ?_; rotate_left; (focus (go_simp; all_goals with_reducible rfl)))); (try simp only [Act.put, List.setIfInBounds_toArray, List.set_cons_zero, List.set_cons_succ]))) | (first | (refine wp_seq_shut (fun K hK => ?_)) | (refine wp_text hM (fun Kr hKr => ?_); simp only [inText]) | (refine wp_cond_true rfl ?_) | ((refine hK.out _ _ ?_); clear hK K))))
      (refine wp_ret ?_; (try simp only [Exit.then, Exit.inBlock]); refine St.ret hM rfl (by repeat (first | exact Outs.nil | apply Outs.tmp rfl)) rfl ?_)
      exact ⟨rfl, rfl⟩
    · have q2 := beqs_no h2
      have e : Pt.join d n = d ++ Pt.slash ++ n := if_neg (fun h => h.elim h1 h2)
      rw [e]
      clear h1 h2 e
      go_enter Tryz.func71, Tryz.ntmps71
      (repeat (first | ((with_reducible show wpSeq _ _ _ _ _ _ _); first | ((with_reducible refine wpSeq_nil ?_); refine hKr.out _ _ ?_; clear hKr Kr) | ((first | (refine St.copy (v := ?_) (by first | exact .inl rfl | exact .inr rfl) rfl rfl ?_ ?_; rotate_left; (focus ((try simp only [Act.eval, getD_lit, List.getD_cons_zero, List.getD_cons_succ]); with_reducible rfl))) | refine St.cat rfl rfl rfl rfl rfl (by (simp only [ByteArray.size_append, ba_size, List.size_toArray, List.length_cons, List.length_nil, Nat.reduceAdd]; omega)) ?_ | (refine St.pure (v := ?_) rfl rfl rfl (fun w => ?_) ?_; rotate_left; (focus (go_simp; all_goals with_reducible rfl)))); (try simp only [Act.put, List.setIfInBounds_toArray, List.set_cons_zero, List.set_cons_succ]))) | (first | (refine wp_seq_shut (fun K hK => ?_)) | (refine wp_text hM (fun Kr hKr => ?_); simp only [inText]) | refine wp_skip ?_ | (refine wp_cond_false rfl ?_) | ((refine hK.out _ _ ?_); clear hK K))))
      (refine wp_ret ?_; (try simp only [Exit.then, Exit.inBlock]); refine St.ret hM rfl (by repeat (first | exact Outs.nil | apply Outs.tmp rfl)) rfl ?_)
      exact ⟨rfl, rfl⟩
/-- A struct's field of one cell: where it lies. -/
def fldB (P : Program) (t : TypeId) (i off : Nat) : Bool := match P.underlying t with | some (.struct fs) => (match fs[i]? with | some f => f.offset == off && oneB P f.type | none => false) | _ => false
section
variable {P : Program} {K : Act → World → Prop} {a : Act} {w : World} {ops : Array Oper} {l : List (Oper × Nat)} {c : Nat} {o : Oper} {ty : TypeId} {x : Operand} {S : World → Prop} {i off : Nat}
theorem run_field1 (w : World) (hx : o.op = .field ty x i) {cs : Array Value} (e1 : a.eval x = .agg cs) (hB : fldB P ty i off = true) {v : Value} (hv : cs[off]? = some v) : (execOp a.eval o).run P w = .ok (.value v) w := by
  unfold fldB at hB
  split at hB
  · rename_i fs hu
    split at hB
    · rename_i f hf
      simp only [Bool.and_eq_true, beq_iff_eq] at hB
      obtain ⟨rfl, hB⟩ := hB
      obtain ⟨d, u1, u2, u3⟩ := oneB_spec hB
      have hagg : (isAgg f.type).run P w = .ok false w := by
        unfold isAgg
        rw [Sem.run_bind, run_underlying u1 w]
        cases d <;> simp_all
      have hr : (Instr.field ty (.agg cs) i).run P w = .ok v w := by
        unfold Instr.field
        simp only [Sem.run_bind, Sem.run_pure, Result.andThen_ok, run_underlying hu w, hf, asAgg, part, hagg, Bool.false_eq_true, if_false, hv]
      unfold execOp
      simp only [hx, e1, Sem.run_bind, hr, Result.andThen_ok, Sem.run_pure]
    · cases hB
  · cases hB
theorem St.field (hx : o.op = .field ty x i) (hc : (c == 0 || c == 2 || c == 3) = true) (hw : Region.wanted o (yielded ops a.tmps) = true) {cs : Array Value} (e1 : a.eval x = .agg cs) (hB : fldB P ty i off = true) {v : Value} (hv : cs[off]? = some v) (h : wpSeq P ops K S l (a.put o.dst v) w) : wpSeq P ops K S ((o, c) :: l) a w :=
  St.soft hc hw (fun w => run_field1 w hx e1 hB hv) h
end
def zN : Value := .agg #[.int .i64 0, .bool false, .int .i64 0, .int .i64 0, .string ⟨#[]⟩, .slice none 0 0]
theorem zero_node (w : World) : (zeroValue 124).run Tryz.prog w = .ok zN w := by kernel_rfl
end Go.Proofs.YtcicjklhbnipcaaGreatDoor
namespace Go.Proofs.YtcicjklhbnipcaaGreatDoor
set_option linter.unusedVariables false
set_option linter.unusedSimpArgs false
open Go.RowKit Go.Maps
variable {N : Nat} {w : World} {x : FsX} {β : Int → Nat × Nat}
/-- Some entries alone. -/
inductive Pick : List Ent → List Ent → Prop where
  | nil {L : List Ent} : Pick [] L
  | cons {x : Ent} {L L' M : List Ent} (h : Del L x L') (t : Pick M L') : Pick (x :: M) L
theorem Pick.spec {M L : List Ent} (h : Pick M L) (hnd : (L.map (·.1)).Nodup) : (∀ x ∈ M, x ∈ L) ∧ (M.map (·.1)).Nodup := by
  induction h with
  | nil => exact ⟨nofun, List.nodup_nil⟩
  | @cons x L L' M hd _ ih =>
    obtain ⟨h1, h2, h3⟩ := hd.mem
    obtain ⟨g1, g2⟩ := h3 hnd
    obtain ⟨i1, i2⟩ := ih g1
    refine ⟨fun z hz => ?_, ?_⟩
    · rcases List.mem_cons.1 hz with rfl | hz
      · exact h1
      · exact h2 _ (i1 z hz)
    · simp only [List.map_cons, List.nodup_cons]
      refine ⟨fun hm => ?_, i2⟩
      obtain ⟨u, hu, e⟩ := List.mem_map.1 hm
      exact g2 _ (i1 u hu) e
theorem St.pick {w0 : World} {F : List Nat} {L M : List Ent} (h : St w0 F w L) (hp : Pick M L) : St w0 F w M := h.drop (hp.spec h.nd).1 (hp.spec h.nd).2
end Go.Proofs.YtcicjklhbnipcaaGreatDoor
namespace Go.Proofs.YtcicjklhbnipcaaGreatDoor
set_option linter.unusedVariables false
set_option linter.unusedSimpArgs false
open Go.ChangeShapes Go.WideShapes Go.RowKit

theorem len9 {cs : List Value} (h : cs.length = 9) : ∃ c0 c1 c2 c3 c4 c5 c6 c7 c8, cs = [c0, c1, c2, c3, c4, c5, c6, c7, c8] := by
  match cs, h with
  | [c0, c1, c2, c3, c4, c5, c6, c7, c8], _ => exact ⟨c0, c1, c2, c3, c4, c5, c6, c7, c8, rfl⟩
theorem len11 {cs : List Value} (h : cs.length = 11) : ∃ c0 c1 c2 c3 c4 c5 c6 c7 c8 c9 c10, cs = [c0, c1, c2, c3, c4, c5, c6, c7, c8, c9, c10] := by
  match cs, h with
  | [c0, c1, c2, c3, c4, c5, c6, c7, c8, c9, c10], _ => exact ⟨c0, c1, c2, c3, c4, c5, c6, c7, c8, c9, c10, rfl⟩
/-- What every operation's numbers and texts are. -/
structure OpD.Fit (o : OpD) : Prop where
  kind : Fits o.kind
  h : Fits o.h
  at_ : Fits o.at_
  n : Fits o.n
  path : o.path.size ≤ maxLen
  dest : o.dest.size ≤ maxLen
  data : o.data.size ≤ maxLen
  pid : Fits o.pid
  birth : Fits o.birth
structure ActF where
  owner : Int
  exit : Bool
  op : OpD
def ActF.cells (a : ActF) : List Value := .int .i64 a.owner :: .bool a.exit :: a.op.cells
structure ActF.Fit (a : ActF) : Prop where
  owner : Fits a.owner
  op : a.op.Fit
def ROp9 : Rep OpD := fun _ _ cs x => cs = x.cells ∧ x.Fit
def RActF : Rep ActF := fun _ _ cs x => cs = x.cells ∧ x.Fit
theorem opens_named_str : Opens Tryz.prog 9 RStr := opens_str Tryz.underlying9
theorem opens_named_int : Opens Tryz.prog 3 (RInt .i64) := opens_int Tryz.underlying3
theorem opens_named_bool : Opens Tryz.prog 4 RBool := opens_bool Tryz.underlying4
theorem cells_op9 : Tryz.prog.cellsOf 34 = 9 := by kernel_rfl
theorem opens_op9 : Opens Tryz.prog 34 ROp9 := ⟨by
  intro H enc w sp held k B cs y h hp
  obtain ⟨hl, hf⟩ := opens_fields Tryz.underlying34 h hp
  rw [cells_op9] at hl
  obtain ⟨c0, c1, c2, c3, c4, c5, c6, c7, c8, rfl⟩ := len9 hl
  obtain ⟨x0, h0⟩ := hf 0 _ rfl opens_named_int
  replace h0 : (RInt .i64) w B (([c0, c1, c2, c3, c4, c5, c6, c7, c8].drop 0).take (Tryz.prog.cellsOf 3)) x0 := h0
  rw [show Tryz.prog.cellsOf 3 = 1 from by kernel_rfl] at h0
  replace h0 : (RInt .i64) w B [c0] x0 := h0
  obtain ⟨x1, h1⟩ := hf 1 _ rfl opens_named_str
  replace h1 : RStr w B (([c0, c1, c2, c3, c4, c5, c6, c7, c8].drop 1).take (Tryz.prog.cellsOf 9)) x1 := h1
  rw [show Tryz.prog.cellsOf 9 = 1 from by kernel_rfl] at h1
  replace h1 : RStr w B [c1] x1 := h1
  obtain ⟨x2, h2⟩ := hf 2 _ rfl opens_named_str
  replace h2 : RStr w B (([c0, c1, c2, c3, c4, c5, c6, c7, c8].drop 2).take (Tryz.prog.cellsOf 9)) x2 := h2
  rw [show Tryz.prog.cellsOf 9 = 1 from by kernel_rfl] at h2
  replace h2 : RStr w B [c2] x2 := h2
  obtain ⟨x3, h3⟩ := hf 3 _ rfl opens_named_int
  replace h3 : (RInt .i64) w B (([c0, c1, c2, c3, c4, c5, c6, c7, c8].drop 3).take (Tryz.prog.cellsOf 3)) x3 := h3
  rw [show Tryz.prog.cellsOf 3 = 1 from by kernel_rfl] at h3
  replace h3 : (RInt .i64) w B [c3] x3 := h3
  obtain ⟨x4, h4⟩ := hf 4 _ rfl opens_named_int
  replace h4 : (RInt .i64) w B (([c0, c1, c2, c3, c4, c5, c6, c7, c8].drop 4).take (Tryz.prog.cellsOf 3)) x4 := h4
  rw [show Tryz.prog.cellsOf 3 = 1 from by kernel_rfl] at h4
  replace h4 : (RInt .i64) w B [c4] x4 := h4
  obtain ⟨x5, h5⟩ := hf 5 _ rfl opens_named_int
  replace h5 : (RInt .i64) w B (([c0, c1, c2, c3, c4, c5, c6, c7, c8].drop 5).take (Tryz.prog.cellsOf 3)) x5 := h5
  rw [show Tryz.prog.cellsOf 3 = 1 from by kernel_rfl] at h5
  replace h5 : (RInt .i64) w B [c5] x5 := h5
  obtain ⟨x6, h6⟩ := hf 6 _ rfl opens_named_str
  replace h6 : RStr w B (([c0, c1, c2, c3, c4, c5, c6, c7, c8].drop 6).take (Tryz.prog.cellsOf 9)) x6 := h6
  rw [show Tryz.prog.cellsOf 9 = 1 from by kernel_rfl] at h6
  replace h6 : RStr w B [c6] x6 := h6
  obtain ⟨x7, h7⟩ := hf 7 _ rfl opens_named_int
  replace h7 : (RInt .i64) w B (([c0, c1, c2, c3, c4, c5, c6, c7, c8].drop 7).take (Tryz.prog.cellsOf 3)) x7 := h7
  rw [show Tryz.prog.cellsOf 3 = 1 from by kernel_rfl] at h7
  replace h7 : (RInt .i64) w B [c7] x7 := h7
  obtain ⟨x8, h8⟩ := hf 8 _ rfl opens_named_int
  replace h8 : (RInt .i64) w B (([c0, c1, c2, c3, c4, c5, c6, c7, c8].drop 8).take (Tryz.prog.cellsOf 3)) x8 := h8
  rw [show Tryz.prog.cellsOf 3 = 1 from by kernel_rfl] at h8
  replace h8 : (RInt .i64) w B [c8] x8 := h8
  obtain ⟨e0, b0⟩ := h0
  obtain ⟨e1, b1⟩ := h1
  obtain ⟨e2, b2⟩ := h2
  obtain ⟨e3, b3⟩ := h3
  obtain ⟨e4, b4⟩ := h4
  obtain ⟨e5, b5⟩ := h5
  obtain ⟨e6, b6⟩ := h6
  obtain ⟨e7, b7⟩ := h7
  obtain ⟨e8, b8⟩ := h8
  simp only [List.cons.injEq, and_true] at e0 e1 e2 e3 e4 e5 e6 e7 e8
  subst e0 e1 e2 e3 e4 e5 e6 e7 e8
  exact ⟨⟨x0, x1, x2, x3, x4, x5, x6, x7, x8⟩, rfl, ⟨b0, b3, b4, b5, b1, b2, b6, b7, b8⟩⟩⟩
theorem cells_actF : Tryz.prog.cellsOf 36 = 11 := by kernel_rfl
theorem opens_actF : Opens Tryz.prog 36 RActF := ⟨by
  intro H enc w sp held k B cs y h hp
  obtain ⟨hl, hf⟩ := opens_fields Tryz.underlying36 h hp
  rw [cells_actF] at hl
  obtain ⟨c0, c1, c2, c3, c4, c5, c6, c7, c8, c9, c10, rfl⟩ := len11 hl
  obtain ⟨x0, h0⟩ := hf 0 _ rfl opens_named_int
  replace h0 : (RInt .i64) w B (([c0, c1, c2, c3, c4, c5, c6, c7, c8, c9, c10].drop 0).take (Tryz.prog.cellsOf 3)) x0 := h0
  rw [show Tryz.prog.cellsOf 3 = 1 from by kernel_rfl] at h0
  replace h0 : (RInt .i64) w B [c0] x0 := h0
  obtain ⟨x1, h1⟩ := hf 1 _ rfl opens_named_bool
  replace h1 : RBool w B (([c0, c1, c2, c3, c4, c5, c6, c7, c8, c9, c10].drop 1).take (Tryz.prog.cellsOf 4)) x1 := h1
  rw [show Tryz.prog.cellsOf 4 = 1 from by kernel_rfl] at h1
  replace h1 : RBool w B [c1] x1 := h1
  obtain ⟨x2, h2⟩ := hf 2 _ rfl opens_op9
  replace h2 : ROp9 w B (([c0, c1, c2, c3, c4, c5, c6, c7, c8, c9, c10].drop 2).take (Tryz.prog.cellsOf 34)) x2 := h2
  rw [show Tryz.prog.cellsOf 34 = 9 from by kernel_rfl] at h2
  replace h2 : ROp9 w B [c2, c3, c4, c5, c6, c7, c8, c9, c10] x2 := h2
  obtain ⟨e0, b0⟩ := h0
  have e1 : [c1] = [Value.bool x1] := h1
  obtain ⟨e2, b2⟩ := h2
  simp only [List.cons.injEq, and_true] at e0 e1
  subst e0 e1
  exact ⟨⟨x0, x1, x2⟩, congrArg (fun r => Value.int .i64 x0 :: Value.bool x1 :: r) e2, ⟨b0, b2⟩⟩⟩
/-- Acts that lie in memory: cell by cell. -/
def ActsIn (w : World) (a : Option Addr) (n : Nat) (xs : List ActF) : Prop :=
  n = xs.length ∧ n ≤ maxLen ∧ ∀ k x, xs[k]? = some x → x.Fit ∧ ∃ b off, a = some ⟨b, off, none⟩ ∧ ∀ j, j < 11 → w.cell? ⟨b, off + k * 11 + j, none⟩ = x.cells[j]?
theorem ActsIn.below {w w' : World} {a : Option Addr} {n : Nat} {xs : List ActF} (h : ActsIn w a n xs) (hb : Below w.heap.size w w') : ActsIn w' a n xs := by
  obtain ⟨h1, h2, h3⟩ := h
  refine ⟨h1, h2, fun k x hk => ?_⟩
  obtain ⟨hf, b, off, ha, hc⟩ := h3 k x hk
  refine ⟨hf, b, off, ha, fun j hj => ?_⟩
  have := hc j hj
  have hlen : x.cells.length = 11 := rfl
  have hs : x.cells[j]? = some x.cells[j] := List.getElem?_eq_getElem (by omega)
  rw [hs] at this ⊢
  exact (hb.cell (p := ⟨b, off + k * 11 + j, none⟩) (World.block_lt_of_cell? w _ this)).trans this
end Go.Proofs.YtcicjklhbnipcaaGreatDoor
namespace Go.Proofs.YtcicjklhbnipcaaGreatDoor
set_option linter.unusedVariables false
set_option linter.unusedSimpArgs false
open Go.Shelf
open Go.ChangeShapes Go.WideShapes Go.ChangeAt Go.RowKit
open Go.Lib hiding intOf

theorem band {a b : Bool} (ha : a = true) (hb : b = true) : (a && b) = true := by rw [ha, hb]; rfl
theorem topOwn : ownKnob Tryz.prog.godebug = none := by kernel_rfl
theorem topLaid : laidOutB Tryz.prog = true := by kernel_rfl
abbrev tabsLaidF : List (String × DataW Unit) := [("unicode/utf8.acceptRanges", Rows.laid_unicode_utf8_acceptRanges), ("unicode/utf8.first", Rows.laid_unicode_utf8_first)]
/-- A world in which the two tables lie as their initialisers lay them. -/
noncomputable def laidWorldF (os : Os) : World :=
  let w0 := World.holding Tryz.prog os ⟨#[], #[], []⟩
  let put (h : Array Obj) (g : Nat) (cs : Array Value) : Array Obj := h.modify g fun
    | .cells _ t frozen => .cells cs t frozen
    | o => o
  let h1 := put w0.heap 1 (Lib.firstTab.map fun z => Value.int .u8 z).toArray
  let h2 := put h1 2 ((List.range 16).flatMap fun i => [Value.int .u8 (Lib.accLo i), Value.int .u8 (Lib.accHi i)]).toArray
  { w0 with heap := h2 }
theorem laid_metF (os : Os) (args : Array Value) : laidMet Tryz.prog tabsLaidF ((laidWorldF os).forCall (fun _ _ => 0) ⟨#[], args, []⟩).memory :=
  (LaidIn.of_run (l := tabsLaidF) [2, 1] 8 (by kernel_rfl) (by kernel_rfl) (by kernel_rfl) (by kernel_rfl)).met
theorem mx_of {W : World} (hsh : W.ShapedOpen Tryz.prog) : Mx W :=
  Go.Proofs.cell_of_shapedOpen_int (zero := #[.int .i64 0]) (t := 3) hsh (of_decide_eq_true (by kernel_rfl)) (by kernel_rfl) rfl (by kernel_rfl) (by kernel_rfl) Tryz.underlying3
theorem trod_lt_of {H : Type} {enc : TypeId × Value → H} {W : World} {t : TypeId} {v : Value} {d : DataW H} {ps : List MemPlace} (h : DataW.Trod enc Tryz.prog W 0 (fun _ => true) true t v d ps) : ∀ x ∈ ps, x.block < W.heap.size := by
  obtain ⟨m, hm⟩ := h; exact DataW.trod_lt m _ _ _ hm
/-- A one-cell argument, read. -/
theorem opened {H : Type} {enc : TypeId × Value → H} {W : World} {t : TypeId} {v : Value} {d : DataW H} {ps : List MemPlace} {α : Type} {R : Rep α} (hR : Opens Tryz.prog t R)
    (h : DataW.Trod enc Tryz.prog W 0 (fun _ => true) true t v d ps) (hc : v.cells.toList = [v]) : ∃ x, R W W.heap.size [v] x := by
  have lt := trod_lt_of h
  obtain ⟨fuel, hf⟩ := h
  rw [hc] at hf
  exact hR.out hf lt
end Go.Proofs.YtcicjklhbnipcaaGreatDoor
namespace Go.Proofs.YtcicjklhbnipcaaGreatDoor
set_option linter.unusedVariables false
set_option linter.unusedSimpArgs false
open Go.ChangeShapes Go.WideShapes Go.RowKit

theorem len13 {cs : List Value} (h : cs.length = 13) : ∃ c0 c1 c2 c3 c4 c5 c6 c7 c8 c9 c10 c11 c12, cs = [c0, c1, c2, c3, c4, c5, c6, c7, c8, c9, c10, c11, c12] := by
  match cs, h with
  | [c0, c1, c2, c3, c4, c5, c6, c7, c8, c9, c10, c11, c12], _ => exact ⟨c0, c1, c2, c3, c4, c5, c6, c7, c8, c9, c10, c11, c12, rfl⟩
structure ActO where
  f : ActF
  cut : Bool
  keep : Int
def ActO.cells (a : ActO) : List Value := a.f.cells ++ [.bool a.cut, .int .i64 a.keep]
structure ActO.Fit (a : ActO) : Prop where
  f : a.f.Fit
  keep : Fits a.keep
def RActO : Rep ActO := fun _ _ cs x => cs = x.cells ∧ x.Fit
def RActOs : Rep (List ActO) := RSlice 13 RActO
theorem cells_actO : Tryz.prog.cellsOf 60 = 13 := by kernel_rfl
theorem opens_actO : Opens Tryz.prog 60 RActO := ⟨by
  intro H enc w sp held k B cs y h hp
  obtain ⟨hl, hf⟩ := opens_fields Tryz.underlying60 h hp
  rw [cells_actO] at hl
  obtain ⟨c0, c1, c2, c3, c4, c5, c6, c7, c8, c9, c10, c11, c12, rfl⟩ := len13 hl
  obtain ⟨x0, h0⟩ := hf 0 _ rfl opens_actF
  replace h0 : RActF w B (([c0, c1, c2, c3, c4, c5, c6, c7, c8, c9, c10, c11, c12].drop 0).take (Tryz.prog.cellsOf 36)) x0 := h0
  rw [show Tryz.prog.cellsOf 36 = 11 from by kernel_rfl] at h0
  replace h0 : RActF w B [c0, c1, c2, c3, c4, c5, c6, c7, c8, c9, c10] x0 := h0
  obtain ⟨x1, h1⟩ := hf 1 _ rfl opens_named_bool
  replace h1 : RBool w B (([c0, c1, c2, c3, c4, c5, c6, c7, c8, c9, c10, c11, c12].drop 11).take (Tryz.prog.cellsOf 4)) x1 := h1
  rw [show Tryz.prog.cellsOf 4 = 1 from by kernel_rfl] at h1
  replace h1 : RBool w B [c11] x1 := h1
  obtain ⟨x2, h2⟩ := hf 2 _ rfl opens_named_int
  replace h2 : (RInt .i64) w B (([c0, c1, c2, c3, c4, c5, c6, c7, c8, c9, c10, c11, c12].drop 12).take (Tryz.prog.cellsOf 3)) x2 := h2
  rw [show Tryz.prog.cellsOf 3 = 1 from by kernel_rfl] at h2
  replace h2 : (RInt .i64) w B [c12] x2 := h2
  obtain ⟨e0, b0⟩ := h0
  have e1 : [c11] = [Value.bool x1] := h1
  obtain ⟨e2, b2⟩ := h2
  simp only [List.cons.injEq, and_true] at e1 e2
  subst e1 e2
  exact ⟨⟨x0, x1, x2⟩, congrArg (fun r => r ++ [Value.bool x1, Value.int .i64 x2]) e0, ⟨b0, b2⟩⟩⟩
theorem opens_actOs : Opens Tryz.prog 53 RActOs := opens_slice Tryz.underlying53 cells_actO (by omega) opens_actO
/-- Acts that lie in memory: cell by cell. -/
def ActOsIn (w : World) (a : Option Addr) (n : Nat) (xs : List ActO) : Prop :=
  n = xs.length ∧ n ≤ maxLen ∧ ∀ k x, xs[k]? = some x → x.Fit ∧ ∃ b off, a = some ⟨b, off, none⟩ ∧ ∀ j, j < 13 → w.cell? ⟨b, off + k * 13 + j, none⟩ = x.cells[j]?
theorem actOs_in {w : World} {B : Nat} {a : Option Addr} {n cap : Nat} {xs : List ActO} (h : RActOs w B [.slice a n cap] xs) : ActOsIn w a n xs := by
  obtain ⟨a', cap', h1, h2, h3, h5, h4⟩ := h
  simp only [List.cons.injEq, Value.slice.injEq, and_true] at h1
  obtain ⟨rfl, rfl, rfl⟩ := h1
  refine ⟨rfl, by omega, fun k x hk => ?_⟩
  have hp : 0 < xs.length := by have := (List.getElem?_eq_some_iff.1 hk).1; omega
  obtain ⟨b, off, rfl, hb, hx⟩ := h4 hp
  obtain ⟨es, hl, hc, rfl, hs⟩ := hx k x hk
  exact ⟨hs, b, off, rfl, hc⟩
theorem ActOsIn.below {w w' : World} {a : Option Addr} {n : Nat} {xs : List ActO} (h : ActOsIn w a n xs) (hb : Below w.heap.size w w') : ActOsIn w' a n xs := by
  obtain ⟨h1, h2, h3⟩ := h
  refine ⟨h1, h2, fun k x hk => ?_⟩
  obtain ⟨hf, b, off, ha, hc⟩ := h3 k x hk
  refine ⟨hf, b, off, ha, fun j hj => ?_⟩
  have := hc j hj
  have hlen : x.cells.length = 13 := rfl
  have hs : x.cells[j]? = some x.cells[j] := List.getElem?_eq_getElem (by omega)
  rw [hs] at this ⊢
  exact (hb.cell (p := ⟨b, off + k * 13 + j, none⟩) (World.block_lt_of_cell? w _ this)).trans this
end Go.Proofs.YtcicjklhbnipcaaGreatDoor
namespace Go.Proofs.YtcicjklhbnipcaaGreatDoor
set_option linter.unusedVariables false
set_option linter.unusedSimpArgs false
open Go.RowKit Go.Maps
theorem row_of {w : World} {b q : Nat} {es : List Value} (h : ∀ j, j < es.length → w.cell? ⟨b, q + j, none⟩ = es[j]?) : w.rangeAt b q es := fun j v hj => by
  rw [h j (List.getElem?_eq_some_iff.1 hj).1, hj]
structure SmallF (x : ActF) : Prop where
  path : x.op.path.size ≤ 200
  dest : x.op.dest.size ≤ 200
  data : x.op.data.size ≤ 200
/-- What is read of an act in memory. -/
theorem ActsIn.get {w : World} {a : Option Addr} {n : Nat} {xs : List ActF} (h : ActsIn w a n xs) {k : Nat} {x : ActF} (hk : xs[k]? = some x) :
    x.Fit ∧ ∃ b off, a = some ⟨b, off, none⟩ ∧ w.rangeAt b (off + k * 11) x.cells ∧ w.rangeAt b (off + k * 11 + 2) x.op.cells := by
  obtain ⟨-, -, h3⟩ := h
  obtain ⟨hf, b, off, rfl, hc⟩ := h3 k x hk
  refine ⟨hf, b, off, rfl, row_of fun j hj => hc j hj, row_of fun j hj => ?_⟩
  have := hc (j + 2) (by have : x.op.cells.length = 9 := rfl; omega)
  rw [show off + k * 11 + (j + 2) = off + k * 11 + 2 + j by omega] at this
  rw [this]
  rfl
theorem ActF.len {xs : List ActF} {w : World} {a : Option Addr} {n : Nat} (h : ActsIn w a n xs) : n = xs.length := h.1
set_option maxHeartbeats 16000000 in
set_option maxRecDepth 100000 in
theorem small9_any {w : World} {a : Option Addr} {n c : Nat} {xs : List ActF} (most : Int) (hm0 : 0 ≤ most) (hm1 : most ≤ 1000) (h : ActsIn w a n xs) :
    Calls Tryz.prog 14 #[.slice a n c, .int .i64 most] w fun e w' => ∃ b : Bool, e = .returned (.bool b) ∧ (b = true → (xs.length : Int) ≤ most ∧ ∀ (j : Nat) (y : ActF), xs[j]? = some y → SmallF y) ∧ Below w.heap.size w w' := by
  have hM := St.start w []
  have HX := Lib.hid h
  obtain ⟨rfl, hn, -⟩ := h
  rw [maxLen_val] at hn
  go_enter Tryz.func14, Tryz.ntmps14
  (repeat (first | ((with_reducible show wpSeq _ _ _ _ _ _ _); first | ((with_reducible refine wpSeq_nil ?_); refine hKr.out _ _ ?_; clear hKr Kr) | (((refine St.copy (v := ?_) (by exact .inr rfl) rfl rfl ?_ ?_; rotate_left; (focus ((try simp only [Act.eval, getD_lit, List.getD_cons_zero, List.getD_cons_succ]); with_reducible rfl)))); (try simp only [Act.put, List.setIfInBounds_toArray, List.set_cons_zero, List.set_cons_succ]))) | (first | (refine wp_seq_shut (fun K hK => ?_)) | (refine wp_text hM (fun Kr hKr => ?_); simp only [inText]) | refine wp_block ?_ | ((refine hK.out _ _ ?_); clear hK K))))
  go_loopw [5] (fun i wr => ∃ k : Nat, k ≤ xs.length ∧ (k : Int) ≤ most ∧ i = .int .i64 k ∧ Hid (∀ (j : Nat) (y : ActF), j < k → xs[j]? = some y → SmallF y) ∧ St w [] wr []) (fun i _ => xs.length - (intOf i).toNat)
  case atStart => exact ⟨0, by omega, hm0, rfl, Lib.hid (fun j y hj => absurd hj (by omega)), hM⟩
  case round =>
    clear hM
    obtain ⟨k, hk, hkm, rfl, HS, hM⟩ := hrel
    by_cases hlt : k < xs.length
    · have k1 : (k : Int) < (xs.length : Int) := by omega
      by_cases hlm : (k : Int) < most
      · obtain ⟨x, hxk⟩ := get_at hlt
        obtain ⟨hf, b, off, rfl, -, hc⟩ := HX.out.get hxk
        have HN := Lib.hid (fun (hs : SmallF x) => (show ∀ (j : Nat) (y : ActF), j < k + 1 → xs[j]? = some y → SmallF y from fun j y hj hy => by
          rcases Nat.lt_or_ge j k with h | h
          · exact HS.out j y h hy
          · obtain rfl : j = k := by omega
            rw [hxk] at hy; cases hy; exact hs))
        clear hxk
        obtain ⟨xo, xe, ⟨pk, pp, pd, ph, pa, pn, px, py, pb⟩⟩ := x
        simp only [OpD.cells] at hc
        have hpp := hf.op.path
        have hpd := hf.op.dest
        have hpx := hf.op.data
        rw [maxLen_val] at hpp hpd hpx
        simp only at hpp hpd hpx
        clear hf
        by_cases q1 : (200 : Int) < (pp.size : Int)
        · (repeat (first | ((with_reducible show wpSeq _ _ _ _ _ _ _); first | ((with_reducible refine wpSeq_nil ?_); refine hKr.out _ _ ?_; clear hKr Kr) | ((first | (refine St.copy (v := ?_) (by first | exact .inl rfl | exact .inr rfl) rfl rfl ?_ ?_; rotate_left; (focus ((try simp only [Act.eval, getD_lit, List.getD_cons_zero, List.getD_cons_succ]); with_reducible rfl))) | (refine St.pure (v := ?_) rfl rfl rfl (fun w => ?_) ?_; rotate_left; (focus (go_simp; all_goals with_reducible rfl))) | refine St.load rfl hM rfl rfl rfl rfl (by repeat constructor) (by rfl) (by kernel_rfl) ?_ | refine St.loadRowF rfl rfl rfl rfl rfl (hM.oldRow (by assumption)) (by kernel_rfl) ?_ | refine wpSeq_off rfl rfl ?_ | ((((refine St.storeRow rfl hM rfl rfl rfl rfl rfl (by repeat constructor) (Nat.le_of_ble_eq_true rfl) (Nat.le_of_ble_eq_true rfl) (by kernel_rfl) rfl ?_ ?_); (focus ((intro h; cases h; done))); clear hM; intro w hM)); (try simp only [Res.put, Res.known, Act.eval, Value.cells, getD_lit, List.getD_cons_zero, List.getD_cons_succ, List.toList_toArray, List.set_cons_zero, List.set_cons_succ, over, Nat.reduceAdd] at hM))); (try simp only [Act.put, List.setIfInBounds_toArray, List.set_cons_zero, List.set_cons_succ])) | (((refine St.alloc (ty := 34) (z := .agg #[.int .i64 0, .string ⟨#[]⟩, .string ⟨#[]⟩, .int .i64 0, .int .i64 0, .int .i64 0, .string ⟨#[]⟩, .int .i64 0, .int .i64 0]) rfl hM rfl rfl (by kernel_rfl) ?_); clear hM; intro w bk hM); (try simp only [Res.put, Res.known, Act.eval, Value.cells, getD_lit, List.getD_cons_zero, List.getD_cons_succ, List.toList_toArray, List.set_cons_zero, List.set_cons_succ, over, Nat.reduceAdd] at hM); (try simp only [Act.put, List.setIfInBounds_toArray, List.set_cons_zero, List.set_cons_succ]))) | (first | (refine wp_seq_shut (fun K hK => ?_)) | (refine wp_text hM (fun Kr hKr => ?_); simp only [inText]) | refine wp_block ?_ | refine wp_skip ?_ | (refine wp_cond_true rfl ?_) | ((refine hK.out _ _ ?_); clear hK K))))
          ((refine wp_ret ?_; (try simp only [Exit.then, Exit.inBlock]); refine St.ret hM rfl (by repeat (first | exact Outs.nil | apply Outs.tmp rfl)) rfl ?_))
          exact ⟨false, rfl, nofun, hM.to_below⟩
        by_cases q2 : (200 : Int) < (pd.size : Int)
        · (repeat (first | ((with_reducible show wpSeq _ _ _ _ _ _ _); first | ((with_reducible refine wpSeq_nil ?_); refine hKr.out _ _ ?_; clear hKr Kr) | ((first | (refine St.copy (v := ?_) (by first | exact .inl rfl | exact .inr rfl) rfl rfl ?_ ?_; rotate_left; (focus ((try simp only [Act.eval, getD_lit, List.getD_cons_zero, List.getD_cons_succ]); with_reducible rfl))) | (refine St.pure (v := ?_) rfl rfl rfl (fun w => ?_) ?_; rotate_left; (focus (go_simp; all_goals with_reducible rfl))) | refine St.load rfl hM rfl rfl rfl rfl (by repeat constructor) (by rfl) (by kernel_rfl) ?_ | refine St.loadRowF rfl rfl rfl rfl rfl (hM.oldRow (by assumption)) (by kernel_rfl) ?_ | refine wpSeq_off rfl rfl ?_ | ((((refine St.storeRow rfl hM rfl rfl rfl rfl rfl (by repeat constructor) (Nat.le_of_ble_eq_true rfl) (Nat.le_of_ble_eq_true rfl) (by kernel_rfl) rfl ?_ ?_); (focus ((intro h; cases h; done))); clear hM; intro w hM)); (try simp only [Res.put, Res.known, Act.eval, Value.cells, getD_lit, List.getD_cons_zero, List.getD_cons_succ, List.toList_toArray, List.set_cons_zero, List.set_cons_succ, over, Nat.reduceAdd] at hM))); (try simp only [Act.put, List.setIfInBounds_toArray, List.set_cons_zero, List.set_cons_succ])) | (((refine St.alloc (ty := 34) (z := .agg #[.int .i64 0, .string ⟨#[]⟩, .string ⟨#[]⟩, .int .i64 0, .int .i64 0, .int .i64 0, .string ⟨#[]⟩, .int .i64 0, .int .i64 0]) rfl hM rfl rfl (by kernel_rfl) ?_); clear hM; intro w bk hM); (try simp only [Res.put, Res.known, Act.eval, Value.cells, getD_lit, List.getD_cons_zero, List.getD_cons_succ, List.toList_toArray, List.set_cons_zero, List.set_cons_succ, over, Nat.reduceAdd] at hM); (try simp only [Act.put, List.setIfInBounds_toArray, List.set_cons_zero, List.set_cons_succ]))) | (first | (refine wp_seq_shut (fun K hK => ?_)) | (refine wp_text hM (fun Kr hKr => ?_); simp only [inText]) | refine wp_block ?_ | refine wp_skip ?_ | (refine wp_cond_true rfl ?_) | ((refine hK.out _ _ ?_); clear hK K))))
          ((refine wp_ret ?_; (try simp only [Exit.then, Exit.inBlock]); refine St.ret hM rfl (by repeat (first | exact Outs.nil | apply Outs.tmp rfl)) rfl ?_))
          exact ⟨false, rfl, nofun, hM.to_below⟩
        by_cases q3 : (200 : Int) < (px.size : Int)
        · (repeat (first | ((with_reducible show wpSeq _ _ _ _ _ _ _); first | ((with_reducible refine wpSeq_nil ?_); refine hKr.out _ _ ?_; clear hKr Kr) | ((first | (refine St.copy (v := ?_) (by first | exact .inl rfl | exact .inr rfl) rfl rfl ?_ ?_; rotate_left; (focus ((try simp only [Act.eval, getD_lit, List.getD_cons_zero, List.getD_cons_succ]); with_reducible rfl))) | (refine St.pure (v := ?_) rfl rfl rfl (fun w => ?_) ?_; rotate_left; (focus (go_simp; all_goals with_reducible rfl))) | refine St.load rfl hM rfl rfl rfl rfl (by repeat constructor) (by rfl) (by kernel_rfl) ?_ | refine St.loadRowF rfl rfl rfl rfl rfl (hM.oldRow (by assumption)) (by kernel_rfl) ?_ | refine wpSeq_off rfl rfl ?_ | ((((refine St.storeRow rfl hM rfl rfl rfl rfl rfl (by repeat constructor) (Nat.le_of_ble_eq_true rfl) (Nat.le_of_ble_eq_true rfl) (by kernel_rfl) rfl ?_ ?_); (focus ((intro h; cases h; done))); clear hM; intro w hM)); (try simp only [Res.put, Res.known, Act.eval, Value.cells, getD_lit, List.getD_cons_zero, List.getD_cons_succ, List.toList_toArray, List.set_cons_zero, List.set_cons_succ, over, Nat.reduceAdd] at hM))); (try simp only [Act.put, List.setIfInBounds_toArray, List.set_cons_zero, List.set_cons_succ])) | (((refine St.alloc (ty := 34) (z := .agg #[.int .i64 0, .string ⟨#[]⟩, .string ⟨#[]⟩, .int .i64 0, .int .i64 0, .int .i64 0, .string ⟨#[]⟩, .int .i64 0, .int .i64 0]) rfl hM rfl rfl (by kernel_rfl) ?_); clear hM; intro w bk hM); (try simp only [Res.put, Res.known, Act.eval, Value.cells, getD_lit, List.getD_cons_zero, List.getD_cons_succ, List.toList_toArray, List.set_cons_zero, List.set_cons_succ, over, Nat.reduceAdd] at hM); (try simp only [Act.put, List.setIfInBounds_toArray, List.set_cons_zero, List.set_cons_succ]))) | (first | (refine wp_seq_shut (fun K hK => ?_)) | (refine wp_text hM (fun Kr hKr => ?_); simp only [inText]) | refine wp_block ?_ | refine wp_skip ?_ | (refine wp_cond_true rfl ?_) | ((refine hK.out _ _ ?_); clear hK K))))
          ((refine wp_ret ?_; (try simp only [Exit.then, Exit.inBlock]); refine St.ret hM rfl (by repeat (first | exact Outs.nil | apply Outs.tmp rfl)) rfl ?_))
          exact ⟨false, rfl, nofun, hM.to_below⟩
        have HN' := Lib.hid (HN.out ⟨by show pp.size ≤ 200; omega, by show pd.size ≤ 200; omega, by show px.size ≤ 200; omega⟩)
        clear HN
        by_cases q4 : (4096 : Int) < pa
        · by_cases q5 : pa ≤ 1048576
          · (repeat (first | ((with_reducible show wpSeq _ _ _ _ _ _ _); first | ((with_reducible refine wpSeq_nil ?_); refine hKr.out _ _ ?_; clear hKr Kr) | ((first | (refine St.copy (v := ?_) (by first | exact .inl rfl | exact .inr rfl) rfl rfl ?_ ?_; rotate_left; (focus ((try simp only [Act.eval, getD_lit, List.getD_cons_zero, List.getD_cons_succ]); with_reducible rfl))) | (refine St.pure (v := ?_) rfl rfl rfl (fun w => ?_) ?_; rotate_left; (focus (go_simp; all_goals with_reducible rfl))) | refine St.load rfl hM rfl rfl rfl rfl (by repeat constructor) (by rfl) (by kernel_rfl) ?_ | refine St.loadRowF rfl rfl rfl rfl rfl (hM.oldRow (by assumption)) (by kernel_rfl) ?_ | refine wpSeq_off rfl rfl ?_ | ((((refine St.storeRow rfl hM rfl rfl rfl rfl rfl (by repeat constructor) (Nat.le_of_ble_eq_true rfl) (Nat.le_of_ble_eq_true rfl) (by kernel_rfl) rfl ?_ ?_); (focus ((intro h; cases h; done))); clear hM; intro w hM)); (try simp only [Res.put, Res.known, Act.eval, Value.cells, getD_lit, List.getD_cons_zero, List.getD_cons_succ, List.toList_toArray, List.set_cons_zero, List.set_cons_succ, over, Nat.reduceAdd] at hM))); (try simp only [Act.put, List.setIfInBounds_toArray, List.set_cons_zero, List.set_cons_succ])) | (((refine St.alloc (ty := 34) (z := .agg #[.int .i64 0, .string ⟨#[]⟩, .string ⟨#[]⟩, .int .i64 0, .int .i64 0, .int .i64 0, .string ⟨#[]⟩, .int .i64 0, .int .i64 0]) rfl hM rfl rfl (by kernel_rfl) ?_); clear hM; intro w bk hM); (try simp only [Res.put, Res.known, Act.eval, Value.cells, getD_lit, List.getD_cons_zero, List.getD_cons_succ, List.toList_toArray, List.set_cons_zero, List.set_cons_succ, over, Nat.reduceAdd] at hM); (try simp only [Act.put, List.setIfInBounds_toArray, List.set_cons_zero, List.set_cons_succ]))) | (first | (refine wp_seq_shut (fun K hK => ?_)) | (refine wp_text hM (fun Kr hKr => ?_); simp only [inText]) | refine wp_block ?_ | refine wp_skip ?_ | (refine wp_cond_true rfl ?_) | ((refine hK.out _ _ ?_); clear hK K))))
            ((refine wp_ret ?_; (try simp only [Exit.then, Exit.inBlock]); refine St.ret hM rfl (by repeat (first | exact Outs.nil | apply Outs.tmp rfl)) rfl ?_))
            exact ⟨false, rfl, nofun, hM.to_below⟩
          · by_cases q6 : (4096 : Int) < pn
            · by_cases q7 : pn ≤ 1048576
              · (repeat (first | ((with_reducible show wpSeq _ _ _ _ _ _ _); first | ((with_reducible refine wpSeq_nil ?_); refine hKr.out _ _ ?_; clear hKr Kr) | ((first | (refine St.copy (v := ?_) (by first | exact .inl rfl | exact .inr rfl) rfl rfl ?_ ?_; rotate_left; (focus ((try simp only [Act.eval, getD_lit, List.getD_cons_zero, List.getD_cons_succ]); with_reducible rfl))) | (refine St.pure (v := ?_) rfl rfl rfl (fun w => ?_) ?_; rotate_left; (focus (go_simp; all_goals with_reducible rfl))) | refine St.load rfl hM rfl rfl rfl rfl (by repeat constructor) (by rfl) (by kernel_rfl) ?_ | refine St.loadRowF rfl rfl rfl rfl rfl (hM.oldRow (by assumption)) (by kernel_rfl) ?_ | ((((refine St.storeRow rfl hM rfl rfl rfl rfl rfl (by repeat constructor) (Nat.le_of_ble_eq_true rfl) (Nat.le_of_ble_eq_true rfl) (by kernel_rfl) rfl ?_ ?_); (focus ((intro h; cases h; done))); clear hM; intro w hM)); (try simp only [Res.put, Res.known, Act.eval, Value.cells, getD_lit, List.getD_cons_zero, List.getD_cons_succ, List.toList_toArray, List.set_cons_zero, List.set_cons_succ, over, Nat.reduceAdd] at hM))); (try simp only [Act.put, List.setIfInBounds_toArray, List.set_cons_zero, List.set_cons_succ])) | (((refine St.alloc (ty := 34) (z := .agg #[.int .i64 0, .string ⟨#[]⟩, .string ⟨#[]⟩, .int .i64 0, .int .i64 0, .int .i64 0, .string ⟨#[]⟩, .int .i64 0, .int .i64 0]) rfl hM rfl rfl (by kernel_rfl) ?_); clear hM; intro w bk hM); (try simp only [Res.put, Res.known, Act.eval, Value.cells, getD_lit, List.getD_cons_zero, List.getD_cons_succ, List.toList_toArray, List.set_cons_zero, List.set_cons_succ, over, Nat.reduceAdd] at hM); (try simp only [Act.put, List.setIfInBounds_toArray, List.set_cons_zero, List.set_cons_succ]))) | (first | (refine wp_seq_shut (fun K hK => ?_)) | (refine wp_text hM (fun Kr hKr => ?_); simp only [inText]) | refine wp_block ?_ | refine wp_skip ?_ | (refine wp_cond_true rfl ?_) | ((refine hK.out _ _ ?_); clear hK K))))
                ((refine wp_ret ?_; (try simp only [Exit.then, Exit.inBlock]); refine St.ret hM rfl (by repeat (first | exact Outs.nil | apply Outs.tmp rfl)) rfl ?_))
                exact ⟨false, rfl, nofun, hM.to_below⟩
              · (repeat (first | ((with_reducible show wpSeq _ _ _ _ _ _ _); first | ((with_reducible refine wpSeq_nil ?_); refine hKr.out _ _ ?_; clear hKr Kr) | ((first | (refine St.copy (v := ?_) (by first | exact .inl rfl | exact .inr rfl) rfl rfl ?_ ?_; rotate_left; (focus ((try simp only [Act.eval, getD_lit, List.getD_cons_zero, List.getD_cons_succ]); with_reducible rfl))) | refine St.inc rfl rfl rfl rfl rfl (by omega) ?_ | (refine St.pure (v := ?_) rfl rfl rfl (fun w => ?_) ?_; rotate_left; (focus (go_simp; all_goals with_reducible rfl))) | refine St.load rfl hM rfl rfl rfl rfl (by repeat constructor) (by rfl) (by kernel_rfl) ?_ | refine St.loadRowF rfl rfl rfl rfl rfl (hM.oldRow (by assumption)) (by kernel_rfl) ?_ | ((((refine St.storeRow rfl hM rfl rfl rfl rfl rfl (by repeat constructor) (Nat.le_of_ble_eq_true rfl) (Nat.le_of_ble_eq_true rfl) (by kernel_rfl) rfl ?_ ?_); (focus ((intro h; cases h; done))); clear hM; intro w hM)); (try simp only [Res.put, Res.known, Act.eval, Value.cells, getD_lit, List.getD_cons_zero, List.getD_cons_succ, List.toList_toArray, List.set_cons_zero, List.set_cons_succ, over, Nat.reduceAdd] at hM))); (try simp only [Act.put, List.setIfInBounds_toArray, List.set_cons_zero, List.set_cons_succ])) | (((refine St.alloc (ty := 34) (z := .agg #[.int .i64 0, .string ⟨#[]⟩, .string ⟨#[]⟩, .int .i64 0, .int .i64 0, .int .i64 0, .string ⟨#[]⟩, .int .i64 0, .int .i64 0]) rfl hM rfl rfl (by kernel_rfl) ?_); clear hM; intro w bk hM); (try simp only [Res.put, Res.known, Act.eval, Value.cells, getD_lit, List.getD_cons_zero, List.getD_cons_succ, List.toList_toArray, List.set_cons_zero, List.set_cons_succ, over, Nat.reduceAdd] at hM); (try simp only [Act.put, List.setIfInBounds_toArray, List.set_cons_zero, List.set_cons_succ]))) | (first | (refine wp_seq_shut (fun K hK => ?_)) | (refine wp_text hM (fun Kr hKr => ?_); simp only [inText]) | refine wp_block ?_ | refine wp_skip ?_ | (first | refine wp_cond_true rfl ?_ | refine wp_cond_false rfl ?_) | ((refine hK.out _ _ ?_); clear hK K))))
                replace hM := hM.drop (L' := []) nofun (by simp)
                (refine ⟨?_, ?_⟩; (focus (repeat (first | exact ⟨⟨k + 1, by omega, by omega, rfl, HN', hM⟩, rfl⟩ | apply Exists.intro))); (simp only [getD_lit, List.getD_cons_zero, List.getD_cons_succ, intOf]; omega))
            · (repeat (first | ((with_reducible show wpSeq _ _ _ _ _ _ _); first | ((with_reducible refine wpSeq_nil ?_); refine hKr.out _ _ ?_; clear hKr Kr) | ((first | (refine St.copy (v := ?_) (by first | exact .inl rfl | exact .inr rfl) rfl rfl ?_ ?_; rotate_left; (focus ((try simp only [Act.eval, getD_lit, List.getD_cons_zero, List.getD_cons_succ]); with_reducible rfl))) | refine St.inc rfl rfl rfl rfl rfl (by omega) ?_ | (refine St.pure (v := ?_) rfl rfl rfl (fun w => ?_) ?_; rotate_left; (focus (go_simp; all_goals with_reducible rfl))) | refine St.load rfl hM rfl rfl rfl rfl (by repeat constructor) (by rfl) (by kernel_rfl) ?_ | refine St.loadRowF rfl rfl rfl rfl rfl (hM.oldRow (by assumption)) (by kernel_rfl) ?_ | refine wpSeq_off rfl rfl ?_ | ((((refine St.storeRow rfl hM rfl rfl rfl rfl rfl (by repeat constructor) (Nat.le_of_ble_eq_true rfl) (Nat.le_of_ble_eq_true rfl) (by kernel_rfl) rfl ?_ ?_); (focus ((intro h; cases h; done))); clear hM; intro w hM)); (try simp only [Res.put, Res.known, Act.eval, Value.cells, getD_lit, List.getD_cons_zero, List.getD_cons_succ, List.toList_toArray, List.set_cons_zero, List.set_cons_succ, over, Nat.reduceAdd] at hM))); (try simp only [Act.put, List.setIfInBounds_toArray, List.set_cons_zero, List.set_cons_succ])) | (((refine St.alloc (ty := 34) (z := .agg #[.int .i64 0, .string ⟨#[]⟩, .string ⟨#[]⟩, .int .i64 0, .int .i64 0, .int .i64 0, .string ⟨#[]⟩, .int .i64 0, .int .i64 0]) rfl hM rfl rfl (by kernel_rfl) ?_); clear hM; intro w bk hM); (try simp only [Res.put, Res.known, Act.eval, Value.cells, getD_lit, List.getD_cons_zero, List.getD_cons_succ, List.toList_toArray, List.set_cons_zero, List.set_cons_succ, over, Nat.reduceAdd] at hM); (try simp only [Act.put, List.setIfInBounds_toArray, List.set_cons_zero, List.set_cons_succ]))) | (first | (refine wp_seq_shut (fun K hK => ?_)) | (refine wp_text hM (fun Kr hKr => ?_); simp only [inText]) | refine wp_block ?_ | refine wp_skip ?_ | (first | refine wp_cond_true rfl ?_ | refine wp_cond_false rfl ?_) | ((refine hK.out _ _ ?_); clear hK K))))
              replace hM := hM.drop (L' := []) nofun (by simp)
              (refine ⟨?_, ?_⟩; (focus (repeat (first | exact ⟨⟨k + 1, by omega, by omega, rfl, HN', hM⟩, rfl⟩ | apply Exists.intro))); (simp only [getD_lit, List.getD_cons_zero, List.getD_cons_succ, intOf]; omega))
        · by_cases q6 : (4096 : Int) < pn
          · by_cases q7 : pn ≤ 1048576
            · (repeat (first | ((with_reducible show wpSeq _ _ _ _ _ _ _); first | ((with_reducible refine wpSeq_nil ?_); refine hKr.out _ _ ?_; clear hKr Kr) | ((first | (refine St.copy (v := ?_) (by first | exact .inl rfl | exact .inr rfl) rfl rfl ?_ ?_; rotate_left; (focus ((try simp only [Act.eval, getD_lit, List.getD_cons_zero, List.getD_cons_succ]); with_reducible rfl))) | (refine St.pure (v := ?_) rfl rfl rfl (fun w => ?_) ?_; rotate_left; (focus (go_simp; all_goals with_reducible rfl))) | refine St.load rfl hM rfl rfl rfl rfl (by repeat constructor) (by rfl) (by kernel_rfl) ?_ | refine St.loadRowF rfl rfl rfl rfl rfl (hM.oldRow (by assumption)) (by kernel_rfl) ?_ | refine wpSeq_off rfl rfl ?_ | ((((refine St.storeRow rfl hM rfl rfl rfl rfl rfl (by repeat constructor) (Nat.le_of_ble_eq_true rfl) (Nat.le_of_ble_eq_true rfl) (by kernel_rfl) rfl ?_ ?_); (focus ((intro h; cases h; done))); clear hM; intro w hM)); (try simp only [Res.put, Res.known, Act.eval, Value.cells, getD_lit, List.getD_cons_zero, List.getD_cons_succ, List.toList_toArray, List.set_cons_zero, List.set_cons_succ, over, Nat.reduceAdd] at hM))); (try simp only [Act.put, List.setIfInBounds_toArray, List.set_cons_zero, List.set_cons_succ])) | (((refine St.alloc (ty := 34) (z := .agg #[.int .i64 0, .string ⟨#[]⟩, .string ⟨#[]⟩, .int .i64 0, .int .i64 0, .int .i64 0, .string ⟨#[]⟩, .int .i64 0, .int .i64 0]) rfl hM rfl rfl (by kernel_rfl) ?_); clear hM; intro w bk hM); (try simp only [Res.put, Res.known, Act.eval, Value.cells, getD_lit, List.getD_cons_zero, List.getD_cons_succ, List.toList_toArray, List.set_cons_zero, List.set_cons_succ, over, Nat.reduceAdd] at hM); (try simp only [Act.put, List.setIfInBounds_toArray, List.set_cons_zero, List.set_cons_succ]))) | (first | (refine wp_seq_shut (fun K hK => ?_)) | (refine wp_text hM (fun Kr hKr => ?_); simp only [inText]) | refine wp_block ?_ | refine wp_skip ?_ | (refine wp_cond_true rfl ?_) | ((refine hK.out _ _ ?_); clear hK K))))
              ((refine wp_ret ?_; (try simp only [Exit.then, Exit.inBlock]); refine St.ret hM rfl (by repeat (first | exact Outs.nil | apply Outs.tmp rfl)) rfl ?_))
              exact ⟨false, rfl, nofun, hM.to_below⟩
            · (repeat (first | ((with_reducible show wpSeq _ _ _ _ _ _ _); first | ((with_reducible refine wpSeq_nil ?_); refine hKr.out _ _ ?_; clear hKr Kr) | ((first | (refine St.copy (v := ?_) (by first | exact .inl rfl | exact .inr rfl) rfl rfl ?_ ?_; rotate_left; (focus ((try simp only [Act.eval, getD_lit, List.getD_cons_zero, List.getD_cons_succ]); with_reducible rfl))) | refine St.inc rfl rfl rfl rfl rfl (by omega) ?_ | (refine St.pure (v := ?_) rfl rfl rfl (fun w => ?_) ?_; rotate_left; (focus (go_simp; all_goals with_reducible rfl))) | refine St.load rfl hM rfl rfl rfl rfl (by repeat constructor) (by rfl) (by kernel_rfl) ?_ | refine St.loadRowF rfl rfl rfl rfl rfl (hM.oldRow (by assumption)) (by kernel_rfl) ?_ | refine wpSeq_off rfl rfl ?_ | ((((refine St.storeRow rfl hM rfl rfl rfl rfl rfl (by repeat constructor) (Nat.le_of_ble_eq_true rfl) (Nat.le_of_ble_eq_true rfl) (by kernel_rfl) rfl ?_ ?_); (focus ((intro h; cases h; done))); clear hM; intro w hM)); (try simp only [Res.put, Res.known, Act.eval, Value.cells, getD_lit, List.getD_cons_zero, List.getD_cons_succ, List.toList_toArray, List.set_cons_zero, List.set_cons_succ, over, Nat.reduceAdd] at hM))); (try simp only [Act.put, List.setIfInBounds_toArray, List.set_cons_zero, List.set_cons_succ])) | (((refine St.alloc (ty := 34) (z := .agg #[.int .i64 0, .string ⟨#[]⟩, .string ⟨#[]⟩, .int .i64 0, .int .i64 0, .int .i64 0, .string ⟨#[]⟩, .int .i64 0, .int .i64 0]) rfl hM rfl rfl (by kernel_rfl) ?_); clear hM; intro w bk hM); (try simp only [Res.put, Res.known, Act.eval, Value.cells, getD_lit, List.getD_cons_zero, List.getD_cons_succ, List.toList_toArray, List.set_cons_zero, List.set_cons_succ, over, Nat.reduceAdd] at hM); (try simp only [Act.put, List.setIfInBounds_toArray, List.set_cons_zero, List.set_cons_succ]))) | (first | (refine wp_seq_shut (fun K hK => ?_)) | (refine wp_text hM (fun Kr hKr => ?_); simp only [inText]) | refine wp_block ?_ | refine wp_skip ?_ | (first | refine wp_cond_true rfl ?_ | refine wp_cond_false rfl ?_) | ((refine hK.out _ _ ?_); clear hK K))))
              replace hM := hM.drop (L' := []) nofun (by simp)
              (refine ⟨?_, ?_⟩; (focus (repeat (first | exact ⟨⟨k + 1, by omega, by omega, rfl, HN', hM⟩, rfl⟩ | apply Exists.intro))); (simp only [getD_lit, List.getD_cons_zero, List.getD_cons_succ, intOf]; omega))
          · (repeat (first | ((with_reducible show wpSeq _ _ _ _ _ _ _); first | ((with_reducible refine wpSeq_nil ?_); refine hKr.out _ _ ?_; clear hKr Kr) | ((first | (refine St.copy (v := ?_) (by first | exact .inl rfl | exact .inr rfl) rfl rfl ?_ ?_; rotate_left; (focus ((try simp only [Act.eval, getD_lit, List.getD_cons_zero, List.getD_cons_succ]); with_reducible rfl))) | refine St.inc rfl rfl rfl rfl rfl (by omega) ?_ | (refine St.pure (v := ?_) rfl rfl rfl (fun w => ?_) ?_; rotate_left; (focus (go_simp; all_goals with_reducible rfl))) | refine St.load rfl hM rfl rfl rfl rfl (by repeat constructor) (by rfl) (by kernel_rfl) ?_ | refine St.loadRowF rfl rfl rfl rfl rfl (hM.oldRow (by assumption)) (by kernel_rfl) ?_ | refine wpSeq_off rfl rfl ?_ | ((((refine St.storeRow rfl hM rfl rfl rfl rfl rfl (by repeat constructor) (Nat.le_of_ble_eq_true rfl) (Nat.le_of_ble_eq_true rfl) (by kernel_rfl) rfl ?_ ?_); (focus ((intro h; cases h; done))); clear hM; intro w hM)); (try simp only [Res.put, Res.known, Act.eval, Value.cells, getD_lit, List.getD_cons_zero, List.getD_cons_succ, List.toList_toArray, List.set_cons_zero, List.set_cons_succ, over, Nat.reduceAdd] at hM))); (try simp only [Act.put, List.setIfInBounds_toArray, List.set_cons_zero, List.set_cons_succ])) | (((refine St.alloc (ty := 34) (z := .agg #[.int .i64 0, .string ⟨#[]⟩, .string ⟨#[]⟩, .int .i64 0, .int .i64 0, .int .i64 0, .string ⟨#[]⟩, .int .i64 0, .int .i64 0]) rfl hM rfl rfl (by kernel_rfl) ?_); clear hM; intro w bk hM); (try simp only [Res.put, Res.known, Act.eval, Value.cells, getD_lit, List.getD_cons_zero, List.getD_cons_succ, List.toList_toArray, List.set_cons_zero, List.set_cons_succ, over, Nat.reduceAdd] at hM); (try simp only [Act.put, List.setIfInBounds_toArray, List.set_cons_zero, List.set_cons_succ]))) | (first | (refine wp_seq_shut (fun K hK => ?_)) | (refine wp_text hM (fun Kr hKr => ?_); simp only [inText]) | refine wp_block ?_ | refine wp_skip ?_ | (first | refine wp_cond_true rfl ?_ | refine wp_cond_false rfl ?_) | ((refine hK.out _ _ ?_); clear hK K))))
            replace hM := hM.drop (L' := []) nofun (by simp)
            (refine ⟨?_, ?_⟩; (focus (repeat (first | exact ⟨⟨k + 1, by omega, by omega, rfl, HN', hM⟩, rfl⟩ | apply Exists.intro))); (simp only [getD_lit, List.getD_cons_zero, List.getD_cons_succ, intOf]; omega))
      · have k2 : ¬ (xs.length : Int) ≤ most := by omega
        (repeat (first | ((with_reducible show wpSeq _ _ _ _ _ _ _); first | ((with_reducible refine wpSeq_nil ?_); refine hKr.out _ _ ?_; clear hKr Kr) | ((first | (refine St.copy (v := ?_) (by first | exact .inl rfl | exact .inr rfl) rfl rfl ?_ ?_; rotate_left; (focus ((try simp only [Act.eval, getD_lit, List.getD_cons_zero, List.getD_cons_succ]); with_reducible rfl))) | (refine St.pure (v := ?_) rfl rfl rfl (fun w => ?_) ?_; rotate_left; (focus (go_simp; all_goals with_reducible rfl)))); (try simp only [Act.put, List.setIfInBounds_toArray, List.set_cons_zero, List.set_cons_succ]))) | (first | (refine wp_seq_shut (fun K hK => ?_)) | (refine wp_text hM (fun Kr hKr => ?_); simp only [inText]) | (refine wp_cond_false rfl ?_) | (refine wp_exit ?_; simp only [Exit.then, Exit.inBlock, if_true, if_false, reduceCtorEq, Nat.reduceEqDiff, Nat.succ_ne_zero]) | ((first | refine hK.out _ _ ?_ | (clear hK K; refine hK.out _ _ ?_)); clear hK K))))
        ((refine wp_ret ?_; (try simp only [Exit.then, Exit.inBlock]); refine St.ret hM rfl (by repeat (first | exact Outs.nil | apply Outs.tmp rfl)) rfl ?_))
        exact ⟨false, rfl, nofun, hM.to_below⟩
    · have k0 : ¬ ((k : Int) < (xs.length : Int)) := by omega
      obtain rfl : k = xs.length := by omega
      clear hlt hk
      (repeat (first | ((with_reducible show wpSeq _ _ _ _ _ _ _); first | ((with_reducible refine wpSeq_nil ?_); refine hKr.out _ _ ?_; clear hKr Kr) | ((first | (refine St.copy (v := ?_) (by first | exact .inl rfl | exact .inr rfl) rfl rfl ?_ ?_; rotate_left; (focus ((try simp only [Act.eval, getD_lit, List.getD_cons_zero, List.getD_cons_succ]); with_reducible rfl))) | (refine St.pure (v := ?_) rfl rfl rfl (fun w => ?_) ?_; rotate_left; (focus (go_simp; all_goals with_reducible rfl))) | refine wpSeq_off rfl rfl ?_); (try simp only [Act.put, List.setIfInBounds_toArray, List.set_cons_zero, List.set_cons_succ]))) | (first | (refine wp_seq_shut (fun K hK => ?_)) | (refine wp_text hM (fun Kr hKr => ?_); simp only [inText]) | (refine wp_cond_false rfl ?_) | (refine wp_exit ?_; simp only [Exit.then, Exit.inBlock, if_true, if_false, reduceCtorEq, Nat.reduceEqDiff, Nat.succ_ne_zero]) | ((first | refine hK.out _ _ ?_ | (clear hK K; refine hK.out _ _ ?_)); clear hK K))))
      ((refine wp_ret ?_; (try simp only [Exit.then, Exit.inBlock]); refine St.ret hM rfl (by repeat (first | exact Outs.nil | apply Outs.tmp rfl)) rfl ?_))
      exact ⟨true, rfl, fun _ => ⟨hkm, fun j y hy => HS.out j y (List.getElem?_eq_some_iff.1 hy).1 hy⟩, hM.to_below⟩
/-- Acts in a slice of the call's own. -/
theorem own_acts {w0 w : World} {F : List Nat} {L : List Ent} {b : Nat} {ow : Bool} {t : TypeId} {x : ActF} (hM : St w0 F w L) (hm : (b, ow, Res.cells x.cells t) ∈ L) (hf : x.Fit) : ActsIn w (some ⟨b, 0, none⟩) 1 [x] := by
  refine ⟨rfl, by unfold maxLen; omega, fun k y hk => ?_⟩
  obtain ⟨rfl, rfl⟩ : k = 0 ∧ y = x := by
    rcases k with _ | k
    · exact ⟨rfl, by simpa using hk.symm⟩
    · simp at hk
  refine ⟨hf, b, 0, rfl, fun j hj => ?_⟩
  have hs : y.cells[j]? = some y.cells[j] := List.getElem?_eq_getElem (show j < 11 from hj)
  rw [hs, show 0 + 0 * 11 + j = j by omega]
  exact Res.cell (hM.holds _ hm) hs
end Go.Proofs.YtcicjklhbnipcaaGreatDoor
namespace Go.Proofs.YtcicjklhbnipcaaGreatDoor
set_option linter.unusedVariables false
set_option linter.unusedSimpArgs false
open Go.RowKit Go.Maps
/-- What is read of an act in memory. -/
theorem ActOsIn.get {w : World} {a : Option Addr} {n : Nat} {xs : List ActO} (h : ActOsIn w a n xs) {k : Nat} {x : ActO} (hk : xs[k]? = some x) :
    x.Fit ∧ ∃ b off, a = some ⟨b, off, none⟩ ∧ w.rangeAt b (off + k * 13) x.cells ∧ w.rangeAt b (off + k * 13) x.f.cells ∧ w.rangeAt b (off + k * 13 + 2) x.f.op.cells := by
  obtain ⟨-, -, h3⟩ := h
  obtain ⟨hf, b, off, rfl, hc⟩ := h3 k x hk
  refine ⟨hf, b, off, rfl, row_of fun j hj => hc j hj, row_of fun j hj => ?_, row_of fun j hj => ?_⟩
  · have hl : x.f.cells.length = 11 := rfl
    rw [hc j (by omega)]
    unfold ActO.cells
    rw [List.getElem?_append_left hj]
  · have hl : x.f.op.cells.length = 9 := rfl
    have hl2 : x.f.cells.length = 11 := rfl
    have := hc (j + 2) (by omega)
    rw [show off + k * 13 + (j + 2) = off + k * 13 + 2 + j by omega] at this
    rw [this]
    unfold ActO.cells
    rw [List.getElem?_append_left (by omega)]
    rfl
set_option maxHeartbeats 16000000 in
set_option maxRecDepth 100000 in
theorem small10_any {w : World} {a : Option Addr} {n c : Nat} {xs : List ActO} (most : Int) (hm0 : 0 ≤ most) (hm1 : most ≤ 1000) (h : ActOsIn w a n xs) :
    Calls Tryz.prog 24 #[.slice a n c, .int .i64 most] w fun e w' => ∃ b : Bool, e = .returned (.bool b) ∧ (b = true → (xs.length : Int) ≤ most ∧ ∀ (j : Nat) (y : ActO), xs[j]? = some y → SmallF y.f) ∧ Below w.heap.size w w' := by
  have hM := St.start w []
  have HX := Lib.hid h
  obtain ⟨rfl, hn, -⟩ := h
  rw [maxLen_val] at hn
  go_enter Tryz.func24, Tryz.ntmps24
  (repeat (first | ((with_reducible show wpSeq _ _ _ _ _ _ _); first | ((with_reducible refine wpSeq_nil ?_); refine hKr.out _ _ ?_; clear hKr Kr) | (((refine St.copy (v := ?_) (by exact .inr rfl) rfl rfl ?_ ?_; rotate_left; (focus ((try simp only [Act.eval, getD_lit, List.getD_cons_zero, List.getD_cons_succ]); with_reducible rfl)))); (try simp only [Act.put, List.setIfInBounds_toArray, List.set_cons_zero, List.set_cons_succ]))) | (first | (refine wp_seq_shut (fun K hK => ?_)) | (refine wp_text hM (fun Kr hKr => ?_); simp only [inText]) | refine wp_block ?_ | ((refine hK.out _ _ ?_); clear hK K))))
  go_loopw [5] (fun i wr => ∃ k : Nat, k ≤ xs.length ∧ (k : Int) ≤ most ∧ i = .int .i64 k ∧ Hid (∀ (j : Nat) (y : ActO), j < k → xs[j]? = some y → SmallF y.f) ∧ St w [] wr []) (fun i _ => xs.length - (intOf i).toNat)
  case atStart => exact ⟨0, by omega, hm0, rfl, Lib.hid (fun j y hj => absurd hj (by omega)), hM⟩
  case round =>
    clear hM
    obtain ⟨k, hk, hkm, rfl, HS, hM⟩ := hrel
    by_cases hlt : k < xs.length
    · have k1 : (k : Int) < (xs.length : Int) := by omega
      by_cases hlm : (k : Int) < most
      · obtain ⟨x, hxk⟩ := get_at hlt
        obtain ⟨hf, b, off, rfl, -, hc, -⟩ := HX.out.get hxk
        have HN := Lib.hid (fun (hs : SmallF x.f) => (show ∀ (j : Nat) (y : ActO), j < k + 1 → xs[j]? = some y → SmallF y.f from fun j y hj hy => by
          rcases Nat.lt_or_ge j k with h | h
          · exact HS.out j y h hy
          · obtain rfl : j = k := by omega
            rw [hxk] at hy; cases hy; exact hs))
        have HF := Lib.hid hf.f
        clear hxk hf
        obtain ⟨⟨xo, xe, ⟨pk, pp, pd, ph, pa, pn, px, py, pb⟩⟩, xc, xk⟩ := x
        simp only [ActF.cells, OpD.cells] at hc
        (repeat (first | ((with_reducible show wpSeq _ _ _ _ _ _ _); first | ((with_reducible refine wpSeq_nil ?_); refine hKr.out _ _ ?_; clear hKr Kr) | ((first | (refine St.copy (v := ?_) (by exact .inl rfl) rfl rfl ?_ ?_; rotate_left; (focus ((try simp only [Act.eval, getD_lit, List.getD_cons_zero, List.getD_cons_succ]); with_reducible rfl))) | (refine St.pure (v := ?_) rfl rfl rfl (fun w => ?_) ?_; rotate_left; (focus (go_simp; all_goals with_reducible rfl))) | refine St.loadRowF rfl rfl rfl rfl rfl (hM.oldRow (by assumption)) (by kernel_rfl) ?_ | (((((refine St.buildSlice (cells := ?_) (e := ?_) rfl hM rfl rfl (fun w => ?_) ?_; rotate_left 2; (focus (go_simp; all_goals with_reducible rfl)))); clear hM; intro w bk hM)); (try simp only [Res.put, Res.known, Act.eval, Value.cells, getD_lit, List.getD_cons_zero, List.getD_cons_succ, List.toList_toArray, List.set_cons_zero, List.set_cons_succ, over, Nat.reduceAdd] at hM))); (try simp only [Act.put, List.setIfInBounds_toArray, List.set_cons_zero, List.set_cons_succ]))) | (first | (refine wp_seq_shut (fun K hK => ?_)) | (refine wp_text hM (fun Kr hKr => ?_); simp only [inText]) | refine wp_block ?_ | refine wp_skip ?_ | (refine wp_cond_true rfl ?_) | ((refine hK.out _ _ ?_); clear hK K))))
        ((refine St.call rfl rfl rfl (by kernel_rfl) (fun R hR => ?_); simp only [List.map_toArray, List.map_cons, List.map_nil, Act.eval, getD_lit, List.getD_cons_zero, List.getD_cons_succ]))
        refine (small9_any 1 (by decide) (by decide) (own_acts hM (x := ⟨xo, xe, ⟨pk, pp, pd, ph, pa, pn, px, py, pb⟩⟩) (by repeat constructor) HF.out)).mono ?_
        rintro e w' ⟨bb, rfl, hs, hb⟩
        replace hM := hM.below hb
        (refine hR.out _ _ (fun _ => ⟨hM.only, nofun⟩) ?_); clear hR R hb
        have HSM := Lib.hid hs
        clear hs
        (try simp only [Act.put, List.setIfInBounds_toArray, List.set_cons_zero, List.set_cons_succ])
        cases bb with
        | false =>
          (repeat (first | ((with_reducible show wpSeq _ _ _ _ _ _ _); first | ((with_reducible refine wpSeq_nil ?_); refine hKr.out _ _ ?_; clear hKr Kr) | ((first | (refine St.copy (v := ?_) (by exact .inr rfl) rfl rfl ?_ ?_; rotate_left; (focus ((try simp only [Act.eval, getD_lit, List.getD_cons_zero, List.getD_cons_succ]); with_reducible rfl))) | (refine St.pure (v := ?_) rfl rfl rfl (fun w => ?_) ?_; rotate_left; (focus (go_simp; all_goals with_reducible rfl)))); (try simp only [Act.put, List.setIfInBounds_toArray, List.set_cons_zero, List.set_cons_succ]))) | (first | (refine wp_seq_shut (fun K hK => ?_)) | (refine wp_text hM (fun Kr hKr => ?_); simp only [inText]) | (refine wp_cond_true rfl ?_) | ((refine hK.out _ _ ?_); clear hK K))))
          ((refine wp_ret ?_; (try simp only [Exit.then, Exit.inBlock]); refine St.ret hM rfl (by repeat (first | exact Outs.nil | apply Outs.tmp rfl)) rfl ?_))
          exact ⟨false, rfl, nofun, hM.to_below⟩
        | true =>
          have HN' := Lib.hid (HN.out ((HSM.out rfl).2 0 _ rfl))
          clear HN HSM
          (repeat (first | ((with_reducible show wpSeq _ _ _ _ _ _ _); first | ((with_reducible refine wpSeq_nil ?_); refine hKr.out _ _ ?_; clear hKr Kr) | ((first | (refine St.copy (v := ?_) (by first | exact .inl rfl | exact .inr rfl) rfl rfl ?_ ?_; rotate_left; (focus ((try simp only [Act.eval, getD_lit, List.getD_cons_zero, List.getD_cons_succ]); with_reducible rfl))) | refine St.inc rfl rfl rfl rfl rfl (by omega) ?_ | (refine St.pure (v := ?_) rfl rfl rfl (fun w => ?_) ?_; rotate_left; (focus (go_simp; all_goals with_reducible rfl)))); (try simp only [Act.put, List.setIfInBounds_toArray, List.set_cons_zero, List.set_cons_succ]))) | (first | (refine wp_text hM (fun Kr hKr => ?_); simp only [inText]) | refine wp_skip ?_ | (refine wp_cond_false rfl ?_) | ((refine hK.out _ _ ?_); clear hK K))))
          replace hM := hM.drop (L' := []) nofun (by simp)
          simp only [Exit.then]
          (refine ⟨?_, ?_⟩; (focus (repeat (first | exact ⟨⟨k + 1, by omega, by omega, rfl, HN', hM⟩, rfl⟩ | apply Exists.intro))); (simp only [getD_lit, List.getD_cons_zero, List.getD_cons_succ, intOf]; omega))
      · have k2 : ¬ (xs.length : Int) ≤ most := by omega
        (repeat (first | ((with_reducible show wpSeq _ _ _ _ _ _ _); first | ((with_reducible refine wpSeq_nil ?_); refine hKr.out _ _ ?_; clear hKr Kr) | ((first | (refine St.copy (v := ?_) (by first | exact .inl rfl | exact .inr rfl) rfl rfl ?_ ?_; rotate_left; (focus ((try simp only [Act.eval, getD_lit, List.getD_cons_zero, List.getD_cons_succ]); with_reducible rfl))) | (refine St.pure (v := ?_) rfl rfl rfl (fun w => ?_) ?_; rotate_left; (focus (go_simp; all_goals with_reducible rfl)))); (try simp only [Act.put, List.setIfInBounds_toArray, List.set_cons_zero, List.set_cons_succ]))) | (first | (refine wp_seq_shut (fun K hK => ?_)) | (refine wp_text hM (fun Kr hKr => ?_); simp only [inText]) | (refine wp_cond_false rfl ?_) | (refine wp_exit ?_; simp only [Exit.then, Exit.inBlock, if_true, if_false, reduceCtorEq, Nat.reduceEqDiff, Nat.succ_ne_zero]) | ((first | refine hK.out _ _ ?_ | (clear hK K; refine hK.out _ _ ?_)); clear hK K))))
        ((refine wp_ret ?_; (try simp only [Exit.then, Exit.inBlock]); refine St.ret hM rfl (by repeat (first | exact Outs.nil | apply Outs.tmp rfl)) rfl ?_))
        exact ⟨false, rfl, nofun, hM.to_below⟩
    · have k0 : ¬ ((k : Int) < (xs.length : Int)) := by omega
      obtain rfl : k = xs.length := by omega
      clear hlt hk
      (repeat (first | ((with_reducible show wpSeq _ _ _ _ _ _ _); first | ((with_reducible refine wpSeq_nil ?_); refine hKr.out _ _ ?_; clear hKr Kr) | ((first | (refine St.copy (v := ?_) (by first | exact .inl rfl | exact .inr rfl) rfl rfl ?_ ?_; rotate_left; (focus ((try simp only [Act.eval, getD_lit, List.getD_cons_zero, List.getD_cons_succ]); with_reducible rfl))) | (refine St.pure (v := ?_) rfl rfl rfl (fun w => ?_) ?_; rotate_left; (focus (go_simp; all_goals with_reducible rfl))) | refine wpSeq_off rfl rfl ?_); (try simp only [Act.put, List.setIfInBounds_toArray, List.set_cons_zero, List.set_cons_succ]))) | (first | (refine wp_seq_shut (fun K hK => ?_)) | (refine wp_text hM (fun Kr hKr => ?_); simp only [inText]) | (refine wp_cond_false rfl ?_) | (refine wp_exit ?_; simp only [Exit.then, Exit.inBlock, if_true, if_false, reduceCtorEq, Nat.reduceEqDiff, Nat.succ_ne_zero]) | ((first | refine hK.out _ _ ?_ | (clear hK K; refine hK.out _ _ ?_)); clear hK K))))
      ((refine wp_ret ?_; (try simp only [Exit.then, Exit.inBlock]); refine St.ret hM rfl (by repeat (first | exact Outs.nil | apply Outs.tmp rfl)) rfl ?_))
      exact ⟨true, rfl, fun _ => ⟨hkm, fun j y hy => HS.out j y (List.getElem?_eq_some_iff.1 hy).1 hy⟩, hM.to_below⟩
end Go.Proofs.YtcicjklhbnipcaaGreatDoor
namespace Go.Proofs.YtcicjklhbnipcaaGreatDoor
set_option linter.unusedVariables false
set_option linter.unusedSimpArgs false
namespace In
/-- A directory leads just to directories of greater numbers. -/
def Up (t : TabD) : Prop := ∀ a m p n, find t.nodes a = some m → p ∈ m.names → find t.nodes p.2 = some n → n.dir = true → a < p.2
/-- All that is there was there, of its kind, with its names, but for this one. -/
def Come (k i : Int) (t t' : TabD) : Prop := ∀ x m', find t'.nodes x = some m' → ∃ m, find t.nodes x = some m ∧ m'.dir = m.dir ∧ ∀ p ∈ m'.names, p ∈ m.names ∨ (x = k ∧ p.2 = i)
/-- All that is there was there, of its kind, with its names. -/
def Less (t t' : TabD) : Prop := ∀ x m', find t'.nodes x = some m' → ∃ m, find t.nodes x = some m ∧ m'.dir = m.dir ∧ ∀ p ∈ m'.names, p ∈ m.names
section
variable {N : Nat} {t t' t'' : TabD} {k i : Int}
theorem Up.come (h : Up t) (hc : Come k i t t') (hi : ∀ n, find t.nodes i = some n → n.dir = true → k < i) : Up t' := by
  intro a m p n ha hp hn hd
  obtain ⟨m0, h1, -, h2⟩ := hc a m ha
  obtain ⟨n0, h3, h4, -⟩ := hc p.2 n hn
  rcases h2 p hp with h5 | ⟨rfl, h5⟩
  · exact h a m0 p n0 h1 h5 h3 (h4 ▸ hd)
  · rw [h5] at h3 ⊢
    exact hi n0 h3 (h4 ▸ hd)
theorem Less.refl (t : TabD) : Less t t := fun _ m h => ⟨m, h, rfl, fun _ h => h⟩
theorem Less.trans (h : Less t t') (h' : Less t' t'') : Less t t'' := fun x m hm => by
  obtain ⟨m1, a1, a2, a3⟩ := h' x m hm
  obtain ⟨m2, b1, b2, b3⟩ := h x m1 a1
  exact ⟨m2, b1, a2.trans b2, fun p hp => b3 p (a3 p hp)⟩
theorem Less.come (h : Less t t') : Come k i t t' := fun x m hm => by
  obtain ⟨m1, a1, a2, a3⟩ := h x m hm
  exact ⟨m1, a1, a2, fun p hp => .inl (a3 p hp)⟩
theorem Come.less (h : Come k i t t') (h' : Less t' t'') : Come k i t t'' := fun x m hm => by
  obtain ⟨m1, a1, a2, a3⟩ := h' x m hm
  obtain ⟨m2, b1, b2, b3⟩ := h x m1 a1
  exact ⟨m2, b1, a2.trans b2, fun p hp => b3 p (a3 p hp)⟩
theorem Less.then (h : Less t t') (h' : Come k i t' t'') : Come k i t t'' := fun x m hm => by
  obtain ⟨m1, a1, a2, a3⟩ := h' x m hm
  obtain ⟨m2, b1, b2, b3⟩ := h x m1 a1
  exact ⟨m2, b1, a2.trans b2, fun p hp => (a3 p hp).imp (b3 p) fun h => h⟩
theorem Up.less (h : Up t) (hl : Less t t') : Up t' := by
  intro a m p n ha hp hn hd
  obtain ⟨m0, h1, -, h2⟩ := hl a m ha
  obtain ⟨n0, h3, h4, -⟩ := hl p.2 n hn
  exact h a m0 p n0 h1 (h2 p hp) h3 (h4 ▸ hd)
theorem at_id (t : TabD) (k : Int) : (at_ t k).id = k := by
  unfold at_
  split
  · rename_i n h
    exact (find_some h).2
  · rfl
theorem find_map_id (l : List NodeD) (n : NodeD) (x : Int) : find (set l n) x = (find l x).map fun m => if m.id == n.id then n else m := by
  unfold find set
  rw [List.find?_map]
  congr 2
  funext m
  show ((if m.id == n.id then n else m).id == x) = (m.id == x)
  split
  · rename_i h
    have h' : m.id = n.id := by simpa using h
    rw [h']
  · rfl
theorem come_setN {n : NodeD} (hn : ∀ m, find t.nodes n.id = some m → n.dir = m.dir ∧ ∀ p ∈ n.names, p ∈ m.names ∨ (n.id = k ∧ p.2 = i)) : Come k i t (setN t n) := fun x m' h => by
  have h' : find (set t.nodes n) x = some m' := h
  rw [find_map_id] at h'
  cases hf : find t.nodes x with
  | none => rw [hf] at h'; cases h'
  | some m =>
    rw [hf] at h'
    have h2 : (if m.id == n.id then n else m) = m' := by simpa using h'
    have hx := (find_some hf).2
    cases he : m.id == n.id with
    | false =>
      rw [he] at h2
      subst h2
      exact ⟨m, rfl, rfl, fun p hp => .inl hp⟩
    | true =>
      rw [he] at h2
      subst h2
      have he' : m.id = n.id := by simpa using he
      have e2 : x = n.id := hx.symm.trans he'
      subst e2
      obtain ⟨h3, h4⟩ := hn m hf
      exact ⟨m, rfl, h3, h4⟩
theorem less_setN {n : NodeD} (hn : ∀ m, find t.nodes n.id = some m → n.dir = m.dir ∧ ∀ p ∈ n.names, p ∈ m.names) : Less t (setN t n) := fun x m' h => by
  obtain ⟨m, h1, h2, h3⟩ := come_setN (t := t) (k := x - 1) (i := 0) (n := n) (fun m hm => ⟨(hn m hm).1, fun p hp => .inl ((hn m hm).2 p hp)⟩) x m' h
  exact ⟨m, h1, h2, fun p hp => (h3 p hp).elim (fun h => h) fun h => by omega⟩
theorem at_less (f : NodeD → NodeD) (hi : ∀ m, (f m).id = m.id) (hd : ∀ m, (f m).dir = m.dir) (hp : ∀ m, ∀ p ∈ (f m).names, p ∈ m.names) (k : Int) : Less t (setN t (f (at_ t k))) := less_setN fun m hm => by
  rw [hi, at_id] at hm
  rw [at_some hm]
  exact ⟨hd m, hp m⟩
theorem less_nameOut (dir : Int) (s : ByteArray) : Less t (nameOut t dir s) := at_less (fun m => m.setNames (without m.names s)) (fun _ => rfl) (fun _ => rfl) (fun _ _ hp => (mem_without.1 hp).1) dir
theorem less_linksUp (id : Int) : Less t (linksUp t id) := at_less (fun m => m.setLinks (m.links + 1)) (fun _ => rfl) (fun _ => rfl) (fun _ _ hp => hp) id
theorem less_linksDown (id : Int) : Less t (linksDown t id) := at_less (fun m => m.setLinks (m.links - 1)) (fun _ => rfl) (fun _ => rfl) (fun _ _ hp => hp) id
theorem less_holdsUp (id : Int) : Less t (holdsUp t id) := at_less (fun m => m.setHolds (m.holds + 1)) (fun _ => rfl) (fun _ => rfl) (fun _ _ hp => hp) id
theorem less_holdsDown (id : Int) : Less t (holdsDown t id) := at_less (fun m => m.setHolds (m.holds - 1)) (fun _ => rfl) (fun _ => rfl) (fun _ _ hp => hp) id
theorem less_dataOf (id : Int) (v : ByteArray) : Less t (dataOf t id v) := at_less (fun m => m.setData v) (fun _ => rfl) (fun _ => rfl) (fun _ _ hp => hp) id
theorem come_nameIn (dir : Int) (s : ByteArray) (id : Int) : Come dir id t (nameIn t dir s id) := come_setN (n := (at_ t dir).setNames (with_ (at_ t dir).names s id)) fun m hm => by
  have hm' : find t.nodes (at_ t dir).id = some m := hm
  rw [at_id] at hm'
  rw [at_some hm']
  refine ⟨rfl, fun p hp => ?_⟩
  rcases mem_put.1 hp with rfl | hp
  · exact .inr ⟨(find_some hm').2, rfl⟩
  · exact .inl (mem_without.1 hp).1
theorem less_gone (id : Int) : Less t (gone t id) := fun x m h => by
  unfold gone at h
  split at h
  · have h' : find (del t.nodes id) x = some m := h
    unfold find del at h'
    rw [List.find?_filter] at h'
    refine ⟨m, ?_, rfl, fun _ hp => hp⟩
    have h1 := List.find?_some h'
    have h2 : m.id = x := by
      have := h1
      simp only [Bool.not_eq_true', beq_eq_false_iff_ne, beq_iff_eq, decide_eq_true_eq] at this
      exact this.2
    have h3 : x ≠ id := by
      have := h1
      simp only [Bool.not_eq_true', beq_eq_false_iff_ne, beq_iff_eq, decide_eq_true_eq] at this
      rw [← h2]; exact this.1
    have e : (fun a : NodeD => decide ((!a.id == id) = true ∧ (a.id == x) = true)) = fun a => a.id == x := by
      funext a
      cases hx : a.id == x with
      | false => simp
      | true =>
        have : a.id = x := by simpa using hx
        rw [this]
        simp [h3]
    rw [e] at h'
    exact h'
  · exact ⟨m, h, rfl, fun _ hp => hp⟩
theorem less_loses (dir : Int) (s : ByteArray) : Less t (loses t dir s) := ((less_nameOut dir s).trans (less_linksDown _)).trans (less_gone _)
theorem less_unlink (dir : Int) (s : ByteArray) : Less t (unlink t dir s).2 := by
  unfold unlink
  split
  · exact less_loses dir s
  · exact Less.refl t
theorem less_remove (dir : Int) (s : ByteArray) : Less t (remove t dir s).2 := by
  unfold remove
  split
  · exact less_loses dir s
  · exact Less.refl t
theorem less_sizedT (id n : Int) : Less t (sizedT t id n) := less_dataOf id (resized (at_ t id).data n.toNat)
theorem less_write (id a : Int) (s : ByteArray) : Less t (write t id a s).2 := by
  unfold write
  split
  · show Less t (writeT t id a s)
    unfold writeT
    split
    · exact Less.refl t
    · exact (less_sizedT id _).trans (less_dataOf id _)
  · exact Less.refl t
theorem less_trunc (id n : Int) : Less t (trunc t id n).2 := by
  unfold trunc
  split
  · exact less_sizedT id n
  · exact Less.refl t
theorem less_hold (id : Int) : Less t (hold t id).2 := by
  unfold hold
  split
  · exact less_holdsUp id
  · exact Less.refl t
theorem less_drop (id : Int) : Less t (drop t id).2 := by
  unfold drop
  split
  · exact (less_holdsDown id).trans (less_gone id)
  · exact Less.refl t
theorem up_link (h : Up t) (id dir : Int) (s : ByteArray) : Up (link t id dir s).2 := by
  unfold link
  cases he : linkE t id dir s == 0 with
  | false => exact h
  | true =>
    have he' : linkE t id dir s = 0 := by simpa using he
    unfold linkE at he'
    cases h1 : getE t id false == 0 with
    | true =>
      obtain ⟨n, hn, hnd⟩ := getE_ok (t := t) (id := id) (dir := false) (by simpa using h1)
      exact h.come (Come.less (come_nameIn dir s id) (less_linksUp id)) fun m hm hd => by rw [hn] at hm; cases hm; rw [hnd] at hd; cases hd
    | false => rw [h1] at he'; simp at he' h1; exact absurd he' h1
theorem up_rename (h : Up t) (dir : Int) (s : ByteArray) (tod : Int) (as_ : ByteArray) : Up (rename t dir s tod as_).2 := by
  unfold rename
  cases he : renameE t dir s tod as_ == 0 with
  | false => exact h
  | true =>
    obtain ⟨h1, h2, h3⟩ := renameE_ok (t := t) (dir := dir) (s := s) (tod := tod) (as_ := as_) (by simpa using he)
    obtain ⟨_, d, n, hd, hdd, hl, hN, hn, hnd⟩ := unlinkE_ok h1
    have key : ∀ t1, Less t t1 → Up (renameIn t1 dir s tod as_ (findN t dir s)) := fun t1 hl1 => by
      refine h.come ((hl1.trans (less_nameOut dir s)).then (come_nameIn tod as_ (findN t dir s))) fun m hm hmd => ?_
      rw [hN, hn] at hm
      cases hm
      rw [hnd] at hmd
      cases hmd
    show Up (renameT t dir s tod as_)
    unfold renameT
    split
    · exact h
    split
    · exact key t (Less.refl t)
    · exact key _ (less_loses tod as_)
theorem up_make (I : Inv N t) (h : Up t) (dir : Int) (s : ByteArray) (isDir : Bool) : Up (make t dir s isDir).2.2 := by
  unfold make
  cases he : makeE t dir s == 0 with
  | false => exact h
  | true =>
    show Up (makeT t dir s isDir)
    have hc := come_nameIn (t := t) dir s (t.last + 1)
    have hne : ∀ m ∈ (nameIn t dir s (t.last + 1)).nodes, m.id ≠ (⟨t.last + 1, isDir, 1, 0, ByteArray.empty, []⟩ : NodeD).id := fun m hm => by
      have hm' : m ∈ set t.nodes ((at_ t dir).setNames (with_ (at_ t dir).names s (t.last + 1))) := hm
      unfold set at hm'
      obtain ⟨y, hy, e⟩ := List.mem_map.1 hm'
      have hp := (I.pos y hy).2
      have : m.id = y.id := by
        rw [← e]
        split
        · rename_i hh
          exact (by simpa using hh : y.id = _).symm
        · rfl
      show m.id ≠ t.last + 1
      omega
    have hfs := find_snoc hne
    have hle : ∀ x m, find (nameIn t dir s (t.last + 1)).nodes x = some m → x ≤ t.last := fun x m hx => by
      obtain ⟨m0, g1, -, -⟩ := hc x m hx
      obtain ⟨g2, g3⟩ := find_some g1
      have := (I.pos m0 g2).2
      omega
    intro a m p n ha hp hn hd
    have ha' : find ((nameIn t dir s (t.last + 1)).nodes ++ [⟨t.last + 1, isDir, 1, 0, ByteArray.empty, []⟩]) a = some m := ha
    have hn' : find ((nameIn t dir s (t.last + 1)).nodes ++ [⟨t.last + 1, isDir, 1, 0, ByteArray.empty, []⟩]) p.2 = some n := hn
    rw [hfs] at ha' hn'
    split at ha'
    · cases ha'
      cases hp
    · have hal := hle a m ha'
      split at hn'
      · rename_i e
        rw [e]
        show a < t.last + 1
        omega
      · rename_i hpn
        obtain ⟨m0, g1, -, g2⟩ := hc a m ha'
        obtain ⟨n0, g3, g4, -⟩ := hc p.2 n hn'
        rcases g2 p hp with g5 | ⟨-, g5⟩
        · exact h a m0 p n0 g1 g5 g3 (g4 ▸ hd)
        · exact absurd g5 hpn
theorem up_new (q : Int) : Up (new q) := fun a m p n ha hp _ _ => by
  have := (find_some ha).1
  have e : m = ⟨1, true, 1, 0, ByteArray.empty, []⟩ := by simpa [new] using this
  subst e
  cases hp
end
/-! ### what lies below a directory -/
/-- The directories in a directory. -/
def dirsIn (t : TabD) (id : Int) : List Int := ((at_ t id).names.map Prod.snd).filter fun i => (at_ t i).dir
/-- What is reached from a directory. -/
inductive Reach (t : TabD) : Int → Int → Prop where
  | refl (a : Int) : Reach t a a
  | step {a b c : Int} (h : Reach t a b) (hc : c ∈ dirsIn t b) : Reach t a c
section
variable {N : Nat} {t : TabD}
theorem mem_dirsIn {id c : Int} : c ∈ dirsIn t id ↔ ∃ p ∈ (at_ t id).names, p.2 = c ∧ (at_ t c).dir = true := by
  unfold dirsIn
  rw [List.mem_filter, List.mem_map]
  constructor
  · rintro ⟨⟨p, hp, rfl⟩, hd⟩
    exact ⟨p, hp, rfl, hd⟩
  · rintro ⟨p, hp, rfl, hd⟩
    exact ⟨⟨p, hp, rfl⟩, hd⟩
theorem names_found {id : Int} {p : ByteArray × Int} (hp : p ∈ (at_ t id).names) : find t.nodes id = some (at_ t id) := by
  unfold at_ at hp ⊢
  cases hf : find t.nodes id with
  | none => rw [hf] at hp; cases hp
  | some n => rfl
theorem dir_up (h : Up t) {a c : Int} (hc : c ∈ dirsIn t a) : a < c := by
  obtain ⟨p, hp, rfl, hd⟩ := mem_dirsIn.1 hc
  refine h a _ p _ (names_found hp) hp ?_ hd
  unfold at_ at hd ⊢
  cases hf : find t.nodes p.2 with
  | none => rw [hf] at hd; cases hd
  | some n => rfl
theorem Reach.le (h : Up t) {a b : Int} (r : Reach t a b) : a ≤ b := by
  induction r with
  | refl => exact Int.le_refl _
  | step _ hc ih => have := dir_up h hc; omega
theorem Reach.trans {a b c : Int} (h : Reach t a b) (r : Reach t b c) : Reach t a c := by
  induction r with
  | refl => exact h
  | step _ hc ih => exact ih.step hc
theorem cntN_one {d : List (ByteArray × Int)} {i : Int} : cntN d i = ((d.map Prod.snd).count i) := by
  unfold cntN List.count
  rw [List.countP_map]
  rfl
/-- One name at most leads to a directory. -/
theorem cnt_dir (I : Inv N t) {c : Int} {n : NodeD} (hn : find t.nodes c = some n) (hd : n.dir = true) : cnt t.nodes c ≤ 1 := by
  obtain ⟨nm, ni⟩ := find_some hn
  have h1 := I.links n nm
  have h2 := (I.alive n nm (by have := (I.pos n nm).1; omega)).2 hd
  rw [ni] at h1
  have h3 : 0 ≤ rootI c := by unfold rootI; split <;> decide
  omega
theorem dir_found {c : Int} (hd : (at_ t c).dir = true) : find t.nodes c = some (at_ t c) := by
  unfold at_ at hd ⊢
  cases hf : find t.nodes c with
  | none => rw [hf] at hd; cases hd
  | some n => rfl
theorem sum_two {f : NodeD → Nat} : ∀ {l : List NodeD}, asc l → ∀ {a b : NodeD}, a ∈ l → b ∈ l → a.id ≠ b.id → f a + f b ≤ (l.map f).sum
  | [], _, _, _, h, _, _ => by cases h
  | y :: r, hs, a, b, ha, hb, hne => by
    obtain ⟨h1, h2⟩ := List.pairwise_cons.1 hs
    rw [List.map_cons, List.sum_cons]
    rcases List.mem_cons.1 ha with rfl | ha'
    · rcases List.mem_cons.1 hb with rfl | hb'
      · exact absurd rfl hne
      · have := le_sum (f := f) hb'; omega
    · rcases List.mem_cons.1 hb with rfl | hb'
      · have := le_sum (f := f) ha'; omega
      · have := sum_two (f := f) h2 ha' hb' hne; omega
theorem dirs_nodup (I : Inv N t) (a : Int) : (dirsIn t a).Nodup := by
  rw [List.nodup_iff_count]
  intro c
  cases hd : (at_ t c).dir with
  | false =>
    rw [List.count_eq_zero.2]
    · exact Nat.zero_le _
    · intro hc
      obtain ⟨-, -, -, h⟩ := mem_dirsIn.1 hc
      rw [hd] at h
      cases h
  | true =>
    have h1 : (dirsIn t a).count c ≤ ((at_ t a).names.map Prod.snd).count c := (List.filter_sublist).count_le c
    refine Nat.le_trans h1 ?_
    rw [← cntN_one]
    by_cases hn : (at_ t a).names = []
    · rw [hn]; exact Nat.zero_le _
    · obtain ⟨p, hp⟩ := List.exists_mem_of_ne_nil _ hn
      have hf := names_found hp
      refine Nat.le_trans ?_ (cnt_dir I (dir_found hd) hd)
      exact le_sum (f := fun n => cntN n.names c) (find_some hf).1
/-- A directory lies in one directory. -/
theorem one_parent (I : Inv N t) {a b c : Int} (ha : c ∈ dirsIn t a) (hb : c ∈ dirsIn t b) : a = b := by
  obtain ⟨p, hp, e1, hd⟩ := mem_dirsIn.1 ha
  obtain ⟨q, hq, e2, -⟩ := mem_dirsIn.1 hb
  have fa := names_found hp
  have fb := names_found hq
  by_cases hne : a = b
  · exact hne
  · have h1 := sum_two (f := fun n => cntN n.names c) I.asc (find_some fa).1 (find_some fb).1 (by rw [at_id, at_id]; exact hne)
    have h2 := cnt_dir I (dir_found hd) hd
    have k1 : 0 < cntN (at_ t a).names c := List.countP_pos_iff.2 ⟨p, hp, by simpa using e1⟩
    have k2 : 0 < cntN (at_ t b).names c := List.countP_pos_iff.2 ⟨q, hq, by simpa using e2⟩
    have h3 : cntN (at_ t a).names c + cntN (at_ t b).names c ≤ cnt t.nodes c := h1
    omega
theorem reach_two (I : Inv N t) {a b x : Int} (ha : Reach t a x) (hb : Reach t b x) : Reach t a b ∨ Reach t b a := by
  induction ha with
  | refl => exact .inr hb
  | @step y x h hc ih =>
    cases hb with
    | refl => exact .inl (h.step hc)
    | @step y' _ h' hc' =>
      have := one_parent I hc hc'
      subst this
      exact ih h'
theorem reach_last {a b : Int} (h : Reach t a b) (hne : a ≠ b) : ∃ y, Reach t a y ∧ b ∈ dirsIn t y := by
  cases h with
  | refl => exact absurd rfl hne
  | step h hc => exact ⟨_, h, hc⟩
theorem reach_apart (I : Inv N t) (h : Up t) {a c d x : Int} (hc : c ∈ dirsIn t a) (hd : d ∈ dirsIn t a) (hne : c ≠ d) (h1 : Reach t c x) (h2 : Reach t d x) : False := by
  have key : ∀ c d, c ∈ dirsIn t a → d ∈ dirsIn t a → c ≠ d → ¬ Reach t c d := fun c d hc hd hne hr => by
    obtain ⟨y, hy, hyd⟩ := reach_last hr hne
    have := one_parent I hyd hd
    subst this
    have k1 := hy.le h
    have k2 := dir_up h hc
    omega
  rcases reach_two I h1 h2 with hr | hr
  · exact key c d hc hd hne hr
  · exact key d c hd hc (Ne.symm hne) hr
/-- A directory, and the directories below it, down to a depth. -/
def below (t : TabD) : Nat → Int → List Int
  | 0, id => [id]
  | k + 1, id => id :: (dirsIn t id).flatMap (below t k)
theorem below_reach : ∀ (k : Nat) (id x : Int), x ∈ below t k id → Reach t id x
  | 0, id, x, h => by
    have : x = id := by simpa [below] using h
    subst this
    exact .refl _
  | k + 1, id, x, h => by
    unfold below at h
    rcases List.mem_cons.1 h with rfl | h
    · exact .refl _
    · obtain ⟨c, hc, hx⟩ := List.mem_flatMap.1 h
      exact ((Reach.refl id).step hc).trans (below_reach k c x hx)
theorem below_nodup (I : Inv N t) (h : Up t) : ∀ (k : Nat) (id : Int), (below t k id).Nodup
  | 0, _ => by simp [below]
  | k + 1, id => by
    unfold below
    rw [List.nodup_cons]
    constructor
    · intro hm
      obtain ⟨c, hc, hx⟩ := List.mem_flatMap.1 hm
      have h1 := (below_reach k c id hx).le h
      have h2 := dir_up h hc
      omega
    · unfold List.Nodup
      rw [List.pairwise_flatMap]
      refine ⟨fun c _ => below_nodup I h k c, ?_⟩
      have hn := dirs_nodup I id
      have hm : ∀ c ∈ dirsIn t id, c ∈ dirsIn t id := fun _ h => h
      refine List.Pairwise.imp_of_mem (R := fun a b => a ≠ b) (fun {c d} hc hd hne x hx y hy e => ?_) hn
      subst e
      exact reach_apart I h hc hd hne (below_reach k c x hx) (below_reach k d x hy)
theorem sum_sub {g : Int → Nat} : ∀ {V ids : List Int}, V.Nodup → (∀ x ∈ V, g x ≠ 0 → x ∈ ids) → (V.map g).sum ≤ (ids.map g).sum
  | [], _, _, _ => Nat.zero_le _
  | x :: V, ids, hn, hs => by
    obtain ⟨h1, h2⟩ := List.nodup_cons.1 hn
    rw [List.map_cons, List.sum_cons]
    by_cases hg : g x = 0
    · rw [hg]
      have := sum_sub (g := g) h2 fun y hy => hs y (.tail _ hy)
      omega
    · have hx := hs x (.head _) hg
      have hp := (List.perm_cons_erase hx).map g
      have := sum_sub (g := g) (ids := ids.erase x) h2 fun y hy hy0 => (List.mem_erase_of_ne (fun e : y = x => h1 (by rw [← e]; exact hy))).2 (hs y (.tail _ hy) hy0)
      rw [hp.sum_nat]
      rw [List.map_cons, List.sum_cons]
      omega
/-- All names below a directory are no more than all names. -/
theorem below_names (I : Inv N t) (h : Up t) (k : Nat) (id : Int) : ((below t k id).map fun i => (at_ t i).names.length).sum ≤ tot t.nodes := by
  refine Nat.le_trans (sum_sub (ids := t.nodes.map (·.id)) (below_nodup I h k id) fun x _ hx => ?_) ?_
  · cases hq : (at_ t x).names with
    | nil => rw [hq] at hx; exact absurd rfl hx
    | cons p r =>
      have hf := names_found (t := t) (id := x) (p := p) (by rw [hq]; exact .head _)
      exact List.mem_map.2 ⟨_, (find_some hf).1, at_id t x⟩
  · unfold tot
    rw [List.map_map]
    refine Nat.le_of_eq (congrArg List.sum (List.map_congr_left fun n hn => ?_))
    show (at_ t n.id).names.length = n.names.length
    rw [at_some (find_asc I.asc hn)]
end
end In
end Go.Proofs.YtcicjklhbnipcaaGreatDoor
namespace Go.Proofs.YtcicjklhbnipcaaGreatDoor
set_option linter.unusedVariables false
set_option linter.unusedSimpArgs false
/-- Two lists in which each thing stands as often are one in another order. -/
theorem perm_by {α : Type} {l l' : List α} (h : ∀ [DecidableEq α] (x : α), l.count x = l'.count x) : l.Perm l' := by
  classical exact List.perm_iff_count.2 fun x => h x
/-- A file, or a directory, as it is told. -/
structure FileD where
  path : ByteArray
  dir : Bool
  data : ByteArray
def FileD.cells (f : FileD) : List Value := [.string f.path, .bool f.dir, .string f.data]
namespace Fs
theorem inv_tblN {N : Nat} {d : FsD} {t : TabD} (h : Inv N d) (ht : In.Inv N t) : Inv N ⟨t, d.h⟩ := inv_tbl h ht (Nat.le_refl N)
section
variable {N : Nat} {d : FsD}
theorem up_gives (h : In.Up d.t) (o id : Int) : In.Up (gives d o id).2.t := by
  unfold gives
  split <;> exact h.less (In.less_hold id)
theorem up_closes (h : In.Up d.t) (o : Int) (n : Nat) : In.Up (closes d o n).t := h.less (In.less_drop _)
theorem up_opens (I : Inv N d) (h : In.Up d.t) (o : Int) (p : OpD) : In.Up (opens d o p).2.t := by
  unfold opens
  split
  · exact h
  split
  · exact h
  split
  · have hm := In.up_make I.tbl h (at_ d p.path).1.1 (at_ d p.path).1.2 false
    split
    · exact hm
    · exact up_gives (d := ⟨(In.make d.t (at_ d p.path).1.1 (at_ d p.path).1.2 false).2.2, d.h⟩) hm o _
  split
  · exact h
  · exact up_gives h o _
theorem up_handled (h : In.Up d.t) (o : Int) (p : OpD) : In.Up (handled d o p).2.t := by
  unfold handled
  split
  · exact h
  split
  · exact up_closes h o _
  split
  · exact h
  split
  · exact h.less (In.less_write _ _ _)
  split
  · exact h.less (In.less_trunc _ _)
  · exact h
theorem up_named (I : Inv N d) (h : In.Up d.t) (p : OpD) : In.Up (named d p).2 := by
  unfold named namedAt
  split
  · exact h
  split
  · exact In.up_make I.tbl h _ _ true
  split
  · exact h.less (In.less_remove _ _)
  split
  · exact h.less (In.less_unlink _ _)
  split
  · split
    · exact h
    split
    · exact h
    · exact In.up_link h _ _ _
  split
  · exact h
  · exact In.up_rename h _ _ _ _
theorem up_do (I : Inv N d) (h : In.Up d.t) (o : Int) (p : OpD) : In.Up (do_ d o p).2.t := by
  unfold do_
  split
  · exact h
  split
  · exact up_opens I h o p
  split
  · exact up_handled h o p
  split
  · exact h
  · exact up_named I h p
theorem up_exitL (o : Int) : ∀ (l : List Int) (n : Nat) (d : FsD), In.Up d.t → In.Up (exitL o l n d).t
  | [], _, _, h => h
  | i :: r, n, d, h => by
    unfold exitL
    refine up_exitL o r (n + 1) _ ?_
    split
    · exact up_closes h o n
    · exact h
theorem up_exit (h : In.Up d.t) (o : Int) : In.Up (exit d o).t := up_exitL o _ 0 d h
/-- An owner's handles are closed: no more owners than there were. -/
theorem len_del {h : List (Int × List Int)} {o : Int} : (del h o).length + (if (h.find? fun p => p.1 == o).isSome then 1 else 0) ≤ h.length := by
  induction h with
  | nil => simp [del]
  | cons y r ih =>
    unfold del at ih ⊢
    rw [List.filter_cons, List.find?_cons]
    cases hy : y.1 == o with
    | true =>
      have := List.length_filter_le (fun p : Int × List Int => !(p.1 == o)) r
      simp only [Bool.not_true, Bool.false_eq_true, if_false, Option.isSome_some, if_true, List.length_cons]
      omega
    | false =>
      simp only [Bool.not_false, if_true, List.length_cons]
      omega
theorem inv_closes0 (I : Inv N d) {o : Int} {n : Nat} (hn : (hOf d.h o).getD n 0 ≠ 0) : Inv N (closes d o n) := by
  have hr := rows_put I.rows (o := o) (set_row (hOf_row I o) n (v := 0) (by omega))
  have hN := I.len
  have hs : (d.h.find? fun p => p.1 == o).isSome = true := by
    unfold hOf at hn
    cases hf : d.h.find? fun p => p.1 == o with
    | some p => rfl
    | none =>
      rw [hf] at hn
      refine absurd ?_ hn
      show z9.getD n 0 = 0
      unfold z9
      match n with
      | 0 | 1 | 2 | 3 | 4 | 5 | 6 | 7 | 8 => rfl
      | n + 9 => rfl
  have hl : (put d.h o ((hOf d.h o).set n 0)).length ≤ N := by
    unfold put
    rw [len_ins]
    have := len_del (h := d.h) (o := o)
    rw [hs] at this
    simp only [if_true] at this
    omega
  refine ⟨In.inv_drop I.tbl _, ?_, ?_⟩
  · unfold closes shut
    simp only
    split
    · exact rows_del hr o
    · exact hr
  · unfold closes shut
    simp only
    split
    · exact Nat.le_trans (List.length_filter_le _ _) hl
    · exact hl
theorem hOf_ins {h : List (Int × List Int)} {o : Int} {l : List Int} (hn : (h.find? fun p => p.1 == o) = none) (o' : Int) : hOf (ins (o, l) h) o' = if o' = o then l else hOf h o' := by
  induction h with
  | nil =>
    unfold ins hOf
    rw [List.find?_cons]
    by_cases e : o' = o
    · subst e; simp
    · have : (o == o') = false := beq_eq_false_iff_ne.2 fun h => e h.symm
      simp [this, e]
  | cons y r ih =>
    rw [List.find?_cons] at hn
    cases hy : y.1 == o with
    | true => rw [hy] at hn; cases hn
    | false =>
      rw [hy] at hn
      have hyo : y.1 ≠ o := by simpa using hy
      have ih' := ih hn
      unfold ins
      split
      · unfold hOf
        rw [List.find?_cons]
        by_cases e : o' = o
        · subst e; simp
        · have : (o == o') = false := beq_eq_false_iff_ne.2 fun h => e h.symm
          simp [this, e]
      · unfold hOf at ih' ⊢
        rw [List.find?_cons, List.find?_cons]
        cases hy' : y.1 == o' with
        | true =>
          have e : y.1 = o' := by simpa using hy'
          rw [if_neg (fun h => hyo (e.trans h))]
        | false => exact ih'
theorem find_del (h : List (Int × List Int)) (o o' : Int) : ((del h o).find? fun p => p.1 == o') = if o' = o then none else h.find? fun p => p.1 == o' := by
  unfold del
  rw [List.find?_filter]
  split
  · rename_i e
    subst e
    rw [List.find?_eq_none]
    intro p _
    simp
  · rename_i e
    congr 1
    funext p
    cases hp : p.1 == o' with
    | false => simp
    | true =>
      have : p.1 = o' := by simpa using hp
      simp [this, e]
theorem hOf_put (h : List (Int × List Int)) (o : Int) (l : List Int) (o' : Int) : hOf (put h o l) o' = if o' = o then l else hOf h o' := by
  unfold put
  rw [hOf_ins (by rw [find_del, if_pos rfl])]
  split
  · rfl
  · rename_i e
    unfold hOf
    rw [find_del, if_neg e]
theorem hOf_del (h : List (Int × List Int)) (o o' : Int) : hOf (del h o) o' = if o' = o then z9 else hOf h o' := by
  unfold hOf
  rw [find_del]
  by_cases e : o' = o
  · rw [if_pos e, if_pos e]
  · rw [if_neg e, if_neg e]
theorem hOf_shut (h : List (Int × List Int)) (o : Int) (l : List Int) (o' : Int) : hOf (shut h o l) o' = if o' = o then l else hOf h o' := by
  unfold shut
  split
  · rename_i e
    rw [hOf_del, hOf_put]
    split
    · exact e.symm
    · rfl
  · exact hOf_put h o l o'
/-- Exit keeps the bound. -/
theorem inv_exitL (o : Int) : ∀ (l : List Int) (n : Nat) (d : FsD), Inv N d → (∀ j, l[j]? = (hOf d.h o)[n + j]?) → Inv N (exitL o l n d)
  | [], _, _, I, _ => I
  | i :: r, n, d, I, hl => by
    unfold exitL
    have h0 := hl 0
    rw [List.getElem?_cons_zero, Nat.add_zero] at h0
    split
    · rename_i hi
      refine inv_exitL o r (n + 1) _ (inv_closes0 I (n := n) (by rw [List.getD_eq_getElem?_getD, ← h0]; exact hi)) fun j => ?_
      have hj := hl (j + 1)
      rw [List.getElem?_cons_succ] at hj
      unfold closes
      simp only
      rw [hOf_shut, if_pos rfl, List.getElem?_set_ne (by omega), hj]
      congr 1
      omega
    · refine inv_exitL o r (n + 1) _ I fun j => ?_
      have hj := hl (j + 1)
      rw [List.getElem?_cons_succ] at hj
      rw [hj]
      congr 1
      omega
theorem inv_exit (I : Inv N d) (o : Int) : Inv N (exit d o) := inv_exitL o _ 0 d I fun j => by rw [Nat.zero_add]
/-! ### all files -/
/-- What lies below a directory. -/
def under (t : TabD) : Nat → Int → ByteArray → List FileD
  | 0, _, _ => []
  | k + 1, id, dir => (In.at_ t id).names.flatMap fun p => ⟨Pt.join dir p.1, (In.at_ t p.2).dir, (In.at_ t p.2).data⟩ :: under t k p.2 (Pt.join dir p.1)
def files (d : FsD) : List FileD := under d.t d.t.last.toNat 1 ⟨#[]⟩
theorem under_none {t : TabD} {id : Int} (h : (In.at_ t id).names = []) (k : Nat) (dir : ByteArray) : under t k id dir = [] := by
  cases k with
  | zero => rfl
  | succ k => unfold under; rw [h]; rfl
theorem leaf_names {t : TabD} (I : In.Inv N t) {id : Int} (h : (In.at_ t id).dir = false) : (In.at_ t id).names = [] := by
  cases hq : (In.at_ t id).names with
  | nil => rfl
  | cons p r =>
    have hf := In.names_found (t := t) (id := id) (p := p) (by rw [hq]; exact .head _)
    rw [I.files _ (In.find_some hf).1 h] at hq
    cases hq
theorem sum_dirs {t : TabD} {f : ByteArray × Int → Nat} {g : Int → Nat} (hf : ∀ p, f p ≤ if (In.at_ t p.2).dir then g p.2 else 0) : ∀ l : List (ByteArray × Int), (l.map fun p => 1 + f p).sum ≤ l.length + (((l.map Prod.snd).filter fun i => (In.at_ t i).dir).map g).sum
  | [] => by simp
  | p :: r => by
    have ih := sum_dirs hf r
    have hp := hf p
    rw [List.map_cons, List.sum_cons, List.map_cons, List.filter_cons, List.length_cons]
    cases hd : (In.at_ t p.2).dir with
    | true =>
      rw [hd] at hp
      simp only [if_true] at hp ⊢
      rw [List.map_cons, List.sum_cons]
      omega
    | false =>
      rw [hd] at hp
      simp only [Bool.false_eq_true, if_false] at hp ⊢
      omega
theorem sum_one {α : Type} : ∀ l : List α, (l.map fun _ => 1).sum = l.length
  | [] => rfl
  | _ :: r => by rw [List.map_cons, List.sum_cons, sum_one r, List.length_cons]; omega
theorem sum_flat {α : Type} (f : α → List Nat) : ∀ l : List α, (l.flatMap f).sum = (l.map fun a => (f a).sum).sum
  | [] => rfl
  | a :: r => by rw [List.flatMap_cons, List.sum_append, sum_flat f r, List.map_cons, List.sum_cons]
theorem under_len {t : TabD} (I : In.Inv N t) : ∀ (k : Nat) (id : Int) (dir : ByteArray), (under t (k + 1) id dir).length ≤ ((In.below t k id).map fun i => (In.at_ t i).names.length).sum
  | 0, id, dir => by
    unfold under
    rw [List.length_flatMap]
    refine Nat.le_trans (Nat.le_of_eq ?_) (Nat.le_of_eq (show (In.at_ t id).names.length = _ by simp [In.below]))
    exact sum_one _
  | k + 1, id, dir => by
    unfold under
    rw [List.length_flatMap]
    simp only [List.length_cons]
    unfold In.below
    rw [List.map_cons, List.sum_cons, List.map_flatMap]
    have key := sum_dirs (t := t) (f := fun p => (under t (k + 1) p.2 (Pt.join dir p.1)).length) (g := fun c => ((In.below t k c).map fun i => (In.at_ t i).names.length).sum) (fun p => by
      split
      · exact under_len I k p.2 _
      · rename_i hd
        rw [under_none (leaf_names I (by simpa using hd))]
        exact Nat.zero_le _) (In.at_ t id).names
    have e1 : ((In.at_ t id).names.map fun p => (under t (k + 1) p.2 (Pt.join dir p.1)).length + 1) = (In.at_ t id).names.map fun p => 1 + (under t (k + 1) p.2 (Pt.join dir p.1)).length := List.map_congr_left fun p _ => Nat.add_comm _ _
    rw [e1]
    refine Nat.le_trans key (Nat.le_of_eq ?_)
    congr 1
    unfold In.dirsIn
    rw [sum_flat]
theorem files_len (I : Inv N d) (h : In.Up d.t) : (files d).length ≤ N := by
  unfold files
  have h1 := I.tbl.last
  obtain ⟨k, hk⟩ : ∃ k, d.t.last.toNat = k + 1 := ⟨d.t.last.toNat - 1, by omega⟩
  rw [hk]
  exact Nat.le_trans (under_len I.tbl k 1 _) (Nat.le_trans (In.below_names I.tbl h k 1) I.tbl.tot)
end
end Fs
end Go.Proofs.YtcicjklhbnipcaaGreatDoor
namespace Go.Proofs.YtcicjklhbnipcaaGreatDoor
set_option linter.unusedVariables false
set_option linter.unusedSimpArgs false
open Go.RowKit Go.Maps Go.WideElems Go.ChangeShapes Go.WideShapes Go.ChangeMaps Go.MapKept
/-- Block b is a map of just these entries; block r is an iterator over it. -/
abbrev mapX (es : Array MapEntry) (clock : Nat) : Res := .obj fun o => o = .map es clock
abbrev itX (b since : Nat) (seen : Array Nat) (c0 : Nat) : Res := .obj fun o => o = .mapIter (some b) since seen c0
/-- The loop is under way: the map reads as l; which keys are still to come, and how many. -/
structure Rng (P : Program) (k : TypeId) (l : List (Lit × Value)) (es : Array MapEntry) (clock since : Nat) (seen : Array Nat) (c0 : Nat) (left : Lit → Bool) (cnt : Nat) : Prop where
  fit : Go.WideElems.Fit P k anyElem es clock
  size : es.size ≤ l.length
  eq : heldD l = .map ((es.toList.map (rg P k anyElem)).foldr DataW.insert [])
  old : ∀ x ∈ es.toList, x.born < since
  cnt : (leftOf es seen).size = cnt
  left1 : ∀ x ∈ es.toList, left (rg P k anyElem x).1 = !seen.contains x.born
  left2 : ∀ kl, left kl = true → ∃ x ∈ es.toList, (rg P k anyElem x).1 = kl
  s0 : since ≤ c0
  s1 : since ≤ clock
section
variable {P : Program} {K : Act → World → Prop} {a : Act} {w w0 : World} {ops : Array Oper} {l : List (Oper × Nat)} {c : Nat} {o : Oper} {F : List Nat} {L L' Lr : List Ent} {b r : Nat} {ty kt et : TypeId} {x y : Operand} {ow : Bool} {S : World → Prop} {m : List (Lit × Value)} {es : Array MapEntry} {clock since c0 cnt : Nat} {seen : Array Nat} {left : Lit → Bool}
theorem Rng.to (h : Rng P kt m es clock since seen c0 left cnt) (hb : (mapX es clock).holds w.heap[b]?) (hr : (itX b since seen c0).holds w.heap[r]?) : w.ranges P kt anyElem b r m.length (heldD m) left cnt := by
  obtain ⟨o, ho, rfl⟩ := hb
  obtain ⟨q, hq, rfl⟩ := hr
  exact ⟨es, clock, since, seen, c0, ho, h.fit, h.size, h.eq, hq, h.old, h.cnt, h.left1, h.left2, h.s0, h.s1⟩
/-- 'range m'. -/
theorem St.range (hx : o.op = .range ty x) (hM : St w0 F w L) (hc : (c == 2 || c == 3) = true) (hw : Region.wanted o (yielded ops a.tmps) = true) (hev : a.eval x = .map (some b)) (hK : Keyed P kt) (ht : P.underlying ty = some (.map kt et)) {L' : Array MapEntry → Nat → List Ent} (hu : ∀ es clock, Upd L (b, ow, mapR P kt m) (b, ow, mapX es clock) (L' es clock))
    (h : ∀ w' r es clock since, Rng P kt m es clock since #[] since (Maps.has (heldD m)) m.length → St w0 F w' ((r, true, itX b since #[] since) :: L' es clock) → wpSeq P ops K (Held w0 F []) l (a.put o.dst (.pointer (some ⟨r, 0, none⟩))) w') : wpSeq P ops K (Held w0 F []) ((o, c) :: l) a w := by
  have hb0 := mapR_at (hM.holds _ (hu #[] 0).mem)
  obtain ⟨es, clock, hb, Ft, hs, hD⟩ := hb0
  have hM' : St w0 F w (L' es clock) := hM.weaken (hu es clock) (fun _ => ⟨_, hb, rfl⟩)
  have hrun : (execOp a.eval o).run P w = .ok (.value (.pointer (some ⟨w.heap.size, 0, none⟩))) (w.alloc (.mapIter (some b) clock #[] clock)) := by
    unfold execOp
    simp only [hx, hev, Sem.run_bind, Sem.run_pure, run_range_map w ty kt et b es clock ht hb, Result.andThen_ok]
  have hown : w.ownsMap P kt anyElem b m.length (heldD m) := ⟨es, clock, hb, Ft, hs, hD⟩
  have hR : Rng P kt m es clock clock #[] clock (Maps.has (heldD m)) m.length := by
    obtain ⟨w', hrun', hrg, hg, -⟩ := hown.range hK ht
    rw [run_range_map w ty kt et b es clock ht hb] at hrun'
    injection hrun' with e1 e2
    subst e2
    obtain ⟨es', clock', since', seen', c0', hb', F', hs', hD', hr', hold, hc', hl1, hl2, h0, h1⟩ := hrg
    rw [(MapKept.heap_alloc w _).1] at hr'
    rw [(MapKept.heap_alloc w _).2 b (MapAt.lt (mapR_at (hM.holds _ (hu #[] 0).mem))), hb] at hb'
    injection hb' with hb'
    injection hb' with e3 e4
    injection hr' with hr'
    injection hr' with e5 e6 e7 e8
    subst e3 e4 e6 e7 e8
    exact ⟨F', hs', hD', hold, by rw [hc', size_held], hl1, hl2, h0, h1⟩
  exact wpSeq_turns hc hw hrun (.inl rfl) (fun _ hh => ⟨hh.only.alloc _, nofun⟩) (h _ _ es clock clock hR (hM'.push _ ⟨_, rfl, rfl⟩))
/-- The step: nothing is left, or an entry that is left comes. -/
theorem St.next (hx : o.op = .next x false) (hM : St w0 F w L) (hc : (c == 2 || c == 3) = true) (hw : Region.wanted o (yielded ops a.tmps) = true) (hev : a.eval x = .pointer (some ⟨r, 0, none⟩)) (hK : Keyed P kt) (hm : (b, ow, mapX es clock) ∈ L) {L' : Array Nat → Nat → List Ent} (hu : ∀ s q, Upd L (r, true, itX b since seen c0) (r, true, itX b since s q) (L' s q)) (hR : Rng P kt m es clock since seen c0 left cnt)
    (h0 : cnt = 0 → (∀ kl, left kl = false) → wpSeq P ops K (Held w0 F []) l (a.put o.dst (.tuple #[.bool false])) w)
    (h : ∀ w' e kl cnt', e ∈ es.toList → keyOf P kt e.key = some kl → left kl = true → (∀ z, lookL m kl z = e.val) → Rng P kt m es clock since (seen.push e.born) clock (fun x => left x && !x.sameKey kl) cnt' → cnt' < cnt → St w0 F w' (L' (seen.push e.born) clock) →
      wpSeq P ops K (Held w0 F []) l (a.put o.dst (.tuple #[.bool true, e.key, e.val])) w') : wpSeq P ops K (Held w0 F []) ((o, c) :: l) a w := by
  obtain ⟨_, hb, rfl⟩ := hM.holds _ hm
  obtain ⟨_, hr, rfl⟩ := hM.holds _ (hu #[] 0).mem
  have hne : r ≠ b := fun e => by
    simp only at hb hr
    rw [e, hb] at hr
    cases hr
  rcases run_next_at (P := P) w o.type r b since c0 seen es clock hr hb hR.old hR.s0 with ⟨hz, hrun⟩ | ⟨e, he, w1, hal, hrun⟩
  · have hrun' : (execOp a.eval o).run P w = .ok (.value (.tuple #[.bool false])) w := by
      unfold execOp
      simp only [hx, hev, Sem.run_bind, Sem.run_pure, hrun, Result.andThen_ok]
    refine wpSeq_yields hc hw hrun' (h0 (hR.cnt ▸ hz) fun kl => ?_)
    cases hk : left kl
    · rfl
    · obtain ⟨x, hxm, rfl⟩ := hR.left2 kl hk
      rw [hR.left1 x hxm, all_seen es seen hz x hxm] at hk
      cases hk
  · obtain ⟨hem, hes⟩ := mem_left he
    obtain ⟨y0, hy0⟩ := hR.fit.reads e hem
    obtain ⟨z, hz, hzd⟩ := rd_val hy0
    have hkey := rd_key hy0
    have hrg : (rg P kt anyElem e).1 = y0.1 := by rw [rg_of hy0]
    have hr1 : w1.heap[r]? = some (.mapIter (some b) since seen c0) := by rcases hal with rfl | rfl <;> exact hr
    have hset := heap_set (o' := .mapIter (some b) since (seen.push e.born) clock) hr1
    have hO : Only [r] w (setBlock w1 r (.mapIter (some b) since (seen.push e.born) clock)) := by
      rcases hal with rfl | rfl
      · exact ⟨rfl, rfl, rfl, by simp [setBlock], fun i _ hi => hset.2 i (by simpa using hi)⟩
      · exact ⟨rfl, rfl, rfl, by simp [setBlock], fun i _ hi => hset.2 i (by simpa using hi)⟩
    have hrun' : (execOp a.eval o).run P w = .ok (.value (.tuple #[.bool true, e.key, e.val])) (setBlock w1 r (.mapIter (some b) since (seen.push e.born) clock)) := by
      unfold execOp
      simp only [hx, hev, Sem.run_bind, Sem.run_pure, hrun, Result.andThen_ok]
    have hz' : z = (.held e.val, []) := (Option.some.inj hz).symm
    have hlook : ∀ q, lookL m y0.1 q = e.val := fun q => by
      have h1 : (heldD m).atKey y0.1 (.held q) = y0.2 := by
        rw [hR.eq, (atKey_sorted (es.toList.map (rg P kt anyElem)) (Maps.fit_rising hK hR.fit) y0.1 (hK.key hkey)).2 (rg P kt anyElem e) (List.mem_map.2 ⟨e, hem, rfl⟩) hrg, rg_of hy0]
      rw [atKey_held] at h1
      have h2 : DataW.held (lookL m y0.1 q) = (z.1 : DataW Value) := h1.trans hzd
      rw [hz'] at h2
      injection h2
    refine wpSeq_turns hc hw hrun' (.inl rfl) (fun _ hh => ⟨hh.only.then hO (fun q hq => by
      have e1 : q = r := by simpa using hq
      rw [e1]; exact hM.own _ (hu #[] 0).mem rfl), nofun⟩) (h _ e y0.1 _ hem hkey ?_ hlook ⟨hR.fit, hR.size, hR.eq, hR.old, rfl, fun q hq => ?_, fun kl hkl => hR.left2 kl (by simp at hkl; exact hkl.1), hR.s1, hR.s1⟩ ?_ (hM.turn (hu _ _) hO ⟨_, hset.1, rfl⟩))
    · rw [← hrg, hR.left1 e hem, hes]; rfl
    · show (left (rg P kt anyElem q).1 && !(rg P kt anyElem q).1.sameKey y0.1) = _
      rw [hR.left1 q hq, ← hrg, same_iff_born hK hR.fit hq hem, contains_push]
      cases seen.contains q.born <;> cases (q.born == e.born) <;> rfl
    · rw [← hR.cnt]; exact left_shrinks es seen e he
/-- The entry that has come. -/
theorem St.entry (hx : o.op = .entry x) (hM : St w0 F w L) (hc : (c == 2 || c == 3) = true) (hw : Region.wanted o (yielded ops a.tmps) = true) (hev : a.eval x = .pointer (some ⟨r, 0, none⟩)) (hm : (b, ow, mapX es clock) ∈ L) {e : MapEntry} {ow' : Bool} (hi : (r, ow', itX b since (seen.push e.born) clock) ∈ L) (he : e ∈ es.toList) {seen' : Array Nat} (hR : Rng P kt m es clock since seen' clock left cnt)
    (h : wpSeq P ops K S l (a.put o.dst (.tuple #[e.key, e.val])) w) : wpSeq P ops K S ((o, c) :: l) a w := by
  obtain ⟨_, hb, rfl⟩ := hM.holds _ hm
  obtain ⟨_, hr, rfl⟩ := hM.holds _ hi
  have hrun : (execOp a.eval o).run P w = .ok (.value (.tuple #[e.key, e.val])) w := by
    unfold execOp
    simp only [hx, hev, Sem.run_bind, Sem.run_pure, run_entry_at w r b since seen es clock e hr hb he ((stamped_iff es clock).1 hR.fit.stamped).2.1, Result.andThen_ok]
  exact wpSeq_yields hc hw hrun h
end
end Go.Proofs.YtcicjklhbnipcaaGreatDoor
namespace Go.Proofs.YtcicjklhbnipcaaGreatDoor
set_option linter.unusedVariables false
set_option linter.unusedSimpArgs false
open Go.RowKit Go.Maps Go.Shelf
section
variable {w w0 : World} {b : Nat} {F : List Nat} {L : List Ent} {l : List (Lit × Value)}
/-- A map cloned: a new one with the same entries. -/
theorem st_clone {P : Program} {k : TypeId} {es : Array MapEntry} {clock : Nat} (hb : w.heap[b]? = some (.map es clock)) (h : MapAt P k w b l) : St w [] (w.alloc (.map es clock)) [(w.heap.size, true, mapR P k l)] :=
  (St.start w []).push (.map es clock) ⟨_, rfl, w, b, hb, h⟩
theorem cloneM_any (h : (mapR Tryz.prog 9 l).holds w.heap[b]?) : Calls Tryz.prog 126 #[.map (some b)] w fun e w' => ∃ c, e = .returned (.map (some c)) ∧ St w [] w' [(c, true, mapR Tryz.prog 9 l)] := by
  have hm := mapR_at h
  have hm0 := hm
  obtain ⟨es, clock, hb, -⟩ := hm0
  refine (AnyW.maps_Clone Tryz.cloneM b es clock w hb).mono ?_
  rintro e w' ⟨rfl, rfl⟩
  exact ⟨_, rfl, st_clone hb hm⟩
end
/-! ### nodes, some of them -/
def someN (p : Int → Bool) (l : List NodeD) : List NodeD := l.filter fun n => p n.id
theorem someN_cons (p : Int → Bool) (y : NodeD) (r : List NodeD) : someN p (y :: r) = if p y.id then y :: someN p r else someN p r := by
  unfold someN
  rw [List.filter_cons]
theorem someN_congr {p q : Int → Bool} {l : List NodeD} (h : ∀ n ∈ l, p n.id = q n.id) : someN p l = someN q l := List.filter_congr h
theorem nodesL_congr {β γ : Int → Nat × Nat} {l : List NodeD} (h : ∀ n ∈ l, β n.id = γ n.id) : nodesL β l = nodesL γ l := by
  unfold nodesL
  exact List.map_congr_left fun n hn => by rw [h n hn]
/-- One more node is there. -/
theorem put_some (β γ : Int → Nat × Nat) (p q : Int → Bool) (n : NodeD) (hp : p n.id = false) (hq : ∀ i, q i = (p i || i == n.id)) (hg : ∀ i, i ≠ n.id → γ i = β i) :
    ∀ l : List NodeD, (l.Pairwise fun a b => a.id < b.id) → n ∈ l → putL (.int .i64 n.id) (.pointer (some ⟨(γ n.id).1, 0, none⟩)) (nodesL β (someN p l)) = nodesL γ (someN q l) ∧ ((someN q l).Perm (n :: someN p l)) := by
  have hdel : ∀ l : List NodeD, delL (.int .i64 n.id) (nodesL β (someN p l)) = nodesL β (someN p l) := fun l => by
    unfold delL nodesL someN
    rw [List.filter_eq_self]
    intro x hx
    obtain ⟨m, hm, rfl⟩ := List.mem_map.1 hx
    have h1 : p m.id = true := by simpa using (List.mem_filter.1 hm).2
    show (!decide (IntKind.i64 = IntKind.i64 ∧ m.id = n.id)) = true
    have : m.id ≠ n.id := fun e => by rw [e, hp] at h1; cases h1
    simp [this]
  have hsame : ∀ l : List NodeD, (∀ m ∈ l, m.id ≠ n.id) → nodesL γ (someN q l) = nodesL β (someN p l) ∧ someN q l = someN p l := fun l hl => by
    have e : someN q l = someN p l := someN_congr fun m hm => by rw [hq]; simp [hl m hm]
    refine ⟨?_, e⟩
    rw [e]
    exact nodesL_congr fun m hm => hg m.id (hl m (List.mem_filter.1 hm).1)
  have hins : ∀ l : List NodeD, (∀ m ∈ l, n.id < m.id) → ∀ v, insL (.int .i64 n.id, v) (nodesL β (someN p l)) = (.int .i64 n.id, v) :: nodesL β (someN p l) := fun l hl v => by
    cases hs : someN p l with
    | nil => rfl
    | cons y r =>
      have hy : y ∈ someN p l := by rw [hs]; exact .head _
      have := hl y (List.mem_filter.1 hy).1
      unfold nodesL
      rw [List.map_cons]
      unfold insL
      rw [if_pos (show (Lit.int .i64 n.id).before (.int .i64 y.id) = true by simpa [Lit.before] using this)]
  intro l hl hn
  unfold putL
  rw [hdel]
  induction l with
  | nil => cases hn
  | cons y r ih =>
    obtain ⟨hy, hr⟩ := List.pairwise_cons.1 hl
    rw [someN_cons, someN_cons]
    rcases List.mem_cons.1 hn with rfl | hn'
    · have hne : ∀ m ∈ r, m.id ≠ n.id := fun m hm => by have := hy m hm; omega
      obtain ⟨s1, s2⟩ := hsame r hne
      rw [if_neg (by rw [hp]; decide), if_pos (by rw [hq]; simp), hins r hy, s2]
      refine ⟨?_, List.Perm.refl _⟩
      show _ = (Lit.int .i64 n.id, _) :: nodesL γ (someN p r)
      rw [s2] at s1
      rw [s1]
    · have hlt := hy n hn'
      have hne : y.id ≠ n.id := by omega
      obtain ⟨i1, i2⟩ := ih hr hn'
      have hqy : q y.id = p y.id := by rw [hq]; simp [hne]
      rw [hqy]
      by_cases hpy : p y.id = true
      · rw [if_pos hpy, if_pos hpy]
        refine ⟨?_, (i2.cons y).trans (List.Perm.swap n y _)⟩
        show insL _ ((Lit.int .i64 y.id, Value.pointer (some ⟨(β y.id).1, 0, none⟩)) :: nodesL β (someN p r)) = (Lit.int .i64 y.id, Value.pointer (some ⟨(γ y.id).1, 0, none⟩)) :: nodesL γ (someN q r)
        unfold insL
        rw [if_neg (show ¬ (Lit.int .i64 n.id).before (.int .i64 y.id) = true by simp [Lit.before]; omega), i1, hg y.id hne]
      · rw [if_neg hpy, if_neg hpy]
        exact ⟨i1, i2⟩
theorem flat_some (γ δ : Int → Nat × Nat) (n : NodeD) (p : Int → Bool) (hp : p n.id = false) (hd : ∀ i, i ≠ n.id → δ i = γ i) {l l' : List NodeD} (h : l'.Perm (n :: someN p l)) : (l'.flatMap (nodeL δ)).Perm (nodeL δ n ++ (someN p l).flatMap (nodeL γ)) := by
  refine (h.flatMap_right (nodeL δ)).trans (List.Perm.of_eq ?_)
  rw [List.flatMap_cons]
  congr 1
  have : ∀ m ∈ someN p l, nodeL δ m = nodeL γ m := fun m hm => by
    have h1 : p m.id = true := by simpa using (List.mem_filter.1 hm).2
    have : m.id ≠ n.id := fun e => by rw [e, hp] at h1; cases h1
    unfold nodeL
    rw [hd m.id this]
  rw [List.flatMap_def, List.flatMap_def, List.map_congr_left this]
/-- What comes is one of the nodes. -/
theorem node_came {β : Int → Nat × Nat} {l : List NodeD} {x : Int} {v : Value} (h : ∀ z, lookL (nodesL β l) (.int .i64 x) z = v) : ∃ n ∈ l, n.id = x ∧ v = .pointer (some ⟨(β n.id).1, 0, none⟩) := by
  have h1 := h (.pointer none)
  have h2 := h (.bool true)
  unfold lookL at h1 h2
  cases hf : (nodesL β l).find? fun p => p.1.sameKey (.int .i64 x) with
  | none =>
    rw [hf] at h1 h2
    rw [← h2] at h1
    cases h1
  | some p =>
    rw [hf] at h1
    obtain ⟨n, hn, rfl⟩ := List.mem_map.1 (List.mem_of_find?_eq_some hf)
    have := List.find?_some hf
    have hx : n.id = x := by
      have h3 : decide (IntKind.i64 = IntKind.i64 ∧ n.id = x) = true := this
      simpa using h3
    exact ⟨n, hn, hx, h1.symm⟩
theorem row_in {w : World} {b : Nat} {cs : List Value} {t : TypeId} {fr : Nat × Nat} (h : w.heap[b]? = some (.cells cs.toArray t fr)) : w.rangeAt b 0 cs := fun j v hj => by
  unfold World.cell?
  simp [h, hj]
theorem Only.holds {w0 w : World} {b : Nat} {r : Res} (h : Only [] w0 w) (hr : r.holds w0.heap[b]?) : r.holds w.heap[b]? := by
  rw [h.block b (Res.lt hr) (by simp)]; exact hr
theorem flag_1 (b : Nat) (r : Res) : flagged [(b, true, r)] := fun y hy => by rcases List.mem_singleton.1 hy with rfl; rfl
theorem perm_last {α : Type} (c k a b e m : α) (R : List α) : (c :: k :: a :: b :: e :: m :: R).Perm (a :: b :: e :: m :: k :: c :: R) :=
  ((List.perm_middle (l₁ := [a, b, e, m]) (a := k) (l₂ := R)).symm.cons c).trans (List.perm_middle (l₁ := [a, b, e, m, k]) (a := c) (l₂ := R)).symm
theorem has_node {β : Int → Nat × Nat} {l : List NodeD} {n : NodeD} (hn : n ∈ l) : Maps.has (heldD (nodesL β l)) (.int .i64 n.id) = true := by
  refine List.any_eq_true.2 ⟨(.int .i64 n.id, .held (.pointer (some ⟨(β n.id).1, 0, none⟩))), ?_, by show decide (IntKind.i64 = IntKind.i64 ∧ n.id = n.id) = true; simp⟩
  exact List.mem_map.2 ⟨(.int .i64 n.id, .pointer (some ⟨(β n.id).1, 0, none⟩)), List.mem_map.2 ⟨n, hn, rfl⟩, rfl⟩
section
variable {g mb : Nat} {β : Int → Nat × Nat} {t : TabD}
set_option maxHeartbeats 8000000 in
set_option maxRecDepth 100000 in
theorem Clone_any {ws : World} (h : TblAt ws g mb β t) (hq : 0 < t.quota) (hlen : t.nodes.length ≤ 4611686018427) : Calls Tryz.prog 74 #[.pointer (some ⟨g, 0, none⟩)] ws fun e w' => ∃ g' mb' γ, e = .returned (.pointer (some ⟨g', 0, none⟩)) ∧ St ws [] w' (tblL g' mb' γ t) := by
  have hM : St ws [] ws [(mb, false, mapR Tryz.prog 3 (nodesL β t.nodes))] := (St.start ws []).learn (mapR_of h.map) nofun nofun
  have HT := Lib.hid h
  have CG := Lib.hid (given_yes h hq)
  have HA : Hid (t.nodes.Pairwise fun a b => a.id < b.id) := Lib.hid (by
    have := MapAt.sorted h.map key_int
    unfold nodesL at this
    rw [List.pairwise_map] at this
    exact this.imp fun h => by simpa [Lit.before] using h)
  obtain ⟨c0, c1, c2, c3⟩ := tbl_cells h
  clear h hq
  go_enter Tryz.func74, Tryz.ntmps74
  (repeat (first | ((with_reducible show wpSeq _ _ _ _ _ _ _); first | ((with_reducible refine wpSeq_nil ?_); refine hKr.out _ _ ?_; clear hKr Kr) | (((refine St.copy (v := ?_) (by first | exact .inl rfl | exact .inr rfl) rfl rfl ?_ ?_; rotate_left; (focus ((try simp only [Act.eval, getD_lit, List.getD_cons_zero, List.getD_cons_succ]); with_reducible rfl)))); (try simp only [Act.put, List.setIfInBounds_toArray, List.set_cons_zero, List.set_cons_succ]))) | (first | (refine wp_seq_shut (fun K hK => ?_)) | (refine wp_text hM (fun Kr hKr => ?_); simp only [inText]) | ((refine hK.out _ _ ?_); clear hK K))))
  (refine St.call rfl rfl rfl (by kernel_rfl) (fun R hR => ?_); simp only [List.map_toArray, List.map_cons, List.map_nil, Act.eval, getD_lit, List.getD_cons_zero, List.getD_cons_succ])
  refine CG.out.mono ?_
  (rintro e w' ⟨rfl, rfl⟩; refine hR.out _ _ (fun h => h) ?_; clear hR R; (try simp only [Act.put, List.setIfInBounds_toArray, List.set_cons_zero, List.set_cons_succ]))
  (repeat (first | ((with_reducible show wpSeq _ _ _ _ _ _ _); first | ((with_reducible refine wpSeq_nil ?_); refine hKr.out _ _ ?_; clear hKr Kr) | ((first | (refine St.copy (v := ?_) (by exact .inl rfl) rfl rfl ?_ ?_; rotate_left; (focus ((try simp only [Act.eval, getD_lit, List.getD_cons_zero, List.getD_cons_succ]); with_reducible rfl))) | (refine St.pure (v := ?_) rfl rfl rfl (fun w => ?_) ?_; rotate_left; (focus (go_simp; all_goals with_reducible rfl))) | refine St.loadF1 rfl rfl rfl rfl (fun w' hS => hS.old (by assumption)) (by kernel_rfl) ?_); (try simp only [Act.put, List.setIfInBounds_toArray, List.set_cons_zero, List.set_cons_succ]))) | (first | (refine wp_seq_shut (fun K hK => ?_)) | refine wp_skip ?_ | (refine wp_cond_false rfl ?_) | ((refine hK.out _ _ ?_); clear hK K)) | ((refine wp_drawn (id := 3) hM (Sub.all _) [3, 7, 11] [(0, 0), (1, 0), (2, 0), (3, 1), (4, 0), (5, 0), (6, 0), (7, 1), (8, 0), (9, 0), (10, 0), (11, 1), (12, 2), (13, 3), (14, 2), (15, 3)] (by kernel_rfl) (by kernel_rfl) ?_); (clear hM; intro w hM Kr hKr); simp only [opsOf, List.getD_cons_zero, List.getD_cons_succ])))
  refine St.makeMap (kt := 3) rfl hM rfl rfl (fun w => ?_) ?_
  · go_simp
    simp [Instr.makeMap, newObj, Sem.run]
  clear hM; intro w mb2 hM
  (try simp only [Act.put, List.setIfInBounds_toArray, List.set_cons_zero, List.set_cons_succ])
  (repeat (first | ((with_reducible show wpSeq _ _ _ _ _ _ _); first | ((with_reducible refine wpSeq_nil ?_); refine hKr.out _ _ ?_; clear hKr Kr) | ((first | (refine St.copy (v := ?_) (by first | exact .inl rfl | exact .inr rfl) rfl rfl ?_ ?_; rotate_left; (focus ((try simp only [Act.eval, getD_lit, List.getD_cons_zero, List.getD_cons_succ]); with_reducible rfl))) | (refine St.pure (v := ?_) rfl rfl rfl (fun w => ?_) ?_; rotate_left; (focus (go_simp; all_goals with_reducible rfl))) | refine St.loadF rfl rfl rfl rfl rfl (hM.old (by assumption)) (by kernel_rfl) ?_ | ((((refine St.box rfl hM rfl rfl rfl ?_); clear hM; intro w bk hM)); (try simp only [Res.put, Res.known, Act.eval, Value.cells, getD_lit, List.getD_cons_zero, List.getD_cons_succ, List.toList_toArray, List.set_cons_zero, List.set_cons_succ, over, Nat.reduceAdd] at hM))); (try simp only [Act.put, List.setIfInBounds_toArray, List.set_cons_zero, List.set_cons_succ]))) | (first | (refine wp_seq_shut (fun K hK => ?_)) | (refine wp_text hM (fun Kr hKr => ?_); simp only [inText]) | ((refine hK.out _ _ ?_); clear hK K))))
  obtain ⟨g2, eg⟩ : ∃ b, b = bk := ⟨_, rfl⟩
  subst eg
  refine St.range (kt := 3) rfl hM rfl rfl rfl key_int Tryz.underlying160 (fun _ _ => by repeat constructor) ?_
  clear hM; intro w r es clock since hR0 hM
  (try simp only [Act.put, List.setIfInBounds_toArray, List.set_cons_zero, List.set_cons_succ])
  (repeat (first | ((with_reducible show wpSeq _ _ _ _ _ _ _); ((with_reducible refine wpSeq_nil ?_); refine hKr.out _ _ ?_; clear hKr Kr)) | (first | refine wp_block ?_ | ((refine hK.out _ _ ?_); clear hK K))))
  have HR0 := Lib.hid hR0
  clear hR0
  replace hM : St ws [] w ((r, true, itX mb since #[] since) :: (mb, false, mapX es clock) :: tblL g2 mb2 β ⟨t.quota, t.used, t.last, someN (fun _ => false) t.nodes⟩) := by
    have e : someN (fun _ => false) t.nodes = [] := by unfold someN; simp
    rw [e]
    exact hM.perm ((List.perm_middle (l₁ := [_, _]) (l₂ := [])).cons _)
  go_loopw [4] (fun _ wr => ∃ (seen : Array Nat) (s0 : Nat) (left : Lit → Bool) (cnt : Nat) (γ : Int → Nat × Nat), Hid (Rng Tryz.prog 3 (nodesL β t.nodes) es clock since seen s0 left cnt) ∧ St ws [] wr ((r, true, itX mb since seen s0) :: (mb, false, mapX es clock) :: tblL g2 mb2 γ ⟨t.quota, t.used, t.last, someN (fun i => !left (.int .i64 i)) t.nodes⟩)) (fun _ wr => wr.rangeLeft mb r)
  case atStart =>
    refine ⟨_, _, _, _, β, HR0, ?_⟩
    rw [someN_congr (q := fun _ => false) fun n hn => by rw [has_node hn]; rfl]
    exact hM
  case round =>
    clear hM
    obtain ⟨seen, s0, left, cnt, γ, HR, hM⟩ := hrel
    have HCNT := Lib.hid ((HR.out.to (hM.holds _ (.tail _ (.head _))) (hM.holds _ (.head _))).left_eq)
    (repeat ((first | (refine wp_seq_shut (fun K hK => ?_)) | (refine wp_text hM (fun Kr hKr => ?_); simp only [inText]))))
    refine St.next (kt := 3) rfl hM rfl rfl rfl key_int (.tail _ (.head _)) (fun _ _ => Upd.head) HR.out ?_ ?_
    · intro hz hl
      have e : someN (fun i => !left (.int .i64 i)) t.nodes = t.nodes := by
        unfold someN
        rw [List.filter_eq_self]
        intro n _
        show (!left (.int .i64 n.id)) = true
        rw [hl]; rfl
      rw [e] at hM
      clear hl e hz HR
      (try simp only [Act.put, List.setIfInBounds_toArray, List.set_cons_zero, List.set_cons_succ])
      (repeat (first | ((with_reducible show wpSeq _ _ _ _ _ _ _); first | ((with_reducible refine wpSeq_nil ?_); refine hKr.out _ _ ?_; clear hKr Kr) | ((first | (refine St.copy (v := ?_) (by first | exact .inl rfl | exact .inr rfl) rfl rfl ?_ ?_; rotate_left; (focus ((try simp only [Act.eval, getD_lit, List.getD_cons_zero, List.getD_cons_succ]); with_reducible rfl))) | (refine St.pure (v := ?_) rfl rfl rfl (fun w => ?_) ?_; rotate_left; (focus (go_simp; all_goals with_reducible rfl)))); (try simp only [Act.put, List.setIfInBounds_toArray, List.set_cons_zero, List.set_cons_succ]))) | (first | (refine wp_seq_shut (fun K hK => ?_)) | (refine wp_text hM (fun Kr hKr => ?_); simp only [inText]) | (refine wp_cond_false rfl ?_) | (refine wp_exit ?_; simp only [Exit.then, Exit.inBlock, if_true, if_false, reduceCtorEq, Nat.reduceEqDiff, Nat.succ_ne_zero]) | ((first | refine hK.out _ _ ?_ | (clear hK K; refine hK.out _ _ ?_)); clear hK K))))
      ((refine wp_ret ?_; (try simp only [Exit.then, Exit.inBlock]); refine St.ret hM rfl (by repeat (first | exact Outs.nil | apply Outs.tmp rfl)) rfl ?_))
      exact ⟨g2, mb2, γ, rfl, hM.drop (fun z hz => .tail _ (.tail _ hz)) (by have := hM.nd; simp only [List.map_cons, List.nodup_cons] at this; exact this.2.2)⟩
    · clear hM
      intro w e kl cnt' he hkey hlk hlook hR' hlt hM
      obtain ⟨x, hek, rfl, -⟩ := Maps.keyOf_int_inv Tryz.underlying3 hkey
      obtain ⟨n, hn, rfl, hev⟩ := node_came hlook
      have hrow := row_in (HT.out.node n hn).row
      have c4 := hrow 4 _ rfl
      have HNM := Lib.hid (mapR_of (HT.out.node n hn).names)
      have HR' := Lib.hid hR'
      have HE := Lib.hid he
      have HN := Lib.hid hn
      have HLK := Lib.hid hlk
      have HKEY' := hkey
      rw [hek] at HKEY'
      have HLT := Lib.hid hlt
      clear hR' he hn hlk hkey hlt hlook HR
      simp only [hek, hev]
      (try simp only [Act.put, List.setIfInBounds_toArray, List.set_cons_zero, List.set_cons_succ])
      (repeat (first | ((with_reducible show wpSeq _ _ _ _ _ _ _); first | ((with_reducible refine wpSeq_nil ?_); refine hKr.out _ _ ?_; clear hKr Kr) | (((refine St.pure (v := ?_) rfl rfl rfl (fun w => ?_) ?_; rotate_left; (focus (go_simp; all_goals with_reducible rfl)))); (try simp only [Act.put, List.setIfInBounds_toArray, List.set_cons_zero, List.set_cons_succ]))) | (first | (refine wp_seq_shut (fun K hK => ?_)) | (refine wp_text hM (fun Kr hKr => ?_); simp only [inText]) | refine wp_block ?_ | refine wp_skip ?_ | (refine wp_cond_true rfl ?_) | ((refine hK.out _ _ ?_); clear hK K))))
      refine St.entry (kt := 3) rfl hM rfl rfl rfl (.tail _ (.head _)) (.head _) HE.out HR'.out ?_
      simp only [hek, hev]
      (try simp only [Act.put, List.setIfInBounds_toArray, List.set_cons_zero, List.set_cons_succ])
      (repeat (first | ((with_reducible show wpSeq _ _ _ _ _ _ _); first | ((with_reducible refine wpSeq_nil ?_); refine hKr.out _ _ ?_; clear hKr Kr) | ((first | (refine St.copy (v := ?_) (by first | exact .inl rfl | exact .inr rfl) rfl rfl ?_ ?_; rotate_left; (focus ((try simp only [Act.eval, getD_lit, List.getD_cons_zero, List.getD_cons_succ]); with_reducible rfl))) | (refine St.pure (v := ?_) rfl rfl rfl (fun w => ?_) ?_; rotate_left; (focus (go_simp; all_goals with_reducible rfl))) | refine St.loadF rfl rfl rfl rfl rfl (hM.old (by assumption)) (by kernel_rfl) ?_ | refine St.loadRowF rfl rfl rfl rfl rfl (hM.oldRow (by assumption)) (by kernel_rfl) ?_ | ((((refine St.storeRow rfl hM rfl rfl rfl rfl rfl (by repeat constructor) (Nat.le_of_ble_eq_true rfl) (Nat.le_of_ble_eq_true rfl) (by kernel_rfl) rfl ?_ ?_); (focus ((intro h; cases h; done))); clear hM; intro w hM)); (try simp only [Res.put, Res.known, Act.eval, Value.cells, getD_lit, List.getD_cons_zero, List.getD_cons_succ, List.toList_toArray, List.set_cons_zero, List.set_cons_succ, over, Nat.reduceAdd] at hM))); (try simp only [Act.put, List.setIfInBounds_toArray, List.set_cons_zero, List.set_cons_succ])) | (((refine St.alloc (ty := 166) (z := .agg #[.bool false, .int .i64 0, .int .i64 0, .string ⟨#[]⟩, .map none]) rfl hM rfl rfl (by kernel_rfl) ?_); clear hM; intro w bk hM); (try simp only [Res.put, Res.known, Act.eval, Value.cells, getD_lit, List.getD_cons_zero, List.getD_cons_succ, List.toList_toArray, List.set_cons_zero, List.set_cons_succ, over, Nat.reduceAdd] at hM); (try simp only [Act.put, List.setIfInBounds_toArray, List.set_cons_zero, List.set_cons_succ]))) | (first | (refine wp_seq_shut (fun K hK => ?_)) | (refine wp_text hM (fun Kr hKr => ?_); simp only [inText]) | ((refine hK.out _ _ ?_); clear hK K))))
      ((refine St.call rfl rfl rfl (by kernel_rfl) (fun R hR => ?_); simp only [List.map_toArray, List.map_cons, List.map_nil, Act.eval, getD_lit, List.getD_cons_zero, List.getD_cons_succ]))
      refine (cloneM_any (hM.only.holds HNM.out)).mono ?_
      rintro e' w' ⟨c, rfl, hN⟩
      replace hM := hM.madeM hN (flag_1 _ _)
      (refine hR.out _ _ (fun _ => ⟨hM.only, nofun⟩) ?_); clear hR R hN; (try simp only [Act.put, List.setIfInBounds_toArray, List.set_cons_zero, List.set_cons_succ])
      simp only [List.cons_append, List.nil_append] at hM
      unfold tblL tblE at hM
      (repeat (first | ((with_reducible show wpSeq _ _ _ _ _ _ _); first | ((with_reducible refine wpSeq_nil ?_); refine hKr.out _ _ ?_; clear hKr Kr) | ((first | (refine St.copy (v := ?_) (by exact .inl rfl) rfl rfl ?_ ?_; rotate_left; (focus ((try simp only [Act.eval, getD_lit, List.getD_cons_zero, List.getD_cons_succ]); with_reducible rfl))) | (refine St.pure (v := ?_) rfl rfl rfl (fun w => ?_) ?_; rotate_left; (focus (go_simp; all_goals with_reducible rfl))) | refine St.load rfl hM rfl rfl rfl rfl (by repeat constructor) (by rfl) (by kernel_rfl) ?_ | ((((refine St.store rfl hM rfl rfl rfl rfl rfl (by repeat constructor) (Nat.le_of_ble_eq_true rfl) (by kernel_rfl) rfl ?_ ?_); (focus ((intro h; cases h; done))); clear hM; intro w hM)); (try simp only [Res.put, Res.known, Act.eval, Value.cells, getD_lit, List.getD_cons_zero, List.getD_cons_succ, List.toList_toArray, List.set_cons_zero, List.set_cons_succ, over, Nat.reduceAdd] at hM))); (try simp only [Act.put, List.setIfInBounds_toArray, List.set_cons_zero, List.set_cons_succ]))) | (first | (refine wp_text hM (fun Kr hKr => ?_); simp only [inText]) | ((refine hK.out _ _ ?_); clear hK K))))
      obtain ⟨δ, d1, d2⟩ : ∃ δ : Int → Nat × Nat, δ n.id = (bk, c) ∧ ∀ i, i ≠ n.id → δ i = γ i := ⟨fun i => if i = n.id then (bk, c) else γ i, if_pos rfl, fun i hi => if_neg hi⟩
      obtain ⟨hput, hperm⟩ := put_some γ δ (fun i => !left (.int .i64 i)) (fun i => !(left (.int .i64 i) && !(Lit.int .i64 i).sameKey (.int .i64 n.id))) n (by show (!left (.int .i64 n.id)) = false; rw [HLK.out]; rfl) (fun i => by
        show (!(left (.int .i64 i) && !(decide (IntKind.i64 = IntKind.i64 ∧ i = n.id)))) = (!left (.int .i64 i) || i == n.id)
        by_cases hi : i = n.id
        · simp [hi]
        · simp [hi]) d2 t.nodes HT.out.ids HN.out
      rw [d1] at hput
      refine St.mapUpdate (kl := .int .i64 n.id) rfl hM rfl rfl rfl rfl rfl (by repeat constructor) hput key_int Tryz.underlying160 ?_ HKEY' (fun h => by cases h) ?_
      · have h1 : (nodesL γ (someN (fun i => !left (.int .i64 i)) t.nodes)).length ≤ t.nodes.length := by
          unfold nodesL someN
          rw [List.length_map]
          exact List.length_filter_le _ _
        unfold maxLen
        omega
      have hfl := flat_some γ δ n (fun i => !left (.int .i64 i)) (by show (!left (.int .i64 n.id)) = false; rw [HLK.out]; rfl) d2 hperm
      clear hM; intro w hM
      (try simp only [Act.put, List.setIfInBounds_toArray, List.set_cons_zero, List.set_cons_succ])
      replace hM := hM.perm (perm_last _ _ _ _ _ _ _)
      have e2 : nodeL δ n = [(bk, true, .cells [.bool n.dir, .int .i64 n.links, .int .i64 n.holds, .string n.data, .map (some c)] 166), (c, true, mapR Tryz.prog 9 (namesL n.names))] := by unfold nodeL; rw [d1]
      rw [e2] at hfl
      replace hM := hM.perm ((((hfl.symm.cons _).cons _).cons _).cons _)
      clear hfl hperm hput
      (repeat (((with_reducible show wpSeq _ _ _ _ _ _ _); ((with_reducible refine wpSeq_nil ?_); refine hKr.out _ _ ?_; clear hKr Kr))))
      refine ⟨?_, ?_⟩
      · repeat (first | exact ⟨⟨_, _, _, cnt', _, HR', hM⟩, rfl⟩ | apply Exists.intro)
      · rw [HCNT.out, (HR'.out.to (hM.holds _ (.tail _ (.head _))) (hM.holds _ (.head _))).left_eq]
        exact HLT.out
end
end Go.Proofs.YtcicjklhbnipcaaGreatDoor
namespace Go.Proofs.YtcicjklhbnipcaaGreatDoor
set_option linter.unusedVariables false
set_option linter.unusedSimpArgs false
open Go.RowKit Go.Maps Go.Shelf
theorem cloneH_any {w : World} {b : Nat} {l : List (Lit × Value)} (h : (mapR Tryz.prog 3 l).holds w.heap[b]?) : Calls Tryz.prog 75 #[.map (some b)] w fun e w' => ∃ c, e = .returned (.map (some c)) ∧ St w [] w' [(c, true, mapR Tryz.prog 3 l)] := by
  have hm := mapR_at h
  have hm0 := hm
  obtain ⟨es, clock, hb, -⟩ := hm0
  refine (AnyW.maps_Clone Tryz.cloneH b es clock w hb).mono ?_
  rintro e w' ⟨rfl, rfl⟩
  exact ⟨_, rfl, st_clone hb hm⟩
theorem St.front {w0 w : World} {F : List Nat} {M R : List Ent} (h : St w0 F w (M ++ R)) : St w0 F w M := h.drop (fun z hz => List.mem_append_left _ hz) (by
  have := h.nd
  rw [List.map_append, List.nodup_append] at this
  exact this.1)
theorem In.len_sum : ∀ l : List NodeD, 64 * (l.length : Int) ≤ In.sum l
  | [] => by simp [In.sum]
  | n :: r => by
    have := In.len_sum r
    have h1 : 64 ≤ In.cost n := by unfold In.cost; omega
    simp only [In.sum, List.map_cons, List.sum_cons, List.length_cons] at this ⊢
    omega
theorem In.len_inv {N : Nat} {t : TabD} (h : In.Inv N t) : t.nodes.length ≤ 4611686018427 := by
  have h1 := In.len_sum t.nodes
  have h2 := h.used
  have h3 := h.cap
  have h4 := h.q1
  omega
open Go.Sort in
theorem keys_hand (h : List (Int × List Int)) : intKeys (heldD (handL h)) = h.map Prod.fst := by
  simp [heldD, handL, intKeys, Go.intOf]
theorem keysH_any (mb : Option Nat) (W : World) : Calls Tryz.prog 73 #[.map mb] W fun e w' => e = .returned (.func (.func 125) #[] #[.pointer (some ⟨W.heap.size, 0, none⟩)]) ∧ w' = W.alloc (.cells #[.map mb] 42) :=
  (callsIn_wide (n := 5)).1 (AnyZI.keys_in Tryz.keysH Fence.wide 5 trivial rfl mb W)
open Go.Sort in
/-- The owners' numbers, in order, in a new slice. -/
theorem sortedH_any {m : Nat} {l : List (Int × List Int)} (w : World) (h : MapAt Tryz.prog 3 w m (handL l)) (hl : l.length ≤ 4611686018427) :
    Calls Tryz.prog 72 #[.func (.func 125) #[] #[.pointer (some ⟨w.heap.size, 0, none⟩)]] (w.alloc (.cells #[.map (some m)] 42)) fun e w' => ∃ v : Value, e = .returned v ∧
      w'.ownsRow (w.heap.size + 1) 3 1 v l.length ((l.map Prod.fst).map (Value.int .i64)) ∧ Below w.heap.size w w' := by
  have hbl := MapAt.lt h
  have hsz : Maps.size (heldD (handL l)) = l.length := by rw [size_held]; simp [handL]
  have hown : w.ownsMap Tryz.prog 3 anyElem m (handL l).length (heldD (handL l)) := h
  have hseq : SeqGives Fence.wide 2 Tryz.prog 125 #[.pointer (some ⟨w.heap.size, 0, none⟩)] encZ (fun ss => ss.Perm (intKeys (heldD (handL l)))) (Maps.size (heldD (handL l))) (w.alloc (.cells #[.map (some m)] 42)) :=
    AnyZI.keys_gives (ρ := Tryz.keysH_ren) { Tryz.keysH with } Fence.wide _ trivial rfl (by omega) w.heap.size m _ _ _ (by simp) (by simp) (by
      obtain ⟨es, clock, hb, Ft, hs, hD⟩ := hown
      exact ⟨es, clock, (Below.heap_alloc _ _ m hbl).trans hb, Ft, hs, hD⟩)
  have key := AnyZI.sorted_in Tryz.sortedI Fence.wide 5 trivial trivial trivial trivial rfl (by omega) (sortsI _) (enters_of Tryz.func124 (by kernel_rfl) rfl) 125 #[.pointer (some ⟨w.heap.size, 0, none⟩)] trivial (enters_of Tryz.func125 (by kernel_rfl) rfl) _ _ (by rw [hsz, maxLen_val]; omega) (by rw [hsz]; omega) _ hseq
  refine ((callsIn_wide (n := 5)).1 key).mono fun e w' hx => ?_
  obtain ⟨v, ss, he, hp, hrow, _, hb⟩ := hx
  refine ⟨v, he, ?_, ((Below.refl _ w).alloc (Nat.le_refl _) _).trans (hb.mono (by simp))⟩
  rw [keys_hand] at hp
  have hs : (l.map Prod.fst).Pairwise fun a b => a < b := by
    have := MapAt.sorted h key_int
    unfold handL at this
    rw [List.pairwise_map] at this ⊢
    exact this.imp fun h => by simpa [Lit.before] using h
  have e := sort_ints hp hs
  have hlen : ss.length = l.length := by rw [hp.length_eq]; simp
  rw [show (fun x y : Int => decide (x ≤ y)) = leI from rfl, e, hlen] at hrow
  rw [size_alloc] at hrow
  exact hrow
section
variable {N : Nat} {x : FsX} {β : Int → Nat × Nat} {d : FsD} {w : World}
set_option maxHeartbeats 4000000 in
set_option maxRecDepth 100000 in
theorem fClone_any (h : FsAt N x β d w) (hN : N ≤ 1000000000) : Calls Tryz.prog 22 #[.pointer (some ⟨x.f, 0, none⟩)] w fun e w' => ∃ x' γ, e = .returned (.pointer (some ⟨FsX.f x', 0, none⟩)) ∧ St w [] w' (fsL x' γ d) := by
  have hM := h.at_.ro
  unfold fsL at hM
  simp only [List.map_cons, unflag] at hM
  have HF := Lib.hid h
  have hq : 0 < d.t.quota := by have := h.inv.tbl.q0; omega
  have hln : d.t.nodes.length ≤ 4611686018427 := In.len_inv h.inv.tbl
  clear h
  go_enter Tryz.func22, Tryz.ntmps22
  (repeat (first | ((with_reducible show wpSeq _ _ _ _ _ _ _); first | ((with_reducible refine wpSeq_nil ?_); refine hKr.out _ _ ?_; clear hKr Kr) | (((refine St.copy (v := ?_) (by first | exact .inl rfl | exact .inr rfl) rfl rfl ?_ ?_; rotate_left; (focus ((try simp only [Act.eval, getD_lit, List.getD_cons_zero, List.getD_cons_succ]); with_reducible rfl)))); (try simp only [Act.put, List.setIfInBounds_toArray, List.set_cons_zero, List.set_cons_succ]))) | (first | (refine wp_seq_shut (fun K hK => ?_)) | (refine wp_text hM (fun Kr hKr => ?_); simp only [inText]) | ((refine hK.out _ _ ?_); clear hK K))))
  ((refine St.call rfl rfl rfl (by kernel_rfl) (fun R hR => ?_); simp only [List.map_toArray, List.map_cons, List.map_nil, Act.eval, getD_lit, List.getD_cons_zero, List.getD_cons_succ]))
  refine (fgiven_any (HF.out.below hM.to_below)).mono ?_
  rintro e w' ⟨rfl, rfl⟩; refine hR.out _ _ (fun h => h) ?_; clear hR R; (try simp only [Act.put, List.setIfInBounds_toArray, List.set_cons_zero, List.set_cons_succ])
  (repeat (first | ((with_reducible show wpSeq _ _ _ _ _ _ _); first | ((with_reducible refine wpSeq_nil ?_); refine hKr.out _ _ ?_; clear hKr Kr) | ((first | (refine St.copy (v := ?_) (by exact .inl rfl) rfl rfl ?_ ?_; rotate_left; (focus ((try simp only [Act.eval, getD_lit, List.getD_cons_zero, List.getD_cons_succ]); with_reducible rfl))) | (refine St.pure (v := ?_) rfl rfl rfl (fun w => ?_) ?_; rotate_left; (focus (go_simp; all_goals with_reducible rfl))) | refine St.load1 rfl rfl rfl rfl (by repeat constructor) (by rfl) (by kernel_rfl) ?_); (try simp only [Act.put, List.setIfInBounds_toArray, List.set_cons_zero, List.set_cons_succ]))) | (first | (refine wp_seq_shut (fun K hK => ?_)) | refine wp_skip ?_ | (refine wp_cond_false rfl ?_) | ((refine hK.out _ _ ?_); clear hK K)) | ((refine wp_drawn (id := 3) hM (Sub.all _) [3, 8] [(0, 0), (1, 0), (2, 0), (3, 1), (5, 0), (6, 0), (7, 0), (8, 1), (4, 2), (9, 2), (10, 2), (11, 2), (12, 3)] (by kernel_rfl) (by kernel_rfl) ?_); (clear hM; intro w hM Kr hKr); simp only [opsOf, List.getD_cons_zero, List.getD_cons_succ])))
  ((refine St.call rfl rfl rfl (by kernel_rfl) (fun R hR => ?_); simp only [List.map_toArray, List.map_cons, List.map_nil, Act.eval, getD_lit, List.getD_cons_zero, List.getD_cons_succ]))
  refine (Clone_any (HF.out.below hM.to_below).tbl hq hln).mono ?_
  rintro e w' ⟨g2, mb2, γ, rfl, hN⟩
  replace hM := hM.madeM hN tblL_flag
  refine hR.out _ _ (fun h => h.below hN.to_below) ?_; clear hR R hN; (try simp only [Act.put, List.setIfInBounds_toArray, List.set_cons_zero, List.set_cons_succ])
  (repeat (fail))
  ((refine St.call rfl rfl rfl (by kernel_rfl) (fun R hR => ?_); simp only [List.map_toArray, List.map_cons, List.map_nil, Act.eval, getD_lit, List.getD_cons_zero, List.getD_cons_succ]))
  refine (cloneH_any (hM.only.holds (HF.out.at_.has (x.hb, true, mapR Tryz.prog 3 (handL d.h)) (by unfold fsL; exact .tail _ (.head _))))).mono ?_
  rintro e w' ⟨c, rfl, hN⟩
  replace hM := hM.madeM hN (flag_1 _ _)
  refine hR.out _ _ (fun h => h.below hN.to_below) ?_; clear hR R hN; (try simp only [Act.put, List.setIfInBounds_toArray, List.set_cons_zero, List.set_cons_succ])
  simp only [List.cons_append, List.nil_append] at hM
  (repeat (first | ((with_reducible show wpSeq _ _ _ _ _ _ _); first | ((with_reducible refine wpSeq_nil ?_); refine hKr.out _ _ ?_; clear hKr Kr) | ((first | (refine St.copy (v := ?_) (by exact .inr rfl) rfl rfl ?_ ?_; rotate_left; (focus ((try simp only [Act.eval, getD_lit, List.getD_cons_zero, List.getD_cons_succ]); with_reducible rfl))) | (refine St.pure (v := ?_) rfl rfl rfl (fun w => ?_) ?_; rotate_left; (focus (go_simp; all_goals with_reducible rfl))) | ((((refine St.box rfl hM rfl rfl rfl ?_); clear hM; intro w bk hM)); (try simp only [Res.put, Res.known, Act.eval, Value.cells, getD_lit, List.getD_cons_zero, List.getD_cons_succ, List.toList_toArray, List.set_cons_zero, List.set_cons_succ, over, Nat.reduceAdd] at hM))); (try simp only [Act.put, List.setIfInBounds_toArray, List.set_cons_zero, List.set_cons_succ]))) | (((refine hK.out _ _ ?_); clear hK K))))
  ((refine wp_ret ?_; (try simp only [Exit.then, Exit.inBlock]); refine St.ret hM rfl (by repeat (first | exact Outs.nil | apply Outs.tmp rfl)) rfl ?_))
  exact ⟨⟨bk, c, g2, mb2⟩, γ, rfl, St.front (M := fsL ⟨bk, c, g2, mb2⟩ γ d) hM⟩
theorem slL_flag (s : Option (Nat × Nat)) (xs : List Value) (e : TypeId) (size : Nat) : flagged (slL s xs e size) := fun x hx => by
  cases s with
  | none => cases hx
  | some gc =>
    rcases List.mem_singleton.1 hx with rfl
    rfl
/-- Who has handles. -/
def Fs.owners (d : FsD) : List Int := d.h.map Prod.fst
/-- Owners answers numbers in a slice of its own. -/
def SomeInts (xs : List Int) (w : World) (e : Ending) (w' : World) : Prop :=
  ∃ s, e = .returned (slV s xs.length) ∧ SlOK s xs.length (xs.map (Value.int .i64)) 1 ∧ St w [] w' (slL s (xs.map (Value.int .i64)) 3 1)
set_option maxHeartbeats 4000000 in
set_option maxRecDepth 100000 in
theorem fOwners_any (h : FsAt N x β d w) (hN : N ≤ 1000000000) : Calls Tryz.prog 21 #[.pointer (some ⟨x.f, 0, none⟩)] w (SomeInts (Fs.owners d) w) := by
  have hM := h.at_.ro
  unfold fsL at hM
  simp only [List.map_cons, unflag] at hM
  have HF := Lib.hid h
  have hln : d.h.length ≤ 4611686018427 := by have := h.inv.len; omega
  have HMP := Lib.hid (mapR_at (h.at_.has (x.hb, true, mapR Tryz.prog 3 (handL d.h)) (by unfold fsL; exact .tail _ (.head _))))
  clear h
  go_enter Tryz.func21, Tryz.ntmps21
  (repeat (first | ((with_reducible show wpSeq _ _ _ _ _ _ _); first | ((with_reducible refine wpSeq_nil ?_); refine hKr.out _ _ ?_; clear hKr Kr) | (((refine St.copy (v := ?_) (by first | exact .inl rfl | exact .inr rfl) rfl rfl ?_ ?_; rotate_left; (focus ((try simp only [Act.eval, getD_lit, List.getD_cons_zero, List.getD_cons_succ]); with_reducible rfl)))); (try simp only [Act.put, List.setIfInBounds_toArray, List.set_cons_zero, List.set_cons_succ]))) | (first | (refine wp_seq_shut (fun K hK => ?_)) | (refine wp_text hM (fun Kr hKr => ?_); simp only [inText]) | ((refine hK.out _ _ ?_); clear hK K))))
  ((refine St.call rfl rfl rfl (by kernel_rfl) (fun R hR => ?_); simp only [List.map_toArray, List.map_cons, List.map_nil, Act.eval, getD_lit, List.getD_cons_zero, List.getD_cons_succ]))
  refine (fgiven_any (HF.out.below hM.to_below)).mono ?_
  rintro e w' ⟨rfl, rfl⟩; refine hR.out _ _ (fun h => h) ?_; clear hR R; (try simp only [Act.put, List.setIfInBounds_toArray, List.set_cons_zero, List.set_cons_succ])
  (repeat (first | ((with_reducible show wpSeq _ _ _ _ _ _ _); first | ((with_reducible refine wpSeq_nil ?_); refine hKr.out _ _ ?_; clear hKr Kr) | ((first | (refine St.copy (v := ?_) (by exact .inl rfl) rfl rfl ?_ ?_; rotate_left; (focus ((try simp only [Act.eval, getD_lit, List.getD_cons_zero, List.getD_cons_succ]); with_reducible rfl))) | (refine St.pure (v := ?_) rfl rfl rfl (fun w => ?_) ?_; rotate_left; (focus (go_simp; all_goals with_reducible rfl))) | refine St.load rfl hM rfl rfl rfl rfl (by repeat constructor) (by rfl) (by kernel_rfl) ?_); (try simp only [Act.put, List.setIfInBounds_toArray, List.set_cons_zero, List.set_cons_succ]))) | (first | (refine wp_seq_shut (fun K hK => ?_)) | (refine wp_text hM (fun Kr hKr => ?_); simp only [inText]) | refine wp_skip ?_ | (refine wp_cond_false rfl ?_) | ((refine hK.out _ _ ?_); clear hK K))))
  ((refine St.call rfl rfl rfl (by kernel_rfl) (fun R hR => ?_); simp only [List.map_toArray, List.map_cons, List.map_nil, Act.eval, getD_lit, List.getD_cons_zero, List.getD_cons_succ]))
  refine (keysH_any _ _).mono ?_
  rintro e w' ⟨rfl, rfl⟩
  refine hR.out _ _ (fun h => h.below ((Below.refl _ w).alloc (Nat.le_refl _) _)) ?_; clear hR R; (try simp only [Act.put, List.setIfInBounds_toArray, List.set_cons_zero, List.set_cons_succ])
  ((refine St.call rfl rfl rfl (by kernel_rfl) (fun R hR => ?_); simp only [List.map_toArray, List.map_cons, List.map_nil, Act.eval, getD_lit, List.getD_cons_zero, List.getD_cons_succ]))
  refine (sortedH_any w HMP.out hln).mono ?_
  rintro e w' ⟨v, rfl, hrow, hb⟩
  obtain ⟨s, rfl, hok, hst⟩ := st_of_own hrow hb (Nat.le_succ _)
  replace hM := hM.madeM hst (slL_flag _ _ _ _)
  have HOK := Lib.hid hok
  have e1 : d.h.length = (d.h.map Prod.fst).length := by simp
  refine hR.out _ _ (fun h => ⟨hM.only, nofun⟩) ?_; clear hR R hrow hok; (try simp only [Act.put, List.setIfInBounds_toArray, List.set_cons_zero, List.set_cons_succ])
  (repeat (first | ((with_reducible show wpSeq _ _ _ _ _ _ _); first | ((with_reducible refine wpSeq_nil ?_); refine hKr.out _ _ ?_; clear hKr Kr) | (((refine St.copy (v := ?_) (by exact .inr rfl) rfl rfl ?_ ?_; rotate_left; (focus ((try simp only [Act.eval, getD_lit, List.getD_cons_zero, List.getD_cons_succ]); with_reducible rfl)))); (try simp only [Act.put, List.setIfInBounds_toArray, List.set_cons_zero, List.set_cons_succ]))) | (((refine hK.out _ _ ?_); clear hK K))))
  ((refine wp_ret ?_; (try simp only [Exit.then, Exit.inBlock]); refine St.ret hM rfl (by repeat (first | exact Outs.nil | apply Outs.tmp rfl)) rfl ?_))
  have h2 := HOK.out
  rw [e1] at h2
  refine ⟨s, ?_, h2, hst⟩
  show Ending.returned (slV s d.h.length) = .returned (slV s (d.h.map Prod.fst).length)
  rw [← e1]
end
end Go.Proofs.YtcicjklhbnipcaaGreatDoor
namespace Go.Proofs.YtcicjklhbnipcaaGreatDoor
set_option linter.unusedVariables false
set_option linter.unusedSimpArgs false
open Go.RowKit Go.Maps
def nodM (zs : List NodV) : List (Lit × Value) := zs.map fun z => (.int .i64 z.1.id, .agg z.cells.toArray)
theorem zs_mem {zs : List NodV} {t : TabD} (hz : zs.map (·.1) = t.nodes) {z : NodV} (h : z ∈ zs) : z.1 ∈ t.nodes := by rw [← hz]; exact List.mem_map_of_mem h
theorem look_nod {N : Nat} {t : TabD} (I : In.Inv N t) {zs : List NodV} (hz : zs.map (·.1) = t.nodes) {z : NodV} (h : z ∈ zs) (v : Value) : lookL (nodM zs) (.int .i64 z.1.id) v = .agg z.cells.toArray := by
  have key : ∀ zs : List NodV, (zs.map fun z => z.1).Pairwise (fun a b => a.id < b.id) → z ∈ zs → ((nodM zs).find? fun p => p.1.sameKey (.int .i64 z.1.id)) = some (.int .i64 z.1.id, .agg z.cells.toArray) := by
    intro zs hs hm
    induction zs with
    | nil => cases hm
    | cons y r ih =>
      rw [List.map_cons] at hs
      obtain ⟨h1, h2⟩ := List.pairwise_cons.1 hs
      unfold nodM
      rw [List.map_cons, List.find?_cons]
      rcases List.mem_cons.1 hm with rfl | hm'
      · have : (Lit.int .i64 z.1.id).sameKey (.int .i64 z.1.id) = true := by
          show decide (IntKind.i64 = IntKind.i64 ∧ z.1.id = z.1.id) = true
          simp
        rw [this]
      · have hlt := h1 z.1 (List.mem_map_of_mem hm')
        have : (Lit.int .i64 y.1.id).sameKey (.int .i64 z.1.id) = false := by
          show decide (IntKind.i64 = IntKind.i64 ∧ y.1.id = z.1.id) = false
          simp
          omega
        rw [this]
        exact ih h2 hm'
  unfold lookL
  rw [key zs (by rw [hz]; exact I.asc) h]
theorem ents_flag (zs : List NodV) : flagged (zs.flatMap NodV.ents) := fun x hx => by
  obtain ⟨z, -, hx⟩ := List.mem_flatMap.1 hx
  exact slL_flag _ _ _ _ x hx
/-- Where Files' variables lie. -/
structure UndX where
  t3 : Nat
  t6 : Nat
  t7 : Nat
  m : Nat
def undH (u : UndX) (n : Nat) (s : Option (Nat × Nat)) : List Ent := [(u.t7, true, .cells [.func (.func 70) #[] #[.pointer (some ⟨u.t3, 0, none⟩), .pointer (some ⟨u.t6, 0, none⟩), .pointer (some ⟨u.t7, 0, none⟩)]] 125), (u.t6, true, .cells [slV s n] 47), (u.t3, true, .cells [.map (some u.m)] 119)]
abbrev fileL (s : Option (Nat × Nat)) (xs : List FileD) : List Ent := slL s (xs.flatMap FileD.cells) 112 3
abbrev FileOK (s : Option (Nat × Nat)) (xs : List FileD) : Prop := SlOK s xs.length (xs.flatMap FileD.cells) 3
def undL (u : UndX) (zs : List NodV) (s : Option (Nat × Nat)) (xs : List FileD) : List Ent := undH u xs.length s ++ ((u.m, true, mapR Tryz.prog 3 (nodM zs)) :: (fileL s xs ++ zs.flatMap NodV.ents))
theorem undL_flag (u : UndX) (zs : List NodV) (s : Option (Nat × Nat)) (xs : List FileD) : flagged (undL u zs s xs) := fun x hx => by
  unfold undL undH at hx
  simp only [List.cons_append, List.nil_append, List.mem_cons, List.mem_append] at hx
  rcases hx with rfl | rfl | rfl | rfl | hx | hx
  · rfl
  · rfl
  · rfl
  · rfl
  · exact slL_flag _ _ _ _ x hx
  · exact ents_flag zs x hx
/-- Files are appended to what was found. -/
def UndGoes (u : UndX) (zs : List NodV) (s : Option (Nat × Nat)) (xs ys : List FileD) (w : World) (e : Ending) (w' : World) : Prop :=
  e = .returned (.tuple #[]) ∧ ∃ s', FileOK s' (xs ++ ys) ∧ St w (keysOf (undL u zs s xs)) w' (undL u zs s' (xs ++ ys))
def fileOf (t : TabD) (dir : ByteArray) (p : ByteArray × Int) : FileD := ⟨Pt.join dir p.1, (In.at_ t p.2).dir, (In.at_ t p.2).data⟩
theorem ent_at {d : List (ByteArray × Int)} {j : Nat} {nm : ByteArray} {idv : Int} (h : d[j]? = some (nm, idv)) : ((entC d).drop (j * 2)).take 2 = [.string nm, .int .i64 idv] := by
  induction d generalizing j with
  | nil => simp at h
  | cons p r ih =>
    cases j with
    | zero =>
      rw [List.getElem?_cons_zero] at h
      cases h
      rfl
    | succ j =>
      rw [List.getElem?_cons_succ] at h
      have := ih h
      rw [show (j + 1) * 2 = j * 2 + 2 by omega]
      exact this
theorem entC_len (d : List (ByteArray × Int)) : (entC d).length = d.length * 2 := by
  unfold entC
  induction d with
  | nil => rfl
  | cons p r ih => rw [List.flatMap_cons, List.length_append, ih, List.length_cons]; simp; omega
section
variable {N : Nat} {t : TabD} {zs : List NodV} {u : UndX} {w : World}
/-- One inode's names lie ahead, the others' behind. -/
theorem und_perm {A B : List NodV} {z : NodV} {g cap : Nat} (hz : z.2 = some (g, cap)) (n : Nat) (s : Option (Nat × Nat)) (xs : List FileD) :
    (undH u n s ++ ((u.m, true, mapR Tryz.prog 3 (nodM zs)) :: (fileL s xs ++ (A ++ z :: B).flatMap NodV.ents))).Perm
      ((g, true, .pre (entC z.1.names) 127 (cap * 2)) :: (undH u n s ++ ((u.m, true, mapR Tryz.prog 3 (nodM zs)) :: (fileL s xs ++ (A.flatMap NodV.ents ++ B.flatMap NodV.ents))))) := by
  have e : z.ents = [(g, true, .pre (entC z.1.names) 127 (cap * 2))] := by unfold NodV.ents; rw [hz]; rfl
  rw [List.flatMap_append, List.flatMap_cons, e]
  have h1 : (A.flatMap NodV.ents ++ ([(g, true, Res.pre (entC z.1.names) 127 (cap * 2))] ++ B.flatMap NodV.ents)).Perm ((g, true, Res.pre (entC z.1.names) 127 (cap * 2)) :: (A.flatMap NodV.ents ++ B.flatMap NodV.ents)) := List.perm_middle
  refine (List.Perm.append_left _ ((h1.append_left _).cons _)).trans ?_
  refine (List.Perm.append_left _ ((List.perm_middle).cons _)).trans ?_
  refine (List.Perm.append_left _ (List.Perm.swap _ _ _)).trans ?_
  exact List.perm_middle
set_option maxHeartbeats 16000000 in
set_option maxRecDepth 100000 in
/-- What lies below a directory, if each name's walk is known. -/
theorem under_step (hz : zs.map (·.1) = t.nodes) (I : In.Inv N t) (hN : N ≤ 1000000000) (hks : ∀ z ∈ zs, SlOK z.2 z.1.names.length (entC z.1.names) 2)
    {z : NodV} (hzm : z ∈ zs) {dir : ByteArray} (hd : dir.size ≤ 4611686018427387904) (U : ByteArray × Int → List FileD) {Bd : Nat} (hBd : Bd ≤ 1000000000)
    (IH : ∀ p ∈ z.1.names, ∀ (xs : List FileD) (s : Option (Nat × Nat)) (W : World), xs.length + (U p).length ≤ Bd → FileOK s xs → At (undL u zs s xs) W →
      Calls Tryz.prog 70 #[.int .i64 p.2, .string (Pt.join dir p.1), .pointer (some ⟨u.t3, 0, none⟩), .pointer (some ⟨u.t6, 0, none⟩), .pointer (some ⟨u.t7, 0, none⟩)] W (UndGoes u zs s xs (U p) W))
    (xs : List FileD) (s : Option (Nat × Nat)) (hB : xs.length + (z.1.names.flatMap fun p => fileOf t dir p :: U p).length ≤ Bd) (hok : FileOK s xs) (hA : At (undL u zs s xs) w) :
    Calls Tryz.prog 70 #[.int .i64 z.1.id, .string dir, .pointer (some ⟨u.t3, 0, none⟩), .pointer (some ⟨u.t6, 0, none⟩), .pointer (some ⟨u.t7, 0, none⟩)] w (UndGoes u zs s xs (z.1.names.flatMap fun p => fileOf t dir p :: U p) w) := by
  have hM := hA.st
  unfold UndGoes
  obtain ⟨F, hF⟩ : ∃ F, keysOf (undL u zs s xs) = F := ⟨_, rfl⟩
  rw [hF] at hM ⊢
  clear hF hA
  have hfid : ∀ z' ∈ zs, Fits z'.1.id := fun z' hz' => by
    have := I.pos _ (zs_mem hz hz')
    have := I.last
    exact fits_of (by omega) (by omega)
  have hid := hfid z hzm
  obtain ⟨sa, sc, hsv, hsa⟩ := slV_open (hks z hzm)
  have hl : lookL (nodM zs) (.int .i64 z.1.id) zN = .agg #[.int .i64 z.1.id, .bool z.1.dir, .int .i64 z.1.links, .int .i64 z.1.holds, .string z.1.data, .slice sa z.1.names.length sc] := by
    rw [look_nod I hz hzm zN]
    unfold NodV.cells
    rw [hsv]
  obtain ⟨A, B, hAB⟩ := List.append_of_mem hzm
  have hnl : z.1.names.length ≤ 1000000000 := by
    have h1 := In.le_sum (f := fun n => n.names.length) (zs_mem hz hzm)
    have h2 := I.tot
    unfold In.tot at h2
    omega
  have HOK := Lib.hid hok
  have HZ := Lib.hid (hks z hzm)
  have CJ := Lib.hid (fun (nm : ByteArray) (W : World) (hn : nm.size ≤ 1000000) => Join_any dir nm W hd hn)
  unfold undL at hM
  clear hok hd
  rcases hz2 : z.2 with _ | ⟨g, cap⟩
  · have h0 : z.1.names = [] := by
      have := HZ.out
      rw [hz2] at this
      exact List.eq_nil_of_length_eq_zero this.2
    have h0l : z.1.names.length = 0 := by rw [h0]; rfl
    rw [h0l] at hl
    rw [h0]
    unfold undH at hM
    simp only [List.cons_append, List.nil_append] at hM
    go_enter Tryz.func70, Tryz.ntmps70
    (repeat (first | ((with_reducible show wpSeq _ _ _ _ _ _ _); ((first | (refine St.copy (v := ?_) (by exact .inl rfl) rfl rfl ?_ ?_; rotate_left; (focus ((try simp only [Act.eval, getD_lit, List.getD_cons_zero, List.getD_cons_succ]); with_reducible rfl))) | refine St.load rfl hM rfl rfl rfl rfl (by repeat constructor) (by rfl) (by kernel_rfl) ?_); (try simp only [Act.put, List.setIfInBounds_toArray, List.set_cons_zero, List.set_cons_succ]))) | (first | (refine wp_seq_shut (fun K hK => ?_)) | (refine wp_text hM (fun Kr hKr => ?_); simp only [inText]))))
    refine St.lookup rfl hM rfl rfl rfl rfl (by repeat constructor) key_int Tryz.underlying119 zero_node (keyOf_int_mk Tryz.underlying3 hid) hl ?_
    (try simp only [Act.put, List.setIfInBounds_toArray, List.set_cons_zero, List.set_cons_succ])
    refine St.field (off := 5) rfl rfl rfl rfl (by kernel_rfl) rfl ?_
    (try simp only [Act.put, List.setIfInBounds_toArray, List.set_cons_zero, List.set_cons_succ])
    (repeat (first | ((with_reducible show wpSeq _ _ _ _ _ _ _); first | ((with_reducible refine wpSeq_nil ?_); refine hKr.out _ _ ?_; clear hKr Kr) | ((first | (refine St.copy (v := ?_) (by exact .inl rfl) rfl rfl ?_ ?_; rotate_left; (focus ((try simp only [Act.eval, getD_lit, List.getD_cons_zero, List.getD_cons_succ]); with_reducible rfl))) | (refine St.pure (v := ?_) rfl rfl rfl (fun w => ?_) ?_; rotate_left; (focus (go_simp; all_goals with_reducible rfl)))); (try simp only [Act.put, List.setIfInBounds_toArray, List.set_cons_zero, List.set_cons_succ]))) | (first | refine wp_block ?_ | ((refine hK.out _ _ ?_); clear hK K))))
    refine wp_loop_rounds 1 ?_
    (refine rounds_shut (fun K hK => ?_))
    (repeat (first | ((with_reducible show wpSeq _ _ _ _ _ _ _); first | ((with_reducible refine wpSeq_nil ?_); refine hKr.out _ _ ?_; clear hKr Kr) | (((refine St.pure (v := ?_) rfl rfl rfl (fun w => ?_) ?_; rotate_left; (focus (go_simp; all_goals with_reducible rfl)))); (try simp only [Act.put, List.setIfInBounds_toArray, List.set_cons_zero, List.set_cons_succ]))) | (first | (refine wp_seq_shut (fun K hK => ?_)) | (refine wp_text hM (fun Kr hKr => ?_); simp only [inText]) | (refine wp_cond_false rfl ?_) | (refine wp_exit ?_; simp only [Exit.then, Exit.inBlock, if_true, if_false, reduceCtorEq, Nat.reduceEqDiff, Nat.succ_ne_zero]) | ((refine hK.out _ _ ?_); clear hK K))))
    ((refine St.fin hM rfl (by repeat (exact Outs.nil)) rfl ?_))
    refine ⟨rfl, s, by rw [List.flatMap_nil, List.append_nil]; exact HOK.out, ?_⟩
    rw [List.flatMap_nil, List.append_nil]
    exact hM
  · obtain ⟨rfl, rfl⟩ := hsa g cap hz2
    rw [show zs.flatMap NodV.ents = (A ++ z :: B).flatMap NodV.ents by rw [← hAB]] at hM
    replace hM := hM.perm (und_perm hz2 _ _ _)
    have HP := Lib.hid (fun (n : Nat) (s : Option (Nat × Nat)) (xs : List FileD) => und_perm (u := u) (zs := zs) (A := A) (B := B) hz2 n s xs)
    have HAB := Lib.hid (show (A ++ z :: B).flatMap NodV.ents = zs.flatMap NodV.ents by rw [← hAB])
    generalize (A ++ z :: B).flatMap NodV.ents = E1 at *
    generalize A.flatMap NodV.ents ++ B.flatMap NodV.ents = E2 at *
    have HI := Lib.hid I
    have HZZ := Lib.hid hz
    have HKS := Lib.hid hks
    have HFD := Lib.hid hfid
    have HIH := Lib.hid IH
    have HBB := Lib.hid hB
    clear hAB hz2 hsa hsv I hz hks hfid IH hB
    unfold undH at hM
    simp only [List.cons_append, List.nil_append] at hM
    go_enter Tryz.func70, Tryz.ntmps70
    (repeat (first | ((with_reducible show wpSeq _ _ _ _ _ _ _); ((first | (refine St.copy (v := ?_) (by exact .inl rfl) rfl rfl ?_ ?_; rotate_left; (focus ((try simp only [Act.eval, getD_lit, List.getD_cons_zero, List.getD_cons_succ]); with_reducible rfl))) | refine St.load rfl hM rfl rfl rfl rfl (by repeat constructor) (by rfl) (by kernel_rfl) ?_); (try simp only [Act.put, List.setIfInBounds_toArray, List.set_cons_zero, List.set_cons_succ]))) | (first | (refine wp_seq_shut (fun K hK => ?_)) | (refine wp_text hM (fun Kr hKr => ?_); simp only [inText]))))
    refine St.lookup rfl hM rfl rfl rfl rfl (by repeat constructor) key_int Tryz.underlying119 zero_node (keyOf_int_mk Tryz.underlying3 hid) hl ?_
    (try simp only [Act.put, List.setIfInBounds_toArray, List.set_cons_zero, List.set_cons_succ])
    refine St.field (off := 5) rfl rfl rfl rfl (by kernel_rfl) rfl ?_
    (try simp only [Act.put, List.setIfInBounds_toArray, List.set_cons_zero, List.set_cons_succ])
    (repeat (first | ((with_reducible show wpSeq _ _ _ _ _ _ _); first | ((with_reducible refine wpSeq_nil ?_); refine hKr.out _ _ ?_; clear hKr Kr) | ((first | (refine St.copy (v := ?_) (by exact .inl rfl) rfl rfl ?_ ?_; rotate_left; (focus ((try simp only [Act.eval, getD_lit, List.getD_cons_zero, List.getD_cons_succ]); with_reducible rfl))) | (refine St.pure (v := ?_) rfl rfl rfl (fun w => ?_) ?_; rotate_left; (focus (go_simp; all_goals with_reducible rfl)))); (try simp only [Act.put, List.setIfInBounds_toArray, List.set_cons_zero, List.set_cons_succ]))) | (first | refine wp_block ?_ | ((refine hK.out _ _ ?_); clear hK K))))
    go_loopw [16] (fun i wr => ∃ (k : Nat) (s' : Option (Nat × Nat)) (ys : List FileD), k ≤ z.1.names.length ∧ i = .int .i64 k ∧ ys = xs ++ (z.1.names.take k).flatMap (fun p => fileOf t dir p :: U p) ∧ FileOK s' ys ∧ St w F wr ((g, true, .pre (entC z.1.names) 127 (sc * 2)) :: (u.t7, true, .cells [.func (.func 70) #[] #[.pointer (some ⟨u.t3, 0, none⟩), .pointer (some ⟨u.t6, 0, none⟩), .pointer (some ⟨u.t7, 0, none⟩)]] 125) :: (u.t6, true, .cells [slV s' ys.length] 47) :: (u.t3, true, .cells [.map (some u.m)] 119) :: (u.m, true, mapR Tryz.prog 3 (nodM zs)) :: (fileL s' ys ++ E2))) (fun i _ => z.1.names.length - (intOf i).toNat)
    case atStart => exact ⟨0, s, xs, by omega, rfl, by simp, HOK.out, hM⟩
    case round =>
      clear hM
      obtain ⟨k, s', ys, hk, rfl, hys, hok', hM⟩ := hrel
      have HYS := Lib.hid hys
      have HOK' := Lib.hid hok'
      clear hys hok'
      by_cases hlt : k < z.1.names.length
      · obtain ⟨p, hp⟩ := get_at hlt
        obtain ⟨nm, idv⟩ := p
        have hpm := List.mem_of_getElem? hp
        have hzi := zs_mem HZZ.out hzm
        have hns := HI.out.short _ hzi _ hpm
        obtain ⟨n2, hn2⟩ := HI.out.leads _ hzi _ hpm
        simp only at hns hn2
        obtain ⟨hn2m, hn2i⟩ := In.find_some hn2
        obtain ⟨zc, hzc, hzce⟩ : ∃ zc ∈ zs, zc.1 = n2 := by
          rw [← HZZ.out] at hn2m
          obtain ⟨zc, h1, h2⟩ := List.mem_map.1 hn2m
          exact ⟨zc, h1, h2⟩
        have hat : In.at_ t idv = zc.1 := by rw [In.at_some hn2, hzce]
        have hidv : zc.1.id = idv := by rw [hzce]; exact hn2i
        obtain ⟨ca, cc, hcv, -⟩ := slV_open (HKS.out zc hzc)
        have hl2 : lookL (nodM zs) (.int .i64 idv) zN = .agg #[.int .i64 idv, .bool zc.1.dir, .int .i64 zc.1.links, .int .i64 zc.1.holds, .string zc.1.data, .slice ca zc.1.names.length cc] := by
          rw [← hidv, look_nod HI.out HZZ.out hzc zN]
          unfold NodV.cells
          rw [hcv]
        have hfv : Fits idv := by rw [← hidv]; exact HFD.out zc hzc
        have hent := ent_at hp
        have hfile : fileOf t dir (nm, idv) = ⟨Pt.join dir nm, zc.1.dir, zc.1.data⟩ := by unfold fileOf; rw [hat]
        have htake : (z.1.names.take (k + 1)).flatMap (fun p => fileOf t dir p :: U p) = (z.1.names.take k).flatMap (fun p => fileOf t dir p :: U p) ++ (⟨Pt.join dir nm, zc.1.dir, zc.1.data⟩ :: U (nm, idv)) := by
          rw [List.take_add_one, hp, Option.toList_some, List.flatMap_append, List.flatMap_singleton, hfile]
        have hys2 : (ys ++ [⟨Pt.join dir nm, zc.1.dir, zc.1.data⟩]) ++ U (nm, idv) = xs ++ (z.1.names.take (k + 1)).flatMap (fun p => fileOf t dir p :: U p) := by
          rw [htake, HYS.out]
          simp
        have hlen : ys.length + 1 + (U (nm, idv)).length ≤ Bd := by
          have h1 := congrArg List.length hys2
          have h2 : ((z.1.names.take (k + 1)).flatMap (fun p => fileOf t dir p :: U p)).length ≤ (z.1.names.flatMap fun p => fileOf t dir p :: U p).length := by
            conv => rhs; rw [← List.take_append_drop (k + 1) z.1.names]
            rw [List.flatMap_append, List.length_append]
            omega
          have h3 := HBB.out
          rw [List.length_append, List.length_append, List.length_append, List.length_singleton] at h1
          omega
        have CI := Lib.hid (fun s' W h1 h2 => HIH.out (nm, idv) hpm (ys ++ [⟨Pt.join dir nm, zc.1.dir, zc.1.data⟩]) s' W (by rw [List.length_append, List.length_singleton]; exact hlen) h1 h2)
        have CJ' := Lib.hid (fun W => CJ.out nm W (by omega))
        have HY2 := Lib.hid hys2
        have k1 : (k : Int) < (z.1.names.length : Int) := by omega
        have hel : k * 2 + 2 ≤ (entC z.1.names).length := by rw [entC_len]; omega
        have hyl : ys.length + 1 ≤ 1000000000 := by omega
        simp only at CI
        generalize Pt.join dir nm = J at *
        generalize U (nm, idv) = UP at *
        generalize zc.1.names.length = cn at *
        generalize zc.1.dir = zd at *
        generalize zc.1.links = zl at *
        generalize zc.1.holds = zh at *
        generalize zc.1.data = zt at *
        clear hp hpm hzi hns hn2 hn2m hn2i hzce hat hidv hcv hfile htake hys2 hlen hzc HBB HIH CJ
        (repeat (first | ((with_reducible show wpSeq _ _ _ _ _ _ _); first | ((with_reducible refine wpSeq_nil ?_); refine hKr.out _ _ ?_; clear hKr Kr) | (((refine St.pure (v := ?_) rfl rfl rfl (fun w => ?_) ?_; rotate_left; (focus (go_simp; all_goals with_reducible rfl)))); (try simp only [Act.put, List.setIfInBounds_toArray, List.set_cons_zero, List.set_cons_succ]))) | (first | (refine wp_seq_shut (fun K hK => ?_)) | (refine wp_text hM (fun Kr hKr => ?_); simp only [inText]) | refine wp_block ?_ | refine wp_skip ?_ | (refine wp_cond_true rfl ?_) | ((refine hK.out _ _ ?_); clear hK K))))
        refine St.loadRow rfl hM rfl rfl rfl rfl (by repeat constructor) (by exact hel) (by kernel_rfl) ?_
        simp only [Res.known]
        rw [hent]
        (try simp only [Act.put, List.setIfInBounds_toArray, List.set_cons_zero, List.set_cons_succ])
        (repeat (first | ((with_reducible show wpSeq _ _ _ _ _ _ _); first | ((with_reducible refine wpSeq_nil ?_); refine hKr.out _ _ ?_; clear hKr Kr) | ((first | (refine St.pure (v := ?_) rfl rfl rfl (fun w => ?_) ?_; rotate_left; (focus (go_simp; all_goals with_reducible rfl))) | refine St.load rfl hM rfl rfl rfl rfl (by repeat constructor) (by rfl) (by kernel_rfl) ?_ | ((((refine St.storeRow rfl hM rfl rfl rfl rfl rfl (by repeat constructor) (Nat.le_of_ble_eq_true rfl) (Nat.le_of_ble_eq_true rfl) (by kernel_rfl) rfl ?_ ?_); (focus ((intro h; cases h; done))); clear hM; intro w hM)); (try simp only [Res.put, Res.known, Act.eval, Value.cells, getD_lit, List.getD_cons_zero, List.getD_cons_succ, List.toList_toArray, List.set_cons_zero, List.set_cons_succ, over, Nat.reduceAdd] at hM))); (try simp only [Act.put, List.setIfInBounds_toArray, List.set_cons_zero, List.set_cons_succ])) | (((refine St.alloc (ty := 127) (z := .agg #[.string ⟨#[]⟩, .int .i64 0]) rfl hM rfl rfl (by kernel_rfl) ?_); clear hM; intro w bk hM); (try simp only [Res.put, Res.known, Act.eval, Value.cells, getD_lit, List.getD_cons_zero, List.getD_cons_succ, List.toList_toArray, List.set_cons_zero, List.set_cons_succ, over, Nat.reduceAdd] at hM); (try simp only [Act.put, List.setIfInBounds_toArray, List.set_cons_zero, List.set_cons_succ]))) | (first | (refine wp_seq_shut (fun K hK => ?_)) | (refine wp_text hM (fun Kr hKr => ?_); simp only [inText]) | ((refine hK.out _ _ ?_); clear hK K))))
        refine St.lookup rfl hM rfl rfl rfl rfl (by repeat constructor) key_int Tryz.underlying119 zero_node (keyOf_int_mk Tryz.underlying3 hfv) hl2 ?_
        (try simp only [Act.put, List.setIfInBounds_toArray, List.set_cons_zero, List.set_cons_succ])
        (repeat (first | ((with_reducible show wpSeq _ _ _ _ _ _ _); first | ((with_reducible refine wpSeq_nil ?_); refine hKr.out _ _ ?_; clear hKr Kr) | ((first | (refine St.copy (v := ?_) (by exact .inl rfl) rfl rfl ?_ ?_; rotate_left; (focus ((try simp only [Act.eval, getD_lit, List.getD_cons_zero, List.getD_cons_succ]); with_reducible rfl))) | (refine St.pure (v := ?_) rfl rfl rfl (fun w => ?_) ?_; rotate_left; (focus (go_simp; all_goals with_reducible rfl))) | refine St.load rfl hM rfl rfl rfl rfl (by repeat constructor) (by rfl) (by kernel_rfl) ?_ | ((((refine St.storeRow rfl hM rfl rfl rfl rfl rfl (by repeat constructor) (Nat.le_of_ble_eq_true rfl) (Nat.le_of_ble_eq_true rfl) (by kernel_rfl) rfl ?_ ?_); (focus ((intro h; cases h; done))); clear hM; intro w hM)); (try simp only [Res.put, Res.known, Act.eval, Value.cells, getD_lit, List.getD_cons_zero, List.getD_cons_succ, List.toList_toArray, List.set_cons_zero, List.set_cons_succ, over, Nat.reduceAdd] at hM))); (try simp only [Act.put, List.setIfInBounds_toArray, List.set_cons_zero, List.set_cons_succ])) | (((refine St.alloc (ty := 124) (z := .agg #[.int .i64 0, .bool false, .int .i64 0, .int .i64 0, .string ⟨#[]⟩, .slice none 0 0]) rfl hM rfl rfl (by kernel_rfl) ?_); clear hM; intro w bk hM); (try simp only [Res.put, Res.known, Act.eval, Value.cells, getD_lit, List.getD_cons_zero, List.getD_cons_succ, List.toList_toArray, List.set_cons_zero, List.set_cons_succ, over, Nat.reduceAdd] at hM); (try simp only [Act.put, List.setIfInBounds_toArray, List.set_cons_zero, List.set_cons_succ]))) | (first | (refine wp_seq_shut (fun K hK => ?_)) | (refine wp_text hM (fun Kr hKr => ?_); simp only [inText]) | ((refine hK.out _ _ ?_); clear hK K))))
        (refine St.call3 rfl rfl (by kernel_rfl) (fun R hR => ?_); simp only [List.map_toArray, List.map_cons, List.map_nil, Act.eval, getD_lit, List.getD_cons_zero, List.getD_cons_succ])
        refine (CJ'.out _).mono ?_
        rintro e w' ⟨rfl, rfl⟩; refine hR.out _ _ ?_; clear hR R; (try simp only [Act.put, List.setIfInBounds_toArray, List.set_cons_zero, List.set_cons_succ])
        (repeat (first | ((with_reducible show wpSeq _ _ _ _ _ _ _); first | ((with_reducible refine wpSeq_nil ?_); refine hKr.out _ _ ?_; clear hKr Kr) | ((first | (refine St.copy (v := ?_) (by first | exact .inl rfl | exact .inr rfl) rfl rfl ?_ ?_; rotate_left; (focus ((try simp only [Act.eval, getD_lit, List.getD_cons_zero, List.getD_cons_succ]); with_reducible rfl))) | (refine St.pure (v := ?_) rfl rfl rfl (fun w => ?_) ?_; rotate_left; (focus (go_simp; all_goals with_reducible rfl))) | refine St.load rfl hM rfl rfl rfl rfl (by repeat constructor) (by rfl) (by kernel_rfl) ?_ | (((((refine St.buildSlice (cells := ?_) (e := ?_) rfl hM rfl rfl (fun w => ?_) ?_; rotate_left 2; (focus (go_simp; all_goals with_reducible rfl)))); clear hM; intro w bk hM)); (try simp only [Res.put, Res.known, Act.eval, Value.cells, getD_lit, List.getD_cons_zero, List.getD_cons_succ, List.toList_toArray, List.set_cons_zero, List.set_cons_succ, over, Nat.reduceAdd] at hM))); (try simp only [Act.put, List.setIfInBounds_toArray, List.set_cons_zero, List.set_cons_succ]))) | (first | (refine wp_seq_shut (fun K hK => ?_)) | (refine wp_text hM (fun Kr hKr => ?_); simp only [inText]) | ((refine hK.out _ _ ?_); clear hK K))))
        refine St.append (s := s') (n := ys.length) (xs := ys.flatMap FileD.cells) rfl hM rfl rfl rfl rfl rfl (by kernel_rfl) (by intro s'; repeat (first | exact Swap.here | apply Swap.skip)) HOK'.out rfl (hM.news (by repeat constructor)) rfl (by rw [maxLen_val]; omega) (by omega) (fun h => by cases h) ?_
        clear hM; intro w s2 hM hk2 _
        have e1 : ys.flatMap FileD.cells ++ [.string J, .bool zd, .string zt] = (ys ++ [(⟨J, zd, zt⟩ : FileD)]).flatMap FileD.cells := by rw [List.flatMap_append, List.flatMap_singleton]; rfl
        have e2 : ys.length + 1 = (ys ++ [(⟨J, zd, zt⟩ : FileD)]).length := by simp
        simp only [Res.known] at hM hk2
        rw [e1] at hM hk2
        rw [e2] at hk2 ⊢
        have HK2 := Lib.hid hk2
        generalize ys ++ [(⟨J, zd, zt⟩ : FileD)] = ys2 at *
        obtain ⟨a2, c2, hv2, -⟩ := slV_open hk2
        rw [hv2]
        clear e1 e2 hk2
        (try simp only [Act.put, List.setIfInBounds_toArray, List.set_cons_zero, List.set_cons_succ])
        (repeat (first | ((with_reducible show wpSeq _ _ _ _ _ _ _); first | ((with_reducible refine wpSeq_nil ?_); refine hKr.out _ _ ?_; clear hKr Kr) | ((first | (refine St.copy (v := ?_) (by exact .inl rfl) rfl rfl ?_ ?_; rotate_left; (focus ((try simp only [Act.eval, getD_lit, List.getD_cons_zero, List.getD_cons_succ]); with_reducible rfl))) | (refine St.pure (v := ?_) rfl rfl rfl (fun w => ?_) ?_; rotate_left; (focus (go_simp; all_goals with_reducible rfl))) | refine St.load rfl hM rfl rfl rfl rfl (by repeat constructor) (by rfl) (by kernel_rfl) ?_ | ((((refine St.store rfl hM rfl rfl rfl rfl rfl (by repeat constructor) (Nat.le_of_ble_eq_true rfl) (by kernel_rfl) rfl ?_ ?_); (focus ((intro h; cases h; done))); clear hM; intro w hM)); (try simp only [Res.put, Res.known, Act.eval, Value.cells, getD_lit, List.getD_cons_zero, List.getD_cons_succ, List.toList_toArray, List.set_cons_zero, List.set_cons_succ, over, Nat.reduceAdd] at hM))); (try simp only [Act.put, List.setIfInBounds_toArray, List.set_cons_zero, List.set_cons_succ]))) | (first | (refine wp_text hM (fun Kr hKr => ?_); simp only [inText]) | ((refine hK.out _ _ ?_); clear hK K))))
        (refine St.callv rfl rfl rfl rfl (by kernel_rfl) (fun R hR => ?_); simp only [List.map_toArray, List.map_cons, List.map_nil, Act.eval, getD_lit, List.getD_cons_zero, List.getD_cons_succ, Array.append_empty, Array.empty_append])
        rw [← hv2] at hM
        have hU := hM.forget.forget.forget.perm (L' := undH u _ s2 ++ ((u.m, true, mapR Tryz.prog 3 (nodM zs)) :: (fileL s2 _ ++ E1))) (HP.out _ _ _).symm
        rw [HAB.out] at hU
        clear hM
        change St _ F w (undL u zs s2 ys2) at hU
        refine (CI.out s2 w HK2.out hU.whole).mono ?_
        rintro e w' ⟨rfl, s3, hk3, hN3⟩
        have hM := hU.backM Swap.all (undL_flag _ _ _ _) hN3 (undL_flag _ _ _ _)
        refine hR.out _ _ (fun _ => ⟨hM.only, nofun⟩) ?_
        clear hR R hU hN3 CI HK2 HOK'
        rw [HY2.out] at hM hk3
        have HK3 := Lib.hid hk3
        clear hk3
        unfold undL at hM
        rw [← HAB.out] at hM
        replace hM := hM.perm (HP.out _ _ _)
        unfold undH at hM
        simp only [List.cons_append, List.nil_append] at hM
        (try simp only [Act.put, List.setIfInBounds_toArray, List.set_cons_zero, List.set_cons_succ])
        (repeat (first | ((with_reducible show wpSeq _ _ _ _ _ _ _); first | ((with_reducible refine wpSeq_nil ?_); refine hKr.out _ _ ?_; clear hKr Kr) | ((first | (refine St.copy (v := ?_) (by exact .inl rfl) rfl rfl ?_ ?_; rotate_left; (focus ((try simp only [Act.eval, getD_lit, List.getD_cons_zero, List.getD_cons_succ]); with_reducible rfl))) | refine St.inc rfl rfl rfl rfl rfl (by omega) ?_); (try simp only [Act.put, List.setIfInBounds_toArray, List.set_cons_zero, List.set_cons_succ]))) | (first | (refine wp_text hM (fun Kr hKr => ?_); simp only [inText]) | ((refine hK.out _ _ ?_); clear hK K))))
        (refine ⟨?_, ?_⟩; (focus (repeat (first | exact ⟨⟨k + 1, s3, _, by omega, rfl, rfl, HK3.out, hM⟩, rfl⟩ | apply Exists.intro))); (simp only [getD_lit, List.getD_cons_zero, List.getD_cons_succ, intOf]; omega))
      · have k0 : ¬ ((k : Int) < (z.1.names.length : Int)) := by omega
        obtain rfl : k = z.1.names.length := by omega
        have hys := HYS.out
        rw [List.take_length] at hys
        subst hys
        clear hlt hk HYS
        (repeat (first | ((with_reducible show wpSeq _ _ _ _ _ _ _); first | ((with_reducible refine wpSeq_nil ?_); refine hKr.out _ _ ?_; clear hKr Kr) | (((refine St.pure (v := ?_) rfl rfl rfl (fun w => ?_) ?_; rotate_left; (focus (go_simp; all_goals with_reducible rfl)))); (try simp only [Act.put, List.setIfInBounds_toArray, List.set_cons_zero, List.set_cons_succ]))) | (first | (refine wp_seq_shut (fun K hK => ?_)) | (refine wp_text hM (fun Kr hKr => ?_); simp only [inText]) | (refine wp_cond_false rfl ?_) | (refine wp_exit ?_; simp only [Exit.then, Exit.inBlock, if_true, if_false, reduceCtorEq, Nat.reduceEqDiff, Nat.succ_ne_zero]) | ((refine hK.out _ _ ?_); clear hK K))))
        ((refine St.fin hM rfl (by repeat (exact Outs.nil)) rfl ?_))
        refine ⟨rfl, s', HOK'.out, ?_⟩
        have := hM.perm (L' := undH u _ s' ++ ((u.m, true, mapR Tryz.prog 3 (nodM zs)) :: (fileL s' _ ++ E1))) (HP.out _ _ _).symm
        rw [HAB.out] at this
        exact this
theorem join_size (d n : ByteArray) : (Pt.join d n).size ≤ d.size + n.size + 1 := by
  unfold Pt.join
  split
  · rw [ByteArray.size_append]; omega
  · rw [ByteArray.size_append, ByteArray.size_append]
    have : Pt.slash.size = 1 := rfl
    omega
theorem at_zs (hz : zs.map (·.1) = t.nodes) (I : In.Inv N t) {z : NodV} (h : z ∈ zs) : In.at_ t z.1.id = z.1 := In.at_some (In.find_asc I.asc (zs_mem hz h))
/-- All that lies below a directory. -/
theorem under_any (hz : zs.map (·.1) = t.nodes) (I : In.Inv N t) (hup : In.Up t) (hN : N ≤ 1000000000) (hks : ∀ z ∈ zs, SlOK z.2 z.1.names.length (entC z.1.names) 2) :
    ∀ (k : Nat) (z : NodV), z ∈ zs → (z.1.names = [] ∨ t.last + 1 ≤ z.1.id + k) → ∀ (dir : ByteArray), dir.size + 33 * k ≤ 4611686018427387904 → ∀ (xs : List FileD) (s : Option (Nat × Nat)) (W : World), xs.length + (Fs.under t k z.1.id dir).length ≤ 1000000000 → FileOK s xs → At (undL u zs s xs) W →
      Calls Tryz.prog 70 #[.int .i64 z.1.id, .string dir, .pointer (some ⟨u.t3, 0, none⟩), .pointer (some ⟨u.t6, 0, none⟩), .pointer (some ⟨u.t7, 0, none⟩)] W (UndGoes u zs s xs (Fs.under t k z.1.id dir) W)
  | 0, z, hzm, hl, dir, hd, xs, s, W, hB, hok, hA => by
    have h0 : z.1.names = [] := by
      rcases hl with h | h
      · exact h
      · have := (I.pos _ (zs_mem hz hzm)).2
        omega
    have := under_step hz I hN hks hzm (dir := dir) (by omega) (fun _ => []) (Bd := 1000000000) (Nat.le_refl _) (fun p hp => by rw [h0] at hp; cases hp) xs s (by rw [h0, List.flatMap_nil]; exact hB) hok hA
    rw [h0] at this
    exact this
  | k + 1, z, hzm, hl, dir, hd, xs, s, W, hB, hok, hA => by
    have e : Fs.under t (k + 1) z.1.id dir = z.1.names.flatMap fun p => fileOf t dir p :: Fs.under t k p.2 (Pt.join dir p.1) := by
      show ((In.at_ t z.1.id).names.flatMap fun p => fileOf t dir p :: Fs.under t k p.2 (Pt.join dir p.1)) = _
      rw [at_zs hz I hzm]
    rw [e] at hB ⊢
    refine under_step hz I hN hks hzm (by omega) (fun p => Fs.under t k p.2 (Pt.join dir p.1)) (Bd := 1000000000) (Nat.le_refl _) (fun p hp xs' s' W' hB' hok' hA' => ?_) xs s hB hok hA
    have hzi := zs_mem hz hzm
    have hns := I.short _ hzi _ hp
    obtain ⟨n2, hn2⟩ := I.leads _ hzi _ hp
    obtain ⟨hn2m, hn2i⟩ := In.find_some hn2
    obtain ⟨zc, hzc, hzce⟩ : ∃ zc ∈ zs, zc.1 = n2 := by
      rw [← hz] at hn2m
      obtain ⟨zc, h1, h2⟩ := List.mem_map.1 hn2m
      exact ⟨zc, h1, h2⟩
    have hidv : zc.1.id = p.2 := by rw [hzce]; exact hn2i
    have hj := join_size dir p.1
    have key := under_any hz I hup hN hks k zc hzc ?_ (Pt.join dir p.1) (by omega) xs' s' W' (by rw [hidv]; exact hB') hok' hA'
    · rw [hidv] at key
      exact key
    · cases hdr : zc.1.dir with
      | false => exact .inl (I.files _ (zs_mem hz hzc) hdr)
      | true =>
        refine .inr ?_
        have hlt := hup z.1.id z.1 p n2 (In.find_asc I.asc hzi) hp hn2 (by rw [← hzce]; exact hdr)
        rcases hl with h | h
        · rw [h] at hp; cases hp
        · omega
theorem put_nod (I : In.Inv N t) (hz : zs.map (·.1) = t.nodes) {k : Nat} {z : NodV} (h : zs[k]? = some z) : putL (.int .i64 z.1.id) (.agg z.cells.toArray) (nodM (zs.take k)) = nodM (zs.take (k + 1)) := by
  have hs : (zs.map fun z => z.1).Pairwise (fun a b => a.id < b.id) := by rw [hz]; exact I.asc
  have key : ∀ (l : List NodV), (∀ y ∈ l, y.1.id < z.1.id) → putL (.int .i64 z.1.id) (.agg z.cells.toArray) (nodM l) = nodM (l ++ [z]) := fun l hl => by
    have hdel : delL (.int .i64 z.1.id) (nodM l) = nodM l := by
      unfold delL
      rw [List.filter_eq_self]
      intro x hx
      obtain ⟨y, hy, rfl⟩ := List.mem_map.1 hx
      have := hl y hy
      show (!decide (IntKind.i64 = IntKind.i64 ∧ y.1.id = z.1.id)) = true
      have hne : y.1.id ≠ z.1.id := by omega
      simp [hne]
    unfold putL
    rw [hdel]
    clear hdel
    induction l with
    | nil => rfl
    | cons y r ih =>
      have h1 := hl y (.head _)
      have ih' := ih fun y' hy' => hl y' (.tail _ hy')
      unfold nodM at ih' ⊢
      rw [List.map_cons, List.cons_append, List.map_cons]
      unfold insL
      rw [if_neg (show ¬ (Lit.int .i64 z.1.id).before (.int .i64 y.1.id) = true by simp [Lit.before]; omega)]
      rw [ih']
  rw [key _ (fun y hy => ?_)]
  · rw [List.take_add_one, h]
    rfl
  · obtain ⟨i, hi, rfl⟩ := List.mem_take_iff_getElem.1 hy
    obtain ⟨hk, rfl⟩ := List.getElem?_eq_some_iff.1 h
    rw [List.pairwise_map] at hs
    exact List.pairwise_iff_getElem.1 hs i k (by omega) hk (by omega)
theorem row_at {k : Nat} {z : NodV} (h : zs[k]? = some z) : ((zs.flatMap NodV.cells).drop (k * 6)).take 6 = z.cells := by
  induction zs generalizing k with
  | nil => simp at h
  | cons p r ih =>
    cases k with
    | zero =>
      rw [List.getElem?_cons_zero] at h
      cases h
      rfl
    | succ k =>
      rw [List.getElem?_cons_succ] at h
      have := ih h
      rw [show (k + 1) * 6 = k * 6 + 6 by omega]
      exact this
theorem asc_len : ∀ (l : List NodeD) (lo hi : Int), In.asc l → (∀ n ∈ l, lo < n.id ∧ n.id ≤ hi) → lo ≤ hi → (l.length : Int) ≤ hi - lo
  | [], lo, hi, _, _, h => by simp; omega
  | y :: r, lo, hi, hs, hb, _ => by
    obtain ⟨h1, h2⟩ := List.pairwise_cons.1 hs
    have hy := hb y (.head _)
    have := asc_len r y.id hi h2 (fun n hn => ⟨h1 n hn, (hb n (.tail _ hn)).2⟩) (by omega)
    rw [List.length_cons]
    omega
theorem nodes_most (I : In.Inv N t) : t.nodes.length ≤ N := by
  have := asc_len t.nodes 0 t.last I.asc (fun n hn => by have := I.pos n hn; omega) (by have := I.last; omega)
  have := I.last
  omega
theorem names_most (I : In.Inv N t) {n : NodeD} (hn : n ∈ t.nodes) : n.names.length ≤ N := by
  have h1 := In.le_sum (f := fun n => n.names.length) hn
  have h2 := I.tot
  unfold In.tot at h2
  exact Nat.le_trans h1 h2
/-- It answers these files, in a slice of its own. -/
def SomeFiles (xs : List FileD) (w : World) (e : Ending) (w' : World) : Prop := ∃ s, e = .returned (slV s xs.length) ∧ FileOK s xs ∧ St w [] w' (fileL s xs)
end
section
variable {N : Nat} {x : FsX} {β : Int → Nat × Nat} {d : FsD} {w : World}
set_option maxHeartbeats 16000000 in
set_option maxRecDepth 100000 in
theorem fFiles_any {w0 : World} (h : FsAt N x β d w0) (hup : In.Up d.t) (hN : N ≤ 1000000) : Calls Tryz.prog 20 #[.pointer (some ⟨x.f, 0, none⟩)] w0 (SomeFiles (Fs.files d) w0) := by
  have hM := h.at_.ro
  unfold fsL at hM
  simp only [List.map_cons, unflag] at hM
  have HF := Lib.hid h
  have HFL := Lib.hid (Fs.files_len h.inv hup)
  have HUP := Lib.hid hup
  have HI := Lib.hid h.inv.tbl
  clear h hup
  generalize List.map unflag (tblL x.g x.mb β d.t) = E0 at *
  go_enter Tryz.func20, Tryz.ntmps20
  (repeat (first | ((with_reducible show wpSeq _ _ _ _ _ _ _); first | ((with_reducible refine wpSeq_nil ?_); refine hKr.out _ _ ?_; clear hKr Kr) | (((refine St.copy (v := ?_) (by first | exact .inl rfl | exact .inr rfl) rfl rfl ?_ ?_; rotate_left; (focus ((try simp only [Act.eval, getD_lit, List.getD_cons_zero, List.getD_cons_succ]); with_reducible rfl)))); (try simp only [Act.put, List.setIfInBounds_toArray, List.set_cons_zero, List.set_cons_succ]))) | (first | (refine wp_seq_shut (fun K hK => ?_)) | (refine wp_text hM (fun Kr hKr => ?_); simp only [inText]) | ((refine hK.out _ _ ?_); clear hK K))))
  (refine St.call3 rfl rfl (by kernel_rfl) (fun R hR => ?_); simp only [List.map_toArray, List.map_cons, List.map_nil, Act.eval, getD_lit, List.getD_cons_zero, List.getD_cons_succ])
  refine (fgiven_any (HF.out.below hM.to_below)).mono ?_
  rintro e w' ⟨rfl, rfl⟩; refine hR.out _ _ ?_; clear hR R; (try simp only [Act.put, List.setIfInBounds_toArray, List.set_cons_zero, List.set_cons_succ])
  (repeat (first | ((with_reducible show wpSeq _ _ _ _ _ _ _); first | ((with_reducible refine wpSeq_nil ?_); refine hKr.out _ _ ?_; clear hKr Kr) | (((refine St.pure (v := ?_) rfl rfl rfl (fun w => ?_) ?_; rotate_left; (focus (go_simp; all_goals with_reducible rfl)))); (try simp only [Act.put, List.setIfInBounds_toArray, List.set_cons_zero, List.set_cons_succ]))) | (first | (refine wp_seq_shut (fun K hK => ?_)) | (refine wp_text hM (fun Kr hKr => ?_); simp only [inText]) | refine wp_skip ?_ | (refine wp_cond_false rfl ?_) | ((refine hK.out _ _ ?_); clear hK K))))
  refine St.makeMap (kt := 3) rfl hM rfl rfl (fun w => ?_) ?_
  · go_simp
    simp [Instr.makeMap, newObj, Sem.run]
  clear hM; intro w b hM
  (try simp only [Act.put, List.setIfInBounds_toArray, List.set_cons_zero, List.set_cons_succ])
  (repeat (first | ((with_reducible show wpSeq _ _ _ _ _ _ _); first | ((with_reducible refine wpSeq_nil ?_); refine hKr.out _ _ ?_; clear hKr Kr) | ((first | (refine St.copy (v := ?_) (by exact .inl rfl) rfl rfl ?_ ?_; rotate_left; (focus ((try simp only [Act.eval, getD_lit, List.getD_cons_zero, List.getD_cons_succ]); with_reducible rfl))) | (refine St.pure (v := ?_) rfl rfl rfl (fun w => ?_) ?_; rotate_left; (focus (go_simp; all_goals with_reducible rfl))) | refine St.load rfl hM rfl rfl rfl rfl (by repeat constructor) (by rfl) (by kernel_rfl) ?_ | ((((refine St.store rfl hM rfl rfl rfl rfl rfl (by repeat constructor) (Nat.le_of_ble_eq_true rfl) (by kernel_rfl) rfl ?_ ?_); (focus ((intro h; cases h; done))); clear hM; intro w hM)); (try simp only [Res.put, Res.known, Act.eval, Value.cells, getD_lit, List.getD_cons_zero, List.getD_cons_succ, List.toList_toArray, List.set_cons_zero, List.set_cons_succ, over, Nat.reduceAdd] at hM))); (try simp only [Act.put, List.setIfInBounds_toArray, List.set_cons_zero, List.set_cons_succ])) | (((refine St.alloc (ty := 119) (z := .map none) rfl hM rfl rfl (by kernel_rfl) ?_); clear hM; intro w bk hM); (try simp only [Res.put, Res.known, Act.eval, Value.cells, getD_lit, List.getD_cons_zero, List.getD_cons_succ, List.toList_toArray, List.set_cons_zero, List.set_cons_succ, over, Nat.reduceAdd] at hM); (try simp only [Act.put, List.setIfInBounds_toArray, List.set_cons_zero, List.set_cons_succ]))) | (first | (refine wp_seq_shut (fun K hK => ?_)) | (refine wp_text hM (fun Kr hKr => ?_); simp only [inText]) | ((refine hK.out _ _ ?_); clear hK K))))
  (refine St.call3 rfl rfl (by kernel_rfl) (fun R hR => ?_); simp only [List.map_toArray, List.map_cons, List.map_nil, Act.eval, getD_lit, List.getD_cons_zero, List.getD_cons_succ])
  refine (Nodes9_any (HF.out.below hM.to_below).tbl (by have := HI.out.q0; omega) (fun n hn => fits_of (by have := HI.out.pos n hn; omega) (by have := HI.out.pos n hn; have := HI.out.last; omega)) (Nat.le_trans (nodes_most HI.out) hN) (fun n hn => Nat.le_trans (names_most HI.out hn) hN) (fun n hn => HI.out.sorted n hn)).mono ?_
  rintro e w' ⟨s0, zs, rfl, hz, hs0, hks, hN2⟩
  have HZ := Lib.hid hz
  have HKS := Lib.hid hks
  replace hM := hM.madeM hN2 (fun y hy => (List.mem_append.1 hy).elim (slL_flag _ _ _ _ y) (ents_flag zs y))
  refine hR.out _ _ ?_; clear hR R hN2
  obtain ⟨va, vc, hsv, hsa⟩ := slV_open hs0
  rw [hsv]
  have HS0 := Lib.hid hs0
  have hzl : zs.length ≤ 1000000 := by
    have h1 := nodes_most HI.out
    rw [← hz, List.length_map] at h1
    omega
  clear hz hks hs0 hsv
  replace hM := hM.perm (L' := slL s0 (zs.flatMap NodV.cells) 124 6 ++ ((bk, true, .cells [.map (some b)] 119) :: (b, true, mapR Tryz.prog 3 []) :: (zs.flatMap NodV.ents ++ ((x.f, false, .cells [.pointer (some ⟨x.g, 0, none⟩), .map (some x.hb)] 44) :: (x.hb, false, mapR Tryz.prog 3 (handL d.h)) :: E0)))) (perm_by (by intro _ x; simp only [List.append_eq, List.count_append, List.count_cons, List.count_nil, List.cons_append, List.nil_append]; omega))
  generalize (x.f, false, Res.cells [Value.pointer (some ⟨x.g, 0, none⟩), .map (some x.hb)] 44) :: (x.hb, false, mapR Tryz.prog 3 (handL d.h)) :: E0 = E1 at *
  generalize bk = t3b at *
  (try simp only [Act.put, List.setIfInBounds_toArray, List.set_cons_zero, List.set_cons_succ])
  (repeat (first | ((with_reducible show wpSeq _ _ _ _ _ _ _); first | ((with_reducible refine wpSeq_nil ?_); refine hKr.out _ _ ?_; clear hKr Kr) | ((first | (refine St.copy (v := ?_) (by exact .inl rfl) rfl rfl ?_ ?_; rotate_left; (focus ((try simp only [Act.eval, getD_lit, List.getD_cons_zero, List.getD_cons_succ]); with_reducible rfl))) | (refine St.pure (v := ?_) rfl rfl rfl (fun w => ?_) ?_; rotate_left; (focus (go_simp; all_goals with_reducible rfl)))); (try simp only [Act.put, List.setIfInBounds_toArray, List.set_cons_zero, List.set_cons_succ]))) | (first | refine wp_block ?_ | ((refine hK.out _ _ ?_); clear hK K))))
  go_loopw [18] (fun i wr => ∃ k : Nat, k ≤ zs.length ∧ i = .int .i64 k ∧ St w0 [] wr (slL s0 (zs.flatMap NodV.cells) 124 6 ++ ((t3b, true, .cells [.map (some b)] 119) :: (b, true, mapR Tryz.prog 3 (nodM (zs.take k))) :: (zs.flatMap NodV.ents ++ E1)))) (fun i _ => zs.length - (intOf i).toNat)
  case atStart => exact ⟨0, by omega, rfl, by rw [List.take_zero]; exact hM⟩
  case round =>
    clear hM
    obtain ⟨k, hk, rfl, hM⟩ := hrel
    by_cases hlt : k < zs.length
    · obtain ⟨z, hzk⟩ := get_at hlt
      cases s0 with
      | none => exact absurd HS0.out.2 (by omega)
      | some gc =>
      obtain ⟨g0, cap0⟩ := gc
      obtain ⟨rfl, rfl⟩ := hsa g0 cap0 rfl
      have hzm := List.mem_of_getElem? hzk
      have hrow := row_at hzk
      have hput := put_nod HI.out HZ.out hzk
      have hfv : Fits z.1.id := by
        have := HI.out.pos _ (zs_mem HZ.out hzm)
        have := HI.out.last
        exact fits_of (by omega) (by omega)
      obtain ⟨ca, cc, hcv, -⟩ := slV_open (HKS.out z hzm)
      have hcells : z.cells = [.int .i64 z.1.id, .bool z.1.dir, .int .i64 z.1.links, .int .i64 z.1.holds, .string z.1.data, .slice ca z.1.names.length cc] := by
        unfold NodV.cells
        rw [hcv]
      rw [hcells] at hrow hput
      have hlen : k * 6 + 6 ≤ (zs.flatMap NodV.cells).length := by
        have := HS0.out.1
        omega
      have k1 : (k : Int) < (zs.length : Int) := by omega
      have hml : (nodM (zs.take k)).length < maxLen := by
        unfold nodM
        rw [List.length_map, List.length_take, maxLen_val]
        omega
      clear hzk hzm hcv hlt hcells
      simp only [slL, List.cons_append, List.nil_append] at hM
      (repeat (first | ((with_reducible show wpSeq _ _ _ _ _ _ _); first | ((with_reducible refine wpSeq_nil ?_); refine hKr.out _ _ ?_; clear hKr Kr) | (((refine St.pure (v := ?_) rfl rfl rfl (fun w => ?_) ?_; rotate_left; (focus (go_simp; all_goals with_reducible rfl)))); (try simp only [Act.put, List.setIfInBounds_toArray, List.set_cons_zero, List.set_cons_succ]))) | (first | (refine wp_seq_shut (fun K hK => ?_)) | (refine wp_text hM (fun Kr hKr => ?_); simp only [inText]) | refine wp_block ?_ | refine wp_skip ?_ | (refine wp_cond_true rfl ?_) | ((refine hK.out _ _ ?_); clear hK K))))
      refine St.loadRow rfl hM rfl rfl rfl rfl (by repeat constructor) (by exact hlen) (by kernel_rfl) ?_
      simp only [Res.known]
      rw [hrow]
      (try simp only [Act.put, List.setIfInBounds_toArray, List.set_cons_zero, List.set_cons_succ])
      (repeat (first | ((with_reducible show wpSeq _ _ _ _ _ _ _); first | ((with_reducible refine wpSeq_nil ?_); refine hKr.out _ _ ?_; clear hKr Kr) | ((first | (refine St.pure (v := ?_) rfl rfl rfl (fun w => ?_) ?_; rotate_left; (focus (go_simp; all_goals with_reducible rfl))) | refine St.load rfl hM rfl rfl rfl rfl (by repeat constructor) (by rfl) (by kernel_rfl) ?_ | ((refine St.loadRow rfl hM rfl rfl rfl rfl (by repeat constructor) (Nat.le_of_ble_eq_true rfl) (by kernel_rfl) ?_); (try simp only [Res.known, List.drop_succ_cons, List.drop_zero, List.take_succ_cons, List.take_zero])) | ((((refine St.storeRow rfl hM rfl rfl rfl rfl rfl (by repeat constructor) (Nat.le_of_ble_eq_true rfl) (Nat.le_of_ble_eq_true rfl) (by kernel_rfl) rfl ?_ ?_); (focus ((intro h; cases h; done))); clear hM; intro w hM)); (try simp only [Res.put, Res.known, Act.eval, Value.cells, getD_lit, List.getD_cons_zero, List.getD_cons_succ, List.toList_toArray, List.set_cons_zero, List.set_cons_succ, over, Nat.reduceAdd] at hM))); (try simp only [Act.put, List.setIfInBounds_toArray, List.set_cons_zero, List.set_cons_succ])) | (((refine St.alloc (ty := 124) (z := .agg #[.int .i64 0, .bool false, .int .i64 0, .int .i64 0, .string ⟨#[]⟩, .slice none 0 0]) rfl hM rfl rfl (by kernel_rfl) ?_); clear hM; intro w bk hM); (try simp only [Res.put, Res.known, Act.eval, Value.cells, getD_lit, List.getD_cons_zero, List.getD_cons_succ, List.toList_toArray, List.set_cons_zero, List.set_cons_succ, over, Nat.reduceAdd] at hM); (try simp only [Act.put, List.setIfInBounds_toArray, List.set_cons_zero, List.set_cons_succ]))) | (first | (refine wp_text hM (fun Kr hKr => ?_); simp only [inText]) | ((refine hK.out _ _ ?_); clear hK K))))
      refine St.mapUpdate (kl := .int .i64 z.1.id) (key := .int .i64 z.1.id) (val := .agg #[.int .i64 z.1.id, .bool z.1.dir, .int .i64 z.1.links, .int .i64 z.1.holds, .string z.1.data, .slice ca z.1.names.length cc]) (m' := nodM (zs.take (k + 1))) rfl hM rfl rfl rfl rfl rfl (by repeat constructor) hput key_int Tryz.underlying119 hml (keyOf_int_mk Tryz.underlying3 hfv) (fun h => by cases h) ?_
      clear hM; intro w hM
      (try simp only [Act.put, List.setIfInBounds_toArray, List.set_cons_zero, List.set_cons_succ])
      (repeat (first | ((with_reducible show wpSeq _ _ _ _ _ _ _); first | ((with_reducible refine wpSeq_nil ?_); refine hKr.out _ _ ?_; clear hKr Kr) | ((first | (refine St.copy (v := ?_) (by exact .inl rfl) rfl rfl ?_ ?_; rotate_left; (focus ((try simp only [Act.eval, getD_lit, List.getD_cons_zero, List.getD_cons_succ]); with_reducible rfl))) | refine St.inc rfl rfl rfl rfl rfl (by omega) ?_); (try simp only [Act.put, List.setIfInBounds_toArray, List.set_cons_zero, List.set_cons_succ]))) | (first | (refine wp_text hM (fun Kr hKr => ?_); simp only [inText]) | ((refine hK.out _ _ ?_); clear hK K))))
      replace hM := hM.forget
      (refine ⟨?_, ?_⟩; (focus (repeat (first | exact ⟨⟨k + 1, by omega, rfl, hM⟩, rfl⟩ | apply Exists.intro))); (simp only [getD_lit, List.getD_cons_zero, List.getD_cons_succ, intOf]; omega))
    · have k0 : ¬ ((k : Int) < (zs.length : Int)) := by omega
      obtain rfl : k = zs.length := by omega
      rw [List.take_length] at hM
      clear hlt hk
      (repeat (first | ((with_reducible show wpSeq _ _ _ _ _ _ _); first | ((with_reducible refine wpSeq_nil ?_); refine hKr.out _ _ ?_; clear hKr Kr) | ((first | (refine St.pure (v := ?_) rfl rfl rfl (fun w => ?_) ?_; rotate_left; (focus (go_simp; all_goals with_reducible rfl))) | refine St.load rfl hM rfl rfl rfl rfl (by repeat constructor) (by rfl) (by kernel_rfl) ?_ | ((((refine St.store rfl hM rfl rfl rfl rfl rfl (by repeat constructor) (Nat.le_of_ble_eq_true rfl) (by kernel_rfl) rfl ?_ ?_); (focus ((intro h; cases h; done))); clear hM; intro w hM)); (try simp only [Res.put, Res.known, Act.eval, Value.cells, getD_lit, List.getD_cons_zero, List.getD_cons_succ, List.toList_toArray, List.set_cons_zero, List.set_cons_succ, over, Nat.reduceAdd] at hM))); (try simp only [Act.put, List.setIfInBounds_toArray, List.set_cons_zero, List.set_cons_succ])) | (((first | refine St.alloc (ty := 47) (z := .slice none 0 0) rfl hM rfl rfl (by kernel_rfl) ?_ | refine St.alloc (ty := 125) (z := .nilFunc) rfl hM rfl rfl (by kernel_rfl) ?_); clear hM; intro w bk hM); (try simp only [Res.put, Res.known, Act.eval, Value.cells, getD_lit, List.getD_cons_zero, List.getD_cons_succ, List.toList_toArray, List.set_cons_zero, List.set_cons_succ, over, Nat.reduceAdd] at hM); (try simp only [Act.put, List.setIfInBounds_toArray, List.set_cons_zero, List.set_cons_succ]))) | (first | (refine wp_seq_shut (fun K hK => ?_)) | (refine wp_text hM (fun Kr hKr => ?_); simp only [inText]) | (refine wp_cond_false rfl ?_) | (refine wp_exit ?_; simp only [Exit.then, Exit.inBlock, if_true, if_false, reduceCtorEq, Nat.reduceEqDiff, Nat.succ_ne_zero]) | ((first | refine hK.out _ _ ?_ | (clear hK K; refine hK.out _ _ ?_)); clear hK K))))
      rename_i t6b wx
      generalize bk = t7b at *
      (refine St.callv rfl rfl rfl rfl (by kernel_rfl) (fun R hR => ?_); simp only [List.map_toArray, List.map_cons, List.map_nil, Act.eval, getD_lit, List.getD_cons_zero, List.getD_cons_succ, Array.append_empty, Array.empty_append])
      replace hM := hM.perm (L' := ((t7b, true, .cells [.func (.func 70) #[] #[.pointer (some ⟨t3b, 0, none⟩), .pointer (some ⟨t6b, 0, none⟩), .pointer (some ⟨t7b, 0, none⟩)]] 125) :: (t6b, true, .cells [.slice none 0 0] 47) :: (t3b, true, .cells [.map (some b)] 119) :: (b, true, mapR Tryz.prog 3 (nodM zs)) :: zs.flatMap NodV.ents) ++ (slL s0 (zs.flatMap NodV.cells) 124 6 ++ E1)) (perm_by (by intro _ x; simp only [List.append_eq, List.count_append, List.count_cons, List.count_nil, List.cons_append, List.nil_append]; omega))
      obtain ⟨r, hr, hrd⟩ := HI.out.root
      obtain ⟨hrm, hri⟩ := In.find_some hr
      obtain ⟨z, hzm, hze⟩ : ∃ z ∈ zs, z.1 = r := by
        rw [← HZ.out] at hrm
        obtain ⟨z, h1, h2⟩ := List.mem_map.1 hrm
        exact ⟨z, h1, h2⟩
      have hz1 : z.1.id = 1 := by rw [hze]; exact hri
      have CU := Lib.hid (under_any (u := ⟨t3b, t6b, t7b, b⟩) HZ.out HI.out HUP.out (Nat.le_trans hN (by decide)) HKS.out d.t.last.toNat z hzm (.inr (by have := HI.out.last; omega)) ⟨#[]⟩ (by
        have := HI.out.last
        have e : (⟨#[]⟩ : ByteArray).size = 0 := rfl
        omega) [] none w (by
        rw [hz1]
        have := HFL.out
        unfold Fs.files at this
        rw [List.length_nil]
        omega) ⟨rfl, rfl⟩ (hM.part Part.here))
      have e1 : Fs.under d.t d.t.last.toNat z.1.id ⟨#[]⟩ = Fs.files d := by rw [hz1]; rfl
      rw [hz1] at CU
      refine CU.out.mono ?_
      rintro e w' ⟨rfl, s3, hk3, hN3⟩
      rw [← hz1, e1, List.nil_append] at hk3 hN3
      have hM := hM.backM Swap.here (undL_flag ⟨t3b, t6b, t7b, b⟩ zs none []) hN3 (undL_flag _ _ _ _)
      refine hR.out _ _ (fun _ => ⟨hM.only, nofun⟩) ?_
      clear hR R hN3 CU
      obtain ⟨a3, c3, hv3, -⟩ := slV_open hk3
      have HK3 := Lib.hid hk3
      clear hk3
      unfold undL undH at hM
      rw [hv3] at hM
      simp only [List.cons_append, List.nil_append] at hM
      (try simp only [Act.put, List.setIfInBounds_toArray, List.set_cons_zero, List.set_cons_succ])
      (repeat (first | ((with_reducible show wpSeq _ _ _ _ _ _ _); first | ((with_reducible refine wpSeq_nil ?_); refine hKr.out _ _ ?_; clear hKr Kr) | ((first | (refine St.copy (v := ?_) (by exact .inr rfl) rfl rfl ?_ ?_; rotate_left; (focus ((try simp only [Act.eval, getD_lit, List.getD_cons_zero, List.getD_cons_succ]); with_reducible rfl))) | refine St.load rfl hM rfl rfl rfl rfl (by repeat constructor) (by rfl) (by kernel_rfl) ?_); (try simp only [Act.put, List.setIfInBounds_toArray, List.set_cons_zero, List.set_cons_succ]))) | (first | (refine wp_seq_shut (fun K hK => ?_)) | (refine wp_text hM (fun Kr hKr => ?_); simp only [inText]) | ((refine hK.out _ _ ?_); clear hK K))))
      rw [← hv3] at hM
      ((refine wp_ret ?_; (try simp only [Exit.then, Exit.inBlock]); refine St.ret hM rfl (by repeat (first | exact Outs.nil | apply Outs.tmp rfl)) rfl ?_))
      refine ⟨s3, by rw [← hv3]; rfl, HK3.out, St.front (M := fileL s3 (Fs.files d)) (R := (t7b, true, .cells [.func (.func 70) #[] #[.pointer (some ⟨t3b, 0, none⟩), .pointer (some ⟨t6b, 0, none⟩), .pointer (some ⟨t7b, 0, none⟩)]] 125) :: (t6b, true, .cells [slV s3 (Fs.files d).length] 47) :: (t3b, true, .cells [.map (some b)] 119) :: (b, true, mapR Tryz.prog 3 (nodM zs)) :: (zs.flatMap NodV.ents ++ (slL s0 (zs.flatMap NodV.cells) 124 6 ++ E1))) (hM.perm (perm_by (by intro _ x; simp only [List.append_eq, List.count_append, List.count_cons, List.count_nil, List.cons_append, List.nil_append]; omega)))⟩
end
end Go.Proofs.YtcicjklhbnipcaaGreatDoor
