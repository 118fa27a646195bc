/-
  Layer 8: Link, Unlink, Remove, walked.
-/
import Derived.Test.YtcicjklhbnipcaaGreatDoorInoD
namespace Go.Proofs.YtcicjklhbnipcaaGreatDoor
set_option linter.unusedVariables false
set_option linter.unusedSimpArgs false
open Go.RowKit Go.Maps

section
variable {w : World} {g mb : Nat} {β : Int → Nat × Nat} {t : TabD}
theorem Step.refl (h : TblAt w g mb β t) : Step w w g mb β t t := ⟨h, Only.refl _ _, fun _ h => h⟩
theorem Step.below {w' : World} (h : TblAt w g mb β t) (hb : Below w.heap.size w w') : Step w w' g mb β t t := ⟨h.below hb, Only.of_below hb, fun _ h => h⟩
theorem ret_int {a b : Int} (h : a = b) : Ending.returned (.int .i64 a) = .returned (.int .i64 b) := by rw [h]
theorem fst_mk {α β : Type} {p : α × β} {a : α} {b : β} (h : p = (a, b)) : p.1 = a := by rw [h]
/-- An answer that is an error's number, and the table behind. -/
def RStep (w : World) (g mb : Nat) (β : Int → Nat × Nat) (t : TabD) (r : Int × TabD) (e : Ending) (w' : World) : Prop := e = .returned (.int .i64 r.1) ∧ Step w w' g mb β t r.2
theorem names_len {d : NodeD} : (namesL d.names).length = d.names.length := by simp [namesL]
set_option maxHeartbeats 1000000 in
set_option maxRecDepth 100000 in
theorem Link_any (h : TblAt w g mb β t) (hq : 0 < t.quota) {id dir : Int} (hid : Fits id) (hdir : Fits dir) {s : ByteArray} (hs : s.size ≤ maxLen)
    (hlk : ∀ n ∈ t.nodes, 0 ≤ n.links ∧ n.links ≤ 4611686018427387904 ∧ n.names.length ≤ 4611686018427387904) :
    Calls Tryz.prog 116 #[.pointer (some ⟨g, 0, none⟩), .int .i64 id, .int .i64 dir, .string s] w (RStep w g mb β t (In.link t id dir s)) := by
  obtain ⟨E, hE⟩ : ∃ E, In.linkE t id dir s = E := ⟨_, rfl⟩
  have hR : In.link t id dir s = if E == 0 then (0, In.linkT t id dir s) else (E, t) := by unfold In.link; rw [hE]
  obtain ⟨R, hRR⟩ : ∃ R, In.link t id dir s = R := ⟨_, rfl⟩
  rw [hRR] at hR ⊢
  have HRR := Lib.hid hR
  clear hR hRR
  unfold In.linkE at hE
  have HT := Lib.hid h
  rcases getE_dec (t := t) (id := id) (dir := false) with ⟨h1, n, hn, hd⟩ | h1
  · have cg := get_yes h hq hid hn hd
    rw [h1] at hE
    have hE : In.emptyE t dir s = E := hE
    rcases emptyE_dec (t := t) (dir := dir) (s := s) with ⟨h2, d, hd2, hdd, hN, hl⟩ | h2
    · have ce := empty_yes h hq hdir hs hd2 hdd hN hl
      rw [h2] at hE
      subst hE
      obtain ⟨l0, l1, -⟩ := hlk n (find_mem hn).1
      obtain ⟨-, -, l2⟩ := hlk d (find_mem hd2).1
      have hne : id ≠ dir := fun e => by subst e; rw [hn] at hd2; cases hd2; rw [hd] at hdd; cases hdd
      obtain ⟨t1, ht1⟩ : ∃ t1, In.setN t { d with names := In.with_ d.names s id } = t1 := ⟨_, rfl⟩
      have hn1 : In.find t1.nodes id = some n := by rw [← ht1, find_upd (n := { d with names := In.with_ d.names s id }) hd2 (find_mem hd2).2, if_neg hne]; exact hn
      have T1 := Lib.hid (fun (W w1 : World) (T : TblAt W g mb β t) (h1 : NamesAt w1 (β dir).2 (In.with_ d.names s id)) (h2 : W.mapTurned w1 (β dir).2) => (ht1 ▸ T.set_names hd2 h1 h2 : TblAt w1 g mb β t1))
      have HF := Lib.hid (show foot g mb β t1.nodes = foot g mb β t.nodes by rw [← ht1]; exact foot_set _ _ _ _ _)
      have HR := Lib.hid (show R = (0, In.setN t1 { n with links := n.links + 1 }) by
        rw [HRR.out]
        show (0, In.linkT t id dir s) = _
        unfold In.linkT
        rw [nameIn_eq hd2, ht1, linksUp_eq hn1])
      have HN1 := Lib.hid hn1
      have HD := Lib.hid hd2
      have HMd : (β dir).2 ∈ foot g mb β t.nodes := mem_foot.2 (.inr (.inr ⟨d, (find_mem hd2).1, .inr (by rw [(find_mem hd2).2])⟩))
      have HMn : (β id).1 ∈ foot g mb β t.nodes := mem_foot.2 (.inr (.inr ⟨n, (find_mem hn).1, .inl (by rw [(find_mem hn).2])⟩))
      have hlen : (namesL d.names).length < maxLen := by rw [names_len, maxLen_val]; omega
      clear h hq h1 hn hd h2 hd2 hdd hN hl hlk ht1 hn1 hne
      go_enter Tryz.func116, Tryz.ntmps116
      go_wp2_with (first
        | (go_at_call 165; refine cg.mono ?_; rintro e w' ⟨rfl, rfl⟩)
        | (go_at_call 159; refine ce.mono ?_; rintro e w1 ⟨rfl, hb⟩; have TB := HT.out.below hb; have hA := TB.at HD.out; have d4 := (node_cells hA).2.2.2.2; have HNm := Lib.hid hA.names; have HTB := Lib.hid TB; have HB := Lib.hid hb; clear TB hA hb)
        | (at_mapUpdate; refine wpList_store_at _ rfl _ _ _ 164 rfl 9 3 key_str Tryz.underlying164 (β dir).2 _ rfl HNm.out hlen (.string s) (.int .i64 id) _ rfl rfl (WideMaps.keyOf_string_mk Tryz.underlying9 hs) ?_; intro w2 hm2 ht2; rw [put_names] at hm2; have T := T1.out _ w2 HTB.out hm2 ht2; have dl := (node_cells (T.at HN1.out)).2.1; have fl := free_row (T.at HN1.out).row 1; have HTT := Lib.hid T; have HW := Lib.hid ht2; clear hm2 ht2 T d4))
      go_ret
      rw [HR.out]
      refine ⟨rfl, ?_⟩
      refine ⟨HTT.out.set_links HN1.out _, ((Only.of_below HB.out).turned HW.out (.inl HMd)).setCell (.inl HMn) _, fun k hk => ?_⟩
      have hf2 : foot g mb β (In.setN t1 { n with links := n.links + 1 }).nodes = foot g mb β t.nodes := (foot_set _ _ _ _ _).trans HF.out
      rw [hf2] at hk
      exact hk
    · have ce := empty_no h hq hdir hs hE (hE ▸ h2)
      have e0 := beq0_false (hE ▸ h2 : E ≠ 0)
      have HR := Lib.hid (show R = (E, t) by rw [HRR.out, e0]; rfl)
      clear h hq h1 hn hd h2 hlk hE
      go_enter Tryz.func116, Tryz.ntmps116
      go_wp2_with (first
        | (go_at_call 165; refine cg.mono ?_; rintro e w' ⟨rfl, rfl⟩)
        | (go_at_call 159; refine ce.mono ?_; rintro e w1 ⟨rfl, hb⟩; have HB := Lib.hid hb; clear hb))
      go_ret
      rw [HR.out]
      exact ⟨rfl, Step.below HT.out HB.out⟩
  · rw [beq0_false h1] at hE
    have hE : In.getE t id false = E := hE
    have cg := get_no h hq hid hE (hE ▸ h1)
    have e1 := bne0_true (hE ▸ h1 : E ≠ 0)
    have e0 := beq0_false (hE ▸ h1 : E ≠ 0)
    have HR := Lib.hid (show R = (E, t) by rw [HRR.out, e0]; rfl)
    clear h hq h1 hlk hE
    go_enter Tryz.func116, Tryz.ntmps116
    go_wp2_with (go_at_call 165; refine cg.mono ?_; rintro e w' ⟨rfl, rfl⟩)
    go_ret
    rw [HR.out]
    exact ⟨rfl, Step.refl HT.out⟩
/-- What the walks ask of a table's numbers and names. -/
structure Fit (t : TabD) : Prop where
  q0 : 0 < t.quota
  q1 : t.quota ≤ 1099511627776
  u0 : 0 ≤ t.used
  u1 : t.used ≤ 1099511627776
  node : ∀ n ∈ t.nodes, 0 ≤ n.links ∧ n.links ≤ 4611686018427387904 ∧ n.names.length ≤ 4611686018427387904
  holds : ∀ n ∈ t.nodes, 0 ≤ n.holds ∧ n.holds ≤ 4611686018427387904
  data : ∀ n ∈ t.nodes, n.data.size ≤ 1048576
  ids : ∀ n ∈ t.nodes, Fits n.id
  leads : ∀ d ∈ t.nodes, ∀ p ∈ d.names, ∃ n, In.find t.nodes p.2 = some n
theorem leads_mem {d : List (ByteArray × Int)} {s : ByteArray} (h : In.leads d s ≠ 0) : ∃ p ∈ d, p.2 = In.leads d s := by
  unfold In.leads at h ⊢
  cases hf : d.find? fun p => In.same p.1 s with
  | none => rw [hf] at h; exact absurd rfl h
  | some p => exact ⟨p, List.mem_of_find?_eq_some hf, rfl⟩
theorem Fit.find {t : TabD} (F : Fit t) {dir : Int} {d : NodeD} (hd : In.find t.nodes dir = some d) {s : ByteArray} (h : In.leads d.names s ≠ 0) : ∃ n, In.find t.nodes (In.leads d.names s) = some n ∧ Fits (In.leads d.names s) := by
  obtain ⟨p, hp, e⟩ := leads_mem h
  obtain ⟨n, hn⟩ := F.leads d (find_mem hd).1 p hp
  rw [e] at hn
  exact ⟨n, hn, by have := F.ids n (find_mem hn).1; rw [(find_mem hn).2] at this; exact this⟩
theorem loses_fit (h : TblAt w g mb β t) (F : Fit t) {dir : Int} {s : ByteArray} (hs : s.size ≤ maxLen) {d : NodeD} (hd : In.find t.nodes dir = some d) (hl : In.leads d.names s ≠ 0) :
    Calls Tryz.prog 166 #[.pointer (some ⟨g, 0, none⟩), .pointer (some ⟨(β dir).1, 0, none⟩), .string s] w fun e w' => e = .returned (.tuple #[]) ∧ Step w w' g mb β t (In.loses t dir s) := by
  obtain ⟨n, hn, hid⟩ := F.find hd hl
  have key : ∃ n1, In.find (In.nameOut t dir s).nodes (In.leads d.names s) = some n1 ∧ n1.data.size ≤ 1048576 ∧ 0 ≤ n1.links ∧ n1.links ≤ 4611686018427387904 := by
    rw [nameOut_eq hd, find_upd (n := { d with names := In.without d.names s }) hd (find_mem hd).2]
    split
    · exact ⟨_, rfl, F.data d (find_mem hd).1, (F.node d (find_mem hd).1).1, (F.node d (find_mem hd).1).2.1⟩
    · exact ⟨n, hn, F.data n (find_mem hn).1, (F.node n (find_mem hn).1).1, (F.node n (find_mem hn).1).2.1⟩
  obtain ⟨n1, h1, h2, h3, h4⟩ := key
  have e : In.loses t dir s = In.gone (In.setN (In.nameOut t dir s) { n1 with links := n1.links - 1 }) (In.leads d.names s) := by
    unfold In.loses
    rw [at_find hd, linksDown_eq h1]
  rw [e]
  exact loses_any h hs hd hid rfl (t1 := In.nameOut t dir s) (nameOut_eq hd s).symm h1 h2 F.u0 F.u1 h3 h4
set_option maxHeartbeats 1000000 in
set_option maxRecDepth 100000 in
theorem Unlink_any (h : TblAt w g mb β t) (F : Fit t) {dir : Int} (hdir : Fits dir) {s : ByteArray} (hs : s.size ≤ maxLen) :
    Calls Tryz.prog 115 #[.pointer (some ⟨g, 0, none⟩), .int .i64 dir, .string s] w (RStep w g mb β t (In.unlink t dir s)) := by
  have cf := Find_any h F.q0 hdir hs
  obtain ⟨E, hE⟩ : ∃ E, In.unlinkE t dir s = E := ⟨_, rfl⟩
  obtain ⟨R, hRR⟩ : ∃ R, In.unlink t dir s = R := ⟨_, rfl⟩
  have hR : R = if E == 0 then (0, In.loses t dir s) else (E, t) := by rw [← hRR, ← hE]; rfl
  rw [hRR]
  have HRR := Lib.hid hR
  clear hR hRR
  unfold In.unlinkE at hE
  have HT := Lib.hid h
  have HF := Lib.hid F
  rcases findE_dec (t := t) (dir := dir) (s := s) with ⟨h1, d, hd, hdd, hN, hl, hfN⟩ | ⟨h1, hz⟩
  · rw [h1] at hE
    have hE : In.getE t (In.findN t dir s) false = E := hE
    rw [h1] at cf
    rw [hfN] at hE cf
    obtain ⟨n, hn, hid⟩ := F.find hd hl
    generalize hidd : In.leads d.names s = id at hE cf hn hid hl
    rcases getE_dec (t := t) (id := id) (dir := false) with ⟨h2, n2, hn2, hnd⟩ | h2
    · rw [h2] at hE
      subst hE
      have HR := Lib.hid (show R = (0, In.loses t dir s) from HRR.out)
      have HN := Lib.hid hn2
      have HND := Lib.hid hnd
      have HD := Lib.hid hd
      have HL := Lib.hid (show In.leads d.names s ≠ 0 by rw [hidd]; exact hl)
      clear h F h1 h2 hn hn2 hnd hd hdd hN hfN hidd hl
      go_enter Tryz.func115, Tryz.ntmps115
      go_wp2_with (first
        | (go_at_call 107; refine cf.mono ?_; rintro e w1 ⟨rfl, hb⟩; have TB := HT.out.below hb; have HTB := Lib.hid TB; have HB := Lib.hid hb; have c3 := (tbl_cells TB).2.2.2; have hl1 := look_at TB hdir; rw [ptr_some HD.out] at hl1; clear TB hb)
        | (go_at_call 165; refine (get_yes HTB.out HF.out.q0 hid HN.out HND.out).mono ?_; rintro e w' ⟨rfl, rfl⟩)
        | (go_at_call 166; refine (loses_fit HTB.out HF.out hs HD.out HL.out).mono ?_; rintro e w3 ⟨rfl, hs3⟩; have HS3 := Lib.hid hs3; clear hs3 hl1 c3))
      go_ret
      rw [HR.out]
      exact ⟨rfl, (Step.below HT.out HB.out).trans HS3.out⟩
    · have e0 := beq0_false (hE ▸ h2 : E ≠ 0)
      have HE := Lib.hid hE
      have HNE := Lib.hid (hE ▸ h2 : E ≠ 0)
      have HR := Lib.hid (show R = (E, t) by rw [HRR.out, e0]; rfl)
      clear h F h1 h2 hn hd hdd hN hfN hidd hl hE
      go_enter Tryz.func115, Tryz.ntmps115
      go_wp2_with (first
        | (go_at_call 107; refine cf.mono ?_; rintro e w1 ⟨rfl, hb⟩; have TB := HT.out.below hb; have HTB := Lib.hid TB; have HB := Lib.hid hb; clear TB hb)
        | (go_at_call 165; refine (get_no HTB.out HF.out.q0 hid HE.out HNE.out).mono ?_; rintro e w' ⟨rfl, rfl⟩))
      go_ret
      rw [HR.out]
      exact ⟨rfl, Step.below HT.out HB.out⟩
  · rw [beq0_false h1] at hE
    have hE : In.findE t dir s = E := hE
    rw [hE] at cf h1
    have e0 := beq0_false h1
    have HR := Lib.hid (show R = (E, t) by rw [HRR.out, e0]; rfl)
    clear h F h1 hE hz
    go_enter Tryz.func115, Tryz.ntmps115
    go_wp2_with (go_at_call 107; refine cf.mono ?_; rintro e w1 ⟨rfl, hb⟩; have HB := Lib.hid hb; clear hb)
    go_ret
    rw [HR.out]
    exact ⟨rfl, Step.below HT.out HB.out⟩
end
end Go.Proofs.YtcicjklhbnipcaaGreatDoor
