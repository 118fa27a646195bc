/-
  Layer 8: Remove, Hold, Drop, Used, walked.
-/
import Derived.Test.YtcicjklhbnipcaaGreatDoorInoE
namespace Go.Proofs.YtcicjklhbnipcaaGreatDoor
set_option linter.unusedVariables false
set_option linter.unusedSimpArgs false
open Go.RowKit Go.Maps

theorem wpList_len_at {P : Program} (w : World) {ops : Array Oper} {rest : List Oper} {o : Oper} {a : Act} {Q : Exit → Act → World → Prop} (hg : o.guard = none) (m : Operand) (t : TypeId) (hop : o.op = Op.call { callee := Callee.builtin Builtin.len, args := #[m], argTypes := #[t] })
    (k e : TypeId) (ht : P.underlying t = some (.map k e)) (b : Nat) (l : List (Lit × Value)) (n : Nat) (hn : l.length = n) (hm : a.eval m = .map (some b)) (h : MapAt P k w b l) (hK : wpList P ops Q rest (a.put o.dst (.int .i64 n)) w) : wpList P ops Q (o :: rest) a w := by
  refine wpList_len_own w hg m t hop k e ht anyElem b l.length (heldD l) hm h ?_
  rw [size_held, hn]
  exact hK
section
variable {w : World} {g mb : Nat} {β : Int → Nat × Nat} {t : TabD}
set_option maxHeartbeats 2000000 in
set_option maxRecDepth 100000 in
theorem Remove_any (h : TblAt w g mb β t) (F : Fit t) {dir : Int} (hdir : Fits dir) {s : ByteArray} (hs : s.size ≤ maxLen) :
    Calls Tryz.prog 114 #[.pointer (some ⟨g, 0, none⟩), .int .i64 dir, .string s] w (RStep w g mb β t (In.remove t dir s)) := by
  have cf := Find_any h F.q0 hdir hs
  obtain ⟨E, hE⟩ : ∃ E, In.removeE t dir s = E := ⟨_, rfl⟩
  obtain ⟨R, hRR⟩ : ∃ R, In.remove t dir s = R := ⟨_, rfl⟩
  have hR : R = if E == 0 then (0, In.loses t dir s) else (E, t) := by rw [← hRR, ← hE]; rfl
  rw [hRR]
  have HRR := Lib.hid hR
  clear hR hRR
  unfold In.removeE at hE
  have HT := Lib.hid h
  have HF := Lib.hid F
  rcases findE_dec (t := t) (dir := dir) (s := s) with ⟨h1, d, hd, hdd, hN, hl, hfN⟩ | ⟨h1, hz⟩
  · rw [h1] at hE cf
    rw [hfN] at hE cf
    obtain ⟨n, hn, hid⟩ := F.find hd hl
    generalize hidd : In.leads d.names s = id at hE cf hn hid hl
    rcases getE_dec (t := t) (id := id) (dir := true) with ⟨h2, n2, hn2, hnd⟩ | h2
    · rw [h2, at_find hn2] at hE
      have HN := Lib.hid hn2
      have HND := Lib.hid hnd
      have HD := Lib.hid hd
      have HL := Lib.hid (show In.leads d.names s ≠ 0 by rw [hidd]; exact hl)
      have hcap := (F.node n2 (find_mem hn2).1).2.2
      cases hk : decide (0 < n2.names.length) with
      | true =>
        rw [hk] at hE
        have hE : 7 = E := hE
        subst hE
        have HR := Lib.hid (show R = (7, t) from HRR.out)
        clear h F h1 h2 hn hn2 hnd hd hdd hN hfN hidd hl
        go_enter Tryz.func114, Tryz.ntmps114
        go_wp2_with (first
          | (go_at_call 107; refine cf.mono ?_; rintro e w1 ⟨rfl, hb⟩; have TB := HT.out.below hb; have HTB := Lib.hid TB; have HB := Lib.hid hb; have hA := TB.at HN.out; have d4 := (node_cells hA).2.2.2.2; have HNm := Lib.hid hA.names; clear TB hA hb)
          | (go_at_call 165; refine (get_yes HTB.out HF.out.q0 hid HN.out HND.out).mono ?_; rintro e w' ⟨rfl, rfl⟩)
          | (at_len; refine wpList_len_at _ rfl _ 164 rfl 9 3 Tryz.underlying164 (β id).2 _ _ names_len rfl HNm.out ?_))
        go_ret
        rw [HR.out]
        exact ⟨rfl, Step.below HT.out HB.out⟩
      | false =>
        rw [hk] at hE
        have hE : 0 = E := hE
        subst hE
        have HR := Lib.hid (show R = (0, In.loses t dir s) from HRR.out)
        clear h F h1 h2 hn hn2 hnd hd hdd hN hfN hidd hl
        go_enter Tryz.func114, Tryz.ntmps114
        go_wp2_with (first
          | (go_at_call 107; refine cf.mono ?_; rintro e w1 ⟨rfl, hb⟩; have TB := HT.out.below hb; have HTB := Lib.hid TB; have HB := Lib.hid hb; have hA := TB.at HN.out; have d4 := (node_cells hA).2.2.2.2; have HNm := Lib.hid hA.names; have c3 := (tbl_cells TB).2.2.2; have hl1 := look_at TB hdir; rw [ptr_some HD.out] at hl1; clear TB hA hb)
          | (go_at_call 165; refine (get_yes HTB.out HF.out.q0 hid HN.out HND.out).mono ?_; rintro e w' ⟨rfl, rfl⟩)
          | (at_len; refine wpList_len_at _ rfl _ 164 rfl 9 3 Tryz.underlying164 (β id).2 _ _ names_len rfl HNm.out ?_)
          | (go_at_call 166; refine (loses_fit HTB.out HF.out hs HD.out HL.out).mono ?_; rintro e w3 ⟨rfl, hs3⟩; have HS3 := Lib.hid hs3; clear hs3 hl1 c3 d4))
        go_ret
        rw [HR.out]
        exact ⟨rfl, (Step.below HT.out HB.out).trans HS3.out⟩
    · rw [beq0_false h2] at hE
      have hE : In.getE t id true = E := hE
      have e0 := beq0_false (hE ▸ h2 : E ≠ 0)
      have e1 := bne0_true (hE ▸ h2 : E ≠ 0)
      have HE := Lib.hid hE
      have HNE := Lib.hid (hE ▸ h2 : E ≠ 0)
      have HR := Lib.hid (show R = (E, t) by rw [HRR.out, e0]; rfl)
      clear h F h1 h2 hn hd hdd hN hfN hidd hl hE
      go_enter Tryz.func114, Tryz.ntmps114
      go_wp2_with (first
        | (go_at_call 107; refine cf.mono ?_; rintro e w1 ⟨rfl, hb⟩; have TB := HT.out.below hb; have HTB := Lib.hid TB; have HB := Lib.hid hb; clear TB hb)
        | (go_at_call 165; refine (get_no HTB.out HF.out.q0 hid HE.out HNE.out).mono ?_; rintro e w' ⟨rfl, rfl⟩))
      go_ret
      rw [HR.out]
      exact ⟨rfl, Step.below HT.out HB.out⟩
  · rw [beq0_false h1] at hE
    have hE : In.findE t dir s = E := hE
    rw [hE] at cf h1
    have e0 := bne0_true h1
    have HR := Lib.hid (show R = (E, t) by rw [HRR.out, beq0_false h1]; rfl)
    clear h F h1 hE hz
    go_enter Tryz.func114, Tryz.ntmps114
    go_wp2_with (go_at_call 107; refine cf.mono ?_; rintro e w1 ⟨rfl, hb⟩; have HB := Lib.hid hb; clear hb)
    go_ret
    rw [HR.out]
    exact ⟨rfl, Step.below HT.out HB.out⟩
theorem Used_any (h : TblAt w g mb β t) (hq : 0 < t.quota) : Calls Tryz.prog 68 #[.pointer (some ⟨g, 0, none⟩)] w fun e w' => e = .returned (.int .i64 t.used) ∧ w = w' := by
  have cg := given_yes h hq
  have c1 := (tbl_cells h).2.1
  clear h hq
  go_enter Tryz.func68, Tryz.ntmps68
  go_wp2_with (go_at_call 119; refine cg.mono ?_; rintro e w' ⟨rfl, rfl⟩)
  go_ret
  exact ⟨rfl, rfl⟩
set_option maxHeartbeats 1000000 in
theorem Hold_any (h : TblAt w g mb β t) (F : Fit t) {id : Int} (hid : Fits id) : Calls Tryz.prog 161 #[.pointer (some ⟨g, 0, none⟩), .int .i64 id] w (RStep w g mb β t (In.hold t id)) := by
  obtain ⟨E, hE⟩ : ∃ E, In.holdE t id = E := ⟨_, rfl⟩
  obtain ⟨R, hRR⟩ : ∃ R, In.hold t id = R := ⟨_, rfl⟩
  have hR : R = if E == 0 then (0, In.holdsUp t id) else (E, t) := by rw [← hRR, ← hE]; rfl
  rw [hRR]
  have HRR := Lib.hid hR
  clear hR hRR
  unfold In.holdE at hE
  have HT := Lib.hid h
  rcases getE_dec (t := t) (id := id) (dir := false) with ⟨h2, n, hn, hnd⟩ | h2
  · have cg := get_yes h F.q0 hid hn hnd
    rw [h2, at_find hn] at hE
    have hA := h.at hn
    have d2 := (node_cells hA).2.2.1
    have f2 := free_row hA.row 2
    obtain ⟨b0, b1⟩ := F.holds n (find_mem hn).1
    have HM : (β id).1 ∈ foot g mb β t.nodes := mem_foot.2 (.inr (.inr ⟨n, (find_mem hn).1, .inl (by rw [(find_mem hn).2])⟩))
    cases hk : decide (1048576 ≤ n.holds) with
    | true =>
      rw [hk] at hE
      have hE : 5 = E := hE
      subst hE
      have HR := Lib.hid (show R = (5, t) from HRR.out)
      clear h F h2 hn hnd hA
      go_enter Tryz.func161, Tryz.ntmps161
      go_wp2_with (go_at_call 165; refine cg.mono ?_; rintro e w' ⟨rfl, rfl⟩)
      go_ret
      rw [HR.out]
      exact ⟨rfl, Step.refl HT.out⟩
    | false =>
      rw [hk] at hE
      have hE : 0 = E := hE
      subst hE
      have HR := Lib.hid (show R = (0, In.setN t { n with holds := n.holds + 1 }) by rw [HRR.out, holdsUp_eq hn]; rfl)
      have HS := Lib.hid (h.set_holds hn (n.holds + 1))
      clear h F h2 hn hnd hA
      go_enter Tryz.func161, Tryz.ntmps161
      go_wp2_with (go_at_call 165; refine cg.mono ?_; rintro e w' ⟨rfl, rfl⟩)
      go_ret
      rw [HR.out]
      exact ⟨rfl, HS.out, (Only.refl _ _).setCell (.inl HM) _, fun k hk => by have e : foot g mb β (In.setN t { n with holds := n.holds + 1 }).nodes = foot g mb β t.nodes := foot_set _ _ _ _ _; rw [e] at hk; exact hk⟩
  · rw [beq0_false h2] at hE
    have hE : In.getE t id false = E := hE
    have cg := get_no h F.q0 hid hE (hE ▸ h2)
    have e0 := bne0_true (hE ▸ h2 : E ≠ 0)
    have HR := Lib.hid (show R = (E, t) by rw [HRR.out, beq0_false (hE ▸ h2 : E ≠ 0)]; rfl)
    clear h F h2 hE
    go_enter Tryz.func161, Tryz.ntmps161
    go_wp2_with (go_at_call 165; refine cg.mono ?_; rintro e w' ⟨rfl, rfl⟩)
    go_ret
    rw [HR.out]
    exact ⟨rfl, Step.refl HT.out⟩
set_option maxHeartbeats 1000000 in
theorem Drop_any (h : TblAt w g mb β t) (F : Fit t) {id : Int} (hid : Fits id) : Calls Tryz.prog 118 #[.pointer (some ⟨g, 0, none⟩), .int .i64 id] w (RStep w g mb β t (In.drop t id)) := by
  have cg := given_yes h F.q0
  have hl := look_at h hid
  have c3 := (tbl_cells h).2.2.2
  obtain ⟨R, hRR⟩ : ∃ R, In.drop t id = R := ⟨_, rfl⟩
  rw [hRR]
  unfold In.drop In.dropE at hRR
  have HT := Lib.hid h
  cases hn : In.find t.nodes id with
  | none =>
    rw [hn] at hRR
    have HR := Lib.hid (show R = (3, t) from hRR.symm)
    rw [ptr_none hn] at hl
    clear h F hRR hn
    go_enter Tryz.func118, Tryz.ntmps118
    go_wp2_with (go_at_call 119; refine cg.mono ?_; rintro e w' ⟨rfl, rfl⟩)
    go_ret
    rw [HR.out]
    exact ⟨rfl, Step.refl HT.out⟩
  | some n =>
    rw [hn] at hRR
    simp only at hRR
    rw [ptr_some hn] at hl
    have hA := h.at hn
    have d2 := (node_cells hA).2.2.1
    have f2 := free_row hA.row 2
    obtain ⟨b0, b1⟩ := F.holds n (find_mem hn).1
    cases hk : n.holds == 0 with
    | true =>
      rw [hk] at hRR
      have HR := Lib.hid (show R = (1, t) from hRR.symm)
      clear h F hRR hn hA
      go_enter Tryz.func118, Tryz.ntmps118
      go_wp2_with (go_at_call 119; refine cg.mono ?_; rintro e w' ⟨rfl, rfl⟩)
      go_ret
      rw [HR.out]
      exact ⟨rfl, Step.refl HT.out⟩
    | false =>
      rw [hk] at hRR
      have HR := Lib.hid (show R = (0, In.gone (In.setN t { n with holds := n.holds - 1 }) id) by rw [← hRR, holdsDown_eq hn]; rfl)
      have HM : (β id).1 ∈ foot g mb β t.nodes := mem_foot.2 (.inr (.inr ⟨n, (find_mem hn).1, .inl (by rw [(find_mem hn).2])⟩))
      have G := Lib.hid (gone_any (h.set_holds hn (n.holds - 1)) hid (n := { n with holds := n.holds - 1 }) (find_self (n := { n with holds := n.holds - 1 }) hn (find_mem hn).2) (F.data n (find_mem hn).1) (show 0 ≤ t.used from F.u0) (show t.used ≤ 1099511627776 from F.u1))
      clear h F hRR hn hA
      go_enter Tryz.func118, Tryz.ntmps118
      go_wp2_with (first
        | (go_at_call 119; refine cg.mono ?_; rintro e w' ⟨rfl, rfl⟩)
        | (go_at_call 167; refine G.out.mono ?_; rintro e w3 ⟨rfl, hs3⟩; have HS3 := Lib.hid hs3; clear hs3))
      go_ret
      rw [HR.out]
      have hf : foot g mb β (In.setN t { n with holds := n.holds - 1 }).nodes = foot g mb β t.nodes := foot_set _ _ _ _ _
      exact ⟨rfl, HS3.out.tbl, ((Only.refl _ _).setCell (.inl HM) _).trans (HS3.out.only.mono fun x hx => by rw [hf] at hx; exact hx), fun k hk => by have := HS3.out.foot k hk; rw [hf] at this; exact this⟩
end
end Go.Proofs.YtcicjklhbnipcaaGreatDoor
