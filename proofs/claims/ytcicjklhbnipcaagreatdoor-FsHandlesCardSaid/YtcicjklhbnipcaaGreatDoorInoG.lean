/-
  Layer 8: Rename, walked.
-/
import Derived.Test.YtcicjklhbnipcaaGreatDoorInoF
namespace Go.Proofs.YtcicjklhbnipcaaGreatDoor
set_option linter.unusedVariables false
set_option linter.unusedSimpArgs false
open Go.RowKit Go.Maps

section
variable {w : World} {g mb : Nat} {β : Int → Nat × Nat} {t : TabD}
theorem TblAt.fitNames {id : Int} {n : NodeD} (h : TblAt w g mb β t) (hn : In.find t.nodes id = some n) : NamesAt w (β id).2 n.names := (h.at hn).names
theorem in_foot1 {id : Int} {n : NodeD} (hn : In.find t.nodes id = some n) : (β id).1 ∈ foot g mb β t.nodes := mem_foot.2 (.inr (.inr ⟨n, (find_mem hn).1, .inl (by rw [(find_mem hn).2])⟩))
theorem in_foot2 {id : Int} {n : NodeD} (hn : In.find t.nodes id = some n) : (β id).2 ∈ foot g mb β t.nodes := mem_foot.2 (.inr (.inr ⟨n, (find_mem hn).1, .inr (by rw [(find_mem hn).2])⟩))
theorem foot_setN (n : NodeD) : foot g mb β (In.setN t n).nodes = foot g mb β t.nodes := foot_set _ _ _ _ _
/-- The two last steps: a name goes out of one directory, and comes into another one. -/
theorem rename_tail {w1 w2 w3 : World} {t1 : TabD} (h : TblAt w1 g mb β t1) {dir tod id : Int} {s as_ : ByteArray} {d : NodeD} (hd : In.find t1.nodes dir = some d) {d2 : NodeD} (hd2 : In.find (In.nameOut t1 dir s).nodes tod = some d2)
    (m1 : NamesAt w2 (β dir).2 (In.without d.names s)) (r1 : w1.mapTurned w2 (β dir).2) (m2 : NamesAt w3 (β tod).2 (In.with_ d2.names as_ id)) (r2 : w2.mapTurned w3 (β tod).2) :
    Step w1 w3 g mb β t1 (In.renameIn t1 dir s tod as_ id) := by
  have T2 : TblAt w2 g mb β (In.nameOut t1 dir s) := by rw [nameOut_eq hd]; exact h.set_names hd m1 r1
  have hf : foot g mb β (In.nameOut t1 dir s).nodes = foot g mb β t1.nodes := by rw [nameOut_eq hd]; exact foot_setN _
  have T3 : TblAt w3 g mb β (In.renameIn t1 dir s tod as_ id) := by unfold In.renameIn; rw [nameIn_eq hd2]; exact T2.set_names hd2 m2 r2
  have hf2 : foot g mb β (In.renameIn t1 dir s tod as_ id).nodes = foot g mb β t1.nodes := by unfold In.renameIn; rw [nameIn_eq hd2]; exact (foot_setN _).trans hf
  refine ⟨T3, ((Only.refl _ w1).turned r1 (.inl (in_foot2 hd))).turned r2 (.inl ?_), fun k hk => by rw [hf2] at hk; exact hk⟩
  rw [← hf]
  exact in_foot2 hd2
theorem without_len (d : List (ByteArray × Int)) (s : ByteArray) : (In.without d s).length ≤ d.length := List.length_filter_le _ _
theorem find_del {l : List NodeD} {id x : Int} (hx : x ≠ id) : In.find (In.del l id) x = In.find l x := by
  unfold In.find In.del
  rw [List.find?_filter]
  congr 1
  funext m
  by_cases h : m.id = x
  · subst h
    simp [hx]
  · simp [h]
theorem find_gone {id x : Int} (hx : x ≠ id) : In.find (In.gone t id).nodes x = In.find t.nodes x := by
  unfold In.gone
  split
  · exact find_del hx
  · rfl
/-- A directory is still there, if a name of a file was taken out of one. -/
theorem dir_stays {x tod : Int} {as_ : ByteArray} {d e n : NodeD} (hx : In.find t.nodes x = some d) (hxd : d.dir = true) (he : In.find t.nodes tod = some e) (hn : In.find t.nodes (In.leads e.names as_) = some n) (hnd : n.dir = false) :
    ∃ d', In.find (In.loses t tod as_).nodes x = some d' ∧ d'.dir = true ∧ d'.names.length ≤ d.names.length := by
  have hne : x ≠ In.leads e.names as_ := fun h => by rw [h, hn] at hx; cases hx; rw [hxd] at hnd; cases hnd
  unfold In.loses
  rw [at_find he, find_gone hne, nameOut_eq he]
  have h1 : ∃ d', In.find (In.setN t { e with names := In.without e.names as_ }).nodes x = some d' ∧ d'.dir = true ∧ d'.names.length ≤ d.names.length := by
    rw [find_upd (n := { e with names := In.without e.names as_ }) he (find_mem he).2]
    split
    · rename_i h
      subst h
      rw [hx] at he
      cases he
      exact ⟨_, rfl, hxd, without_len _ _⟩
    · exact ⟨d, hx, hxd, Nat.le_refl _⟩
  obtain ⟨d', h2, h3, h4⟩ := h1
  refine ⟨d', ?_, h3, h4⟩
  have hn1 : ∃ n', In.find (In.setN t { e with names := In.without e.names as_ }).nodes (In.leads e.names as_) = some n' := by
    rw [find_upd (n := { e with names := In.without e.names as_ }) he (find_mem he).2]
    split
    · exact ⟨_, rfl⟩
    · exact ⟨n, hn⟩
  obtain ⟨n', hn'⟩ := hn1
  rw [linksDown_eq hn', find_upd (n := { n' with links := n'.links - 1 }) hn' (find_mem hn').2, if_neg hne]
  exact h2
theorem dir_out {x dir : Int} {s : ByteArray} {d e : NodeD} (hx : In.find t.nodes x = some d) (he : In.find t.nodes dir = some e) : ∃ d', In.find (In.nameOut t dir s).nodes x = some d' ∧ d'.names.length ≤ d.names.length := by
  rw [nameOut_eq he, find_upd (n := { e with names := In.without e.names s }) he (find_mem he).2]
  split
  · rename_i h
    subst h
    rw [hx] at he
    cases he
    exact ⟨_, rfl, without_len _ _⟩
  · exact ⟨d, hx, Nat.le_refl _⟩
theorem unlinkE_dec (F : Fit t) {dir : Int} {s : ByteArray} : (In.unlinkE t dir s = 0 ∧ In.findE t dir s = 0 ∧ ∃ d n, In.find t.nodes dir = some d ∧ d.dir = true ∧ In.leads d.names s ≠ 0 ∧ In.findN t dir s = In.leads d.names s ∧ In.find t.nodes (In.leads d.names s) = some n ∧ n.dir = false ∧ Fits (In.leads d.names s)) ∨
    (In.unlinkE t dir s ≠ 0 ∧ In.findE t dir s = 0 ∧ In.getE t (In.findN t dir s) false = In.unlinkE t dir s ∧ Fits (In.findN t dir s)) ∨ (In.unlinkE t dir s ≠ 0 ∧ In.findE t dir s = In.unlinkE t dir s) := by
  unfold In.unlinkE
  rcases findE_dec (t := t) (dir := dir) (s := s) with ⟨h1, d, hd, hdd, hN, hl, hfN⟩ | ⟨h1, hz⟩
  · rw [h1]
    obtain ⟨n, hn, hid⟩ := F.find hd hl
    rcases getE_dec (t := t) (id := In.findN t dir s) (dir := false) with ⟨h2, n2, hn2, hnd⟩ | h2
    · rw [hfN, hn] at hn2
      cases hn2
      exact .inl ⟨h2, rfl, d, n, hd, hdd, hl, hfN, hn, hnd, hid⟩
    · exact .inr (.inl ⟨h2, rfl, rfl, by rw [hfN]; exact hid⟩)
  · rw [beq0_false h1]
    exact .inr (.inr ⟨h1, rfl⟩)
set_option maxHeartbeats 4000000 in
set_option maxRecDepth 100000 in
theorem Rename_any (h : TblAt w g mb β t) (F : Fit t) {dir tod : Int} (hdir : Fits dir) (htod : Fits tod) {s as_ : ByteArray} (hs : s.size ≤ maxLen) (has : as_.size ≤ maxLen) :
    Calls Tryz.prog 117 #[.pointer (some ⟨g, 0, none⟩), .int .i64 dir, .string s, .int .i64 tod, .string as_] w (RStep w g mb β t (In.rename t dir s tod as_)) := by
  have cf := Find_any h F.q0 hdir hs
  obtain ⟨E, hE⟩ : ∃ E, In.renameE t dir s tod as_ = E := ⟨_, rfl⟩
  obtain ⟨R, hRR⟩ : ∃ R, In.rename t dir s tod as_ = R := ⟨_, rfl⟩
  have hR : R = if E == 0 then (0, In.renameT t dir s tod as_) else (E, t) := by rw [← hRR, ← hE]; rfl
  rw [hRR]
  have HRR := Lib.hid hR
  clear hR hRR
  have HT := Lib.hid h
  have HF := Lib.hid F
  unfold In.renameE at hE
  rcases unlinkE_dec F (dir := dir) (s := s) with ⟨h1, h2, d, n, hd, hdd, hl, hfN, hn, hnd, hid⟩ | ⟨h1, h2, h3, hid⟩ | ⟨h1, h2⟩
  · rw [h1] at hE
    rw [h2] at cf
    rw [hfN] at hE cf
    generalize hidd : In.leads d.names s = id at hE cf hn hid hl hfN
    rcases placeE_dec (t := t) (dir := tod) (s := as_) with ⟨p1, e, he, hed, heN⟩ | p1
    · rw [p1, at_find he] at hE
      have HE1 := Lib.hid he
      have HED := Lib.hid hed
      have HEN := Lib.hid heN
      have HN := Lib.hid hn
      have HND := Lib.hid hnd
      have HD := Lib.hid hd
      obtain ⟨was, hwas⟩ : ∃ was, In.leads e.names as_ = was := ⟨_, rfl⟩
      rw [hwas] at hE
      have HW := Lib.hid hwas
      by_cases c1 : was = id
      · have q : (was == id) = true := by simpa using c1
        rw [q] at hE
        have hE : 0 = E := hE
        subst hE
        have HR := Lib.hid (show R = (0, t) by
          rw [HRR.out]
          show (0, In.renameT t dir s tod as_) = _
          unfold In.renameT
          rw [at_find he, hwas, hfN, q]; rfl)
        clear h F h1 h2 hn hnd hd hdd hfN hidd hl he hed heN hwas c1 p1
        go_enter Tryz.func117, Tryz.ntmps117
        go_wp2_with (first
          | (go_at_call 107; refine cf.mono ?_; rintro e w1 ⟨rfl, hb⟩; have HTB := Lib.hid (HT.out.below hb); have HB := Lib.hid hb; clear hb)
          | (go_at_call 165; refine (get_yes HTB.out HF.out.q0 hid HN.out HND.out).mono ?_; rintro e w' ⟨rfl, rfl⟩)
          | (go_at_call 160; refine (place_yes HTB.out HF.out.q0 htod has HE1.out HED.out HEN.out).mono ?_; rintro e w2 ⟨rfl, hb⟩; have TB := HTB.out.below hb; have HTB2 := Lib.hid TB; have HB2 := Lib.hid hb; have hA := TB.at HE1.out; have d4 := (node_cells hA).2.2.2.2; have ll := look_name hA.names has; rw [HW.out] at ll; clear hb TB hA))
        go_ret
        rw [HR.out]
        exact ⟨rfl, (Step.below HT.out HB.out).trans (Step.below HTB.out HB2.out)⟩
      · have q : (was == id) = false := by simpa using c1
        rw [q] at hE
        by_cases c2 : was = 0
        · have q2 : (was == 0) = true := by simpa using c2
          subst c2
          have hE : 0 = E := hE
          subst hE
          obtain ⟨d2, hd2, hd2l⟩ := dir_out (s := s) he hd
          have hlen : (namesL d2.names).length < maxLen := by have := (F.node e (find_mem he).1).2.2; rw [names_len, maxLen_val]; omega
          have HR := Lib.hid (show R = (0, In.renameIn t dir s tod as_ id) by
            rw [HRR.out]
            show (0, In.renameT t dir s tod as_) = _
            unfold In.renameT
            rw [at_find he, hwas, hfN, q, q2]; rfl)
          have HD2 := Lib.hid hd2
          have H4 := Lib.hid (fun (W W' : World) (T : TblAt W g mb β t) (h1 : NamesAt W' (β dir).2 (In.without d.names s)) (h2 : W.mapTurned W' (β dir).2) => (by rw [nameOut_eq hd]; exact T.set_names hd h1 h2 : TblAt W' g mb β (In.nameOut t dir s)))
          clear h F h1 h2 hn hnd hd hdd hfN hidd hl he hed heN hwas c1 p1 hd2 hd2l q2
          go_enter Tryz.func117, Tryz.ntmps117
          go_wp2_with (first
            | (go_at_call 107; refine cf.mono ?_; rintro e w1 ⟨rfl, hb⟩; have HTB := Lib.hid (HT.out.below hb); have HB := Lib.hid hb; clear hb)
            | (go_at_call 165; refine (get_yes HTB.out HF.out.q0 hid HN.out HND.out).mono ?_; rintro e w' ⟨rfl, rfl⟩)
            | (go_at_call 160; refine (place_yes HTB.out HF.out.q0 htod has HE1.out HED.out HEN.out).mono ?_; rintro e w2 ⟨rfl, hb⟩; have TB := HTB.out.below hb; have HTB2 := Lib.hid TB; have HB2 := Lib.hid hb; have hA := TB.at HE1.out; have d4 := (node_cells hA).2.2.2.2; have ll := look_name hA.names has; rw [HW.out] at ll; have c3 := (tbl_cells TB).2.2.2; have hld := look_at TB hdir; rw [ptr_some HD.out] at hld; have hAd := TB.at HD.out; have dd4 := (node_cells hAd).2.2.2.2; have HNm := Lib.hid hAd.names; clear hAd; clear hb TB hA)
            | (at_delete; refine wpList_delete_at _ rfl _ _ 164 9 rfl 3 key_str Tryz.underlying164 (β dir).2 _ rfl HNm.out _ _ rfl (WideMaps.keyOf_string_mk Tryz.underlying9 hs) ?_; intro w4 hm4 ht4; rw [del_names] at hm4; have T4 := H4.out _ w4 HTB2.out hm4 ht4; have hA4 := T4.at HD2.out; have e4 := (node_cells hA4).2.2.2.2; have HNm4 := Lib.hid hA4.names; have HM4 := Lib.hid hm4; have HW4 := Lib.hid ht4; clear hm4 ht4 T4 hA4; clear ll c3 hld dd4 d4)
            | (at_mapUpdate; refine wpList_store_at _ rfl _ _ _ 164 rfl 9 3 key_str Tryz.underlying164 (β tod).2 _ rfl HNm4.out hlen (.string as_) (.int .i64 id) _ rfl rfl (WideMaps.keyOf_string_mk Tryz.underlying9 has) ?_; intro w5 hm5 ht5; rw [put_names] at hm5; have HM5 := Lib.hid hm5; have HW5 := Lib.hid ht5; clear hm5 ht5))
          go_ret
          rw [HR.out]
          exact ⟨rfl, ((Step.below HT.out HB.out).trans (Step.below HTB.out HB2.out)).trans (rename_tail HTB2.out HD.out HD2.out HM4.out HW4.out HM5.out HW5.out)⟩
        · have q2 : (was == 0) = false := by simpa using c2
          have q3 : (was != 0) = true := bne0_true c2
          rw [q2] at hE
          have hlw : In.leads e.names as_ ≠ 0 := by rw [hwas]; exact c2
          obtain ⟨n3, hn3, hf3⟩ := F.find he hlw
          rw [hwas] at hn3 hf3
          rw [at_find hn3] at hE
          have HN3 := Lib.hid hn3
          cases hn3d : n3.dir with
          | true =>
            rw [hn3d] at hE
            have hE : 12 = E := hE
            subst hE
            have HND3 := Lib.hid hn3d
            have HR := Lib.hid (show R = (12, t) from HRR.out)
            clear h F h1 h2 hn hnd hd hdd hfN hidd hl he hed heN hwas c1 p1 hlw hn3 hn3d
            go_enter Tryz.func117, Tryz.ntmps117
            go_wp2_with (first
              | (go_at_call 107; refine cf.mono ?_; rintro e w1 ⟨rfl, hb⟩; have HTB := Lib.hid (HT.out.below hb); have HB := Lib.hid hb; clear hb)
              | (go_at_call 165; refine (get_yes HTB.out HF.out.q0 hid HN.out HND.out).mono ?_; rintro e w' ⟨rfl, rfl⟩)
              | (go_at_call 160; refine (place_yes HTB.out HF.out.q0 htod has HE1.out HED.out HEN.out).mono ?_; rintro e w2 ⟨rfl, hb⟩; have TB := HTB.out.below hb; have HTB2 := Lib.hid TB; have HB2 := Lib.hid hb; have hA := TB.at HE1.out; have d4 := (node_cells hA).2.2.2.2; have ll := look_name hA.names has; rw [HW.out] at ll; have c3 := (tbl_cells TB).2.2.2; have hlw3 := look_at TB hf3; rw [ptr_some HN3.out] at hlw3; have n3c := (node_cells (TB.at HN3.out)).1; rw [HND3.out] at n3c; clear hb TB hA))
            go_ret
            rw [HR.out]
            exact ⟨rfl, (Step.below HT.out HB.out).trans (Step.below HTB.out HB2.out)⟩
          | false =>
            rw [hn3d] at hE
            have hE : 0 = E := hE
            subst hE
            have HND3 := Lib.hid hn3d
            obtain ⟨d', hd', hd'd, hd'l⟩ := dir_stays hd hdd he (by rw [hwas]; exact hn3) hn3d
            obtain ⟨e', he', he'd, he'l⟩ := dir_stays he hed he (by rw [hwas]; exact hn3) hn3d
            obtain ⟨t1, ht1⟩ : ∃ t1, In.loses t tod as_ = t1 := ⟨_, rfl⟩
            rw [ht1] at hd' he'
            obtain ⟨d2, hd2, hd2l⟩ := dir_out (s := s) he' hd'
            have hlen : (namesL d2.names).length < maxLen := by have := (F.node e (find_mem he).1).2.2; rw [names_len, maxLen_val]; omega
            have HR := Lib.hid (show R = (0, In.renameIn t1 dir s tod as_ id) by
              rw [HRR.out]
              show (0, In.renameT t dir s tod as_) = _
              unfold In.renameT
              rw [at_find he, hwas, hfN, q, q2, ht1]; rfl)
            have HL := Lib.hid hlw
            have HD2 := Lib.hid hd2
            have HD' := Lib.hid hd'
            have HLo := Lib.hid (fun (W : World) (T : TblAt W g mb β t) => (ht1 ▸ loses_fit T F has he hlw : Calls Tryz.prog 166 #[.pointer (some ⟨g, 0, none⟩), .pointer (some ⟨(β tod).1, 0, none⟩), .string as_] W fun e w' => e = .returned (.tuple #[]) ∧ Step W w' g mb β t t1))
            have H4 := Lib.hid (fun (W W' : World) (T : TblAt W g mb β t1) (h1 : NamesAt W' (β dir).2 (In.without d'.names s)) (h2 : W.mapTurned W' (β dir).2) => (by rw [nameOut_eq hd']; exact T.set_names hd' h1 h2 : TblAt W' g mb β (In.nameOut t1 dir s)))
            clear h F h1 h2 hn hnd hd hdd hfN hidd hl he hed heN hwas c1 p1 hlw hn3 hn3d hd2 hd2l hd' hd'd hd'l he' he'd he'l ht1 q2
            go_enter Tryz.func117, Tryz.ntmps117
            go_wp2_with (first
              | (go_at_call 107; refine cf.mono ?_; rintro e w1 ⟨rfl, hb⟩; have HTB := Lib.hid (HT.out.below hb); have HB := Lib.hid hb; clear hb)
              | (go_at_call 165; refine (get_yes HTB.out HF.out.q0 hid HN.out HND.out).mono ?_; rintro e w' ⟨rfl, rfl⟩)
              | (go_at_call 160; refine (place_yes HTB.out HF.out.q0 htod has HE1.out HED.out HEN.out).mono ?_; rintro e w2 ⟨rfl, hb⟩; have TB := HTB.out.below hb; have HTB2 := Lib.hid TB; have HB2 := Lib.hid hb; have hA := TB.at HE1.out; have d4 := (node_cells hA).2.2.2.2; have ll := look_name hA.names has; rw [HW.out] at ll; have c3 := (tbl_cells TB).2.2.2; have hlw3 := look_at TB hf3; rw [ptr_some HN3.out] at hlw3; have n3c := (node_cells (TB.at HN3.out)).1; rw [HND3.out] at n3c; clear hb TB hA)
              | (go_at_call 166; refine (HLo.out _ HTB2.out).mono ?_; rintro e w3 ⟨rfl, hs3⟩; have HS3 := Lib.hid hs3; clear d4 ll c3 hlw3 n3c; have c3 := (tbl_cells hs3.tbl).2.2.2; have hld := look_at hs3.tbl hdir; rw [ptr_some HD'.out] at hld; have hAd := hs3.tbl.at HD'.out; have dd4 := (node_cells hAd).2.2.2.2; have HNm := Lib.hid hAd.names; clear hAd hs3)
              | (at_delete; refine wpList_delete_at _ rfl _ _ 164 9 rfl 3 key_str Tryz.underlying164 (β dir).2 _ rfl HNm.out _ _ rfl (WideMaps.keyOf_string_mk Tryz.underlying9 hs) ?_; intro w4 hm4 ht4; rw [del_names] at hm4; have T4 := H4.out _ w4 HS3.out.tbl hm4 ht4; have hA4 := T4.at HD2.out; have e4 := (node_cells hA4).2.2.2.2; have HNm4 := Lib.hid hA4.names; have HM4 := Lib.hid hm4; have HW4 := Lib.hid ht4; clear hm4 ht4 T4 hA4; clear c3 hld dd4)
              | (at_mapUpdate; refine wpList_store_at _ rfl _ _ _ 164 rfl 9 3 key_str Tryz.underlying164 (β tod).2 _ rfl HNm4.out hlen (.string as_) (.int .i64 id) _ rfl rfl (WideMaps.keyOf_string_mk Tryz.underlying9 has) ?_; intro w5 hm5 ht5; rw [put_names] at hm5; have HM5 := Lib.hid hm5; have HW5 := Lib.hid ht5; clear hm5 ht5))
            go_ret
            rw [HR.out]
            exact ⟨rfl, (((Step.below HT.out HB.out).trans (Step.below HTB.out HB2.out)).trans HS3.out).trans (rename_tail HS3.out.tbl HD'.out HD2.out HM4.out HW4.out HM5.out HW5.out)⟩
    · rw [beq0_false p1] at hE
      have hE : In.placeE t tod as_ = E := hE
      rw [hE] at p1
      have HR := Lib.hid (show R = (E, t) by rw [HRR.out, beq0_false p1]; rfl)
      have e1 := bne0_true p1
      have HP1 := Lib.hid p1
      have HEE := Lib.hid hE
      have HN := Lib.hid hn
      have HND := Lib.hid hnd
      clear h F h1 h2 hn hnd hd hdd hfN hidd hl p1 hE
      go_enter Tryz.func117, Tryz.ntmps117
      go_wp2_with (first
        | (go_at_call 107; refine cf.mono ?_; rintro e w1 ⟨rfl, hb⟩; have HTB := Lib.hid (HT.out.below hb); have HB := Lib.hid hb; clear hb)
        | (go_at_call 165; refine (get_yes HTB.out HF.out.q0 hid HN.out HND.out).mono ?_; rintro e w' ⟨rfl, rfl⟩)
        | (go_at_call 160; refine (place_no HTB.out HF.out.q0 htod has HEE.out HP1.out).mono ?_; rintro e w2 ⟨rfl, hb⟩; have HB2 := Lib.hid hb; clear hb))
      go_ret
      rw [HR.out]
      exact ⟨rfl, (Step.below HT.out HB.out).trans (Step.below HTB.out HB2.out)⟩
  · rw [beq0_false h1] at hE
    have hE : In.unlinkE t dir s = E := hE
    rw [hE] at h1 h3
    rw [h2] at cf
    generalize hidd : In.findN t dir s = id at cf h3 hid
    have e0 := beq0_false h1
    have e1 := bne0_true h1
    have HR := Lib.hid (show R = (E, t) by rw [HRR.out, e0]; rfl)
    have HNE := Lib.hid h1
    have H3 := Lib.hid h3
    clear h F h1 h2 h3 hE hidd
    go_enter Tryz.func117, Tryz.ntmps117
    go_wp2_with (first
      | (go_at_call 107; refine cf.mono ?_; rintro e w1 ⟨rfl, hb⟩; have HTB := Lib.hid (HT.out.below hb); have HB := Lib.hid hb; clear hb)
      | (go_at_call 165; refine (get_no HTB.out HF.out.q0 hid H3.out HNE.out).mono ?_; rintro e w' ⟨rfl, rfl⟩))
    go_ret
    rw [HR.out]
    exact ⟨rfl, Step.below HT.out HB.out⟩
  · rw [beq0_false h1] at hE
    have hE : In.unlinkE t dir s = E := hE
    rw [hE] at h1 h2
    rw [h2] at cf
    have e0 := beq0_false h1
    have e1 := bne0_true h1
    have HR := Lib.hid (show R = (E, t) by rw [HRR.out, e0]; rfl)
    clear h F h1 h2 hE
    go_enter Tryz.func117, Tryz.ntmps117
    go_wp2_with (go_at_call 107; refine cf.mono ?_; rintro e w1 ⟨rfl, hb⟩; have HTB := Lib.hid (HT.out.below hb); have HB := Lib.hid hb; clear hb)
    go_ret
    rw [HR.out]
    exact ⟨rfl, Step.below HT.out HB.out⟩
end
end Go.Proofs.YtcicjklhbnipcaaGreatDoor
