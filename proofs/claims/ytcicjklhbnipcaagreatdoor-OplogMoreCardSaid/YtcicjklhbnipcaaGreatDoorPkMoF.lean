/-
  Texts laid one behind the other: what MorZ asks for.
-/
import Derived.Test.YtcicjklhbnipcaaGreatDoorPkMoE
import Derived.KernelRfl
namespace Go.Proofs.YtcicjklhbnipcaaGreatDoor
set_option linter.unusedVariables false
set_option linter.unusedSimpArgs false
namespace Pt
/-- Does a path lie in a directory? -/
def under (p dir : ByteArray) : Bool := decide ((parts dir).length < (parts p).length) && decide ((parts p).take (parts dir).length = parts dir)
def run : ByteArray := ⟨#[114, 117, 110]⟩
end Pt
/-- What is logged: an operation of an owner, or its exit. -/
abbrev LogD := Int × Option OpD
/-- A disk. -/
structure DskD where
  now : FsD
  base : FsD
  log : List LogD
def opK (k : Int) (p : ByteArray) : OpD := ⟨k, p, ⟨#[]⟩, 0, 0, 0, ⟨#[]⟩, 0, 0⟩
namespace Ol
def again (d : FsD) : LogD → FsD
  | (o, some p) => (Fs.do_ d o p).2
  | (o, none) => Fs.exit d o
def replay (d : FsD) (l : List LogD) : FsD := l.foldl again d
/-- A file that lies under a directory is taken away. -/
def empty1 (d : FsD) (x : FileD) : FsD := if Pt.under x.path Pt.run then (Fs.do_ d 0 (opK (if x.dir then 2 else 11) x.path)).2 else d
def empties (d : FsD) : FsD := (Fs.files d).reverse.foldl empty1 d
def exits (d : FsD) : FsD := (Fs.owners d).foldl Fs.exit d
/-- What a power failure leaves of a disk. -/
def cutFs (D : DskD) (keep : Int) : FsD := empties (exits (replay D.base (D.log.take (max 0 (min keep D.log.length)).toNat)))
def cut (D : DskD) (keep : Int) : DskD := ⟨cutFs D keep, cutFs D keep, []⟩
def new (q : Int) : DskD := ⟨Fs.new q, Fs.new q, []⟩
def sync (D : DskD) : DskD := ⟨D.now, D.now, []⟩
def logs (r : ResD) (p : OpD) : Prop := r.err = 0 ∧ p.kind ≠ 6 ∧ p.kind ≠ 9 ∧ p.kind ≠ 13
instance (r : ResD) (p : OpD) : Decidable (logs r p) := by unfold logs; infer_instance
def doN (D : DskD) (o : Int) (p : OpD) : DskD := ⟨(Fs.do_ D.now o p).2, D.base, if logs (Fs.do_ D.now o p).1 p then D.log ++ [(o, some p)] else D.log⟩
def do_ (D : DskD) (o : Int) (p : OpD) : ResD × DskD := if p.kind = 14 then (Fs.errR 0, sync D) else ((Fs.do_ D.now o p).1, doN D o p)
def exit (D : DskD) (o : Int) : DskD := if o ∈ Fs.owners D.now then ⟨Fs.exit D.now o, D.base, D.log ++ [(o, none)]⟩ else D
/-- A logged operation whose numbers and texts fit. -/
def LogOk (l : LogD) : Prop := Fits l.1 ∧ ∀ p, l.2 = some p → p.Ok
/-- What is always so of a file system. -/
structure FInv (N : Nat) (d : FsD) : Prop where
  inv : Fs.Inv N d
  up : In.Up d.t
  own : ∀ p ∈ d.h, Fits p.1
/-- What is always so of a disk. -/
structure Inv (N : Nat) (D : DskD) : Prop where
  now : FInv N D.now
  base : ∃ M, FInv M D.base ∧ M + 3 * D.log.length ≤ N
  ok : ∀ l ∈ D.log, LogOk l
section
variable {N M : Nat} {d : FsD} {D : DskD}
theorem FInv.more (h : FInv N d) (hM : N ≤ M) : FInv M d := ⟨h.inv.more hM, h.up, h.own⟩
theorem put_own {h : List (Int × List Int)} {o : Int} {l : List Int} (hh : ∀ p ∈ h, Fits p.1) (ho : Fits o) : ∀ p ∈ Fs.put h o l, Fits p.1 := fun p hp => by
  rcases Fs.mem_ins.1 hp with rfl | hp
  · exact ho
  · exact hh p (List.mem_filter.1 hp).1
theorem shut_own {h : List (Int × List Int)} {o : Int} {l : List Int} (hh : ∀ p ∈ h, Fits p.1) (ho : Fits o) : ∀ p ∈ Fs.shut h o l, Fits p.1 := fun p hp => by
  unfold Fs.shut at hp
  split at hp
  · exact put_own hh ho p (List.mem_filter.1 hp).1
  · exact put_own hh ho p hp
theorem gives_own {o id : Int} (hh : ∀ p ∈ d.h, Fits p.1) (ho : Fits o) : ∀ p ∈ (Fs.gives d o id).2.h, Fits p.1 := by
  unfold Fs.gives
  split
  · exact put_own hh ho
  · exact hh
theorem do_own {o : Int} {q : OpD} (hh : ∀ p ∈ d.h, Fits p.1) (ho : Fits o) : ∀ p ∈ (Fs.do_ d o q).2.h, Fits p.1 := by
  unfold Fs.do_
  split
  · exact hh
  split
  · unfold Fs.opens
    split
    · exact hh
    split
    · exact hh
    split
    · split
      · exact hh
      · exact gives_own hh ho
    split
    · exact hh
    · exact gives_own hh ho
  split
  · unfold Fs.handled
    split
    · exact hh
    split
    · exact shut_own hh ho
    split
    · exact hh
    split
    · exact hh
    split
    · exact hh
    · exact hh
  split
  · exact hh
  · exact hh
theorem exitL_own (o : Int) (ho : Fits o) : ∀ (l : List Int) (n : Nat) (d : FsD), (∀ p ∈ d.h, Fits p.1) → ∀ p ∈ (Fs.exitL o l n d).h, Fits p.1
  | [], _, _, h => h
  | i :: r, n, d, h => by
    unfold Fs.exitL
    refine exitL_own o ho r (n + 1) _ ?_
    split
    · exact shut_own h ho
    · exact h
theorem finv_do (h : FInv N d) (hN : N ≤ 999999990) {o : Int} (ho : Fits o) (p : OpD) : FInv (N + 3) (Fs.do_ d o p).2 := ⟨Fs.inv_do h.inv hN o p, Fs.up_do h.inv h.up o p, do_own h.own ho⟩
theorem finv_exit (h : FInv N d) {o : Int} (ho : Fits o) : FInv N (Fs.exit d o) := ⟨Fs.inv_exit h.inv o, Fs.up_exit h.up o, exitL_own o ho _ 0 d h.own⟩
theorem finv_again (h : FInv N d) (hN : N ≤ 999999990) {l : LogD} (hl : LogOk l) : FInv (N + 3) (again d l) := by
  obtain ⟨o, _ | p⟩ := l
  · exact (finv_exit h hl.1).more (by omega)
  · exact finv_do h hN hl.1 p
theorem finv_replay : ∀ (l : List LogD) {N : Nat} {d : FsD}, (∀ x ∈ l, LogOk x) → FInv N d → N + 3 * l.length ≤ 999999990 → FInv (N + 3 * l.length) (replay d l)
  | [], _, _, _, h, _ => h
  | x :: r, N, d, hl, h, hN => by
    rw [List.length_cons] at hN
    have := finv_replay r (fun y hy => hl y (.tail _ hy)) (finv_again h (by omega) (hl x (.head _))) (by omega)
    rw [List.length_cons, show N + 3 * (r.length + 1) = N + 3 + 3 * r.length by omega]
    exact this
theorem owners_fit (h : FInv N d) : ∀ o ∈ Fs.owners d, Fits o := fun o ho => by
  obtain ⟨p, hp, rfl⟩ := List.mem_map.1 ho
  exact h.own p hp
theorem finv_foldl : ∀ (l : List Int) {d : FsD}, (∀ o ∈ l, Fits o) → FInv N d → FInv N (l.foldl Fs.exit d)
  | [], _, _, h => h
  | o :: r, _, hl, h => finv_foldl r (fun y hy => hl y (.tail _ hy)) (finv_exit h (hl o (.head _)))
theorem finv_exits (h : FInv N d) : FInv N (exits d) := finv_foldl _ (owners_fit h) h
/-- A name that is taken away: nothing grows. -/
theorem finv_out (h : FInv N d) {o : Int} (ho : Fits o) {p : OpD} (hk : p.kind = 2 ∨ p.kind = 11) : FInv N (Fs.do_ d o p).2 := by
  have key : Fs.Inv N (Fs.do_ d o p).2 := by
    have I := h.inv
    unfold Fs.do_
    split
    · exact I
    split
    · exfalso; omega
    split
    · exfalso; omega
    split
    · exact I
    · show Fs.Inv N ⟨(Fs.named d p).2, d.h⟩
      unfold Fs.named Fs.namedAt
      split
      · exact I
      split
      · exfalso; omega
      split
      · exact Fs.inv_tblN I (In.inv_remove I.tbl _ _)
      split
      · exact Fs.inv_tblN I (In.inv_unlink I.tbl _ _)
      · exfalso; omega
  exact ⟨key, Fs.up_do h.inv h.up o p, do_own h.own ho⟩
theorem finv_empty1 (h : FInv N d) (x : FileD) : FInv N (empty1 d x) := by
  unfold empty1
  split
  · refine finv_out h (show Fits 0 by decide) ?_
    show (if x.dir then (2 : Int) else 11) = 2 ∨ (if x.dir then (2 : Int) else 11) = 11
    split <;> simp
  · exact h
theorem finv_empties (h : FInv N d) : FInv N (empties d) := by
  unfold empties
  generalize (Fs.files d).reverse = l
  induction l generalizing d with
  | nil => exact h
  | cons o r ih => exact ih (finv_empty1 h o)
theorem finv_new {q : Int} (h0 : 64 ≤ q) (h1 : q ≤ 1099511627776) : FInv 1 (Fs.new q) := ⟨Fs.inv_new h0 h1, In.up_new q, nofun⟩
theorem inv_new {q : Int} (h0 : 64 ≤ q) (h1 : q ≤ 1099511627776) : Inv 1 (new q) := ⟨finv_new h0 h1, ⟨1, finv_new h0 h1, Nat.le_refl _⟩, nofun⟩
theorem Inv.more (h : Inv N D) (hM : N ≤ M) : Inv M D := by
  obtain ⟨K, h1, h2⟩ := h.base
  exact ⟨h.now.more hM, ⟨K, h1, by omega⟩, h.ok⟩
theorem inv_sync (h : Inv N D) : Inv N (sync D) := ⟨h.now, ⟨N, h.now, by show N + 3 * 0 ≤ N; omega⟩, nofun⟩
theorem take_len (D : DskD) (keep : Int) : (D.log.take (max 0 (min keep D.log.length)).toNat).length ≤ D.log.length := by
  rw [List.length_take]; omega
theorem inv_cutFs (h : Inv N D) (hN : N ≤ 999999990) (keep : Int) : FInv N (cutFs D keep) := by
  obtain ⟨K, h1, h2⟩ := h.base
  have := take_len D keep
  exact finv_empties (finv_exits ((finv_replay _ (fun x hx => h.ok x (List.mem_of_mem_take hx)) h1 (by omega)).more (by omega)))
theorem inv_cut (h : Inv N D) (hN : N ≤ 999999990) (keep : Int) : Inv N (cut D keep) := ⟨inv_cutFs h hN keep, ⟨N, inv_cutFs h hN keep, by show N + 3 * 0 ≤ N; omega⟩, nofun⟩
theorem inv_doN (h : Inv N D) (hN : N ≤ 999999980) {o : Int} (ho : Fits o) {p : OpD} (hp : p.Ok) : Inv (N + 3) (doN D o p) := by
  obtain ⟨K, h1, h2⟩ := h.base
  refine ⟨finv_do h.now (by omega) ho p, ⟨K, h1, ?_⟩, fun l hl => ?_⟩
  · unfold doN
    simp only
    split
    · rw [List.length_append, List.length_singleton]; omega
    · omega
  · unfold doN at hl
    simp only at hl
    split at hl
    · rcases List.mem_append.1 hl with hl | hl
      · exact h.ok l hl
      · rcases List.mem_singleton.1 hl with rfl
        exact ⟨ho, fun q hq => by cases hq; exact hp⟩
    · exact h.ok l hl
theorem inv_do (h : Inv N D) (hN : N ≤ 999999980) {o : Int} (ho : Fits o) {p : OpD} (hp : p.Ok) : Inv (N + 3) (do_ D o p).2 := by
  unfold do_
  split
  · exact (inv_sync h).more (by omega)
  · exact inv_doN h hN ho hp
theorem inv_exit (h : Inv N D) {o : Int} (ho : Fits o) : Inv (N + 3) (exit D o) := by
  unfold exit
  split
  · obtain ⟨K, h1, h2⟩ := h.base
    refine ⟨(finv_exit h.now ho).more (by omega), ⟨K, h1, by rw [List.length_append, List.length_singleton]; omega⟩, fun l hl => ?_⟩
    rcases List.mem_append.1 hl with hl | hl
    · exact h.ok l hl
    · rcases List.mem_singleton.1 hl with rfl
      exact ⟨ho, nofun⟩
  · exact h.more (by omega)
end
end Ol
end Go.Proofs.YtcicjklhbnipcaaGreatDoor
namespace Go.Proofs.YtcicjklhbnipcaaGreatDoor
set_option linter.unusedVariables false
set_option linter.unusedSimpArgs false
namespace In
section
variable {N : Nat} {t : TabD}
theorem make_bad {dir : Int} {s : ByteArray} {b : Bool} (h : (make t dir s b).2.1 ≠ 0) : (make t dir s b).2.2 = t := by
  unfold make at h ⊢
  split
  · rename_i e
    rw [if_pos e] at h
    exact absurd rfl h
  · rfl
theorem pair_bad {c : Bool} {a : TabD} {e : Int} (h : (if c then ((0 : Int), a) else (e, t)).1 ≠ 0) : (if c then ((0 : Int), a) else (e, t)).2 = t := by
  cases c with
  | true => exact absurd rfl h
  | false => rfl
theorem hold_bad {id : Int} (h : (hold t id).1 ≠ 0) : (hold t id).2 = t := pair_bad h
theorem write_bad {id a : Int} {s : ByteArray} (h : (write t id a s).1 ≠ 0) : (write t id a s).2 = t := pair_bad h
theorem trunc_bad {id n : Int} (h : (trunc t id n).1 ≠ 0) : (trunc t id n).2 = t := pair_bad h
theorem remove_bad {id : Int} {s : ByteArray} (h : (remove t id s).1 ≠ 0) : (remove t id s).2 = t := pair_bad h
theorem unlink_bad {id : Int} {s : ByteArray} (h : (unlink t id s).1 ≠ 0) : (unlink t id s).2 = t := pair_bad h
theorem link_bad {id dir : Int} {s : ByteArray} (h : (link t id dir s).1 ≠ 0) : (link t id dir s).2 = t := pair_bad h
theorem rename_bad {dir tod : Int} {s as_ : ByteArray} (h : (rename t dir s tod as_).1 ≠ 0) : (rename t dir s tod as_).2 = t := pair_bad h
/-- What was made just now can be held. -/
theorem hold_made (I : Inv N t) {dir : Int} {s : ByteArray} (h : (make t dir s false).2.1 = 0) : (hold (make t dir s false).2.2 (make t dir s false).1).1 = 0 := by
  unfold make at h ⊢
  cases he : makeE t dir s == 0 with
  | false => rw [he] at h; have h' : makeE t dir s = 0 := h; rw [h'] at he; cases he
  | true =>
    show (hold (makeT t dir s false) (t.last + 1)).1 = 0
    have hne : ∀ m ∈ (nameIn t dir s (t.last + 1)).nodes, m.id ≠ (⟨t.last + 1, false, 1, 0, ByteArray.empty, []⟩ : NodeD).id := fun m hm => by
      have hm' : m ∈ set t.nodes ((at_ t dir).setNames (with_ (at_ t dir).names s (t.last + 1))) := hm
      unfold set at hm'
      obtain ⟨y, hy, e⟩ := List.mem_map.1 hm'
      have hp := (I.pos y hy).2
      have : m.id = y.id := by
        rw [← e]
        split
        · rename_i hh
          exact (by simpa using hh : y.id = _).symm
        · rfl
      show m.id ≠ t.last + 1
      omega
    have hf : find (makeT t dir s false).nodes (t.last + 1) = some ⟨t.last + 1, false, 1, 0, ByteArray.empty, []⟩ := by
      show find ((nameIn t dir s (t.last + 1)).nodes ++ [⟨t.last + 1, false, 1, 0, ByteArray.empty, []⟩]) (t.last + 1) = _
      rw [find_snoc hne, if_pos rfl]
    have hE : holdE (makeT t dir s false) (t.last + 1) = 0 := by
      unfold holdE getE
      rw [at_some hf]
      simp only [hf]
      rfl
    unfold hold
    rw [hE]
    rfl
end
end In
namespace Fs
variable {N : Nat} {d : FsD}
theorem gives_bad {o id : Int} (h : (gives d o id).1.err ≠ 0) : (gives d o id).2 = d := by
  unfold gives at h ⊢
  split
  · rename_i e
    rw [if_pos e] at h
    exact absurd rfl h
  · rename_i e
    rw [In.hold_bad e]
theorem stays (I : Inv N d) (o : Int) (p : OpD) (h : ¬ Ol.logs (do_ d o p).1 p) : (do_ d o p).2 = d := by
  have hk : (p.kind ≠ 6 ∧ p.kind ≠ 9 ∧ p.kind ≠ 13) → (do_ d o p).1.err ≠ 0 := fun hk he => h ⟨he, hk⟩
  clear h
  unfold do_ at hk ⊢
  split
  · rfl
  rename_i h1
  rw [if_neg h1] at hk
  split
  · rename_i h2
    rw [if_pos h2] at hk
    have hk := hk (by omega)
    unfold opens at hk ⊢
    split
    · rfl
    rename_i h3
    rw [if_neg h3] at hk
    split
    · rfl
    rename_i h4
    rw [if_neg h4] at hk
    split
    · rename_i h5
      rw [if_pos h5] at hk
      split
      · rename_i h6
        rw [In.make_bad h6]
      · rename_i h6
        rw [if_neg h6] at hk
        refine absurd ?_ hk
        unfold gives
        rw [if_pos (In.hold_made I.tbl (Decidable.not_not.1 h6))]
    · rename_i h5
      rw [if_neg h5] at hk
      split
      · rfl
      · rename_i h6
        rw [if_neg h6] at hk
        exact gives_bad hk
  rename_i h2
  rw [if_neg h2] at hk
  split
  · rename_i h3
    rw [if_pos h3] at hk
    unfold handled at hk ⊢
    split
    · rfl
    rename_i h4
    rw [if_neg h4] at hk
    split
    · rename_i h5
      rw [if_pos h5] at hk
      exact absurd rfl (hk (by omega))
    rename_i h5
    rw [if_neg h5] at hk
    split
    · rfl
    rename_i h6
    rw [if_neg h6] at hk
    split
    · rename_i h7
      rw [if_pos h7] at hk
      have hw : (In.write d.t (held d o p.h) p.at_ p.data).1 ≠ 0 := hk (by omega)
      rw [In.write_bad hw]
    rename_i h7
    rw [if_neg h7] at hk
    split
    · rename_i h8
      rw [if_pos h8] at hk
      have hw : (In.trunc d.t (held d o p.h) p.n).1 ≠ 0 := hk (by omega)
      rw [In.trunc_bad hw]
    · rfl
  rename_i h3
  rw [if_neg h3] at hk
  split
  · rfl
  rename_i h4
  rw [if_neg h4] at hk
  have hn : (named d p).1 ≠ 0 := hk (by omega)
  have key : (named d p).2 = d.t := by
    unfold named namedAt at hn ⊢
    split
    · rfl
    rename_i h5
    rw [if_neg h5] at hn
    split
    · rename_i h6
      rw [if_pos h6] at hn
      exact In.make_bad hn
    rename_i h6
    rw [if_neg h6] at hn
    split
    · rename_i h7
      rw [if_pos h7] at hn
      exact In.remove_bad hn
    rename_i h7
    rw [if_neg h7] at hn
    split
    · rename_i h8
      rw [if_pos h8] at hn
      exact In.unlink_bad hn
    rename_i h8
    rw [if_neg h8] at hn
    split
    · rename_i h9
      rw [if_pos h9] at hn
      split
      · rfl
      rename_i h10
      rw [if_neg h10] at hn
      split
      · rfl
      rename_i h11
      rw [if_neg h11] at hn
      exact In.link_bad hn
    rename_i h9
    rw [if_neg h9] at hn
    split
    · rfl
    rename_i h10
    rw [if_neg h10] at hn
    exact In.rename_bad hn
  rw [key]
end Fs
namespace Ol
theorem replay_snoc (d : FsD) (l : List LogD) (x : LogD) : replay d (l ++ [x]) = again (replay d l) x := by
  unfold replay
  rw [List.foldl_append]
  rfl
/-- Two disks: the second has done just the first 'k' that were logged by the first. -/
structure Two (k : Nat) (D E : DskD) : Prop where
  now : D.now = replay D.base D.log
  base : E.base = D.base
  log : E.log = D.log.take k
  now2 : E.now = replay E.base E.log
theorem two_new (k : Nat) (q : Int) : Two k (new q) (new q) := ⟨rfl, rfl, by simp [new], rfl⟩
section
variable {k N : Nat} {D E : DskD} {o : Int} {p : OpD}
theorem do_now (hp : p.kind ≠ 14) : do_ D o p = ((Fs.do_ D.now o p).1, doN D o p) := if_neg hp
theorem len_doN (h : ¬ logs (Fs.do_ D.now o p).1 p) : (doN D o p).log = D.log := by
  show (if logs (Fs.do_ D.now o p).1 p then D.log ++ [(o, some p)] else D.log) = D.log
  exact if_neg h
theorem log_doN (h : logs (Fs.do_ D.now o p).1 p) : (doN D o p).log = D.log ++ [(o, some p)] := by
  show (if logs (Fs.do_ D.now o p).1 p then D.log ++ [(o, some p)] else D.log) = _
  exact if_pos h
/-- What was not logged leaves both as they were. -/
theorem two_not (h : Two k D E) (I : FInv N D.now) (hl : ¬ logs (Fs.do_ D.now o p).1 p) : Two k (doN D o p) E := by
  have e : doN D o p = D := by
    show (⟨(Fs.do_ D.now o p).2, D.base, (doN D o p).log⟩ : DskD) = D
    rw [len_doN hl, Fs.stays I.inv o p hl]
  rw [e]
  exact h
/-- What was logged, and is beyond the first 'k'. -/
theorem two_more (h : Two k D E) (hl : logs (Fs.do_ D.now o p).1 p) (hk : k ≤ D.log.length) : Two k (doN D o p) E := by
  refine ⟨?_, h.base, ?_, h.now2⟩
  · show (Fs.do_ D.now o p).2 = replay D.base (doN D o p).log
    rw [log_doN hl, replay_snoc, ← h.now]
    rfl
  · rw [log_doN hl, List.take_append_of_le_length hk]
    exact h.log
/-- What was logged, and is one of the first 'k'. -/
theorem two_both (h : Two k D E) (hl : logs (Fs.do_ D.now o p).1 p) (hk : D.log.length < k) : E.now = D.now ∧ logs (Fs.do_ E.now o p).1 p ∧ Two k (doN D o p) (doN E o p) := by
  have e1 : E.log = D.log := by rw [h.log, List.take_of_length_le (by omega)]
  have e2 : E.now = D.now := by rw [h.now2, h.base, e1, ← h.now]
  refine ⟨e2, by rw [e2]; exact hl, ?_, h.base, ?_, ?_⟩
  · show (Fs.do_ D.now o p).2 = replay D.base (doN D o p).log
    rw [log_doN hl, replay_snoc, ← h.now]
    rfl
  · rw [log_doN hl, log_doN (D := E) (by rw [e2]; exact hl), e1, List.take_of_length_le (by rw [List.length_append, List.length_singleton]; omega)]
  · show (Fs.do_ E.now o p).2 = replay E.base (doN E o p).log
    rw [log_doN (D := E) (by rw [e2]; exact hl), replay_snoc, ← h.now2]
    rfl
theorem two_len (h : Two k D E) : E.log.length = min k D.log.length := by rw [h.log, List.length_take]
theorem two_cut (h : Two k D E) : cut D k = cut E k := by
  have e : cutFs D k = cutFs E k := by
    unfold cutFs
    have e1 : (max 0 (min (k : Int) D.log.length)).toNat = min k D.log.length := by omega
    have e2 : (max 0 (min (k : Int) E.log.length)).toNat = min k E.log.length := by omega
    rw [e1, e2, h.base, two_len h, h.log, List.take_take]
    have e3 : min (min k (min k D.log.length)) k = min k D.log.length := by omega
    rw [e3]
  unfold cut
  rw [e]
end
end Ol
end Go.Proofs.YtcicjklhbnipcaaGreatDoor
namespace Go.Proofs.YtcicjklhbnipcaaGreatDoor
set_option linter.unusedVariables false
set_option linter.unusedSimpArgs false
open Go.RowKit Go.Maps
/-- What is logged, and where its variables lie. -/
abbrev LogV := LogD × (Nat × Nat)
def LogV.val (z : LogV) : Value := match z.1.2 with
  | some _ => .func (.func 83) #[] #[.pointer (some ⟨z.2.1, 0, none⟩), .pointer (some ⟨z.2.2, 0, none⟩)]
  | none => .func (.func 90) #[] #[.pointer (some ⟨z.2.1, 0, none⟩)]
def LogV.ents (z : LogV) : List Ent := match z.1.2 with
  | some p => [(z.2.1, true, .cells [.int .i64 z.1.1] 3), (z.2.2, true, .cells p.cells 34)]
  | none => [(z.2.1, true, .cells [.int .i64 z.1.1] 3)]
theorem logE_flag (zs : List LogV) : flagged (zs.flatMap LogV.ents) := fun x hx => by
  obtain ⟨z, -, hx⟩ := List.mem_flatMap.1 hx
  unfold LogV.ents at hx
  split at hx
  · simp only [List.mem_cons, List.not_mem_nil, or_false] at hx
    rcases hx with rfl | rfl <;> rfl
  · simp only [List.mem_cons, List.not_mem_nil, or_false] at hx
    subst hx
    rfl
/-- Where a disk lies. -/
structure DskX where
  b : Nat
  now : FsX
  sure : FsX
  s : Option (Nat × Nat)
  zs : List LogV
def dskE (b f g : Nat) (s : Option (Nat × Nat)) (n : Nat) : Ent := (b, true, .cells [.pointer (some ⟨f, 0, none⟩), .pointer (some ⟨g, 0, none⟩), slV s n] 81)
abbrev logL (s : Option (Nat × Nat)) (vs : List Value) : List Ent := slL s vs 138 1
def dskL (X : DskX) (β γ : Int → Nat × Nat) (D : DskD) : List Ent := dskE X.b X.now.f X.sure.f X.s X.zs.length :: (fsL X.now β D.now ++ (logL X.s (X.zs.map LogV.val) ++ (fsL X.sure γ D.base ++ X.zs.flatMap LogV.ents)))
structure DskOk (X : DskX) (D : DskD) : Prop where
  log : X.zs.map (·.1) = D.log
  sl : SlOK X.s X.zs.length (X.zs.map LogV.val) 1
theorem dskL_flag (X : DskX) (β γ : Int → Nat × Nat) (D : DskD) : flagged (dskL X β γ D) := fun y hy => by
  unfold dskL at hy
  rcases List.mem_cons.1 hy with rfl | hy
  · rfl
  rcases List.mem_append.1 hy with hy | hy
  · exact fsL_flag _ _ _ y hy
  rcases List.mem_append.1 hy with hy | hy
  · exact slL_flag _ _ _ _ y hy
  rcases List.mem_append.1 hy with hy | hy
  · exact fsL_flag _ _ _ y hy
  · exact logE_flag _ y hy
/-- A disk that is right stands here. -/
structure DskAt (N : Nat) (X : DskX) (β γ : Int → Nat × Nat) (D : DskD) (w : World) : Prop where
  at_ : At (dskL X β γ D) w
  ok : DskOk X D
  inv : Ol.Inv N D
  mx : Mx w
  zero : 0 ∉ keysOf (dskL X β γ D)
/-- Since 'w' the disk has become this one. -/
def DGoes (w : World) (X : DskX) (β γ : Int → Nat × Nat) (D : DskD) (w' : World) (D' : DskD) : Prop := ∃ X' β' γ', DskX.b X' = X.b ∧ DskOk X' D' ∧ St w (keysOf (dskL X β γ D)) w' (dskL X' β' γ' D')
section
variable {N : Nat} {X : DskX} {x y : FsX} {β γ : Int → Nat × Nat} {D : DskD} {d : FsD} {w w' w0 : World} {F : List Nat} {L L' M M' : List Ent} {b f g n : Nat} {s : Option (Nat × Nat)}
theorem At.sub (h : At L w) (hs : M.Sublist L) : At M w := ⟨fun x hx => h.has x (hs.subset hx), (hs.map _).nodup h.nd⟩
theorem keys_sub {M L : List Ent} (hs : M.Sublist L) {k : Nat} (h : k ∉ keysOf L) : k ∉ keysOf M := fun hm => h ((hs.map _).subset hm)
theorem DskAt.below (h : DskAt N X β γ D w) (hb : Below w.heap.size w w') : DskAt N X β γ D w' := ⟨h.at_.below hb, h.ok, h.inv, h.mx.below hb, h.zero⟩
theorem now_sub : (fsL X.now β D.now).Sublist (dskL X β γ D) := by
  unfold dskL
  exact ((List.sublist_append_left _ _)).cons _
theorem DskAt.now (h : DskAt N X β γ D w) : FsAt N X.now β D.now w := ⟨h.at_.sub now_sub, h.inv.now.inv, h.mx, keys_sub now_sub h.zero⟩
theorem DskAt.row (h : DskAt N X β γ D w) : (dskE X.b X.now.f X.sure.f X.s X.zs.length).2.2.holds w.heap[X.b]? := h.at_.has (dskE X.b X.now.f X.sure.f X.s X.zs.length) (by unfold dskL; exact .head _)
/-- The disk that a state holds. -/
theorem St.dsk (hM : St w0 F w L) (hs : Part L (dskL X β γ D)) (hk : DskOk X D) (hI : Ol.Inv N D) (hm : Mx w0) (h0 : 0 ∉ F) : DskAt N X β γ D w := by
  refine ⟨hM.part hs, hk, hI, hM.mx hm h0, fun h => ?_⟩
  obtain ⟨y, hy, e⟩ := List.mem_map.1 h
  obtain ⟨A, B, rfl⟩ := hs.split
  rcases hM.own y (by simp [hy]) (dskL_flag X β γ D y hy) with h1 | h1
  · rw [e] at h1; exact h0 h1
  · have := hm.pos
    omega
/-- One block that is read. -/
theorem St.one {r : Res} (h : r.holds w.heap[b]?) : St w [] w [(b, false, r)] := (St.start w []).learn h nofun nofun
set_option maxHeartbeats 4000000 in
set_option maxRecDepth 100000 in
theorem dgiven_any (h : (dskE b f g s n).2.2.holds w.heap[b]?) : Calls Tryz.prog 76 #[.pointer (some ⟨b, 0, none⟩)] w fun e w' => e = .returned (.bool true) ∧ w = w' := by
  have hM := St.one h
  clear h
  unfold dskE at hM
  go_enter Tryz.func76, Tryz.ntmps76
  (repeat (first | ((with_reducible show wpSeq _ _ _ _ _ _ _); first | ((with_reducible refine wpSeq_nil ?_); refine hKr.out _ _ ?_; clear hKr Kr) | ((first | (refine St.copy (v := ?_) (by first | exact .inl rfl | exact .inr rfl) rfl rfl ?_ ?_; rotate_left; (focus ((try simp only [Act.eval, getD_lit, List.getD_cons_zero, List.getD_cons_succ]); with_reducible rfl))) | (refine St.pure (v := ?_) rfl rfl rfl (fun w => ?_) ?_; rotate_left; (focus (go_simp; all_goals with_reducible rfl))) | refine St.load rfl hM rfl rfl rfl rfl (by repeat constructor) (by rfl) (by kernel_rfl) ?_); (try simp only [Act.put, List.setIfInBounds_toArray, List.set_cons_zero, List.set_cons_succ]))) | (first | (refine wp_seq_shut (fun K hK => ?_)) | (refine wp_text hM (fun Kr hKr => ?_); simp only [inText]) | ((refine hK.out _ _ ?_); clear hK K))))
  (refine wp_ret ?_; (try simp only [Exit.then, Exit.inBlock]); refine St.ret hM rfl (by repeat (first | exact Outs.nil | apply Outs.tmp rfl)) rfl ?_)
  exact ⟨rfl, rfl⟩
set_option maxHeartbeats 4000000 in
set_option maxRecDepth 100000 in
theorem dLogged_any (h : (dskE b f g s n).2.2.holds w.heap[b]?) {xs : List Value} (hk : SlOK s n xs 1) : Calls Tryz.prog 31 #[.pointer (some ⟨b, 0, none⟩)] w fun e w' => e = .returned (.int .i64 n) ∧ Below w.heap.size w w' := by
  have hM := St.one h
  clear h
  unfold dskE at hM
  obtain ⟨va, vc, hv, -⟩ := slV_open hk
  rw [hv] at hM
  go_enter Tryz.func31, Tryz.ntmps31
  (repeat (first | ((with_reducible show wpSeq _ _ _ _ _ _ _); first | ((with_reducible refine wpSeq_nil ?_); refine hKr.out _ _ ?_; clear hKr Kr) | ((first | (refine St.copy (v := ?_) (by first | exact .inl rfl | exact .inr rfl) rfl rfl ?_ ?_; rotate_left; (focus ((try simp only [Act.eval, getD_lit, List.getD_cons_zero, List.getD_cons_succ]); with_reducible rfl))) | (refine St.pure (v := ?_) rfl rfl rfl (fun w => ?_) ?_; rotate_left; (focus (go_simp; all_goals with_reducible rfl))) | refine St.load rfl hM rfl rfl rfl rfl (by repeat constructor) (by rfl) (by kernel_rfl) ?_); (try simp only [Act.put, List.setIfInBounds_toArray, List.set_cons_zero, List.set_cons_succ]))) | (first | (refine wp_seq_shut (fun K hK => ?_)) | (refine wp_text hM (fun Kr hKr => ?_); simp only [inText]) | refine wp_skip ?_ | (refine wp_cond_false rfl ?_) | ((refine hK.out _ _ ?_); clear hK K))))
  (refine wp_ret ?_; (try simp only [Exit.then, Exit.inBlock]); refine St.ret hM rfl (by repeat (first | exact Outs.nil | apply Outs.tmp rfl)) rfl ?_)
  exact ⟨rfl, hM.to_below⟩
set_option maxHeartbeats 4000000 in
set_option maxRecDepth 100000 in
theorem dUsed_any (h : (dskE b x.f g s n).2.2.holds w.heap[b]?) (hA : FsAt N x β d w) : Calls Tryz.prog 35 #[.pointer (some ⟨b, 0, none⟩)] w fun e w' => e = .returned (.int .i64 d.t.used) ∧ Below w.heap.size w w' := by
  have hM := St.one h
  have HW := Lib.hid h
  unfold dskE at hM
  go_enter Tryz.func35, Tryz.ntmps35
  (repeat (first | ((with_reducible show wpSeq _ _ _ _ _ _ _); first | ((with_reducible refine wpSeq_nil ?_); refine hKr.out _ _ ?_; clear hKr Kr) | (((refine St.copy (v := ?_) (by first | exact .inl rfl | exact .inr rfl) rfl rfl ?_ ?_; rotate_left; (focus ((try simp only [Act.eval, getD_lit, List.getD_cons_zero, List.getD_cons_succ]); with_reducible rfl)))); (try simp only [Act.put, List.setIfInBounds_toArray, List.set_cons_zero, List.set_cons_succ]))) | (first | (refine wp_seq_shut (fun K hK => ?_)) | (refine wp_text hM (fun Kr hKr => ?_); simp only [inText]) | ((refine hK.out _ _ ?_); clear hK K))))
  ((refine St.call rfl rfl rfl (by kernel_rfl) (fun R hR => ?_); simp only [List.map_toArray, List.map_cons, List.map_nil, Act.eval, getD_lit, List.getD_cons_zero, List.getD_cons_succ]))
  refine (dgiven_any (hM.only.holds HW.out)).mono ?_
  rintro e w' ⟨rfl, rfl⟩; refine hR.out _ _ (fun h => h) ?_; clear hR R; (try simp only [Act.put, List.setIfInBounds_toArray, List.set_cons_zero, List.set_cons_succ])
  (repeat (first | ((with_reducible show wpSeq _ _ _ _ _ _ _); first | ((with_reducible refine wpSeq_nil ?_); refine hKr.out _ _ ?_; clear hKr Kr) | ((first | (refine St.copy (v := ?_) (by exact .inl rfl) rfl rfl ?_ ?_; rotate_left; (focus ((try simp only [Act.eval, getD_lit, List.getD_cons_zero, List.getD_cons_succ]); with_reducible rfl))) | (refine St.pure (v := ?_) rfl rfl rfl (fun w => ?_) ?_; rotate_left; (focus (go_simp; all_goals with_reducible rfl))) | refine St.load rfl hM rfl rfl rfl rfl (by repeat constructor) (by rfl) (by kernel_rfl) ?_); (try simp only [Act.put, List.setIfInBounds_toArray, List.set_cons_zero, List.set_cons_succ]))) | (first | (refine wp_seq_shut (fun K hK => ?_)) | (refine wp_text hM (fun Kr hKr => ?_); simp only [inText]) | refine wp_skip ?_ | (refine wp_cond_false rfl ?_) | ((refine hK.out _ _ ?_); clear hK K))))
  ((refine St.call rfl rfl rfl (by kernel_rfl) (fun R hR => ?_); simp only [List.map_toArray, List.map_cons, List.map_nil, Act.eval, getD_lit, List.getD_cons_zero, List.getD_cons_succ]))
  refine (fUsed_any (hA.below hM.to_below)).mono ?_
  rintro e w' ⟨rfl, hb⟩; replace hM := hM.below hb; (refine hR.out _ _ (fun _ => ⟨hM.only, nofun⟩) ?_); clear hR R hb; (try simp only [Act.put, List.setIfInBounds_toArray, List.set_cons_zero, List.set_cons_succ])
  (repeat (first | ((with_reducible show wpSeq _ _ _ _ _ _ _); first | ((with_reducible refine wpSeq_nil ?_); refine hKr.out _ _ ?_; clear hKr Kr) | (((refine St.copy (v := ?_) (by exact .inr rfl) rfl rfl ?_ ?_; rotate_left; (focus ((try simp only [Act.eval, getD_lit, List.getD_cons_zero, List.getD_cons_succ]); with_reducible rfl)))); (try simp only [Act.put, List.setIfInBounds_toArray, List.set_cons_zero, List.set_cons_succ]))) | (((refine hK.out _ _ ?_); clear hK K))))
  (refine wp_ret ?_; (try simp only [Exit.then, Exit.inBlock]); refine St.ret hM rfl (by repeat (first | exact Outs.nil | apply Outs.tmp rfl)) rfl ?_)
  exact ⟨rfl, hM.to_below⟩
set_option maxHeartbeats 4000000 in
set_option maxRecDepth 100000 in
/-- What is now is what is sure. -/
theorem syncs_any (hA : FsAt N x β d w) (hN : N ≤ 1000000000) (h : At (dskE b x.f g s n :: fsL x β d) w) : Calls Tryz.prog 80 #[.pointer (some ⟨b, 0, none⟩)] w fun e w' => e = .returned (.tuple #[]) ∧ ∃ x' γ', St w [b] w' (dskE b x.f (FsX.f x') none 0 :: fsL x' γ' d) := by
  have hM : St w [b] w [dskE b x.f g s n] := (h.sub (M := [dskE b x.f g s n]) (by simp)).st
  have hap : ∀ k ∈ keysOf (fsL x β d), k ∉ [b] := fun k hk hm => by
    have := h.nd
    unfold keysOf at this hk
    rw [List.map_cons, List.nodup_cons] at this
    rcases List.mem_singleton.1 hm with rfl
    exact this.1 hk
  have HF := Lib.hid hA
  clear h hA
  unfold dskE at hM
  go_enter Tryz.func80, Tryz.ntmps80
  (repeat (first | ((with_reducible show wpSeq _ _ _ _ _ _ _); ((first | (refine St.copy (v := ?_) (by exact .inl rfl) rfl rfl ?_ ?_; rotate_left; (focus ((try simp only [Act.eval, getD_lit, List.getD_cons_zero, List.getD_cons_succ]); with_reducible rfl))) | (refine St.pure (v := ?_) rfl rfl rfl (fun w => ?_) ?_; rotate_left; (focus (go_simp; all_goals with_reducible rfl))) | refine St.load rfl hM rfl rfl rfl rfl (by repeat constructor) (by rfl) (by kernel_rfl) ?_); (try simp only [Act.put, List.setIfInBounds_toArray, List.set_cons_zero, List.set_cons_succ]))) | ((refine wp_text hM (fun Kr hKr => ?_); simp only [inText]))))
  ((refine St.call rfl rfl rfl (by kernel_rfl) (fun R hR => ?_); simp only [List.map_toArray, List.map_cons, List.map_nil, Act.eval, getD_lit, List.getD_cons_zero, List.getD_cons_succ]))
  refine (fClone_any HF.out hN).mono ?_
  rintro e w' ⟨x', γ', rfl, hN2⟩
  replace hM := hM.madeM hN2 (fsL_flag _ _ _)
  refine hR.out _ _ (fun h => h.below hN2.to_below) ?_; clear hR R hN2
  replace hM := hM.perm (L' := _ :: fsL x' γ' d) (List.perm_append_comm)
  (try simp only [Act.put, List.setIfInBounds_toArray, List.set_cons_zero, List.set_cons_succ])
  (repeat (((with_reducible show wpSeq _ _ _ _ _ _ _); first | ((with_reducible refine wpSeq_nil ?_); refine hKr.out _ _ ?_; clear hKr Kr) | ((first | (refine St.pure (v := ?_) rfl rfl rfl (fun w => ?_) ?_; rotate_left; (focus (go_simp; all_goals with_reducible rfl))) | ((((refine St.store rfl hM rfl rfl rfl rfl rfl (by repeat constructor) (Nat.le_of_ble_eq_true rfl) (by kernel_rfl) rfl ?_ ?_); (focus ((intro h; cases h; done))); clear hM; intro w hM)); (try simp only [Res.put, Res.known, Act.eval, Value.cells, getD_lit, List.getD_cons_zero, List.getD_cons_succ, List.toList_toArray, List.set_cons_zero, List.set_cons_succ, over, Nat.reduceAdd] at hM))); (try simp only [Act.put, List.setIfInBounds_toArray, List.set_cons_zero, List.set_cons_succ])))))
  ((refine St.fin hM rfl (by repeat (exact Outs.nil)) rfl ?_))
  exact ⟨rfl, x', γ', hM⟩
set_option maxHeartbeats 4000000 in
set_option maxRecDepth 100000 in
/-- Something is logged. -/
theorem logs_any {vs : List Value} {fid : FuncId} {caps : Array Value} (hk : SlOK s n vs 1) (hn : n ≤ 1000000000) (h : At (dskE b f g s n :: logL s vs) w) : Calls Tryz.prog 82 #[.pointer (some ⟨b, 0, none⟩), .func (.func fid) #[] caps] w fun e w' => e = .returned (.tuple #[]) ∧ ∃ s', SlOK s' (n + 1) (vs ++ [.func (.func fid) #[] caps]) 1 ∧ St w (keysOf (dskE b f g s n :: logL s vs)) w' (dskE b f g s' (n + 1) :: logL s' (vs ++ [.func (.func fid) #[] caps])) := by
  have hM := h.st
  obtain ⟨F, hF⟩ : ∃ F, keysOf (dskE b f g s n :: logL s vs) = F := ⟨_, rfl⟩
  rw [hF] at hM ⊢
  have HK := Lib.hid hk
  clear hF h hk
  unfold dskE at hM
  go_enter Tryz.func82, Tryz.ntmps82
  (repeat (first | ((with_reducible show wpSeq _ _ _ _ _ _ _); ((first | (refine St.copy (v := ?_) (by exact .inl rfl) rfl rfl ?_ ?_; rotate_left; (focus ((try simp only [Act.eval, getD_lit, List.getD_cons_zero, List.getD_cons_succ]); with_reducible rfl))) | (refine St.pure (v := ?_) rfl rfl rfl (fun w => ?_) ?_; rotate_left; (focus (go_simp; all_goals with_reducible rfl))) | refine St.load rfl hM rfl rfl rfl rfl (by repeat constructor) (by rfl) (by kernel_rfl) ?_ | (((((refine St.buildSlice (cells := ?_) (e := ?_) rfl hM rfl rfl (fun w => ?_) ?_; rotate_left 2; (focus (go_simp; all_goals with_reducible rfl)))); clear hM; intro w bk hM)); (try simp only [Res.put, Res.known, Act.eval, Value.cells, getD_lit, List.getD_cons_zero, List.getD_cons_succ, List.toList_toArray, List.set_cons_zero, List.set_cons_succ, over, Nat.reduceAdd] at hM))); (try simp only [Act.put, List.setIfInBounds_toArray, List.set_cons_zero, List.set_cons_succ]))) | ((refine wp_text hM (fun Kr hKr => ?_); simp only [inText]))))
  refine St.append (s := s) (n := n) (xs := vs) rfl hM rfl rfl rfl rfl rfl (by kernel_rfl) (by intro s'; repeat (first | exact Swap.all | apply Swap.skip)) HK.out rfl (hM.news (by repeat constructor)) rfl (by rw [maxLen_val]; omega) (by omega) (fun h => by cases h) ?_
  clear hM; intro w s' hM hk' hs'
  simp only [Res.known] at hM hk'
  obtain ⟨va, vc, hv, -⟩ := slV_open hk'
  rw [hv]
  have HK' := Lib.hid hk'
  clear hk' hs'
  (try simp only [Act.put, List.setIfInBounds_toArray, List.set_cons_zero, List.set_cons_succ])
  (repeat (((with_reducible show wpSeq _ _ _ _ _ _ _); first | ((with_reducible refine wpSeq_nil ?_); refine hKr.out _ _ ?_; clear hKr Kr) | ((first | (refine St.pure (v := ?_) rfl rfl rfl (fun w => ?_) ?_; rotate_left; (focus (go_simp; all_goals with_reducible rfl))) | ((((refine St.store rfl hM rfl rfl rfl rfl rfl (by repeat constructor) (Nat.le_of_ble_eq_true rfl) (by kernel_rfl) rfl ?_ ?_); (focus ((intro h; cases h; done))); clear hM; intro w hM)); (try simp only [Res.put, Res.known, Act.eval, Value.cells, getD_lit, List.getD_cons_zero, List.getD_cons_succ, List.toList_toArray, List.set_cons_zero, List.set_cons_succ, over, Nat.reduceAdd] at hM))); (try simp only [Act.put, List.setIfInBounds_toArray, List.set_cons_zero, List.set_cons_succ])))))
  rw [← hv] at hM
  ((refine St.fin hM rfl (by repeat (exact Outs.nil)) rfl ?_))
  exact ⟨rfl, s', HK'.out, hM.forget⟩
set_option maxHeartbeats 4000000 in
set_option maxRecDepth 100000 in
theorem dFiles_any (h : (dskE b x.f g s n).2.2.holds w.heap[b]?) (hA : FsAt N x β d w) (hup : In.Up d.t) (hN : N ≤ 1000000) : Calls Tryz.prog 29 #[.pointer (some ⟨b, 0, none⟩)] w (SomeFiles (Fs.files d) w) := by
  have hM := St.one h
  have HW := Lib.hid h
  unfold dskE at hM
  go_enter Tryz.func29, Tryz.ntmps29
  (repeat (first | ((with_reducible show wpSeq _ _ _ _ _ _ _); first | ((with_reducible refine wpSeq_nil ?_); refine hKr.out _ _ ?_; clear hKr Kr) | (((refine St.copy (v := ?_) (by first | exact .inl rfl | exact .inr rfl) rfl rfl ?_ ?_; rotate_left; (focus ((try simp only [Act.eval, getD_lit, List.getD_cons_zero, List.getD_cons_succ]); with_reducible rfl)))); (try simp only [Act.put, List.setIfInBounds_toArray, List.set_cons_zero, List.set_cons_succ]))) | (first | (refine wp_seq_shut (fun K hK => ?_)) | (refine wp_text hM (fun Kr hKr => ?_); simp only [inText]) | ((refine hK.out _ _ ?_); clear hK K))))
  ((refine St.call rfl rfl rfl (by kernel_rfl) (fun R hR => ?_); simp only [List.map_toArray, List.map_cons, List.map_nil, Act.eval, getD_lit, List.getD_cons_zero, List.getD_cons_succ]))
  refine (dgiven_any (hM.only.holds HW.out)).mono ?_
  rintro e w' ⟨rfl, rfl⟩; refine hR.out _ _ (fun h => h) ?_; clear hR R; (try simp only [Act.put, List.setIfInBounds_toArray, List.set_cons_zero, List.set_cons_succ])
  (repeat (first | ((with_reducible show wpSeq _ _ _ _ _ _ _); first | ((with_reducible refine wpSeq_nil ?_); refine hKr.out _ _ ?_; clear hKr Kr) | ((first | (refine St.copy (v := ?_) (by exact .inl rfl) rfl rfl ?_ ?_; rotate_left; (focus ((try simp only [Act.eval, getD_lit, List.getD_cons_zero, List.getD_cons_succ]); with_reducible rfl))) | (refine St.pure (v := ?_) rfl rfl rfl (fun w => ?_) ?_; rotate_left; (focus (go_simp; all_goals with_reducible rfl))) | refine St.load rfl hM rfl rfl rfl rfl (by repeat constructor) (by rfl) (by kernel_rfl) ?_); (try simp only [Act.put, List.setIfInBounds_toArray, List.set_cons_zero, List.set_cons_succ]))) | (first | (refine wp_seq_shut (fun K hK => ?_)) | (refine wp_text hM (fun Kr hKr => ?_); simp only [inText]) | refine wp_skip ?_ | (refine wp_cond_false rfl ?_) | ((refine hK.out _ _ ?_); clear hK K))))
  ((refine St.call rfl rfl rfl (by kernel_rfl) (fun R hR => ?_); simp only [List.map_toArray, List.map_cons, List.map_nil, Act.eval, getD_lit, List.getD_cons_zero, List.getD_cons_succ]))
  refine (fFiles_any (hA.below hM.to_below) hup hN).mono ?_
  rintro e w' ⟨s1, rfl, hk, hN2⟩
  replace hM := hM.madeM hN2 (slL_flag _ _ _ _)
  refine hR.out _ _ (fun h => ⟨hM.only, nofun⟩) ?_; clear hR R hN2; (try simp only [Act.put, List.setIfInBounds_toArray, List.set_cons_zero, List.set_cons_succ])
  (repeat (first | ((with_reducible show wpSeq _ _ _ _ _ _ _); first | ((with_reducible refine wpSeq_nil ?_); refine hKr.out _ _ ?_; clear hKr Kr) | (((refine St.copy (v := ?_) (by exact .inr rfl) rfl rfl ?_ ?_; rotate_left; (focus ((try simp only [Act.eval, getD_lit, List.getD_cons_zero, List.getD_cons_succ]); with_reducible rfl)))); (try simp only [Act.put, List.setIfInBounds_toArray, List.set_cons_zero, List.set_cons_succ]))) | (((refine hK.out _ _ ?_); clear hK K))))
  ((refine wp_ret ?_; (try simp only [Exit.then, Exit.inBlock]); refine St.ret hM rfl (by repeat (first | exact Outs.nil | apply Outs.tmp rfl)) rfl ?_))
  exact ⟨s1, rfl, hk, St.front hM⟩
set_option maxHeartbeats 4000000 in
set_option maxRecDepth 100000 in
theorem dNew_any (q : Int) (w : World) (hq : In.newE q = 0) (hX : Mx w) : Calls Tryz.prog 23 #[.int .i64 q] w fun e w' => ∃ X β γ, e = .returned (.tuple #[.pointer (some ⟨DskX.b X, 0, none⟩), .int .i64 0]) ∧ DskOk X (Ol.new q) ∧ St w [] w' (dskL X β γ (Ol.new q)) := by
  have hM := St.start w []
  have HX := Lib.hid hX
  have F0 : 0 ∉ ([] : List Nat) := nofun
  have CN := Lib.hid (fun W : World => fNew_any q W hq)
  have I0 := Lib.hid (show Fs.Inv 1 (Fs.new q) from by
    unfold In.newE at hq
    by_cases c : (decide (q < 64) || decide (1099511627776 < q)) = true
    · rw [if_pos c] at hq; cases hq
    · simp only [Bool.or_eq_true, decide_eq_true_eq] at c
      exact Fs.inv_new (by omega) (by omega))
  clear hq hX
  go_enter Tryz.func23, Tryz.ntmps23
  (repeat (first | ((with_reducible show wpSeq _ _ _ _ _ _ _); first | ((with_reducible refine wpSeq_nil ?_); refine hKr.out _ _ ?_; clear hKr Kr) | (((refine St.copy (v := ?_) (by first | exact .inl rfl | exact .inr rfl) rfl rfl ?_ ?_; rotate_left; (focus ((try simp only [Act.eval, getD_lit, List.getD_cons_zero, List.getD_cons_succ]); with_reducible rfl)))); (try simp only [Act.put, List.setIfInBounds_toArray, List.set_cons_zero, List.set_cons_succ]))) | (first | (refine wp_seq_shut (fun K hK => ?_)) | (refine wp_text hM (fun Kr hKr => ?_); simp only [inText]) | ((refine hK.out _ _ ?_); clear hK K))))
  ((refine St.call rfl rfl rfl (by kernel_rfl) (fun R hR => ?_); simp only [List.map_toArray, List.map_cons, List.map_nil, Act.eval, getD_lit, List.getD_cons_zero, List.getD_cons_succ]))
  refine (CN.out _).mono ?_
  rintro e w' ⟨x, β, rfl, hN⟩
  replace hM := hM.madeM hN (fsL_flag _ _ _)
  refine hR.out _ _ (fun h => h.below hN.to_below) ?_; clear hR R hN
  (try simp only [Act.put, List.setIfInBounds_toArray, List.set_cons_zero, List.set_cons_succ])
  (repeat (first | ((with_reducible show wpSeq _ _ _ _ _ _ _); first | ((with_reducible refine wpSeq_nil ?_); refine hKr.out _ _ ?_; clear hKr Kr) | ((first | (refine St.copy (v := ?_) (by first | exact .inl rfl | exact .inr rfl) rfl rfl ?_ ?_; rotate_left; (focus ((try simp only [Act.eval, getD_lit, List.getD_cons_zero, List.getD_cons_succ]); with_reducible rfl))) | (refine St.pure (v := ?_) rfl rfl rfl (fun w => ?_) ?_; rotate_left; (focus (go_simp; all_goals with_reducible rfl)))); (try simp only [Act.put, List.setIfInBounds_toArray, List.set_cons_zero, List.set_cons_succ]))) | (first | (refine wp_seq_shut (fun K hK => ?_)) | (refine wp_text hM (fun Kr hKr => ?_); simp only [inText]) | refine wp_skip ?_ | (refine wp_cond_false rfl ?_) | ((refine hK.out _ _ ?_); clear hK K))))
  ((refine St.call rfl rfl rfl (by kernel_rfl) (fun R hR => ?_); simp only [List.map_toArray, List.map_cons, List.map_nil, Act.eval, getD_lit, List.getD_cons_zero, List.getD_cons_succ]))
  refine (fClone_any (hM.fs (x := x) (β := β) (d := Fs.new q) (by repeat (exact Part.all)) I0.out HX.out F0) (by decide)).mono ?_
  rintro e w' ⟨x', γ, rfl, hN⟩
  replace hM := hM.madeM hN (fsL_flag _ _ _)
  refine hR.out _ _ (fun h => h.below hN.to_below) ?_; clear hR R hN
  (try simp only [Act.put, List.setIfInBounds_toArray, List.set_cons_zero, List.set_cons_succ])
  (repeat (first | ((with_reducible show wpSeq _ _ _ _ _ _ _); first | ((with_reducible refine wpSeq_nil ?_); refine hKr.out _ _ ?_; clear hKr Kr) | ((first | (refine St.copy (v := ?_) (by exact .inr rfl) rfl rfl ?_ ?_; rotate_left; (focus ((try simp only [Act.eval, getD_lit, List.getD_cons_zero, List.getD_cons_succ]); with_reducible rfl))) | (refine St.pure (v := ?_) rfl rfl rfl (fun w => ?_) ?_; rotate_left; (focus (go_simp; all_goals with_reducible rfl))) | ((((refine St.box rfl hM rfl rfl rfl ?_); clear hM; intro w bk hM)); (try simp only [Res.put, Res.known, Act.eval, Value.cells, getD_lit, List.getD_cons_zero, List.getD_cons_succ, List.toList_toArray, List.set_cons_zero, List.set_cons_succ, over, Nat.reduceAdd] at hM))); (try simp only [Act.put, List.setIfInBounds_toArray, List.set_cons_zero, List.set_cons_succ]))) | (((refine hK.out _ _ ?_); clear hK K))))
  ((refine wp_ret ?_; (try simp only [Exit.then, Exit.inBlock]); refine St.ret hM rfl (by repeat (first | exact Outs.nil | apply Outs.tmp rfl)) rfl ?_))
  refine ⟨⟨bk, x, x', none, []⟩, β, γ, rfl, ⟨rfl, ⟨rfl, rfl⟩⟩, ?_⟩
  exact hM.perm (L' := (bk, true, .cells [.pointer (some ⟨x.f, 0, none⟩), .pointer (some ⟨x'.f, 0, none⟩), .slice none 0 0] 81) :: (fsL x β (Fs.new q) ++ ([] ++ (fsL x' γ (Fs.new q) ++ [])))) (perm_by (by intro _ x; simp only [List.append_eq, List.count_append, List.count_cons, List.count_nil, List.cons_append, List.nil_append]; omega))
end
end Go.Proofs.YtcicjklhbnipcaaGreatDoor
namespace Go.Proofs.YtcicjklhbnipcaaGreatDoor
set_option linter.unusedVariables false
set_option linter.unusedSimpArgs false
open Go.RowKit Go.Maps
section
variable {P : Program} {K : Act → World → Prop} {a : Act} {w w0 : World} {ops : Array Oper} {l : List (Oper × Nat)} {o : Oper} {F : List Nat} {L Lr : List Ent} {ty : TypeId}
theorem Held.backM {A B M M' : List Ent} {w' : World} (hM : St w0 F w (A ++ (M ++ B))) (hs : Sub Lr A) (hw : flagged M) (h' : St w (keysOf M) w' M') (hh : Held w0 F Lr w) : Held w0 F Lr w' := by
  have hnd := hM.nd
  simp only [List.map_append, List.nodup_append] at hnd
  obtain ⟨n1, ⟨n2, n3, n4⟩, n5⟩ := hnd
  refine ⟨hh.only.then h'.only (fun k hk => ?_), fun z hz => ?_⟩
  · obtain ⟨z, hz, rfl⟩ := List.mem_map.1 hk
    exact hM.own z (by simp [hz]) (hw z hz)
  · rw [h'.only.block z.1 (hh.has.lt hz) (fun hm => n5 z.1 (List.mem_map_of_mem (hs.mem z hz)) z.1 (by rw [List.mem_append]; exact .inl hm) rfl)]
    exact hh.has z hz
/-- A call that turns a chunk, and a variable that is made beside it, in either order. -/
theorem St.callAllocM {o' : Oper} {c : Nat} {f : FuncId} {ags : Array Operand} {ts : Array TypeId} {args : Array Value} (hx : o.op = .call { callee := .value (.func f), args := ags, argTypes := ts }) (hx' : o'.op = .alloc ty) {A M B : List Ent} (hM : St w0 F w (A ++ (M ++ B))) (hg : o.guard = none) (hg' : o'.guard = none) (hd : ∀ d, o.dst = some d → o'.dst ≠ some d)
    (hf : bodyB P f = true) (he : ags.map a.eval = args) (he' : ∀ p, ags.map (a.put o'.dst p).eval = args) {z : Value} (hz : ((P.info? ty).bind (·.zero)) = some z) (hs : Sub Lr A) (hw : flagged M) {R : Value → List Ent → Prop}
    (hC : ∀ W, St w0 F W (A ++ (M ++ B)) → Calls P f args W fun e w' => ∃ v M', R v M' ∧ e = .returned v ∧ flagged M' ∧ St W (keysOf M) w' M')
    (h : ∀ w' b v M', R v M' → St w0 F w' ((b, true, .cells z.cells.toList ty) :: (A ++ (M' ++ B))) → wpSeq P ops K (Held w0 F Lr) l ((a.put o.dst v).put o'.dst (.pointer (some ⟨b, 0, none⟩))) w') : wpSeq P ops K (Held w0 F Lr) ((o, 4) :: (o', c) :: l) a w := by
  have hsw : ∀ M', Swap (A ++ (M ++ B)) M M' (A ++ (M' ++ B)) := fun M' => .past .here
  refine wpSeq_pair hg hg' ?_ ?_
  · unfold Oper.wp
    rw [run_call w hx hf he, Oper.upon_enter]
    refine (hC w hM).mono fun e w' ⟨v, M', hR, h1, hf', hN⟩ => ?_
    subst h1
    refine ⟨Held.backM hM hs hw hN, ?_⟩
    rw [run_alloc _ hx' hz]
    exact ⟨fun hh => ⟨hh.only.alloc _, hh.has.push _⟩, h _ _ v M' hR ((hM.backM (hsw M') hw hN hf').push _ (by simp [Res.holds]))⟩
  · unfold Oper.wp
    rw [run_alloc w hx' hz]
    refine ⟨fun hh => ⟨hh.only.alloc _, hh.has.push _⟩, ?_⟩
    have hp := hM.push (r := .cells z.cells.toList ty) (.cells z.cells ty) (by simp [Res.holds])
    rw [run_call _ hx hf (he' _), Oper.upon_enter]
    refine (hC _ hp.forget).mono fun e w' ⟨v, M', hR, h1, hf', hN⟩ => ?_
    subst h1
    refine ⟨Held.backM hp.forget hs hw hN, ?_⟩
    rw [← Act.put_comm _ _ _ hd]
    exact h _ _ v M' hR (hp.backM (.skip (hsw M')) hw hN hf')
end
theorem perm_log {α : Type} (a b c d e : α) (t f g h : List α) : (a :: b :: c :: d :: e :: (t ++ (f ++ (g ++ h)))).Perm ((e :: g) ++ (a :: b :: c :: d :: (t ++ (f ++ h)))) := (perm_by (by intro _ x; simp only [List.append_eq, List.count_append, List.count_cons, List.count_nil, List.cons_append, List.nil_append]; omega))
theorem perm_log2 {α : Type} (a b c d e : α) (g r : List α) : ((e :: g) ++ (a :: b :: c :: d :: r)).Perm (a :: b :: c :: d :: e :: (g ++ r)) := (perm_by (by intro _ x; simp only [List.append_eq, List.count_append, List.count_cons, List.count_nil, List.cons_append, List.nil_append]; omega))
theorem perm_log3 {α : Type} (q o e : α) (g t f h l : List α) : (q :: o :: e :: (g ++ (t ++ (f ++ (h ++ l))))).Perm (t ++ (e :: (f ++ (g ++ (h ++ (l ++ [o, q])))))) := (perm_by (by intro _ x; simp only [List.append_eq, List.count_append, List.count_cons, List.count_nil, List.cons_append, List.nil_append]; omega))
theorem dskL_snoc (b : Nat) (x y : FsX) (s : Option (Nat × Nat)) (zs : List LogV) (z : LogV) (β γ : Int → Nat × Nat) (D : DskD) : dskL ⟨b, x, y, s, zs ++ [z]⟩ β γ D = dskE b x.f y.f s (zs.length + 1) :: (fsL x β D.now ++ (logL s (zs.map LogV.val ++ [LogV.val z]) ++ (fsL y γ D.base ++ (zs.flatMap LogV.ents ++ LogV.ents z)))) := by
  unfold dskL
  simp only [List.length_append, List.length_singleton, List.map_append, List.map_singleton, List.flatMap_append, List.flatMap_singleton]
section
variable {N : Nat} {X : DskX} {x y : FsX} {β γ : Int → Nat × Nat} {D : DskD} {d : FsD} {w w' w0 : World} {F : List Nat} {L L' M M' : List Ent} {b f g n : Nat} {s : Option (Nat × Nat)}
/-- What a disk answers, and what it has become. -/
def DDid (w : World) (X : DskX) (β γ : Int → Nat × Nat) (D : DskD) (r : ResD × DskD) (e : Ending) (w' : World) : Prop :=
  ∃ s X' β' γ', e = .returned (.agg #[.int .i64 r.1.err, .int .i64 r.1.n, .string r.1.data, slV s r.1.names.length]) ∧ TxOK s r.1.names ∧ DskX.b X' = X.b ∧ DskOk X' r.2 ∧ St w (keysOf (dskL X β γ D)) w' (txL s r.1.names ++ dskL X' β' γ' r.2)
theorem has369 (k : Int) : (([6, 9, 13] : List Int).take 3).contains k = decide (k = 6 ∨ k = 9 ∨ k = 13) := by
  simp only [List.take_succ_cons, List.take_zero, List.contains_cons, List.contains_nil, Bool.or_false]
  by_cases h1 : k = 6
  · simp [h1]
  by_cases h2 : k = 9
  · simp [h2]
  by_cases h3 : k = 13
  · simp [h3]
  simp [h1, h2, h3]
set_option maxHeartbeats 16000000 in
set_option maxRecDepth 100000 in
theorem dDo_any (h : DskAt N X β γ D w) (hN : N ≤ 999999980) {o : Int} (ho : Fits o) (p : OpD) (hp : p.Ok) :
    Calls Tryz.prog 34 #[.pointer (some ⟨X.b, 0, none⟩), .int .i64 o, .agg p.cells.toArray] w (DDid w X β γ D (Ol.do_ D o p)) := by
  have hM := h.at_.st
  unfold DDid
  obtain ⟨F, hF⟩ : ∃ F, keysOf (dskL X β γ D) = F := ⟨_, rfl⟩
  rw [hF] at hM ⊢
  have F0 : 0 ∉ F := hF ▸ h.zero
  clear hF
  have HI := Lib.hid h.inv
  have HX := Lib.hid h.mx
  have HK := Lib.hid h.ok
  have HP := Lib.hid hp
  by_cases hk : p.kind = 14
  · have e1 : Ol.do_ D o p = (Fs.errR 0, Ol.sync D) := if_pos hk
    rw [e1]
    obtain ⟨pk, pp, pd, ph, pa, pn, px, py, pb⟩ := p
    simp only [OpD.cells] at hk ⊢
    subst hk
    clear h hp e1
    unfold dskL at hM
    unfold dskE at hM
    go_enter Tryz.func34, Tryz.ntmps34
    (repeat (first | ((with_reducible show wpSeq _ _ _ _ _ _ _); first | ((with_reducible refine wpSeq_nil ?_); refine hKr.out _ _ ?_; clear hKr Kr) | ((first | (refine St.copy (v := ?_) (by exact .inl rfl) rfl rfl ?_ ?_; rotate_left; (focus ((try simp only [Act.eval, getD_lit, List.getD_cons_zero, List.getD_cons_succ]); with_reducible rfl))) | ((((refine St.box rfl hM rfl rfl rfl ?_); clear hM; intro w bk hM)); (try simp only [Res.put, Res.known, Act.eval, Value.cells, getD_lit, List.getD_cons_zero, List.getD_cons_succ, List.toList_toArray, List.set_cons_zero, List.set_cons_succ, over, Nat.reduceAdd] at hM))); (try simp only [Act.put, List.setIfInBounds_toArray, List.set_cons_zero, List.set_cons_succ])) | ((((refine St.alloc (ty := 31) (z := .agg #[.int .i64 0, .int .i64 0, .string ⟨#[]⟩, .slice none 0 0]) rfl hM rfl rfl (by kernel_rfl) ?_); clear hM; intro w bk hM)); (try simp only [Res.put, Res.known, Act.eval, Value.cells, getD_lit, List.getD_cons_zero, List.getD_cons_succ, List.toList_toArray, List.set_cons_zero, List.set_cons_succ, over, Nat.reduceAdd] at hM); (try simp only [Act.put, List.setIfInBounds_toArray, List.set_cons_zero, List.set_cons_succ]))) | (first | (refine wp_seq_shut (fun K hK => ?_)) | (refine wp_text hM (fun Kr hKr => ?_); simp only [inText]) | ((refine hK.out _ _ ?_); clear hK K))))
    ((refine St.call rfl rfl rfl (by kernel_rfl) (fun R hR => ?_); simp only [List.map_toArray, List.map_cons, List.map_nil, Act.eval, getD_lit, List.getD_cons_zero, List.getD_cons_succ]))
    refine (dgiven_any (hM.holds (dskE X.b X.now.f X.sure.f X.s X.zs.length) (by repeat constructor))).mono ?_
    rintro e w' ⟨rfl, rfl⟩; refine hR.out _ _ (fun h => h) ?_; clear hR R; (try simp only [Act.put, List.setIfInBounds_toArray, List.set_cons_zero, List.set_cons_succ])
    (repeat (first | ((with_reducible show wpSeq _ _ _ _ _ _ _); first | ((with_reducible refine wpSeq_nil ?_); refine hKr.out _ _ ?_; clear hKr Kr) | ((first | (refine St.copy (v := ?_) (by exact .inl rfl) rfl rfl ?_ ?_; rotate_left; (focus ((try simp only [Act.eval, getD_lit, List.getD_cons_zero, List.getD_cons_succ]); with_reducible rfl))) | (refine St.pure (v := ?_) rfl rfl rfl (fun w => ?_) ?_; rotate_left; (focus (go_simp; all_goals with_reducible rfl))) | refine St.load rfl hM rfl rfl rfl rfl (by repeat constructor) (by rfl) (by kernel_rfl) ?_); (try simp only [Act.put, List.setIfInBounds_toArray, List.set_cons_zero, List.set_cons_succ]))) | (first | (refine wp_seq_shut (fun K hK => ?_)) | (refine wp_text hM (fun Kr hKr => ?_); simp only [inText]) | refine wp_skip ?_ | (first | refine wp_cond_true rfl ?_ | refine wp_cond_false rfl ?_) | ((refine hK.out _ _ ?_); clear hK K))))
    ((refine St.call rfl rfl rfl (by kernel_rfl) (fun R hR => ?_); simp only [List.map_toArray, List.map_cons, List.map_nil, Act.eval, getD_lit, List.getD_cons_zero, List.getD_cons_succ]))
    have hM' : St _ F w (_ :: _ :: _ :: ((dskE X.b X.now.f X.sure.f X.s X.zs.length :: fsL X.now β D.now) ++ (logL X.s (X.zs.map LogV.val) ++ (fsL X.sure γ D.base ++ X.zs.flatMap LogV.ents)))) := hM
    refine (syncs_any (hM.fs (x := X.now) (β := β) (d := D.now) (by repeat (first | exact Part.here | apply Part.skip)) HI.out.now.inv HX.out F0) (by omega) (hM'.part (.skip (.skip (.skip .here))))).mono ?_
    rintro e w' ⟨rfl, x', γ', hN2⟩
    replace hM := hM'.backM (.skip (.skip (.skip .one))) (flag_1 _ _) hN2 (fun y hy => by
      rcases List.mem_cons.1 hy with rfl | hy
      · rfl
      · exact fsL_flag _ _ _ y hy)
    clear hM'
    clear hN2
    refine hR.out _ _ (fun _ => ⟨hM.only, nofun⟩) ?_; clear hR R
    unfold dskE at hM
    (try simp only [Act.put, List.setIfInBounds_toArray, List.set_cons_zero, List.set_cons_succ])
    (repeat (first | ((with_reducible show wpSeq _ _ _ _ _ _ _); first | ((with_reducible refine wpSeq_nil ?_); refine hKr.out _ _ ?_; clear hKr Kr) | ((first | (refine St.pure (v := ?_) rfl rfl rfl (fun w => ?_) ?_; rotate_left; (focus (go_simp; all_goals with_reducible rfl))) | ((((refine St.storeRow rfl hM rfl rfl rfl rfl rfl (by repeat constructor) (Nat.le_of_ble_eq_true rfl) (Nat.le_of_ble_eq_true rfl) (by kernel_rfl) rfl ?_ ?_); (focus ((intro h; cases h; done))); clear hM; intro w hM)); (try simp only [Res.put, Res.known, Act.eval, Value.cells, getD_lit, List.getD_cons_zero, List.getD_cons_succ, List.toList_toArray, List.set_cons_zero, List.set_cons_succ, over, Nat.reduceAdd] at hM))); (try simp only [Act.put, List.setIfInBounds_toArray, List.set_cons_zero, List.set_cons_succ]))) | (first | (refine wp_seq_shut (fun K hK => ?_)) | (refine wp_text hM (fun Kr hKr => ?_); simp only [inText]) | ((refine hK.out _ _ ?_); clear hK K))))
    ((refine wp_ret ?_; (try simp only [Exit.then, Exit.inBlock]); refine St.ret hM rfl (by repeat (first | exact Outs.nil | (apply Outs.row rfl rfl (by repeat constructor) (by kernel_rfl)))) rfl ?_))
    have hS : St _ F w ((dskE X.b X.now.f x'.f none 0 :: fsL x' γ' D.now) ++ fsL X.now β D.now) := hM.subM ((((List.Sublist.append_left (List.sublist_append_left _ _) _).cons _).cons _).cons _)
    refine ⟨none, ⟨X.b, X.now, x', none, []⟩, β, γ', rfl, ⟨rfl, rfl⟩, rfl, ⟨rfl, ⟨rfl, rfl⟩⟩, ?_⟩
    exact hS.perm (L' := dskE X.b X.now.f x'.f none 0 :: (fsL X.now β D.now ++ ([] ++ (fsL x' γ' D.now ++ [])))) (perm_by (by intro _ x; simp only [List.append_eq, List.count_append, List.count_cons, List.count_nil, List.cons_append, List.nil_append]; omega))
  · have e1 : Ol.do_ D o p = ((Fs.do_ D.now o p).1, Ol.doN D o p) := if_neg hk
    rw [e1]
    have C := Lib.hid (fun (W : World) (β' : Int → Nat × Nat) (hA : FsAt N X.now β' D.now W) => fDo_any hA (by omega) ho p hp)
    have HD := Lib.hid (show Ol.doN D o p = ⟨(Fs.do_ D.now o p).2, D.base, if Ol.logs (Fs.do_ D.now o p).1 p then D.log ++ [(o, some p)] else D.log⟩ from rfl)
    obtain ⟨G, hG⟩ : ∃ G, Fs.do_ D.now o p = G := ⟨_, rfl⟩
    rw [hG] at C HD ⊢
    generalize Ol.doN D o p = DN at *
    obtain ⟨⟨er, n, da, ns⟩, d'⟩ := G
    have HO := Lib.hid ho
    have hq : (p.kind == 14) = false := beq_eq_false_iff_ne.2 hk
    obtain ⟨p', hp'⟩ : ∃ p', p = p' := ⟨_, rfl⟩
    obtain ⟨pk, pp, pd, ph, pa, pn, px, py, pb⟩ := p
    simp only [OpD.cells] at C hq ⊢
    clear h hp e1 hk hG ho
    unfold dskL at hM
    unfold dskE at hM
    go_enter Tryz.func34, Tryz.ntmps34
    (repeat (first | ((with_reducible show wpSeq _ _ _ _ _ _ _); first | ((with_reducible refine wpSeq_nil ?_); refine hKr.out _ _ ?_; clear hKr Kr) | ((first | (refine St.copy (v := ?_) (by exact .inl rfl) rfl rfl ?_ ?_; rotate_left; (focus ((try simp only [Act.eval, getD_lit, List.getD_cons_zero, List.getD_cons_succ]); with_reducible rfl))) | ((((refine St.box rfl hM rfl rfl rfl ?_); clear hM; intro w bk hM)); (try simp only [Res.put, Res.known, Act.eval, Value.cells, getD_lit, List.getD_cons_zero, List.getD_cons_succ, List.toList_toArray, List.set_cons_zero, List.set_cons_succ, over, Nat.reduceAdd] at hM))); (try simp only [Act.put, List.setIfInBounds_toArray, List.set_cons_zero, List.set_cons_succ])) | ((((refine St.alloc (ty := 31) (z := .agg #[.int .i64 0, .int .i64 0, .string ⟨#[]⟩, .slice none 0 0]) rfl hM rfl rfl (by kernel_rfl) ?_); clear hM; intro w bk hM)); (try simp only [Res.put, Res.known, Act.eval, Value.cells, getD_lit, List.getD_cons_zero, List.getD_cons_succ, List.toList_toArray, List.set_cons_zero, List.set_cons_succ, over, Nat.reduceAdd] at hM); (try simp only [Act.put, List.setIfInBounds_toArray, List.set_cons_zero, List.set_cons_succ]))) | (first | (refine wp_seq_shut (fun K hK => ?_)) | (refine wp_text hM (fun Kr hKr => ?_); simp only [inText]) | ((refine hK.out _ _ ?_); clear hK K))))
    rename_i w0 wx ob wy qb K hK
    generalize bk = rb at *
    ((refine St.call rfl rfl rfl (by kernel_rfl) (fun R hR => ?_); simp only [List.map_toArray, List.map_cons, List.map_nil, Act.eval, getD_lit, List.getD_cons_zero, List.getD_cons_succ]))
    refine (dgiven_any (hM.holds (dskE X.b X.now.f X.sure.f X.s X.zs.length) (by repeat constructor))).mono ?_
    rintro e w' ⟨rfl, rfl⟩; refine hR.out _ _ (fun h => h) ?_; clear hR R; (try simp only [Act.put, List.setIfInBounds_toArray, List.set_cons_zero, List.set_cons_succ])
    (repeat (first | ((with_reducible show wpSeq _ _ _ _ _ _ _); first | ((with_reducible refine wpSeq_nil ?_); refine hKr.out _ _ ?_; clear hKr Kr) | ((first | (refine St.copy (v := ?_) (by exact .inl rfl) rfl rfl ?_ ?_; rotate_left; (focus ((try simp only [Act.eval, getD_lit, List.getD_cons_zero, List.getD_cons_succ]); with_reducible rfl))) | (refine St.pure (v := ?_) rfl rfl rfl (fun w => ?_) ?_; rotate_left; (focus (go_simp; all_goals with_reducible rfl))) | refine St.load rfl hM rfl rfl rfl rfl (by repeat constructor) (by rfl) (by kernel_rfl) ?_ | refine St.load1 rfl rfl rfl rfl (by repeat constructor) (by rfl) (by kernel_rfl) ?_ | ((refine St.loadRow1 rfl rfl rfl rfl (by repeat constructor) (Nat.le_of_ble_eq_true rfl) (by kernel_rfl) ?_); (try simp only [Res.known, List.drop_succ_cons, List.drop_zero, List.take_succ_cons, List.take_zero]))); (try simp only [Act.put, List.setIfInBounds_toArray, List.set_cons_zero, List.set_cons_succ]))) | (first | (refine wp_seq_shut (fun K hK => ?_)) | (refine wp_text hM (fun Kr hKr => ?_); simp only [inText]) | refine wp_skip ?_ | (refine wp_cond_false rfl ?_) | ((refine hK.out _ _ ?_); clear hK K)) | ((refine wp_drawn (id := 6) hM (Sub.take (Sub.take (Sub.take (Sub.take Sub.nil)))) [3, 4, 5] [(0, 0), (1, 0), (2, 0), (3, 1), (4, 1), (5, 1), (6, 4), (7, 4), (8, 3)] (by kernel_rfl) (by kernel_rfl) ?_); (clear hM; intro w hM Kr hKr); simp only [opsOf, List.getD_cons_zero, List.getD_cons_succ])))
    refine St.callAllocM (A := [_, _, _, _]) (M := fsL X.now β D.now) (R := fun v M' => ∃ s β', v = .agg #[.int .i64 er, .int .i64 n, .string da, slV s ns.length] ∧ TxOK s ns ∧ M' = txL s ns ++ fsL X.now β' d') rfl rfl hM rfl rfl (fun d h => by cases h; decide) (by kernel_rfl) (by simp only [Act.put, List.setIfInBounds_toArray, List.set_cons_zero, List.set_cons_succ, List.map_toArray, List.map_cons, List.map_nil, Act.eval, getD_lit, List.getD_cons_zero, List.getD_cons_succ] <;> rfl) (fun p => (by simp only [Act.put, List.setIfInBounds_toArray, List.set_cons_zero, List.set_cons_succ, List.map_toArray, List.map_cons, List.map_nil, Act.eval, getD_lit, List.getD_cons_zero, List.getD_cons_succ] <;> rfl)) rfl (Sub.all _) (fsL_flag _ _ _) (fun W hW => ?_) ?_
    · refine (C.out W β (hW.fs (.past .here) HI.out.now.inv HX.out F0)).mono ?_
      rintro e w' ⟨s, β', rfl, hs, hN2⟩
      exact ⟨_, _, ⟨s, β', rfl, hs, rfl⟩, rfl, fun y hy => (List.mem_append.1 hy).elim (txL_flag _ _ y) (fsL_flag _ _ _ y), hN2⟩
    clear hM
    rintro w bk v M' ⟨s, β', rfl, hs, rfl⟩ hM
    obtain ⟨sa, sc, hsv, -⟩ := slV_open hs
    rw [hsv]
    have HS := Lib.hid hs
    have HSV := Lib.hid hsv
    have HP' := Lib.hid hp'
    clear hs C hsv hp'
    simp only [List.cons_append, List.nil_append, List.append_assoc] at hM
    generalize bk = ab at *
    by_cases h0 : er = 0
    · have q0 : (er == 0) = true := by rw [h0]; rfl
      (try simp only [Act.put, List.setIfInBounds_toArray, List.set_cons_zero, List.set_cons_succ])
      (repeat (first | ((with_reducible show wpSeq _ _ _ _ _ _ _); first | ((with_reducible refine wpSeq_nil ?_); refine hKr.out _ _ ?_; clear hKr Kr) | ((first | (refine St.copy (v := ?_) (by exact .inl rfl) rfl rfl ?_ ?_; rotate_left; (focus ((try simp only [Act.eval, getD_lit, List.getD_cons_zero, List.getD_cons_succ]); with_reducible rfl))) | (refine St.pure (v := ?_) rfl rfl rfl (fun w => ?_) ?_; rotate_left; (focus (go_simp; all_goals with_reducible rfl))) | refine St.load rfl hM rfl rfl rfl rfl (by repeat constructor) (by rfl) (by kernel_rfl) ?_ | ((first | ((refine St.storeRow rfl hM rfl rfl rfl rfl rfl (by repeat constructor) (Nat.le_of_ble_eq_true rfl) (Nat.le_of_ble_eq_true rfl) (by kernel_rfl) rfl ?_ ?_); (focus ((intro h; cases h; done))); clear hM; intro w hM) | (((refine St.buildSlice (cells := ?_) (e := ?_) rfl hM rfl rfl (fun w => ?_) ?_; rotate_left 2; (focus (go_simp; all_goals with_reducible rfl)))); clear hM; intro w bk hM)); (try simp only [Res.put, Res.known, Act.eval, Value.cells, getD_lit, List.getD_cons_zero, List.getD_cons_succ, List.toList_toArray, List.set_cons_zero, List.set_cons_succ, over, Nat.reduceAdd] at hM))); (try simp only [Act.put, List.setIfInBounds_toArray, List.set_cons_zero, List.set_cons_succ]))) | (first | (refine wp_seq_shut (fun K hK => ?_)) | (refine wp_text hM (fun Kr hKr => ?_); simp only [inText]) | ((refine hK.out _ _ ?_); clear hK K))))
      ((refine St.call rfl rfl rfl (by kernel_rfl) (fun R hR => ?_); simp only [List.map_toArray, List.map_cons, List.map_nil, Act.eval, getD_lit, List.getD_cons_zero, List.getD_cons_succ]))
      have C3 := Tryz.slices_Contains_int bk 0 3 3 [6, 9, 13] pk w (by decide) (by decide) (fun j hj => Res.cell (hM.holds _ (.head _)) (by
        have : j = 0 ∨ j = 1 ∨ j = 2 := by simp only [List.length_cons, List.length_nil] at hj; omega
        rcases this with rfl | rfl | rfl <;> rfl))
      rw [has369] at C3
      refine C3.mono ?_
      rintro e w' ⟨rfl, rfl⟩; refine hR.out _ _ (fun h => h) ?_; clear hR R C3
      replace hM := hM.forget
      by_cases h1 : pk = 6 ∨ pk = 9 ∨ pk = 13
      · rw [decide_eq_true h1]
        (try simp only [Act.put, List.setIfInBounds_toArray, List.set_cons_zero, List.set_cons_succ])
        (repeat (first | ((with_reducible show wpSeq _ _ _ _ _ _ _); first | ((with_reducible refine wpSeq_nil ?_); refine hKr.out _ _ ?_; clear hKr Kr) | ((first | (refine St.pure (v := ?_) rfl rfl rfl (fun w => ?_) ?_; rotate_left; (focus (go_simp; all_goals with_reducible rfl))) | ((refine St.loadRow rfl hM rfl rfl rfl rfl (by repeat constructor) (Nat.le_of_ble_eq_true rfl) (by kernel_rfl) ?_); (try simp only [Res.known, List.drop_succ_cons, List.drop_zero, List.take_succ_cons, List.take_zero])) | ((((refine St.storeRow rfl hM rfl rfl rfl rfl rfl (by repeat constructor) (Nat.le_of_ble_eq_true rfl) (Nat.le_of_ble_eq_true rfl) (by kernel_rfl) rfl ?_ ?_); (focus ((intro h; cases h; done))); clear hM; intro w hM)); (try simp only [Res.put, Res.known, Act.eval, Value.cells, getD_lit, List.getD_cons_zero, List.getD_cons_succ, List.toList_toArray, List.set_cons_zero, List.set_cons_succ, over, Nat.reduceAdd] at hM))); (try simp only [Act.put, List.setIfInBounds_toArray, List.set_cons_zero, List.set_cons_succ]))) | (first | (refine wp_seq_shut (fun K hK => ?_)) | (refine wp_text hM (fun Kr hKr => ?_); simp only [inText]) | refine wp_skip ?_ | (refine wp_cond_false rfl ?_) | ((refine hK.out _ _ ?_); clear hK K))))
        ((refine wp_ret ?_; (try simp only [Exit.then, Exit.inBlock]); refine St.ret hM rfl (by repeat (first | exact Outs.nil | (apply Outs.row rfl rfl (by repeat constructor) (by kernel_rfl)))) rfl ?_))
        have e2 : DN = ⟨d', D.base, D.log⟩ := by rw [HD.out]; show DskD.mk d' D.base _ = _; rw [if_neg (fun h => by
          obtain ⟨-, g1, g2, g3⟩ := h
          have g1' : pk ≠ 6 := g1
          have g2' : pk ≠ 9 := g2
          have g3' : pk ≠ 13 := g3
          omega)]
        rw [e2]
        have hS : St _ F _ (dskE X.b X.now.f X.sure.f X.s X.zs.length :: (txL s ns ++ (fsL X.now β' d' ++ (logL X.s (X.zs.map LogV.val) ++ (fsL X.sure γ D.base ++ X.zs.flatMap LogV.ents))))) := hM.forget.forget.forget.forget
        refine ⟨s, X, β', γ, by rw [HSV.out]; rfl, HS.out, rfl, ⟨HK.out.log, HK.out.sl⟩, ?_⟩
        exact hS.perm (L' := txL s ns ++ (dskE X.b X.now.f X.sure.f X.s X.zs.length :: (fsL X.now β' d' ++ (logL X.s (X.zs.map LogV.val) ++ (fsL X.sure γ D.base ++ X.zs.flatMap LogV.ents))))) (perm_by (by intro _ x; simp only [List.append_eq, List.count_append, List.count_cons, List.count_nil, List.cons_append, List.nil_append]; omega))
      · rw [decide_eq_false h1]
        (try simp only [Act.put, List.setIfInBounds_toArray, List.set_cons_zero, List.set_cons_succ])
        (repeat (first | ((with_reducible show wpSeq _ _ _ _ _ _ _); first | ((with_reducible refine wpSeq_nil ?_); refine hKr.out _ _ ?_; clear hKr Kr) | ((first | (refine St.copy (v := ?_) (by exact .inl rfl) rfl rfl ?_ ?_; rotate_left; (focus ((try simp only [Act.eval, getD_lit, List.getD_cons_zero, List.getD_cons_succ]); with_reducible rfl))) | (refine St.pure (v := ?_) rfl rfl rfl (fun w => ?_) ?_; rotate_left; (focus (go_simp; all_goals with_reducible rfl)))); (try simp only [Act.put, List.setIfInBounds_toArray, List.set_cons_zero, List.set_cons_succ]))) | (first | (refine wp_text hM (fun Kr hKr => ?_); simp only [inText]) | (refine wp_cond_true rfl ?_) | ((refine hK.out _ _ ?_); clear hK K))))
        ((refine St.call rfl rfl rfl (by kernel_rfl) (fun R hR => ?_); simp only [List.map_toArray, List.map_cons, List.map_nil, Act.eval, getD_lit, List.getD_cons_zero, List.getD_cons_succ]))
        have hS : St w0 F _ (_ :: _ :: _ :: _ :: dskE X.b X.now.f X.sure.f X.s X.zs.length :: (txL s ns ++ (fsL X.now β' d' ++ (logL X.s (X.zs.map LogV.val) ++ (fsL X.sure γ D.base ++ X.zs.flatMap LogV.ents))))) := hM
        clear hM
        replace hS := hS.perm (perm_log _ _ _ _ _ _ _ _ _)
        have hzl : X.zs.length ≤ 1000000000 := by
          have g1 := congrArg List.length HK.out.log
          rw [List.length_map] at g1
          obtain ⟨M0, -, g2⟩ := HI.out.base
          omega
        refine (logs_any HK.out.sl hzl (hS.part .here)).mono ?_
        rintro e w' ⟨rfl, s', hk', hN2⟩
        have hM := (hS.backM .here (fun y hy => by
          rcases List.mem_cons.1 hy with rfl | hy
          · rfl
          · exact slL_flag _ _ _ _ y hy) hN2 (fun y hy => by
          rcases List.mem_cons.1 hy with rfl | hy
          · rfl
          · exact slL_flag _ _ _ _ y hy)).perm (perm_log2 _ _ _ _ _ _ _)
        refine hR.out _ _ (fun _ => ⟨hM.only, nofun⟩) ?_; clear hR R hS hN2
        have HK' := Lib.hid hk'
        clear hk'
        (try simp only [Act.put, List.setIfInBounds_toArray, List.set_cons_zero, List.set_cons_succ])
        (repeat (first | ((with_reducible show wpSeq _ _ _ _ _ _ _); first | ((with_reducible refine wpSeq_nil ?_); refine hKr.out _ _ ?_; clear hKr Kr) | ((first | ((refine St.loadRow rfl hM rfl rfl rfl rfl (by repeat constructor) (Nat.le_of_ble_eq_true rfl) (by kernel_rfl) ?_); (try simp only [Res.known, List.drop_succ_cons, List.drop_zero, List.take_succ_cons, List.take_zero])) | ((((refine St.storeRow rfl hM rfl rfl rfl rfl rfl (by repeat constructor) (Nat.le_of_ble_eq_true rfl) (Nat.le_of_ble_eq_true rfl) (by kernel_rfl) rfl ?_ ?_); (focus ((intro h; cases h; done))); clear hM; intro w hM)); (try simp only [Res.put, Res.known, Act.eval, Value.cells, getD_lit, List.getD_cons_zero, List.getD_cons_succ, List.toList_toArray, List.set_cons_zero, List.set_cons_succ, over, Nat.reduceAdd] at hM))); (try simp only [Act.put, List.setIfInBounds_toArray, List.set_cons_zero, List.set_cons_succ]))) | (first | (refine wp_seq_shut (fun K hK => ?_)) | (refine wp_text hM (fun Kr hKr => ?_); simp only [inText]) | ((refine hK.out _ _ ?_); clear hK K))))
        ((refine wp_ret ?_; (try simp only [Exit.then, Exit.inBlock]); refine St.ret hM rfl (by repeat (first | exact Outs.nil | (apply Outs.row rfl rfl (by repeat constructor) (by kernel_rfl)))) rfl ?_))
        have e2 : DN = ⟨d', D.base, D.log ++ [(o, some ⟨pk, pp, pd, ph, pa, pn, px, py, pb⟩)]⟩ := by rw [HD.out]; show DskD.mk d' D.base _ = _; rw [if_pos ⟨h0, fun h => h1 (.inl h), fun h => h1 (.inr (.inl h)), fun h => h1 (.inr (.inr h))⟩]
        rw [e2]
        refine ⟨s, ⟨X.b, X.now, X.sure, s', X.zs ++ [((o, some ⟨pk, pp, pd, ph, pa, pn, px, py, pb⟩), (ob, qb))]⟩, β', γ, by rw [HSV.out]; rfl, HS.out, rfl, ⟨?_, ?_⟩, ?_⟩
        · show List.map (fun z : LogV => z.1) (X.zs ++ [_]) = D.log ++ [_]
          rw [List.map_append, HK.out.log]
          rfl
        · show SlOK s' (X.zs ++ [_]).length ((X.zs ++ [_]).map LogV.val) 1
          rw [List.length_append, List.map_append]
          exact HK'.out
        · rw [dskL_snoc]
          exact hM.forget.forget.perm (perm_log3 _ _ _ _ _ _ _ _)
    · have q0 : (er == 0) = false := beq_eq_false_iff_ne.2 h0
      (try simp only [Act.put, List.setIfInBounds_toArray, List.set_cons_zero, List.set_cons_succ])
      (repeat (first | ((with_reducible show wpSeq _ _ _ _ _ _ _); first | ((with_reducible refine wpSeq_nil ?_); refine hKr.out _ _ ?_; clear hKr Kr) | ((first | (refine St.copy (v := ?_) (by exact .inl rfl) rfl rfl ?_ ?_; rotate_left; (focus ((try simp only [Act.eval, getD_lit, List.getD_cons_zero, List.getD_cons_succ]); with_reducible rfl))) | (refine St.pure (v := ?_) rfl rfl rfl (fun w => ?_) ?_; rotate_left; (focus (go_simp; all_goals with_reducible rfl))) | refine St.load rfl hM rfl rfl rfl rfl (by repeat constructor) (by rfl) (by kernel_rfl) ?_ | ((refine St.loadRow rfl hM rfl rfl rfl rfl (by repeat constructor) (Nat.le_of_ble_eq_true rfl) (by kernel_rfl) ?_); (try simp only [Res.known, List.drop_succ_cons, List.drop_zero, List.take_succ_cons, List.take_zero])) | refine wpSeq_off rfl rfl ?_ | ((((refine St.storeRow rfl hM rfl rfl rfl rfl rfl (by repeat constructor) (Nat.le_of_ble_eq_true rfl) (Nat.le_of_ble_eq_true rfl) (by kernel_rfl) rfl ?_ ?_); (focus ((intro h; cases h; done))); clear hM; intro w hM)); (try simp only [Res.put, Res.known, Act.eval, Value.cells, getD_lit, List.getD_cons_zero, List.getD_cons_succ, List.toList_toArray, List.set_cons_zero, List.set_cons_succ, over, Nat.reduceAdd] at hM))); (try simp only [Act.put, List.setIfInBounds_toArray, List.set_cons_zero, List.set_cons_succ]))) | (first | (refine wp_seq_shut (fun K hK => ?_)) | (refine wp_text hM (fun Kr hKr => ?_); simp only [inText]) | refine wp_skip ?_ | (refine wp_cond_false rfl ?_) | ((refine hK.out _ _ ?_); clear hK K))))
      ((refine wp_ret ?_; (try simp only [Exit.then, Exit.inBlock]); refine St.ret hM rfl (by repeat (first | exact Outs.nil | (apply Outs.row rfl rfl (by repeat constructor) (by kernel_rfl)))) rfl ?_))
      have e2 : DN = ⟨d', D.base, D.log⟩ := by rw [HD.out]; show DskD.mk d' D.base _ = _; rw [if_neg (fun h => h0 h.1)]
      rw [e2]
      have hS : St _ F w (dskE X.b X.now.f X.sure.f X.s X.zs.length :: (txL s ns ++ (fsL X.now β' d' ++ (logL X.s (X.zs.map LogV.val) ++ (fsL X.sure γ D.base ++ X.zs.flatMap LogV.ents))))) := hM.forget.forget.forget.forget
      refine ⟨s, X, β', γ, by rw [HSV.out]; rfl, HS.out, rfl, ⟨HK.out.log, HK.out.sl⟩, ?_⟩
      exact hS.perm (L' := txL s ns ++ (dskE X.b X.now.f X.sure.f X.s X.zs.length :: (fsL X.now β' d' ++ (logL X.s (X.zs.map LogV.val) ++ (fsL X.sure γ D.base ++ X.zs.flatMap LogV.ents))))) (perm_by (by intro _ x; simp only [List.append_eq, List.count_append, List.count_cons, List.count_nil, List.cons_append, List.nil_append]; omega))
end
end Go.Proofs.YtcicjklhbnipcaaGreatDoor
namespace Go.Proofs.YtcicjklhbnipcaaGreatDoor
set_option linter.unusedVariables false
set_option linter.unusedSimpArgs false
open Go.RowKit Go.Maps
section
variable {N : Nat} {X : DskX} {x y : FsX} {β γ : Int → Nat × Nat} {D : DskD} {d : FsD} {w w' w0 : World} {F : List Nat} {L L' M M' : List Ent} {b f g n : Nat} {s : Option (Nat × Nat)}
theorem perm_cl {α : Type} (n : α) (a b r : List α) : (n :: (a ++ (b ++ r))).Perm ((n :: (b ++ a)) ++ r) := (perm_by (by intro _ x; simp only [List.append_eq, List.count_append, List.count_cons, List.count_nil, List.cons_append, List.nil_append]; omega))
set_option maxHeartbeats 16000000 in
set_option maxRecDepth 100000 in
/-- A slice of logged entries, copied. -/
theorem cloneE_any {vs : List Value} (hk : SlOK s n vs 1) (h1 : vs.all (·.oneCell') = true) (hn : n ≤ 1000000000) (hA : At (logL s vs) w) : Calls Tryz.prog 77 #[slV s n] w fun e w' => ∃ s', e = .returned (slV s' n) ∧ SlOK s' n vs 1 ∧ St w [] w' (logL s' vs) := by
  have hM := hA.ro
  rcases s with _ | ⟨g, cap⟩
  · obtain ⟨hl, rfl⟩ := hk
    have hv : vs = [] := List.eq_nil_of_length_eq_zero (by omega)
    subst hv
    clear hM
    have hM := St.start w []
    simp only [slV]
    go_enter Tryz.func77, Tryz.ntmps77
    (repeat (first | ((with_reducible show wpSeq _ _ _ _ _ _ _); first | ((with_reducible refine wpSeq_nil ?_); refine hKr.out _ _ ?_; clear hKr Kr) | (((refine St.copy (v := ?_) (by first | exact .inl rfl | exact .inr rfl) rfl rfl ?_ ?_; rotate_left; (focus ((try simp only [Act.eval, getD_lit, List.getD_cons_zero, List.getD_cons_succ]); with_reducible rfl)))); (try simp only [Act.put, List.setIfInBounds_toArray, List.set_cons_zero, List.set_cons_succ]))) | (first | (refine wp_seq_shut (fun K hK => ?_)) | (refine wp_text hM (fun Kr hKr => ?_); simp only [inText]) | ((refine hK.out _ _ ?_); clear hK K))))
    refine St.pure (v := .bool true) rfl rfl rfl (fun w => ?_) ?_
    · go_simp
      rw [Lib.run_eql_slice_nil (h := Tryz.underlying79)]
      rfl
    (try simp only [Act.put, List.setIfInBounds_toArray, List.set_cons_zero, List.set_cons_succ])
    (repeat (first | ((with_reducible show wpSeq _ _ _ _ _ _ _); first | ((with_reducible refine wpSeq_nil ?_); refine hKr.out _ _ ?_; clear hKr Kr) | (((refine St.copy (v := ?_) (by exact .inr rfl) rfl rfl ?_ ?_; rotate_left; (focus ((try simp only [Act.eval, getD_lit, List.getD_cons_zero, List.getD_cons_succ]); with_reducible rfl)))); (try simp only [Act.put, List.setIfInBounds_toArray, List.set_cons_zero, List.set_cons_succ]))) | (first | (refine wp_seq_shut (fun K hK => ?_)) | (refine wp_text hM (fun Kr hKr => ?_); simp only [inText]) | (refine wp_cond_true rfl ?_) | ((refine hK.out _ _ ?_); clear hK K))))
    ((refine wp_ret ?_; (try simp only [Exit.then, Exit.inBlock]); refine St.ret hM rfl (by repeat (first | exact Outs.nil | apply Outs.tmp rfl)) rfl ?_))
    exact ⟨none, rfl, ⟨rfl, rfl⟩, hM⟩
  · have HK := Lib.hid hk
    clear hk
    simp only [slL, List.map_cons, List.map_nil, unflag] at hM
    simp only [slV]
    go_enter Tryz.func77, Tryz.ntmps77
    (repeat (first | ((with_reducible show wpSeq _ _ _ _ _ _ _); first | ((with_reducible refine wpSeq_nil ?_); refine hKr.out _ _ ?_; clear hKr Kr) | (((refine St.copy (v := ?_) (by first | exact .inl rfl | exact .inr rfl) rfl rfl ?_ ?_; rotate_left; (focus ((try simp only [Act.eval, getD_lit, List.getD_cons_zero, List.getD_cons_succ]); with_reducible rfl)))); (try simp only [Act.put, List.setIfInBounds_toArray, List.set_cons_zero, List.set_cons_succ]))) | (first | (refine wp_seq_shut (fun K hK => ?_)) | (refine wp_text hM (fun Kr hKr => ?_); simp only [inText]) | ((refine hK.out _ _ ?_); clear hK K))))
    refine St.pure (v := .bool false) rfl rfl rfl (fun w => ?_) ?_
    · go_simp
      rw [Lib.run_eql_slice_nil (h := Tryz.underlying79)]
      rfl
    (try simp only [Act.put, List.setIfInBounds_toArray, List.set_cons_zero, List.set_cons_succ])
    (repeat (first | ((with_reducible show wpSeq _ _ _ _ _ _ _); first | ((with_reducible refine wpSeq_nil ?_); refine hKr.out _ _ ?_; clear hKr Kr) | ((first | (refine St.copy (v := ?_) (by exact .inl rfl) rfl rfl ?_ ?_; rotate_left; (focus ((try simp only [Act.eval, getD_lit, List.getD_cons_zero, List.getD_cons_succ]); with_reducible rfl))) | (((((refine St.buildSlice (cells := ?_) (e := ?_) rfl hM rfl rfl (fun w => ?_) ?_; rotate_left 2; (focus (go_simp; all_goals with_reducible rfl)))); clear hM; intro w bk hM)); (try simp only [Res.put, Res.known, Act.eval, Value.cells, getD_lit, List.getD_cons_zero, List.getD_cons_succ, List.toList_toArray, List.set_cons_zero, List.set_cons_succ, over, Nat.reduceAdd] at hM))); (try simp only [Act.put, List.setIfInBounds_toArray, List.set_cons_zero, List.set_cons_succ]))) | (first | (refine wp_seq_shut (fun K hK => ?_)) | (refine wp_text hM (fun Kr hKr => ?_); simp only [inText]) | refine wp_skip ?_ | (refine wp_cond_false rfl ?_) | ((refine hK.out _ _ ?_); clear hK K))))
    replace hM := hM.weaken (r' := .pre [] 138 (0 * 1)) (L' := slL (some (bk, 0)) [] 138 1 ++ [(g, false, Res.pre vs 138 (cap * 1))]) Upd.head (Res.toPre rfl)
    have hlen := HK.out.1
    refine St.append (s := some (bk, 0)) (n := 0) (xs := []) (m := n) (news := vs) rfl hM rfl rfl rfl rfl rfl (by kernel_rfl) (by intro s'; repeat (exact Swap.here)) ⟨rfl, Nat.le_refl _, Nat.zero_le _⟩ hlen (hM.news (b := g) (ow := false) (r := .pre vs 138 (cap * 1)) (.tail _ (.head _))) h1 (by rw [maxLen_val]; omega) (by omega) (fun h => by cases h) ?_
    clear hM; intro w s' hM hk' _
    rw [List.nil_append] at hM hk'
    rw [Nat.zero_add] at hk' ⊢
    (try simp only [Act.put, List.setIfInBounds_toArray, List.set_cons_zero, List.set_cons_succ])
    (repeat (first | ((with_reducible show wpSeq _ _ _ _ _ _ _); first | ((with_reducible refine wpSeq_nil ?_); refine hKr.out _ _ ?_; clear hKr Kr) | (((refine St.copy (v := ?_) (by exact .inr rfl) rfl rfl ?_ ?_; rotate_left; (focus ((try simp only [Act.eval, getD_lit, List.getD_cons_zero, List.getD_cons_succ]); with_reducible rfl)))); (try simp only [Act.put, List.setIfInBounds_toArray, List.set_cons_zero, List.set_cons_succ]))) | (((refine hK.out _ _ ?_); clear hK K))))
    ((refine wp_ret ?_; (try simp only [Exit.then, Exit.inBlock]); refine St.ret hM rfl (by repeat (first | exact Outs.nil | apply Outs.tmp rfl)) rfl ?_))
    exact ⟨s', rfl, hk', hM.front⟩
set_option maxHeartbeats 16000000 in
set_option maxRecDepth 100000 in
/-- A disk of its own with the same files, what is sure shared. -/
theorem dClone_any {vs : List Value} (hk : SlOK s n vs 1) (h1 : vs.all (·.oneCell') = true) (hn : n ≤ 1000000000) (hN : N ≤ 1000000000) (h : (dskE b x.f g s n).2.2.holds w.heap[b]?) (hA : FsAt N x β d w) (hL : At (logL s vs) w) :
    Calls Tryz.prog 27 #[.pointer (some ⟨b, 0, none⟩)] w fun e w' => ∃ c x' γ s', e = .returned (.pointer (some ⟨c, 0, none⟩)) ∧ SlOK s' n vs 1 ∧ St w [] w' (dskE c (FsX.f x') g s' n :: (fsL x' γ d ++ logL s' vs)) := by
  have hM := St.one h
  have HW := Lib.hid h
  unfold dskE at hM
  obtain ⟨va, vc, hv, -⟩ := slV_open hk
  rw [hv] at hM
  go_enter Tryz.func27, Tryz.ntmps27
  (repeat (first | ((with_reducible show wpSeq _ _ _ _ _ _ _); first | ((with_reducible refine wpSeq_nil ?_); refine hKr.out _ _ ?_; clear hKr Kr) | (((refine St.copy (v := ?_) (by first | exact .inl rfl | exact .inr rfl) rfl rfl ?_ ?_; rotate_left; (focus ((try simp only [Act.eval, getD_lit, List.getD_cons_zero, List.getD_cons_succ]); with_reducible rfl)))); (try simp only [Act.put, List.setIfInBounds_toArray, List.set_cons_zero, List.set_cons_succ]))) | (first | (refine wp_seq_shut (fun K hK => ?_)) | (refine wp_text hM (fun Kr hKr => ?_); simp only [inText]) | ((refine hK.out _ _ ?_); clear hK K))))
  ((refine St.call rfl rfl rfl (by kernel_rfl) (fun R hR => ?_); simp only [List.map_toArray, List.map_cons, List.map_nil, Act.eval, getD_lit, List.getD_cons_zero, List.getD_cons_succ]))
  refine (dgiven_any (hM.only.holds HW.out)).mono ?_
  rintro e w' ⟨rfl, rfl⟩; refine hR.out _ _ (fun h => h) ?_; clear hR R; (try simp only [Act.put, List.setIfInBounds_toArray, List.set_cons_zero, List.set_cons_succ])
  (repeat (first | ((with_reducible show wpSeq _ _ _ _ _ _ _); first | ((with_reducible refine wpSeq_nil ?_); refine hKr.out _ _ ?_; clear hKr Kr) | ((first | (refine St.copy (v := ?_) (by exact .inl rfl) rfl rfl ?_ ?_; rotate_left; (focus ((try simp only [Act.eval, getD_lit, List.getD_cons_zero, List.getD_cons_succ]); with_reducible rfl))) | (refine St.pure (v := ?_) rfl rfl rfl (fun w => ?_) ?_; rotate_left; (focus (go_simp; all_goals with_reducible rfl))) | refine St.load1 rfl rfl rfl rfl (by repeat constructor) (by rfl) (by kernel_rfl) ?_); (try simp only [Act.put, List.setIfInBounds_toArray, List.set_cons_zero, List.set_cons_succ]))) | (first | (refine wp_seq_shut (fun K hK => ?_)) | refine wp_skip ?_ | (refine wp_cond_false rfl ?_) | ((refine hK.out _ _ ?_); clear hK K)) | ((refine wp_drawn (id := 3) hM (Sub.all _) [3, 8, 12] [(0, 0), (1, 0), (2, 0), (3, 1), (5, 0), (6, 0), (7, 0), (8, 1), (9, 0), (10, 0), (11, 0), (12, 1), (4, 2), (13, 2), (14, 2), (15, 2), (16, 3)] (by kernel_rfl) (by kernel_rfl) ?_); (clear hM; intro w hM Kr hKr); simp only [opsOf, List.getD_cons_zero, List.getD_cons_succ])))
  ((refine St.call rfl rfl rfl (by kernel_rfl) (fun R hR => ?_); simp only [List.map_toArray, List.map_cons, List.map_nil, Act.eval, getD_lit, List.getD_cons_zero, List.getD_cons_succ]))
  refine (fClone_any (hA.below hM.to_below) hN).mono ?_
  rintro e w' ⟨x', γ, rfl, hN2⟩
  replace hM := hM.madeM hN2 (fsL_flag _ _ _)
  refine hR.out _ _ (fun h => h.below hN2.to_below) ?_; clear hR R hN2; (try simp only [Act.put, List.setIfInBounds_toArray, List.set_cons_zero, List.set_cons_succ])
  (repeat (fail))
  ((refine St.call rfl rfl rfl (by kernel_rfl) (fun R hR => ?_); simp only [List.map_toArray, List.map_cons, List.map_nil, Act.eval, getD_lit, List.getD_cons_zero, List.getD_cons_succ]))
  rw [← hv]
  refine (cloneE_any hk h1 hn (hL.below hM.to_below)).mono ?_
  rintro e w' ⟨s', rfl, hk', hN2⟩
  replace hM := hM.madeM hN2 (slL_flag _ _ _ _)
  refine hR.out _ _ (fun h => h.below hN2.to_below) ?_; clear hR R hN2
  obtain ⟨va', vc', hv', -⟩ := slV_open hk'
  rw [hv']
  (try simp only [Act.put, List.setIfInBounds_toArray, List.set_cons_zero, List.set_cons_succ])
  (repeat (first | ((with_reducible show wpSeq _ _ _ _ _ _ _); first | ((with_reducible refine wpSeq_nil ?_); refine hKr.out _ _ ?_; clear hKr Kr) | ((first | (refine St.copy (v := ?_) (by exact .inr rfl) rfl rfl ?_ ?_; rotate_left; (focus ((try simp only [Act.eval, getD_lit, List.getD_cons_zero, List.getD_cons_succ]); with_reducible rfl))) | (refine St.pure (v := ?_) rfl rfl rfl (fun w => ?_) ?_; rotate_left; (focus (go_simp; all_goals with_reducible rfl))) | ((((refine St.box rfl hM rfl rfl rfl ?_); clear hM; intro w bk hM)); (try simp only [Res.put, Res.known, Act.eval, Value.cells, getD_lit, List.getD_cons_zero, List.getD_cons_succ, List.toList_toArray, List.set_cons_zero, List.set_cons_succ, over, Nat.reduceAdd] at hM))); (try simp only [Act.put, List.setIfInBounds_toArray, List.set_cons_zero, List.set_cons_succ]))) | (((refine hK.out _ _ ?_); clear hK K))))
  ((refine wp_ret ?_; (try simp only [Exit.then, Exit.inBlock]); refine St.ret hM rfl (by repeat (first | exact Outs.nil | apply Outs.tmp rfl)) rfl ?_))
  rw [← hv'] at hM
  refine ⟨bk, x', γ, s', rfl, hk', ?_⟩
  exact St.front (M := dskE bk x'.f g s' n :: (fsL x' γ d ++ logL s' vs)) (hM.perm (perm_cl _ _ _ _))
end
end Go.Proofs.YtcicjklhbnipcaaGreatDoor
namespace Go.Proofs.YtcicjklhbnipcaaGreatDoor
set_option linter.unusedVariables false
set_option linter.unusedSimpArgs false
open Go.RowKit Go.Maps
theorem tx_cells {w0 w : World} {F : List Nat} {L : List Ent} {g cap : Nat} {xs : List ByteArray} {ow : Bool} (hM : St w0 F w L) (hm : (g, ow, Res.pre (xs.map Value.string) 9 (cap * 1)) ∈ L) : ∀ j, j < xs.length → w.cell? ⟨g, 0 + j, none⟩ = some (.string (xs.getD j ByteArray.empty)) := fun j hj => by
  refine Res.cell (hM.holds _ hm) ?_
  show (xs.map Value.string)[0 + j]? = _
  rw [Nat.zero_add, List.getElem?_map, List.getElem?_eq_getElem hj, List.getD_eq_getElem?_getD, List.getElem?_eq_getElem hj]
  rfl
theorem draws_below (w : World) (q : Nat) : Below w.heap.size w (w.drewN q) := ⟨rfl, rfl, rfl, Nat.le_refl _, fun _ _ => rfl⟩
set_option maxHeartbeats 4000000 in
set_option maxRecDepth 100000 in
theorem Under_any (p dir : ByteArray) (w : World) (hp : p.size ≤ 1000000) (hd : dir.size ≤ 1000000) (hm : Mx w) : Calls Tryz.prog 130 #[.string p, .string dir] w fun e w' => e = .returned (.bool (Pt.under p dir)) ∧ Below w.heap.size w w' := by
  have hM := St.start w []
  have F0 : 0 ∉ ([] : List Nat) := nofun
  have HX := Lib.hid hm
  have C1 := Lib.hid (fun (W : World) (h : Mx W) => Parts_any p W hp h)
  have C2 := Lib.hid (fun (W : World) (h : Mx W) => Parts_any dir W hd h)
  have l1 := Pt.parts_len p hp
  have l2 := Pt.parts_len dir hd
  unfold Pt.under
  generalize Pt.parts p = xs at *
  generalize Pt.parts dir = ys at *
  clear hp hd hm
  generalize hU : (decide (ys.length < xs.length) && decide (xs.take ys.length = ys)) = U
  have HU := Lib.hid hU
  clear hU
  go_enter Tryz.func130, Tryz.ntmps130
  (repeat (first | ((with_reducible show wpSeq _ _ _ _ _ _ _); first | ((with_reducible refine wpSeq_nil ?_); refine hKr.out _ _ ?_; clear hKr Kr) | (((refine St.copy (v := ?_) (by first | exact .inl rfl | exact .inr rfl) rfl rfl ?_ ?_; rotate_left; (focus ((try simp only [Act.eval, getD_lit, List.getD_cons_zero, List.getD_cons_succ]); with_reducible rfl)))); (try simp only [Act.put, List.setIfInBounds_toArray, List.set_cons_zero, List.set_cons_succ]))) | (first | (refine wp_seq_shut (fun K hK => ?_)) | (refine wp_text hM (fun Kr hKr => ?_); simp only [inText]) | ((refine hK.out _ _ ?_); clear hK K))))
  ((refine St.call rfl rfl rfl (by kernel_rfl) (fun R hR => ?_); simp only [List.map_toArray, List.map_cons, List.map_nil, Act.eval, getD_lit, List.getD_cons_zero, List.getD_cons_succ]))
  refine (C1.out _ (hM.mx HX.out F0)).mono ?_
  rintro e w' ⟨s1, rfl, hk1, hN⟩
  replace hM := hM.madeM hN (txL_flag _ _)
  refine hR.out _ _ (fun h => h.below hN.to_below) ?_; clear hR R hN
  obtain ⟨a1, c1, hv1, ha1⟩ := slV_open hk1
  rw [hv1]
  (try simp only [Act.put, List.setIfInBounds_toArray, List.set_cons_zero, List.set_cons_succ])
  (repeat (((with_reducible show wpSeq _ _ _ _ _ _ _); (((refine St.copy (v := ?_) (by exact .inl rfl) rfl rfl ?_ ?_; rotate_left; (focus ((try simp only [Act.eval, getD_lit, List.getD_cons_zero, List.getD_cons_succ]); with_reducible rfl)))); (try simp only [Act.put, List.setIfInBounds_toArray, List.set_cons_zero, List.set_cons_succ])))))
  ((refine St.call rfl rfl rfl (by kernel_rfl) (fun R hR => ?_); simp only [List.map_toArray, List.map_cons, List.map_nil, Act.eval, getD_lit, List.getD_cons_zero, List.getD_cons_succ]))
  refine (C2.out _ (hM.mx HX.out F0)).mono ?_
  rintro e w' ⟨s2, rfl, hk2, hN⟩
  replace hM := hM.madeM hN (txL_flag _ _)
  refine hR.out _ _ (fun h => h.below hN.to_below) ?_; clear hR R hN
  obtain ⟨a2, c2, hv2, ha2⟩ := slV_open hk2
  rw [hv2]
  (try simp only [Act.put, List.setIfInBounds_toArray, List.set_cons_zero, List.set_cons_succ])
  by_cases h1 : ys.length < xs.length
  · have k1 : (ys.length : Int) < (xs.length : Int) := by omega
    have d1 : decide (ys.length < xs.length) = true := decide_eq_true h1
    cases s1 with
    | none => exact absurd hk1.2 (by omega)
    | some gc =>
    obtain ⟨g, cap⟩ := gc
    obtain ⟨rfl, rfl⟩ := ha1 g cap rfl
    have k2 : (ys.length : Int) ≤ (c1 : Int) := by have := hk1.2.1; omega
    have HL := Lib.hid hk2
    have e : decide (xs.take ys.length = ys) = U := by rw [← HU.out, d1, Bool.true_and]
    simp only [slL, List.cons_append, List.nil_append] at hM
    (repeat (first | ((with_reducible show wpSeq _ _ _ _ _ _ _); first | ((with_reducible refine wpSeq_nil ?_); refine hKr.out _ _ ?_; clear hKr Kr) | ((first | (refine St.copy (v := ?_) (by first | exact .inl rfl | exact .inr rfl) rfl rfl ?_ ?_; rotate_left; (focus ((try simp only [Act.eval, getD_lit, List.getD_cons_zero, List.getD_cons_succ]); with_reducible rfl))) | (refine St.pure (v := ?_) rfl rfl rfl (fun w => ?_) ?_; rotate_left; (focus (go_simp; all_goals with_reducible rfl)))); (try simp only [Act.put, List.setIfInBounds_toArray, List.set_cons_zero, List.set_cons_succ]))) | (first | (refine wp_seq_shut (fun K hK => ?_)) | (refine wp_text hM (fun Kr hKr => ?_); simp only [inText]) | ((refine hK.out _ _ ?_); clear hK K))))
    ((refine St.call rfl rfl rfl (by kernel_rfl) (fun R hR => ?_); simp only [List.map_toArray, List.map_cons, List.map_nil, Act.eval, getD_lit, List.getD_cons_zero, List.getD_cons_succ]))
    by_cases h0 : ys.length = 0
    · have e0 : true = U := by rw [← e, h0]; simpa using (List.eq_nil_of_length_eq_zero h0).symm
      subst e0
      rw [h0]
      refine (Tryz.slices_Equal_string_empty _ _ _ _ _ _ (by decide)).mono ?_
      rintro e w' ⟨rfl, rfl⟩; refine hR.out _ _ (fun h => h) ?_; clear hR R; (try simp only [Act.put, List.setIfInBounds_toArray, List.set_cons_zero, List.set_cons_succ])
      (repeat (first | ((with_reducible show wpSeq _ _ _ _ _ _ _); first | ((with_reducible refine wpSeq_nil ?_); refine hKr.out _ _ ?_; clear hKr Kr) | ((first | (refine St.copy (v := ?_) (by exact .inr rfl) rfl rfl ?_ ?_; rotate_left; (focus ((try simp only [Act.eval, getD_lit, List.getD_cons_zero, List.getD_cons_succ]); with_reducible rfl))) | (refine St.pure (v := ?_) rfl rfl rfl (fun w => ?_) ?_; rotate_left; (focus (go_simp; all_goals with_reducible rfl)))); (try simp only [Act.put, List.setIfInBounds_toArray, List.set_cons_zero, List.set_cons_succ]))) | (((refine hK.out _ _ ?_); clear hK K))))
      ((refine wp_ret ?_; (try simp only [Exit.then, Exit.inBlock]); refine St.ret hM rfl (by repeat (first | exact Outs.nil | apply Outs.tmp rfl)) rfl ?_))
      exact ⟨rfl, hM.to_below⟩
    · cases s2 with
      | none => exact absurd HL.out.2 h0
      | some gc2 =>
      obtain ⟨g2, cap2⟩ := gc2
      obtain ⟨rfl, rfl⟩ := ha2 g2 cap2 rfl
      simp only [slL, List.cons_append, List.nil_append] at hM
      refine (Tryz.slices_Equal_string _ _ _ _ _ _ _ _ xs ys _ (by omega) (by omega) (by omega) (by omega) (tx_cells hM (by repeat constructor)) (tx_cells hM (by repeat constructor))).mono ?_
      rintro e' w' ⟨rfl, q, rfl⟩
      refine hR.out _ _ (fun h => h.below (draws_below _ q)) ?_; clear hR R; replace hM := hM.below (draws_below _ q)
      rw [List.take_of_length_le (Nat.le_refl ys.length), e]
      (try simp only [Act.put, List.setIfInBounds_toArray, List.set_cons_zero, List.set_cons_succ])
      (repeat (first | ((with_reducible show wpSeq _ _ _ _ _ _ _); first | ((with_reducible refine wpSeq_nil ?_); refine hKr.out _ _ ?_; clear hKr Kr) | ((first | (refine St.copy (v := ?_) (by exact .inr rfl) rfl rfl ?_ ?_; rotate_left; (focus ((try simp only [Act.eval, getD_lit, List.getD_cons_zero, List.getD_cons_succ]); with_reducible rfl))) | (refine St.pure (v := ?_) rfl rfl rfl (fun w => ?_) ?_; rotate_left; (focus (go_simp; all_goals with_reducible rfl)))); (try simp only [Act.put, List.setIfInBounds_toArray, List.set_cons_zero, List.set_cons_succ]))) | (((refine hK.out _ _ ?_); clear hK K))))
      ((refine wp_ret ?_; (try simp only [Exit.then, Exit.inBlock]); refine St.ret hM rfl (by repeat (first | exact Outs.nil | apply Outs.tmp rfl)) rfl ?_))
      exact ⟨rfl, hM.to_below⟩
  · have k1 : ¬ ((ys.length : Int) < (xs.length : Int)) := by omega
    have d1 : decide (ys.length < xs.length) = false := decide_eq_false h1
    have e : false = U := by rw [← HU.out, d1, Bool.false_and]
    subst e
    (repeat (first | ((with_reducible show wpSeq _ _ _ _ _ _ _); first | ((with_reducible refine wpSeq_nil ?_); refine hKr.out _ _ ?_; clear hKr Kr) | ((first | (refine St.copy (v := ?_) (by first | exact .inl rfl | exact .inr rfl) rfl rfl ?_ ?_; rotate_left; (focus ((try simp only [Act.eval, getD_lit, List.getD_cons_zero, List.getD_cons_succ]); with_reducible rfl))) | (refine St.pure (v := ?_) rfl rfl rfl (fun w => ?_) ?_; rotate_left; (focus (go_simp; all_goals with_reducible rfl))) | refine wpSeq_off rfl rfl ?_); (try simp only [Act.put, List.setIfInBounds_toArray, List.set_cons_zero, List.set_cons_succ]))) | (first | (refine wp_seq_shut (fun K hK => ?_)) | (refine wp_text hM (fun Kr hKr => ?_); simp only [inText]) | ((refine hK.out _ _ ?_); clear hK K))))
    ((refine wp_ret ?_; (try simp only [Exit.then, Exit.inBlock]); refine St.ret hM rfl (by repeat (first | exact Outs.nil | apply Outs.tmp rfl)) rfl ?_))
    exact ⟨rfl, hM.to_below⟩
end Go.Proofs.YtcicjklhbnipcaaGreatDoor
namespace Go.Proofs.YtcicjklhbnipcaaGreatDoor
set_option linter.unusedVariables false
set_option linter.unusedSimpArgs false
open Go.RowKit Go.Maps
/-- The first 'k' and the last 'k' have changed places. -/
def RevK (xs ys : List FileD) (k : Nat) : Prop := ys.length = xs.length ∧ ∀ i, i < xs.length → ys[i]? = if i < k ∨ xs.length - 1 - k < i then xs[xs.length - 1 - i]? else xs[i]?
theorem revK_zero (xs : List FileD) : RevK xs xs 0 := ⟨rfl, fun i hi => by rw [if_neg (by omega)]⟩
theorem revK_all {xs ys : List FileD} {k : Nat} (h : RevK xs ys k) (hk : xs.length ≤ 2 * k + 1) : ys = xs.reverse := by
  obtain ⟨h1, h2⟩ := h
  refine List.ext_getElem? fun i => ?_
  by_cases hi : i < xs.length
  · rw [h2 i hi, List.getElem?_reverse hi]
    split
    · rfl
    · rw [show xs.length - 1 - i = i by omega]
  · rw [List.getElem?_eq_none (by omega), List.getElem?_eq_none (by rw [List.length_reverse]; omega)]
theorem revK_step {xs ys : List FileD} {k m : Nat} {a b : FileD} (h : RevK xs ys k) (hm : m = xs.length - 1 - k) (hkm : k < m) (ha : ys[k]? = some a) (hb : ys[m]? = some b) : RevK xs ((ys.set k b).set m a) (k + 1) := by
  obtain ⟨h1, h2⟩ := h
  refine ⟨by simp [h1], fun i hi => ?_⟩
  have ga := h2 k (by omega)
  rw [if_neg (by omega), ha] at ga
  have gb := h2 m (by omega)
  rw [if_neg (by omega), hb] at gb
  by_cases e1 : i = m
  · subst e1
    rw [List.getElem?_set_self (by simp; omega), if_pos (by omega), ga]
    exact congrArg (fun z => xs[z]?) (by omega)
  · rw [List.getElem?_set_ne (fun e => e1 e.symm)]
    by_cases e2 : i = k
    · subst e2
      rw [List.getElem?_set_self (by omega), if_pos (by omega), gb]
      exact congrArg (fun z => xs[z]?) (by omega)
    · rw [List.getElem?_set_ne (fun e => e2 e.symm), h2 i hi]
      by_cases c : i < k ∨ xs.length - 1 - k < i
      · rw [if_pos c, if_pos (by omega)]
      · rw [if_neg c, if_neg (by omega)]
theorem file_at {xs : List FileD} {k : Nat} {f : FileD} (h : xs[k]? = some f) : ((xs.flatMap FileD.cells).drop (k * 3)).take 3 = [.string f.path, .bool f.dir, .string f.data] := by
  induction xs generalizing k with
  | nil => simp at h
  | cons p r ih =>
    cases k with
    | zero =>
      rw [List.getElem?_cons_zero] at h
      cases h
      rfl
    | succ k =>
      rw [List.getElem?_cons_succ] at h
      have := ih h
      rw [show (k + 1) * 3 = k * 3 + 3 by omega]
      exact this
theorem over_file {xs : List FileD} {k : Nat} (f : FileD) (h : k < xs.length) : over (xs.flatMap FileD.cells) (k * 3) [.string f.path, .bool f.dir, .string f.data] = (xs.set k f).flatMap FileD.cells := by
  induction xs generalizing k with
  | nil => simp at h
  | cons p r ih =>
    cases k with
    | zero => rfl
    | succ k =>
      rw [List.length_cons] at h
      have := ih (k := k) (by omega)
      rw [show (k + 1) * 3 = k * 3 + 3 by omega, List.set_cons_succ]
      exact congrArg (fun z => p.cells ++ z) this
section
variable {N : Nat} {X : DskX} {x y : FsX} {β γ : Int → Nat × Nat} {D : DskD} {d : FsD} {w w' w0 : World} {F : List Nat} {L L' M M' : List Ent} {b f g n : Nat} {s : Option (Nat × Nat)}
theorem cells_len : ∀ l : List FileD, (l.flatMap FileD.cells).length = l.length * 3
  | [] => rfl
  | p :: r => by rw [List.flatMap_cons, List.length_append, cells_len r, List.length_cons]; simp [FileD.cells]; omega
theorem fileOK_set {xs ys : List FileD} (h : FileOK s xs) (hl : ys.length = xs.length) : FileOK s ys := by
  refine ⟨cells_len ys, ?_⟩
  rw [hl]
  exact h.2
set_option maxHeartbeats 16000000 in
set_option maxRecDepth 100000 in
theorem revF_any {xs : List FileD} (hk : FileOK s xs) (hl : xs.length ≤ 1000000) (hA : At (fileL s xs) w0) : Calls Tryz.prog 129 #[slV s xs.length] w0 fun e w' => e = .returned (.tuple #[]) ∧ St w0 (keysOf (fileL s xs)) w' (fileL s xs.reverse) := by
  have hM := hA.st
  obtain ⟨F, hF⟩ : ∃ F, keysOf (fileL s xs) = F := ⟨_, rfl⟩
  rw [hF] at hM ⊢
  have HK := Lib.hid hk
  clear hF hA hk
  rcases s with _ | ⟨g, cap⟩
  · have h0 : xs = [] := List.eq_nil_of_length_eq_zero HK.out.2
    subst h0
    simp only [slV]
    go_enter Tryz.func129, Tryz.ntmps129
    (repeat (first | ((with_reducible show wpSeq _ _ _ _ _ _ _); first | ((with_reducible refine wpSeq_nil ?_); refine hKr.out _ _ ?_; clear hKr Kr) | ((first | (refine St.copy (v := ?_) (by first | exact .inl rfl | exact .inr rfl) rfl rfl ?_ ?_; rotate_left; (focus ((try simp only [Act.eval, getD_lit, List.getD_cons_zero, List.getD_cons_succ]); with_reducible rfl))) | (refine St.pure (v := ?_) rfl rfl rfl (fun w => ?_) ?_; rotate_left; (focus (go_simp; all_goals with_reducible rfl)))); (try simp only [Act.put, List.setIfInBounds_toArray, List.set_cons_zero, List.set_cons_succ]))) | (first | (refine wp_seq_shut (fun K hK => ?_)) | (refine wp_text hM (fun Kr hKr => ?_); simp only [inText]) | refine wp_block ?_ | ((refine hK.out _ _ ?_); clear hK K))))
    refine wp_loop_rounds 1 ?_
    (refine rounds_shut (fun K hK => ?_))
    (repeat (first | ((with_reducible show wpSeq _ _ _ _ _ _ _); first | ((with_reducible refine wpSeq_nil ?_); refine hKr.out _ _ ?_; clear hKr Kr) | ((first | (refine St.copy (v := ?_) (by exact .inl rfl) rfl rfl ?_ ?_; rotate_left; (focus ((try simp only [Act.eval, getD_lit, List.getD_cons_zero, List.getD_cons_succ]); with_reducible rfl))) | (refine St.pure (v := ?_) rfl rfl rfl (fun w => ?_) ?_; rotate_left; (focus (go_simp; all_goals with_reducible rfl)))); (try simp only [Act.put, List.setIfInBounds_toArray, List.set_cons_zero, List.set_cons_succ]))) | (first | (refine wp_seq_shut (fun K hK => ?_)) | (refine wp_text hM (fun Kr hKr => ?_); simp only [inText]) | (refine wp_cond_false rfl ?_) | (refine wp_exit ?_; simp only [Exit.then, Exit.inBlock, if_true, if_false, reduceCtorEq, Nat.reduceEqDiff, Nat.succ_ne_zero]) | ((refine hK.out _ _ ?_); clear hK K))))
    ((refine St.fin hM rfl (by repeat (exact Outs.nil)) rfl ?_))
    exact ⟨rfl, hM⟩
  · simp only [slV, fileL, slL] at hM ⊢
    by_cases hz : xs.length = 0
    · have h0 : xs = [] := List.eq_nil_of_length_eq_zero hz
      subst h0
      simp only [List.length_nil]
      go_enter Tryz.func129, Tryz.ntmps129
      (repeat (first | ((with_reducible show wpSeq _ _ _ _ _ _ _); first | ((with_reducible refine wpSeq_nil ?_); refine hKr.out _ _ ?_; clear hKr Kr) | ((first | (refine St.copy (v := ?_) (by first | exact .inl rfl | exact .inr rfl) rfl rfl ?_ ?_; rotate_left; (focus ((try simp only [Act.eval, getD_lit, List.getD_cons_zero, List.getD_cons_succ]); with_reducible rfl))) | (refine St.pure (v := ?_) rfl rfl rfl (fun w => ?_) ?_; rotate_left; (focus (go_simp; all_goals with_reducible rfl)))); (try simp only [Act.put, List.setIfInBounds_toArray, List.set_cons_zero, List.set_cons_succ]))) | (first | (refine wp_seq_shut (fun K hK => ?_)) | (refine wp_text hM (fun Kr hKr => ?_); simp only [inText]) | refine wp_block ?_ | ((refine hK.out _ _ ?_); clear hK K))))
      refine wp_loop_rounds 1 ?_
      (refine rounds_shut (fun K hK => ?_))
      (repeat (first | ((with_reducible show wpSeq _ _ _ _ _ _ _); first | ((with_reducible refine wpSeq_nil ?_); refine hKr.out _ _ ?_; clear hKr Kr) | ((first | (refine St.copy (v := ?_) (by exact .inl rfl) rfl rfl ?_ ?_; rotate_left; (focus ((try simp only [Act.eval, getD_lit, List.getD_cons_zero, List.getD_cons_succ]); with_reducible rfl))) | (refine St.pure (v := ?_) rfl rfl rfl (fun w => ?_) ?_; rotate_left; (focus (go_simp; all_goals with_reducible rfl)))); (try simp only [Act.put, List.setIfInBounds_toArray, List.set_cons_zero, List.set_cons_succ]))) | (first | (refine wp_seq_shut (fun K hK => ?_)) | (refine wp_text hM (fun Kr hKr => ?_); simp only [inText]) | (refine wp_cond_false rfl ?_) | (refine wp_exit ?_; simp only [Exit.then, Exit.inBlock, if_true, if_false, reduceCtorEq, Nat.reduceEqDiff, Nat.succ_ne_zero]) | ((refine hK.out _ _ ?_); clear hK K))))
      ((refine St.fin hM rfl (by repeat (exact Outs.nil)) rfl ?_))
      exact ⟨rfl, hM⟩
    have hw1 : IntKind.i64.wrap ((xs.length : Int) - 1) = ((xs.length - 1 : Nat) : Int) := by rw [wrap_in _ (by omega)]; omega
    go_enter Tryz.func129, Tryz.ntmps129
    (repeat (first | ((with_reducible show wpSeq _ _ _ _ _ _ _); first | ((with_reducible refine wpSeq_nil ?_); refine hKr.out _ _ ?_; clear hKr Kr) | ((first | (refine St.copy (v := ?_) (by first | exact .inl rfl | exact .inr rfl) rfl rfl ?_ ?_; rotate_left; (focus ((try simp only [Act.eval, getD_lit, List.getD_cons_zero, List.getD_cons_succ]); with_reducible rfl))) | (refine St.pure (v := ?_) rfl rfl rfl (fun w => ?_) ?_; rotate_left; (focus (go_simp; all_goals with_reducible rfl)))); (try simp only [Act.put, List.setIfInBounds_toArray, List.set_cons_zero, List.set_cons_succ]))) | (first | (refine wp_seq_shut (fun K hK => ?_)) | (refine wp_text hM (fun Kr hKr => ?_); simp only [inText]) | refine wp_block ?_ | ((refine hK.out _ _ ?_); clear hK K))))
    go_loopw [2, 3] (fun i j wr => ∃ (k m : Nat) (ys : List FileD), i = .int .i64 k ∧ j = .int .i64 m ∧ m = xs.length - 1 - k ∧ k ≤ m + 1 ∧ RevK xs ys k ∧ St w0 F wr [(g, true, .pre (ys.flatMap FileD.cells) 112 (cap * 3))]) (fun i _ _ => xs.length - (intOf i).toNat)
    case atStart => exact ⟨0, xs.length - 1, xs, rfl, by simp [hw1], by omega, by omega, revK_zero xs, hM⟩
    case round =>
      clear hM
      obtain ⟨k, m, ys, rfl, rfl, hm, hkm, hrev, hM⟩ := hrel
      have HV := Lib.hid hrev
      clear hrev
      by_cases hlt : k < m
      · have hyl := HV.out.1
        obtain ⟨a, ha⟩ := get_at (xs := ys) (k := k) (by omega)
        obtain ⟨b, hb⟩ := get_at (xs := ys) (k := m) (by omega)
        have hra := file_at ha
        have hrb := file_at hb
        have HST := Lib.hid (revK_step HV.out hm hlt ha hb)
        have oa := over_file (xs := ys) (k := k) b (by omega)
        have ob := over_file (xs := ys.set k b) (k := m) a (by rw [List.length_set]; omega)
        have hca : k * 3 + 3 ≤ (ys.flatMap FileD.cells).length := by rw [cells_len]; omega
        have hcb : m * 3 + 3 ≤ (ys.flatMap FileD.cells).length := by rw [cells_len]; omega
        have hcc : m * 3 + 3 ≤ ((ys.set k b).flatMap FileD.cells).length := by rw [cells_len, List.length_set]; omega
        have k1 : (k : Int) < (m : Int) := by omega
        have b1 : (k : Int) < (xs.length : Int) := by omega
        have b2 : (m : Int) < (xs.length : Int) := by omega
        have HM := Lib.hid hm
        clear hyl ha hb hm hkm
        (repeat (first | ((with_reducible show wpSeq _ _ _ _ _ _ _); first | ((with_reducible refine wpSeq_nil ?_); refine hKr.out _ _ ?_; clear hKr Kr) | ((first | (refine St.copy (v := ?_) (by exact .inl rfl) rfl rfl ?_ ?_; rotate_left; (focus ((try simp only [Act.eval, getD_lit, List.getD_cons_zero, List.getD_cons_succ]); with_reducible rfl))) | (refine St.pure (v := ?_) rfl rfl rfl (fun w => ?_) ?_; rotate_left; (focus (go_simp; all_goals with_reducible rfl)))); (try simp only [Act.put, List.setIfInBounds_toArray, List.set_cons_zero, List.set_cons_succ]))) | (first | (refine wp_seq_shut (fun K hK => ?_)) | (refine wp_text hM (fun Kr hKr => ?_); simp only [inText]) | refine wp_block ?_ | refine wp_skip ?_ | (refine wp_cond_true rfl ?_) | ((refine hK.out _ _ ?_); clear hK K)) | ((refine wp_drawn (id := 3) hM (Sub.all _) [7] [(0, 0), (1, 0), (2, 0), (3, 0), (4, 0), (5, 0), (6, 0), (7, 1), (8, 0), (9, 2), (10, 2), (11, 2), (12, 3), (13, 3), (14, 3), (15, 3)] (by kernel_rfl) (by kernel_rfl) ?_); (clear hM; intro w hM Kr hKr); simp only [opsOf, List.getD_cons_zero, List.getD_cons_succ])))
        refine St.loadRow1 rfl rfl rfl rfl (by repeat constructor) (by exact hcb) (by kernel_rfl) ?_
        simp only [Res.known]
        rw [hrb]
        (try simp only [Act.put, List.setIfInBounds_toArray, List.set_cons_zero, List.set_cons_succ])
        (repeat (((with_reducible show wpSeq _ _ _ _ _ _ _); ((first | (refine St.copy (v := ?_) (by exact .inl rfl) rfl rfl ?_ ?_; rotate_left; (focus ((try simp only [Act.eval, getD_lit, List.getD_cons_zero, List.getD_cons_succ]); with_reducible rfl))) | (refine St.pure (v := ?_) rfl rfl rfl (fun w => ?_) ?_; rotate_left; (focus (go_simp; all_goals with_reducible rfl)))); (try simp only [Act.put, List.setIfInBounds_toArray, List.set_cons_zero, List.set_cons_succ])))))
        refine St.loadRow rfl hM rfl rfl rfl rfl (by repeat constructor) (by exact hca) (by kernel_rfl) ?_
        simp only [Res.known]
        rw [hra]
        (try simp only [Act.put, List.setIfInBounds_toArray, List.set_cons_zero, List.set_cons_succ])
        (repeat (((with_reducible show wpSeq _ _ _ _ _ _ _); (((refine St.pure (v := ?_) rfl rfl rfl (fun w => ?_) ?_; rotate_left; (focus (go_simp; all_goals with_reducible rfl)))); (try simp only [Act.put, List.setIfInBounds_toArray, List.set_cons_zero, List.set_cons_succ])))))
        refine St.storeRow (vs := #[.string b.path, .bool b.dir, .string b.data]) rfl hM rfl rfl rfl rfl rfl Upd.head (by exact hca) (Nat.le_of_ble_eq_true rfl) (by kernel_rfl) rfl (fun h => by cases h) ?_
        clear hM; intro w hM
        simp only [Res.put, Res.known] at hM
        rw [oa] at hM
        (try simp only [Act.put, List.setIfInBounds_toArray, List.set_cons_zero, List.set_cons_succ])
        (repeat (((with_reducible show wpSeq _ _ _ _ _ _ _); (((refine St.pure (v := ?_) rfl rfl rfl (fun w => ?_) ?_; rotate_left; (focus (go_simp; all_goals with_reducible rfl)))); (try simp only [Act.put, List.setIfInBounds_toArray, List.set_cons_zero, List.set_cons_succ])))))
        refine St.storeRow (vs := #[.string a.path, .bool a.dir, .string a.data]) rfl hM rfl rfl rfl rfl rfl Upd.head (by exact hcc) (Nat.le_of_ble_eq_true rfl) (by kernel_rfl) rfl (fun h => by cases h) ?_
        clear hM; intro w hM
        simp only [Res.put, Res.known] at hM
        rw [ob] at hM
        have hwm : IntKind.i64.wrap ((m : Int) - 1) = ((m - 1 : Nat) : Int) := by rw [wrap_in _ (by omega)]; omega
        (try simp only [Act.put, List.setIfInBounds_toArray, List.set_cons_zero, List.set_cons_succ])
        (repeat (first | ((with_reducible show wpSeq _ _ _ _ _ _ _); first | ((with_reducible refine wpSeq_nil ?_); refine hKr.out _ _ ?_; clear hKr Kr) | ((first | (refine St.copy (v := ?_) (by first | exact .inl rfl | exact .inr rfl) rfl rfl ?_ ?_; rotate_left; (focus ((try simp only [Act.eval, getD_lit, List.getD_cons_zero, List.getD_cons_succ]); with_reducible rfl))) | refine St.inc rfl rfl rfl rfl rfl (by omega) ?_ | (refine St.pure (v := ?_) rfl rfl rfl (fun w => ?_) ?_; rotate_left; (focus (go_simp; all_goals with_reducible rfl)))); (try simp only [Act.put, List.setIfInBounds_toArray, List.set_cons_zero, List.set_cons_succ]))) | (first | (refine wp_text hM (fun Kr hKr => ?_); simp only [inText]) | ((refine hK.out _ _ ?_); clear hK K))))
        (refine ⟨?_, ?_⟩; (focus (repeat (first | exact ⟨⟨k + 1, m - 1, _, rfl, rfl, by have := HM.out; omega, by omega, HST.out, hM⟩, rfl⟩ | apply Exists.intro))); (simp only [getD_lit, List.getD_cons_zero, List.getD_cons_succ, intOf]; omega))
      · have k0 : ¬ ((k : Int) < (m : Int)) := by omega
        have e := revK_all HV.out (by omega)
        subst e
        clear hm hkm hlt
        (repeat (first | ((with_reducible show wpSeq _ _ _ _ _ _ _); first | ((with_reducible refine wpSeq_nil ?_); refine hKr.out _ _ ?_; clear hKr Kr) | ((first | (refine St.copy (v := ?_) (by exact .inl rfl) rfl rfl ?_ ?_; rotate_left; (focus ((try simp only [Act.eval, getD_lit, List.getD_cons_zero, List.getD_cons_succ]); with_reducible rfl))) | (refine St.pure (v := ?_) rfl rfl rfl (fun w => ?_) ?_; rotate_left; (focus (go_simp; all_goals with_reducible rfl)))); (try simp only [Act.put, List.setIfInBounds_toArray, List.set_cons_zero, List.set_cons_succ]))) | (first | (refine wp_seq_shut (fun K hK => ?_)) | (refine wp_text hM (fun Kr hKr => ?_); simp only [inText]) | (refine wp_cond_false rfl ?_) | (refine wp_exit ?_; simp only [Exit.then, Exit.inBlock, if_true, if_false, reduceCtorEq, Nat.reduceEqDiff, Nat.succ_ne_zero]) | ((refine hK.out _ _ ?_); clear hK K))))
        ((refine St.fin hM rfl (by repeat (exact Outs.nil)) rfl ?_))
        exact ⟨rfl, hM⟩
set_option maxHeartbeats 4000000 in
set_option maxRecDepth 100000 in
/-- A logged operation is done again. -/
theorem again_do (hA : FsAt N x β d w) (hN : N ≤ 999999990) {o : Int} (ho : Fits o) {p : OpD} (hp : p.Ok) {ob qb : Nat} (h1 : (Res.cells [.int .i64 o] 3).holds w.heap[ob]?) (h2 : (Res.cells p.cells 34).holds w.heap[qb]?) :
    Calls Tryz.prog 83 #[.pointer (some ⟨x.f, 0, none⟩), .pointer (some ⟨ob, 0, none⟩), .pointer (some ⟨qb, 0, none⟩)] w fun e w' => e = .returned (.tuple #[]) ∧ ∃ β', St w (keysOf (fsL x β d)) w' (fsL x β' (Fs.do_ d o p).2) := by
  have hM := St.start w []
  have c1 : w.cell? ⟨ob, 0, none⟩ = some (.int .i64 o) := Res.cell h1 rfl
  have c2 : w.rangeAt qb 0 p.cells := Res.range (q := 0) (n := p.cells.length) h2 (by show 0 + p.cells.length ≤ p.cells.length; omega)
  have C := Lib.hid (fDo_any hA hN ho p hp)
  generalize Fs.do_ d o p = G at *
  obtain ⟨⟨er, n, da, ns⟩, d'⟩ := G
  clear h1 h2 hp ho
  obtain ⟨pk, pp, pd, ph, pa, pn, px, py, pb⟩ := p
  simp only [OpD.cells] at C c2
  go_enter Tryz.func83, Tryz.ntmps83
  (repeat (first | ((with_reducible show wpSeq _ _ _ _ _ _ _); ((first | (refine St.copy (v := ?_) (by exact .inl rfl) rfl rfl ?_ ?_; rotate_left; (focus ((try simp only [Act.eval, getD_lit, List.getD_cons_zero, List.getD_cons_succ]); with_reducible rfl))) | refine St.loadF rfl rfl rfl rfl rfl (hM.old (by assumption)) (by kernel_rfl) ?_ | refine St.loadRowF rfl rfl rfl rfl rfl (hM.oldRow (by assumption)) (by kernel_rfl) ?_); (try simp only [Act.put, List.setIfInBounds_toArray, List.set_cons_zero, List.set_cons_succ]))) | ((refine wp_text hM (fun Kr hKr => ?_); simp only [inText]))))
  (refine St.call3 rfl rfl (by kernel_rfl) (fun R hR => ?_); simp only [List.map_toArray, List.map_cons, List.map_nil, Act.eval, getD_lit, List.getD_cons_zero, List.getD_cons_succ])
  refine C.out.mono ?_
  rintro e w' ⟨s, β', rfl, hs, hN2⟩
  refine hR.out _ _ ?_; clear hR R hM C
  have hM := hN2
  clear hN2
  (try simp only [Act.put, List.setIfInBounds_toArray, List.set_cons_zero, List.set_cons_succ])
  (repeat (((with_reducible show wpSeq _ _ _ _ _ _ _); ((with_reducible refine wpSeq_nil ?_); refine hKr.out _ _ ?_; clear hKr Kr))))
  ((refine St.fin hM rfl (by repeat (exact Outs.nil)) rfl ?_))
  exact ⟨rfl, β', hM.subM (List.sublist_append_right _ _)⟩
set_option maxHeartbeats 4000000 in
set_option maxRecDepth 100000 in
/-- An exit is done again. -/
theorem again_exit (hA : FsAt N x β d w) (hN : N ≤ 999999980) {o : Int} (ho : Fits o) {ob : Nat} (h1 : (Res.cells [.int .i64 o] 3).holds w.heap[ob]?) :
    Calls Tryz.prog 90 #[.pointer (some ⟨x.f, 0, none⟩), .pointer (some ⟨ob, 0, none⟩)] w fun e w' => e = .returned (.tuple #[]) ∧ ∃ β', St w (keysOf (fsL x β d)) w' (fsL x β' (Fs.exit d o)) := by
  have hM := St.start w []
  have c1 : w.cell? ⟨ob, 0, none⟩ = some (.int .i64 o) := Res.cell h1 rfl
  have C := Lib.hid (fExit_any hA hN ho)
  generalize Fs.exit d o = d' at *
  clear h1 ho
  go_enter Tryz.func90, Tryz.ntmps90
  (repeat (first | ((with_reducible show wpSeq _ _ _ _ _ _ _); ((first | (refine St.copy (v := ?_) (by exact .inl rfl) rfl rfl ?_ ?_; rotate_left; (focus ((try simp only [Act.eval, getD_lit, List.getD_cons_zero, List.getD_cons_succ]); with_reducible rfl))) | refine St.loadF rfl rfl rfl rfl rfl (hM.old (by assumption)) (by kernel_rfl) ?_); (try simp only [Act.put, List.setIfInBounds_toArray, List.set_cons_zero, List.set_cons_succ]))) | ((refine wp_text hM (fun Kr hKr => ?_); simp only [inText]))))
  (refine St.call3 rfl rfl (by kernel_rfl) (fun R hR => ?_); simp only [List.map_toArray, List.map_cons, List.map_nil, Act.eval, getD_lit, List.getD_cons_zero, List.getD_cons_succ])
  refine C.out.mono ?_
  rintro e w' ⟨rfl, ⟨β', hN2⟩, -⟩
  refine hR.out _ _ ?_; clear hR R hM C
  have hM := hN2
  clear hN2
  (try simp only [Act.put, List.setIfInBounds_toArray, List.set_cons_zero, List.set_cons_succ])
  (repeat (((with_reducible show wpSeq _ _ _ _ _ _ _); ((with_reducible refine wpSeq_nil ?_); refine hKr.out _ _ ?_; clear hKr Kr))))
  ((refine St.fin hM rfl (by repeat (exact Outs.nil)) rfl ?_))
  exact ⟨rfl, β', hM⟩
end
end Go.Proofs.YtcicjklhbnipcaaGreatDoor
namespace Go.Proofs.YtcicjklhbnipcaaGreatDoor
set_option linter.unusedVariables false
set_option linter.unusedSimpArgs false
open Go.RowKit Go.Maps
section
variable {w : World} {s s1 s2 : Option (Nat × Nat)} {xs : List FileD}
theorem file_row {g cap : Nat} (hA : At (fileL (some (g, cap)) xs) w) {k : Nat} {f : FileD} (hf : xs[k]? = some f) : w.rangeAt g (k * 3) [.string f.path, .bool f.dir, .string f.data] := by
  have hk := (List.getElem?_eq_some_iff.1 hf).1
  have := Res.range (q := k * 3) (n := 3) (hA.has (g, true, .pre (xs.flatMap FileD.cells) 112 (cap * 3)) (.head _)) (by show k * 3 + 3 ≤ (xs.flatMap FileD.cells).length; rw [cells_len]; omega)
  rw [show (Res.pre (xs.flatMap FileD.cells) 112 (cap * 3)).known = xs.flatMap FileD.cells from rfl, file_at hf] at this
  exact this
set_option maxHeartbeats 8000000 in
set_option maxRecDepth 100000 in
theorem sameF_any (hk1 : FileOK s1 xs) (hk2 : FileOK s2 xs) (hl : xs.length ≤ 1000000) (hA1 : At (fileL s1 xs) w) (hA2 : At (fileL s2 xs) w) :
    Calls Tryz.prog 32 #[slV s1 xs.length, slV s2 xs.length] w fun e w' => e = .returned (.bool true) ∧ Below w.heap.size w w' := by
  have hM := St.start w []
  obtain ⟨a1, c1, hv1, ha1⟩ := slV_open hk1
  obtain ⟨a2, c2, hv2, ha2⟩ := slV_open hk2
  rw [hv1, hv2]
  have H1 := Lib.hid hA1
  have H2 := Lib.hid hA2
  have K1 := Lib.hid hk1
  have K2 := Lib.hid hk2
  clear hk1 hk2 hA1 hA2 hv1 hv2
  go_enter Tryz.func32, Tryz.ntmps32
  (repeat (first | ((with_reducible show wpSeq _ _ _ _ _ _ _); first | ((with_reducible refine wpSeq_nil ?_); refine hKr.out _ _ ?_; clear hKr Kr) | ((first | (refine St.copy (v := ?_) (by first | exact .inl rfl | exact .inr rfl) rfl rfl ?_ ?_; rotate_left; (focus ((try simp only [Act.eval, getD_lit, List.getD_cons_zero, List.getD_cons_succ]); with_reducible rfl))) | (refine St.pure (v := ?_) rfl rfl rfl (fun w => ?_) ?_; rotate_left; (focus (go_simp; all_goals with_reducible rfl)))); (try simp only [Act.put, List.setIfInBounds_toArray, List.set_cons_zero, List.set_cons_succ]))) | (first | (refine wp_seq_shut (fun K hK => ?_)) | (refine wp_text hM (fun Kr hKr => ?_); simp only [inText]) | refine wp_block ?_ | refine wp_skip ?_ | (refine wp_cond_false rfl ?_) | ((refine hK.out _ _ ?_); clear hK K))))
  go_loopw [5] (fun i wr => ∃ k : Nat, k ≤ xs.length ∧ i = .int .i64 k ∧ St w [] wr []) (fun i _ => xs.length - (intOf i).toNat)
  case atStart => exact ⟨0, by omega, rfl, hM⟩
  case round =>
    clear hM
    obtain ⟨k, hk, rfl, hM⟩ := hrel
    by_cases hlt : k < xs.length
    · obtain ⟨f, hf⟩ := get_at hlt
      rcases s1 with _ | ⟨g1, cap1⟩
      · exact absurd K1.out.2 (by omega)
      rcases s2 with _ | ⟨g2, cap2⟩
      · exact absurd K2.out.2 (by omega)
      obtain ⟨rfl, rfl⟩ := ha1 g1 cap1 rfl
      obtain ⟨rfl, rfl⟩ := ha2 g2 cap2 rfl
      have r1 := file_row H1.out hf
      have r2 := file_row H2.out hf
      have k1 : (k : Int) < (xs.length : Int) := by omega
      clear hf
      obtain ⟨fp, fd, ft⟩ := f
      simp only at r1 r2
      (repeat (first | ((with_reducible show wpSeq _ _ _ _ _ _ _); first | ((with_reducible refine wpSeq_nil ?_); refine hKr.out _ _ ?_; clear hKr Kr) | ((first | (refine St.copy (v := ?_) (by first | exact .inl rfl | exact .inr rfl) rfl rfl ?_ ?_; rotate_left; (focus ((try simp only [Act.eval, getD_lit, List.getD_cons_zero, List.getD_cons_succ]); with_reducible rfl))) | refine St.inc rfl rfl rfl rfl rfl (by omega) ?_ | (refine St.pure (v := ?_) rfl rfl rfl (fun w => ?_) ?_; rotate_left; (focus (go_simp; all_goals with_reducible rfl))) | refine St.loadRowF rfl rfl rfl rfl rfl (hM.oldRow (by assumption)) (by kernel_rfl) ?_ | refine St.loadRowF1 rfl rfl rfl rfl (fun w' hS => hS.oldRow (by assumption)) (by kernel_rfl) ?_); (try simp only [Act.put, List.setIfInBounds_toArray, List.set_cons_zero, List.set_cons_succ]))) | (first | (refine wp_seq_shut (fun K hK => ?_)) | (refine wp_text hM (fun Kr hKr => ?_); simp only [inText]) | refine wp_block ?_ | refine wp_skip ?_ | (first | refine wp_cond_true rfl ?_ | refine wp_cond_false rfl ?_) | ((refine hK.out _ _ ?_); clear hK K)) | ((refine wp_drawn (id := 6) hM (Sub.all _) [3] [(0, 0), (1, 0), (2, 0), (3, 1), (4, 0), (5, 2), (6, 2), (7, 2), (8, 3)] (by kernel_rfl) (by kernel_rfl) ?_); (clear hM; intro w hM Kr hKr); simp only [opsOf, List.getD_cons_zero, List.getD_cons_succ])))
      simp only [Exit.then]
      (refine ⟨?_, ?_⟩; (focus (repeat (first | exact ⟨⟨k + 1, by omega, rfl, hM⟩, rfl⟩ | apply Exists.intro))); (simp only [getD_lit, List.getD_cons_zero, List.getD_cons_succ, intOf]; omega))
    · have k0 : ¬ ((k : Int) < (xs.length : Int)) := by omega
      clear hlt hk
      (repeat (first | ((with_reducible show wpSeq _ _ _ _ _ _ _); first | ((with_reducible refine wpSeq_nil ?_); refine hKr.out _ _ ?_; clear hKr Kr) | ((first | (refine St.copy (v := ?_) (by first | exact .inl rfl | exact .inr rfl) rfl rfl ?_ ?_; rotate_left; (focus ((try simp only [Act.eval, getD_lit, List.getD_cons_zero, List.getD_cons_succ]); with_reducible rfl))) | (refine St.pure (v := ?_) rfl rfl rfl (fun w => ?_) ?_; rotate_left; (focus (go_simp; all_goals with_reducible rfl))) | refine wpSeq_off rfl rfl ?_); (try simp only [Act.put, List.setIfInBounds_toArray, List.set_cons_zero, List.set_cons_succ]))) | (first | (refine wp_seq_shut (fun K hK => ?_)) | (refine wp_text hM (fun Kr hKr => ?_); simp only [inText]) | (refine wp_cond_false rfl ?_) | (refine wp_exit ?_; simp only [Exit.then, Exit.inBlock, if_true, if_false, reduceCtorEq, Nat.reduceEqDiff, Nat.succ_ne_zero]) | ((first | refine hK.out _ _ ?_ | (clear hK K; refine hK.out _ _ ?_)); clear hK K))))
      ((refine wp_ret ?_; (try simp only [Exit.then, Exit.inBlock]); refine St.ret hM rfl (by repeat (first | exact Outs.nil | apply Outs.tmp rfl)) rfl ?_))
      exact ⟨rfl, hM.to_below⟩
end
end Go.Proofs.YtcicjklhbnipcaaGreatDoor
namespace Go.Proofs.YtcicjklhbnipcaaGreatDoor
set_option linter.unusedVariables false
set_option linter.unusedSimpArgs false
open Go.RowKit Go.Maps
namespace Fs
theorem under_size {N : Nat} {t : TabD} (I : In.Inv N t) : ∀ (k : Nat) (id : Int) (dir : ByteArray), ∀ f ∈ under t k id dir, f.path.size ≤ dir.size + 33 * k
  | 0, _, _, f, h => by cases h
  | k + 1, id, dir, f, h => by
    unfold under at h
    obtain ⟨p, hp, hf⟩ := List.mem_flatMap.1 h
    have hs := I.short _ (In.find_some (In.names_found hp)).1 p hp
    have hj := join_size dir p.1
    rcases List.mem_cons.1 hf with rfl | hf
    · show (Pt.join dir p.1).size ≤ _
      omega
    · have := under_size I k p.2 (Pt.join dir p.1) f hf
      omega
theorem files_size {N : Nat} {d : FsD} (I : Inv N d) (hN : N ≤ 30000) : ∀ f ∈ files d, f.path.size ≤ 1000000 := fun f hf => by
  have := under_size I.tbl _ _ _ f hf
  have h2 := I.tbl.last
  have e : (⟨#[]⟩ : ByteArray).size = 0 := rfl
  omega
end Fs
section
variable {N : Nat} {X : DskX} {x y : FsX} {β γ : Int → Nat × Nat} {D : DskD} {d : FsD} {w w' w0 : World} {F : List Nat} {L L' M M' : List Ent} {b f g n : Nat} {s : Option (Nat × Nat)}
theorem opK_ok {k : Int} (hk : Fits k) {p : ByteArray} (h : p.size ≤ 1000000) : (opK k p).Ok := ⟨hk, show Fits 0 by decide, show Fits 0 by decide, show Fits 0 by decide, h, show (⟨#[]⟩ : ByteArray).size ≤ 1000000 by decide, show (⟨#[]⟩ : ByteArray).size ≤ maxLen by decide⟩
theorem fold_step {xs : List FileD} {k : Nat} {f : FileD} (h : xs[k]? = some f) (d : FsD) : (xs.take (k + 1)).foldl Ol.empty1 d = Ol.empty1 ((xs.take k).foldl Ol.empty1 d) f := by
  rw [List.take_add_one, h, Option.toList_some, List.foldl_append]
  rfl
set_option maxHeartbeats 16000000 in
set_option maxRecDepth 100000 in
theorem empties_any (h : FsAt N x β d w0) (hfi0 : Ol.FInv N d) (hN : N ≤ 30000) : Calls Tryz.prog 79 #[.pointer (some ⟨x.f, 0, none⟩), .string ⟨#[114, 117, 110]⟩] w0 fun e w' => e = .returned (.tuple #[]) ∧ ∃ β', St w0 (keysOf (fsL x β d)) w' (fsL x β' (Ol.empties d)) := by
  have hM := h.at_.st
  obtain ⟨F, hF⟩ : ∃ F, keysOf (fsL x β d) = F := ⟨_, rfl⟩
  rw [hF] at hM ⊢
  have F0 : 0 ∉ F := hF ▸ h.zero
  have HI := Lib.hid h.inv
  have HX := Lib.hid h.mx
  have HFI := Lib.hid hfi0
  have hup := hfi0.up
  have HSZ := Lib.hid (Fs.files_size h.inv hN)
  have HLN := Lib.hid (Fs.files_len h.inv hup)
  have CF := Lib.hid (fFiles_any h hup (by omega))
  have hED : Ol.empties d = (Fs.files d).reverse.foldl Ol.empty1 d := rfl
  rw [hED]
  clear hF h hup hED hfi0
  generalize Fs.files d = fs at *
  go_enter Tryz.func79, Tryz.ntmps79
  (repeat (first | ((with_reducible show wpSeq _ _ _ _ _ _ _); (((refine St.copy (v := ?_) (by exact .inl rfl) rfl rfl ?_ ?_; rotate_left; (focus ((try simp only [Act.eval, getD_lit, List.getD_cons_zero, List.getD_cons_succ]); with_reducible rfl)))); (try simp only [Act.put, List.setIfInBounds_toArray, List.set_cons_zero, List.set_cons_succ]))) | (first | (refine wp_seq_shut (fun K hK => ?_)) | (refine wp_text hM (fun Kr hKr => ?_); simp only [inText]))))
  ((refine St.call rfl rfl rfl (by kernel_rfl) (fun R hR => ?_); simp only [List.map_toArray, List.map_cons, List.map_nil, Act.eval, getD_lit, List.getD_cons_zero, List.getD_cons_succ]))
  refine CF.out.mono ?_
  rintro e w' ⟨s, rfl, hk, hN2⟩
  replace hM := hM.madeM hN2 (slL_flag _ _ _ _)
  (refine hR.out _ _ (fun _ => ⟨hM.only, nofun⟩) ?_); clear hR R hN2 CF
  have HK := Lib.hid hk
  obtain ⟨va, vc, hv, hva⟩ := slV_open hk
  (try simp only [Act.put, List.setIfInBounds_toArray, List.set_cons_zero, List.set_cons_succ])
  (repeat (first | ((with_reducible show wpSeq _ _ _ _ _ _ _); first | ((with_reducible refine wpSeq_nil ?_); refine hKr.out _ _ ?_; clear hKr Kr) | (((refine St.copy (v := ?_) (by first | exact .inl rfl | exact .inr rfl) rfl rfl ?_ ?_; rotate_left; (focus ((try simp only [Act.eval, getD_lit, List.getD_cons_zero, List.getD_cons_succ]); with_reducible rfl)))); (try simp only [Act.put, List.setIfInBounds_toArray, List.set_cons_zero, List.set_cons_succ]))) | (first | (refine wp_seq_shut (fun K hK => ?_)) | (refine wp_text hM (fun Kr hKr => ?_); simp only [inText]) | ((refine hK.out _ _ ?_); clear hK K))))
  ((refine St.call rfl rfl rfl (by kernel_rfl) (fun R hR => ?_); simp only [List.map_toArray, List.map_cons, List.map_nil, Act.eval, getD_lit, List.getD_cons_zero, List.getD_cons_succ]))
  refine (revF_any hk (by have := HLN.out; omega) (hM.part .here)).mono ?_
  rintro e w' ⟨rfl, hN2⟩
  replace hM := hM.backM .here (slL_flag _ _ _ _) hN2 (slL_flag _ _ _ _)
  (refine hR.out _ _ (fun _ => ⟨hM.only, nofun⟩) ?_); clear hR R hN2
  have hk2 := fileOK_set hk (ys := fs.reverse) (by simp)
  have e1 : fs.length = fs.reverse.length := by simp
  have HSZ2 := Lib.hid (fun f (hf : f ∈ fs.reverse) => HSZ.out f (List.mem_reverse.1 hf))
  have HLN2 := Lib.hid (e1 ▸ HLN.out)
  rw [hv]
  rw [e1] at hv ⊢
  clear HSZ HLN HK hk e1
  generalize fs.reverse = rs at *
  have HK := Lib.hid hk2
  clear hk2
  (try simp only [Act.put, List.setIfInBounds_toArray, List.set_cons_zero, List.set_cons_succ])
  (repeat (first | ((with_reducible show wpSeq _ _ _ _ _ _ _); first | ((with_reducible refine wpSeq_nil ?_); refine hKr.out _ _ ?_; clear hKr Kr) | ((first | (refine St.copy (v := ?_) (by exact .inl rfl) rfl rfl ?_ ?_; rotate_left; (focus ((try simp only [Act.eval, getD_lit, List.getD_cons_zero, List.getD_cons_succ]); with_reducible rfl))) | (refine St.pure (v := ?_) rfl rfl rfl (fun w => ?_) ?_; rotate_left; (focus (go_simp; all_goals with_reducible rfl)))); (try simp only [Act.put, List.setIfInBounds_toArray, List.set_cons_zero, List.set_cons_succ]))) | (first | (refine wp_seq_shut (fun K hK => ?_)) | (refine wp_text hM (fun Kr hKr => ?_); simp only [inText]) | refine wp_block ?_ | ((refine hK.out _ _ ?_); clear hK K))))
  have hrl : rs.length ≤ 30000 := by have := HLN2.out; omega
  go_loopw [14] (fun i wr => ∃ (k : Nat) (β' : Int → Nat × Nat) (dk : FsD), k ≤ rs.length ∧ i = .int .i64 k ∧ (rs.take k).foldl Ol.empty1 d = dk ∧ Ol.FInv N dk ∧ St w0 F wr (fileL s rs ++ fsL x β' dk)) (fun i _ => rs.length - (intOf i).toNat)
  case atStart => exact ⟨0, β, d, by omega, rfl, by simp, HFI.out, hM⟩
  case round =>
    clear hM
    obtain ⟨k, β, dk, hk, rfl, hdk, hfi, hM⟩ := hrel
    have HDK := Lib.hid hdk
    have HFK := Lib.hid hfi
    clear hdk hfi
    by_cases hlt : k < rs.length
    · obtain ⟨f, hf⟩ := get_at hlt
      cases s with
      | none => exact absurd HK.out.2 (by omega)
      | some gc =>
      obtain ⟨g, cap⟩ := gc
      obtain ⟨rfl, rfl⟩ := hva g cap rfl
      have hsz := HSZ2.out f (List.mem_of_getElem? hf)
      have hrow := file_at hf
      have hlen : k * 3 + 3 ≤ (rs.flatMap FileD.cells).length := by rw [cells_len]; omega
      have HST := Lib.hid ((fold_step hf d).trans (congrArg (fun z => Ol.empty1 z f) HDK.out))
      have HF1 := Lib.hid (Ol.finv_empty1 HFK.out f)
      have k1 : (k : Int) < (rs.length : Int) := by omega
      have CU := Lib.hid (fun (W : World) (hm : Mx W) => Under_any f.path Pt.run W hsz (by decide) hm)
      have CD2 := Lib.hid (fun (W : World) (β' : Int → Nat × Nat) (hA : FsAt N x β' dk W) => fDo_any hA (by omega) (o := 0) (by decide) (opK 2 f.path) (opK_ok (by decide) hsz))
      have CD11 := Lib.hid (fun (W : World) (β' : Int → Nat × Nat) (hA : FsAt N x β' dk W) => fDo_any hA (by omega) (o := 0) (by decide) (opK 11 f.path) (opK_ok (by decide) hsz))
      have hem : Ol.empty1 dk f = if Pt.under f.path Pt.run then (Fs.do_ dk 0 (opK (if f.dir then 2 else 11) f.path)).2 else dk := rfl
      rw [hem] at HST HF1
      clear hf hlt hsz hem
      obtain ⟨fp, fd, ft⟩ := f
      simp only at hrow HST HF1 CU CD2 CD11
      simp only [slL, List.cons_append, List.nil_append] at hM
      (repeat (first | ((with_reducible show wpSeq _ _ _ _ _ _ _); first | ((with_reducible refine wpSeq_nil ?_); refine hKr.out _ _ ?_; clear hKr Kr) | (((refine St.pure (v := ?_) rfl rfl rfl (fun w => ?_) ?_; rotate_left; (focus (go_simp; all_goals with_reducible rfl)))); (try simp only [Act.put, List.setIfInBounds_toArray, List.set_cons_zero, List.set_cons_succ]))) | (first | (refine wp_seq_shut (fun K hK => ?_)) | (refine wp_text hM (fun Kr hKr => ?_); simp only [inText]) | refine wp_block ?_ | refine wp_skip ?_ | (refine wp_cond_true rfl ?_) | ((refine hK.out _ _ ?_); clear hK K))))
      refine St.loadRow rfl hM rfl rfl rfl rfl (by repeat constructor) (by exact hlen) (by kernel_rfl) ?_
      simp only [Res.known]
      rw [hrow]
      (try simp only [Act.put, List.setIfInBounds_toArray, List.set_cons_zero, List.set_cons_succ])
      generalize Pt.under fp Pt.run = un at *
      cases fd with
      | false =>
        cases un with
        | false =>
          have hst := HST.out
          have hf1 := HF1.out
          simp only [Bool.false_eq_true, if_false, if_true] at hst hf1
          have HS1 := Lib.hid hst
          have HF2 := Lib.hid hf1
          clear hst hf1 HST HF1
          (repeat (first | ((with_reducible show wpSeq _ _ _ _ _ _ _); first | ((with_reducible refine wpSeq_nil ?_); refine hKr.out _ _ ?_; clear hKr Kr) | ((first | (refine St.copy (v := ?_) (by exact .inl rfl) rfl rfl ?_ ?_; rotate_left; (focus ((try simp only [Act.eval, getD_lit, List.getD_cons_zero, List.getD_cons_succ]); with_reducible rfl))) | (refine St.pure (v := ?_) rfl rfl rfl (fun w => ?_) ?_; rotate_left; (focus (go_simp; all_goals with_reducible rfl))) | refine St.load rfl hM rfl rfl rfl rfl (by repeat constructor) (by rfl) (by kernel_rfl) ?_ | ((((refine St.storeRow rfl hM rfl rfl rfl rfl rfl (by repeat constructor) (Nat.le_of_ble_eq_true rfl) (Nat.le_of_ble_eq_true rfl) (by kernel_rfl) rfl ?_ ?_); (focus ((intro h; cases h; done))); clear hM; intro w hM)); (try simp only [Res.put, Res.known, Act.eval, Value.cells, getD_lit, List.getD_cons_zero, List.getD_cons_succ, List.toList_toArray, List.set_cons_zero, List.set_cons_succ, over, Nat.reduceAdd] at hM))); (try simp only [Act.put, List.setIfInBounds_toArray, List.set_cons_zero, List.set_cons_succ])) | (((first | refine St.alloc (ty := 112) (z := .agg #[.string ⟨#[]⟩, .bool false, .string ⟨#[]⟩]) rfl hM rfl rfl (by kernel_rfl) ?_ | refine St.alloc (ty := 34) (z := .agg #[.int .i64 0, .string ⟨#[]⟩, .string ⟨#[]⟩, .int .i64 0, .int .i64 0, .int .i64 0, .string ⟨#[]⟩, .int .i64 0, .int .i64 0]) rfl hM rfl rfl (by kernel_rfl) ?_); clear hM; intro w bk hM); (try simp only [Res.put, Res.known, Act.eval, Value.cells, getD_lit, List.getD_cons_zero, List.getD_cons_succ, List.toList_toArray, List.set_cons_zero, List.set_cons_succ, over, Nat.reduceAdd] at hM); (try simp only [Act.put, List.setIfInBounds_toArray, List.set_cons_zero, List.set_cons_succ]))) | (first | (refine wp_seq_shut (fun K hK => ?_)) | (refine wp_text hM (fun Kr hKr => ?_); simp only [inText]) | refine wp_skip ?_ | (refine wp_cond_false rfl ?_) | ((refine hK.out _ _ ?_); clear hK K))))
          ((refine St.call rfl rfl rfl (by kernel_rfl) (fun R hR => ?_); simp only [List.map_toArray, List.map_cons, List.map_nil, Act.eval, getD_lit, List.getD_cons_zero, List.getD_cons_succ]))
          refine (CU.out _ (hM.mx HX.out F0)).mono ?_
          rintro e w' ⟨rfl, hb⟩
          replace hM := hM.below hb
          (refine hR.out _ _ (fun _ => ⟨hM.only, nofun⟩) ?_); clear hR R hb
          (try simp only [Act.put, List.setIfInBounds_toArray, List.set_cons_zero, List.set_cons_succ])
          (repeat (first | ((with_reducible show wpSeq _ _ _ _ _ _ _); first | ((with_reducible refine wpSeq_nil ?_); refine hKr.out _ _ ?_; clear hKr Kr) | ((first | (refine St.copy (v := ?_) (by exact .inl rfl) rfl rfl ?_ ?_; rotate_left; (focus ((try simp only [Act.eval, getD_lit, List.getD_cons_zero, List.getD_cons_succ]); with_reducible rfl))) | refine St.inc rfl rfl rfl rfl rfl (by omega) ?_); (try simp only [Act.put, List.setIfInBounds_toArray, List.set_cons_zero, List.set_cons_succ]))) | (first | (refine wp_text hM (fun Kr hKr => ?_); simp only [inText]) | refine wp_skip ?_ | (refine wp_cond_false rfl ?_) | ((refine hK.out _ _ ?_); clear hK K))))
          replace hM := hM.forget.forget
          simp only [Exit.then]
          (refine ⟨?_, ?_⟩; (focus (repeat (first | exact ⟨⟨k + 1, β, dk, by omega, rfl, HS1.out, HF2.out, hM⟩, rfl⟩ | apply Exists.intro))); (simp only [getD_lit, List.getD_cons_zero, List.getD_cons_succ, intOf]; omega))
        | true =>
          have hst := HST.out
          have hf1 := HF1.out
          simp only [Bool.false_eq_true, if_false, if_true] at hst hf1
          have HS1 := Lib.hid hst
          have HF2 := Lib.hid hf1
          clear hst hf1 HST HF1
          (repeat (first | ((with_reducible show wpSeq _ _ _ _ _ _ _); first | ((with_reducible refine wpSeq_nil ?_); refine hKr.out _ _ ?_; clear hKr Kr) | ((first | (refine St.copy (v := ?_) (by exact .inl rfl) rfl rfl ?_ ?_; rotate_left; (focus ((try simp only [Act.eval, getD_lit, List.getD_cons_zero, List.getD_cons_succ]); with_reducible rfl))) | (refine St.pure (v := ?_) rfl rfl rfl (fun w => ?_) ?_; rotate_left; (focus (go_simp; all_goals with_reducible rfl))) | refine St.load rfl hM rfl rfl rfl rfl (by repeat constructor) (by rfl) (by kernel_rfl) ?_ | ((((refine St.storeRow rfl hM rfl rfl rfl rfl rfl (by repeat constructor) (Nat.le_of_ble_eq_true rfl) (Nat.le_of_ble_eq_true rfl) (by kernel_rfl) rfl ?_ ?_); (focus ((intro h; cases h; done))); clear hM; intro w hM)); (try simp only [Res.put, Res.known, Act.eval, Value.cells, getD_lit, List.getD_cons_zero, List.getD_cons_succ, List.toList_toArray, List.set_cons_zero, List.set_cons_succ, over, Nat.reduceAdd] at hM))); (try simp only [Act.put, List.setIfInBounds_toArray, List.set_cons_zero, List.set_cons_succ])) | (((first | refine St.alloc (ty := 112) (z := .agg #[.string ⟨#[]⟩, .bool false, .string ⟨#[]⟩]) rfl hM rfl rfl (by kernel_rfl) ?_ | refine St.alloc (ty := 34) (z := .agg #[.int .i64 0, .string ⟨#[]⟩, .string ⟨#[]⟩, .int .i64 0, .int .i64 0, .int .i64 0, .string ⟨#[]⟩, .int .i64 0, .int .i64 0]) rfl hM rfl rfl (by kernel_rfl) ?_); clear hM; intro w bk hM); (try simp only [Res.put, Res.known, Act.eval, Value.cells, getD_lit, List.getD_cons_zero, List.getD_cons_succ, List.toList_toArray, List.set_cons_zero, List.set_cons_succ, over, Nat.reduceAdd] at hM); (try simp only [Act.put, List.setIfInBounds_toArray, List.set_cons_zero, List.set_cons_succ]))) | (first | (refine wp_seq_shut (fun K hK => ?_)) | (refine wp_text hM (fun Kr hKr => ?_); simp only [inText]) | refine wp_skip ?_ | (refine wp_cond_false rfl ?_) | ((refine hK.out _ _ ?_); clear hK K))))
          ((refine St.call rfl rfl rfl (by kernel_rfl) (fun R hR => ?_); simp only [List.map_toArray, List.map_cons, List.map_nil, Act.eval, getD_lit, List.getD_cons_zero, List.getD_cons_succ]))
          refine (CU.out _ (hM.mx HX.out F0)).mono ?_
          rintro e w' ⟨rfl, hb⟩
          replace hM := hM.below hb
          (refine hR.out _ _ (fun _ => ⟨hM.only, nofun⟩) ?_); clear hR R hb
          (try simp only [Act.put, List.setIfInBounds_toArray, List.set_cons_zero, List.set_cons_succ])
          (repeat (first | ((with_reducible show wpSeq _ _ _ _ _ _ _); first | ((with_reducible refine wpSeq_nil ?_); refine hKr.out _ _ ?_; clear hKr Kr) | ((first | (refine St.copy (v := ?_) (by exact .inl rfl) rfl rfl ?_ ?_; rotate_left; (focus ((try simp only [Act.eval, getD_lit, List.getD_cons_zero, List.getD_cons_succ]); with_reducible rfl))) | ((refine St.loadRow rfl hM rfl rfl rfl rfl (by repeat constructor) (Nat.le_of_ble_eq_true rfl) (by kernel_rfl) ?_); (try simp only [Res.known, List.drop_succ_cons, List.drop_zero, List.take_succ_cons, List.take_zero]))); (try simp only [Act.put, List.setIfInBounds_toArray, List.set_cons_zero, List.set_cons_succ]))) | (first | (refine wp_text hM (fun Kr hKr => ?_); simp only [inText]) | (refine wp_cond_true rfl ?_) | ((refine hK.out _ _ ?_); clear hK K))))
          ((refine St.call rfl rfl rfl (by kernel_rfl) (fun R hR => ?_); simp only [List.map_toArray, List.map_cons, List.map_nil, Act.eval, getD_lit, List.getD_cons_zero, List.getD_cons_succ]))
          refine (CD11.out _ β (hM.fs (x := x) (β := β) (d := dk) (by repeat (first | exact Part.all | apply Part.skip)) HFK.out.inv HX.out F0)).mono ?_
          rintro e w' ⟨s2, β2, rfl, -, hN2⟩
          replace hM := hM.backM (M := fsL x β dk) (.skip (.skip (.skip .all))) (fsL_flag _ _ _) hN2 (fun y hy => (List.mem_append.1 hy).elim (txL_flag _ _ y) (fsL_flag _ _ _ y))
          (refine hR.out _ _ (fun _ => ⟨hM.only, nofun⟩) ?_); clear hR R hN2
          (try simp only [Act.put, List.setIfInBounds_toArray, List.set_cons_zero, List.set_cons_succ])
          (repeat (first | ((with_reducible show wpSeq _ _ _ _ _ _ _); first | ((with_reducible refine wpSeq_nil ?_); refine hKr.out _ _ ?_; clear hKr Kr) | ((first | (refine St.copy (v := ?_) (by exact .inl rfl) rfl rfl ?_ ?_; rotate_left; (focus ((try simp only [Act.eval, getD_lit, List.getD_cons_zero, List.getD_cons_succ]); with_reducible rfl))) | refine St.inc rfl rfl rfl rfl rfl (by omega) ?_); (try simp only [Act.put, List.setIfInBounds_toArray, List.set_cons_zero, List.set_cons_succ]))) | (first | (refine wp_text hM (fun Kr hKr => ?_); simp only [inText]) | ((refine hK.out _ _ ?_); clear hK K))))
          replace hM := hM.forget.forget.subM ((List.sublist_append_right _ _).cons_cons _)
          simp only [Exit.then]
          (refine ⟨?_, ?_⟩; (focus (repeat (first | exact ⟨⟨k + 1, β2, _, by omega, rfl, HS1.out, HF2.out, hM⟩, rfl⟩ | apply Exists.intro))); (simp only [getD_lit, List.getD_cons_zero, List.getD_cons_succ, intOf]; omega))
      | true =>
        cases un with
        | false =>
          have hst := HST.out
          have hf1 := HF1.out
          simp only [Bool.false_eq_true, if_false, if_true] at hst hf1
          have HS1 := Lib.hid hst
          have HF2 := Lib.hid hf1
          clear hst hf1 HST HF1
          (repeat (first | ((with_reducible show wpSeq _ _ _ _ _ _ _); first | ((with_reducible refine wpSeq_nil ?_); refine hKr.out _ _ ?_; clear hKr Kr) | ((first | (refine St.copy (v := ?_) (by exact .inl rfl) rfl rfl ?_ ?_; rotate_left; (focus ((try simp only [Act.eval, getD_lit, List.getD_cons_zero, List.getD_cons_succ]); with_reducible rfl))) | (refine St.pure (v := ?_) rfl rfl rfl (fun w => ?_) ?_; rotate_left; (focus (go_simp; all_goals with_reducible rfl))) | refine St.load rfl hM rfl rfl rfl rfl (by repeat constructor) (by rfl) (by kernel_rfl) ?_ | ((((first | refine St.store rfl hM rfl rfl rfl rfl rfl (by repeat constructor) (Nat.le_of_ble_eq_true rfl) (by kernel_rfl) rfl ?_ ?_ | refine St.storeRow rfl hM rfl rfl rfl rfl rfl (by repeat constructor) (Nat.le_of_ble_eq_true rfl) (Nat.le_of_ble_eq_true rfl) (by kernel_rfl) rfl ?_ ?_); (focus ((intro h; cases h; done))); clear hM; intro w hM)); (try simp only [Res.put, Res.known, Act.eval, Value.cells, getD_lit, List.getD_cons_zero, List.getD_cons_succ, List.toList_toArray, List.set_cons_zero, List.set_cons_succ, over, Nat.reduceAdd] at hM))); (try simp only [Act.put, List.setIfInBounds_toArray, List.set_cons_zero, List.set_cons_succ])) | (((first | refine St.alloc (ty := 112) (z := .agg #[.string ⟨#[]⟩, .bool false, .string ⟨#[]⟩]) rfl hM rfl rfl (by kernel_rfl) ?_ | refine St.alloc (ty := 34) (z := .agg #[.int .i64 0, .string ⟨#[]⟩, .string ⟨#[]⟩, .int .i64 0, .int .i64 0, .int .i64 0, .string ⟨#[]⟩, .int .i64 0, .int .i64 0]) rfl hM rfl rfl (by kernel_rfl) ?_); clear hM; intro w bk hM); (try simp only [Res.put, Res.known, Act.eval, Value.cells, getD_lit, List.getD_cons_zero, List.getD_cons_succ, List.toList_toArray, List.set_cons_zero, List.set_cons_succ, over, Nat.reduceAdd] at hM); (try simp only [Act.put, List.setIfInBounds_toArray, List.set_cons_zero, List.set_cons_succ]))) | (first | (refine wp_seq_shut (fun K hK => ?_)) | (refine wp_text hM (fun Kr hKr => ?_); simp only [inText]) | (refine wp_cond_true rfl ?_) | ((refine hK.out _ _ ?_); clear hK K))))
          ((refine St.call rfl rfl rfl (by kernel_rfl) (fun R hR => ?_); simp only [List.map_toArray, List.map_cons, List.map_nil, Act.eval, getD_lit, List.getD_cons_zero, List.getD_cons_succ]))
          refine (CU.out _ (hM.mx HX.out F0)).mono ?_
          rintro e w' ⟨rfl, hb⟩
          replace hM := hM.below hb
          (refine hR.out _ _ (fun _ => ⟨hM.only, nofun⟩) ?_); clear hR R hb
          (try simp only [Act.put, List.setIfInBounds_toArray, List.set_cons_zero, List.set_cons_succ])
          (repeat (first | ((with_reducible show wpSeq _ _ _ _ _ _ _); first | ((with_reducible refine wpSeq_nil ?_); refine hKr.out _ _ ?_; clear hKr Kr) | ((first | (refine St.copy (v := ?_) (by exact .inl rfl) rfl rfl ?_ ?_; rotate_left; (focus ((try simp only [Act.eval, getD_lit, List.getD_cons_zero, List.getD_cons_succ]); with_reducible rfl))) | refine St.inc rfl rfl rfl rfl rfl (by omega) ?_); (try simp only [Act.put, List.setIfInBounds_toArray, List.set_cons_zero, List.set_cons_succ]))) | (first | (refine wp_text hM (fun Kr hKr => ?_); simp only [inText]) | refine wp_skip ?_ | (refine wp_cond_false rfl ?_) | ((refine hK.out _ _ ?_); clear hK K))))
          replace hM := hM.forget.forget
          simp only [Exit.then]
          (refine ⟨?_, ?_⟩; (focus (repeat (first | exact ⟨⟨k + 1, β, dk, by omega, rfl, HS1.out, HF2.out, hM⟩, rfl⟩ | apply Exists.intro))); (simp only [getD_lit, List.getD_cons_zero, List.getD_cons_succ, intOf]; omega))
        | true =>
          have hst := HST.out
          have hf1 := HF1.out
          simp only [Bool.false_eq_true, if_false, if_true] at hst hf1
          have HS1 := Lib.hid hst
          have HF2 := Lib.hid hf1
          clear hst hf1 HST HF1
          (repeat (first | ((with_reducible show wpSeq _ _ _ _ _ _ _); first | ((with_reducible refine wpSeq_nil ?_); refine hKr.out _ _ ?_; clear hKr Kr) | ((first | (refine St.copy (v := ?_) (by exact .inl rfl) rfl rfl ?_ ?_; rotate_left; (focus ((try simp only [Act.eval, getD_lit, List.getD_cons_zero, List.getD_cons_succ]); with_reducible rfl))) | (refine St.pure (v := ?_) rfl rfl rfl (fun w => ?_) ?_; rotate_left; (focus (go_simp; all_goals with_reducible rfl))) | refine St.load rfl hM rfl rfl rfl rfl (by repeat constructor) (by rfl) (by kernel_rfl) ?_ | ((((first | refine St.store rfl hM rfl rfl rfl rfl rfl (by repeat constructor) (Nat.le_of_ble_eq_true rfl) (by kernel_rfl) rfl ?_ ?_ | refine St.storeRow rfl hM rfl rfl rfl rfl rfl (by repeat constructor) (Nat.le_of_ble_eq_true rfl) (Nat.le_of_ble_eq_true rfl) (by kernel_rfl) rfl ?_ ?_); (focus ((intro h; cases h; done))); clear hM; intro w hM)); (try simp only [Res.put, Res.known, Act.eval, Value.cells, getD_lit, List.getD_cons_zero, List.getD_cons_succ, List.toList_toArray, List.set_cons_zero, List.set_cons_succ, over, Nat.reduceAdd] at hM))); (try simp only [Act.put, List.setIfInBounds_toArray, List.set_cons_zero, List.set_cons_succ])) | (((first | refine St.alloc (ty := 112) (z := .agg #[.string ⟨#[]⟩, .bool false, .string ⟨#[]⟩]) rfl hM rfl rfl (by kernel_rfl) ?_ | refine St.alloc (ty := 34) (z := .agg #[.int .i64 0, .string ⟨#[]⟩, .string ⟨#[]⟩, .int .i64 0, .int .i64 0, .int .i64 0, .string ⟨#[]⟩, .int .i64 0, .int .i64 0]) rfl hM rfl rfl (by kernel_rfl) ?_); clear hM; intro w bk hM); (try simp only [Res.put, Res.known, Act.eval, Value.cells, getD_lit, List.getD_cons_zero, List.getD_cons_succ, List.toList_toArray, List.set_cons_zero, List.set_cons_succ, over, Nat.reduceAdd] at hM); (try simp only [Act.put, List.setIfInBounds_toArray, List.set_cons_zero, List.set_cons_succ]))) | (first | (refine wp_seq_shut (fun K hK => ?_)) | (refine wp_text hM (fun Kr hKr => ?_); simp only [inText]) | (refine wp_cond_true rfl ?_) | ((refine hK.out _ _ ?_); clear hK K))))
          ((refine St.call rfl rfl rfl (by kernel_rfl) (fun R hR => ?_); simp only [List.map_toArray, List.map_cons, List.map_nil, Act.eval, getD_lit, List.getD_cons_zero, List.getD_cons_succ]))
          refine (CU.out _ (hM.mx HX.out F0)).mono ?_
          rintro e w' ⟨rfl, hb⟩
          replace hM := hM.below hb
          (refine hR.out _ _ (fun _ => ⟨hM.only, nofun⟩) ?_); clear hR R hb
          (try simp only [Act.put, List.setIfInBounds_toArray, List.set_cons_zero, List.set_cons_succ])
          (repeat (first | ((with_reducible show wpSeq _ _ _ _ _ _ _); first | ((with_reducible refine wpSeq_nil ?_); refine hKr.out _ _ ?_; clear hKr Kr) | ((first | (refine St.copy (v := ?_) (by exact .inl rfl) rfl rfl ?_ ?_; rotate_left; (focus ((try simp only [Act.eval, getD_lit, List.getD_cons_zero, List.getD_cons_succ]); with_reducible rfl))) | ((refine St.loadRow rfl hM rfl rfl rfl rfl (by repeat constructor) (Nat.le_of_ble_eq_true rfl) (by kernel_rfl) ?_); (try simp only [Res.known, List.drop_succ_cons, List.drop_zero, List.take_succ_cons, List.take_zero]))); (try simp only [Act.put, List.setIfInBounds_toArray, List.set_cons_zero, List.set_cons_succ]))) | (first | (refine wp_text hM (fun Kr hKr => ?_); simp only [inText]) | (refine wp_cond_true rfl ?_) | ((refine hK.out _ _ ?_); clear hK K))))
          ((refine St.call rfl rfl rfl (by kernel_rfl) (fun R hR => ?_); simp only [List.map_toArray, List.map_cons, List.map_nil, Act.eval, getD_lit, List.getD_cons_zero, List.getD_cons_succ]))
          refine (CD2.out _ β (hM.fs (x := x) (β := β) (d := dk) (by repeat (first | exact Part.all | apply Part.skip)) HFK.out.inv HX.out F0)).mono ?_
          rintro e w' ⟨s2, β2, rfl, -, hN2⟩
          replace hM := hM.backM (M := fsL x β dk) (.skip (.skip (.skip .all))) (fsL_flag _ _ _) hN2 (fun y hy => (List.mem_append.1 hy).elim (txL_flag _ _ y) (fsL_flag _ _ _ y))
          (refine hR.out _ _ (fun _ => ⟨hM.only, nofun⟩) ?_); clear hR R hN2
          (try simp only [Act.put, List.setIfInBounds_toArray, List.set_cons_zero, List.set_cons_succ])
          (repeat (first | ((with_reducible show wpSeq _ _ _ _ _ _ _); first | ((with_reducible refine wpSeq_nil ?_); refine hKr.out _ _ ?_; clear hKr Kr) | ((first | (refine St.copy (v := ?_) (by exact .inl rfl) rfl rfl ?_ ?_; rotate_left; (focus ((try simp only [Act.eval, getD_lit, List.getD_cons_zero, List.getD_cons_succ]); with_reducible rfl))) | refine St.inc rfl rfl rfl rfl rfl (by omega) ?_); (try simp only [Act.put, List.setIfInBounds_toArray, List.set_cons_zero, List.set_cons_succ]))) | (first | (refine wp_text hM (fun Kr hKr => ?_); simp only [inText]) | ((refine hK.out _ _ ?_); clear hK K))))
          replace hM := hM.forget.forget.subM ((List.sublist_append_right _ _).cons_cons _)
          simp only [Exit.then]
          (refine ⟨?_, ?_⟩; (focus (repeat (first | exact ⟨⟨k + 1, β2, _, by omega, rfl, HS1.out, HF2.out, hM⟩, rfl⟩ | apply Exists.intro))); (simp only [getD_lit, List.getD_cons_zero, List.getD_cons_succ, intOf]; omega))
    · have k0 : ¬ ((k : Int) < (rs.length : Int)) := by omega
      obtain rfl : k = rs.length := by omega
      have e := HDK.out
      rw [List.take_length] at e
      clear hlt hk
      (repeat (first | ((with_reducible show wpSeq _ _ _ _ _ _ _); first | ((with_reducible refine wpSeq_nil ?_); refine hKr.out _ _ ?_; clear hKr Kr) | (((refine St.pure (v := ?_) rfl rfl rfl (fun w => ?_) ?_; rotate_left; (focus (go_simp; all_goals with_reducible rfl)))); (try simp only [Act.put, List.setIfInBounds_toArray, List.set_cons_zero, List.set_cons_succ]))) | (first | (refine wp_seq_shut (fun K hK => ?_)) | (refine wp_text hM (fun Kr hKr => ?_); simp only [inText]) | (refine wp_cond_false rfl ?_) | (refine wp_exit ?_; simp only [Exit.then, Exit.inBlock, if_true, if_false, reduceCtorEq, Nat.reduceEqDiff, Nat.succ_ne_zero]) | ((refine hK.out _ _ ?_); clear hK K))))
      ((refine St.fin hM rfl (by repeat (exact Outs.nil)) rfl ?_))
      refine ⟨rfl, β, ?_⟩
      rw [e]
      exact hM.subM (List.sublist_append_right _ _)
end
end Go.Proofs.YtcicjklhbnipcaaGreatDoor
namespace Go.Proofs.YtcicjklhbnipcaaGreatDoor
set_option linter.unusedVariables false
set_option linter.unusedSimpArgs false
open Go.RowKit Go.Maps
section
variable {N : Nat} {X : DskX} {x y : FsX} {β γ : Int → Nat × Nat} {D : DskD} {d : FsD} {w w' w0 : World} {F : List Nat} {L L' M M' R : List Ent} {b f g n : Nat} {s : Option (Nat × Nat)}
/-- One block is written, the others are read. -/
theorem At.stB {e : Ent} (h : At (e :: R) w) : St w [e.1] w (e :: R.map unflag) := by
  refine ⟨Only.refl _ w, fun z hz => ?_, ?_, fun z hz h1 => ?_⟩
  · rcases List.mem_cons.1 hz with rfl | hz
    · exact h.has z (.head _)
    · obtain ⟨y, hy, rfl⟩ := List.mem_map.1 hz
      exact h.has y (.tail _ hy)
  · have := h.nd
    unfold keysOf at this
    rw [List.map_cons] at this ⊢
    rw [List.map_map]
    exact this
  · rcases List.mem_cons.1 hz with rfl | hz
    · exact .inl (by simp)
    · obtain ⟨y, hy, rfl⟩ := List.mem_map.1 hz
      cases h1
theorem log_step {l : List LogD} {k : Nat} {z : LogD} (h : l[k]? = some z) (d : FsD) : Ol.replay d (l.take (k + 1)) = Ol.again (Ol.replay d (l.take k)) z := by
  rw [List.take_add_one, h, Option.toList_some, Ol.replay_snoc]
theorem own_step {l : List Int} {k : Nat} {o : Int} (h : l[k]? = some o) (d : FsD) : (l.take (k + 1)).foldl Fs.exit d = Fs.exit ((l.take k).foldl Fs.exit d) o := by
  rw [List.take_add_one, h, Option.toList_some, List.foldl_append]
  rfl
theorem ents_holds {zs : List LogV} {z : LogV} (hM : St w0 F w L) (hs : ∀ e ∈ (zs.flatMap LogV.ents).map unflag, e ∈ L) (hz : z ∈ zs) : ∀ e ∈ z.ents, e.2.2.holds w.heap[e.1]? := fun e he =>
  hM.holds (unflag e) (hs _ (List.mem_map_of_mem (List.mem_flatMap.2 ⟨z, hz, he⟩)))
set_option maxHeartbeats 16000000 in
set_option maxRecDepth 100000 in
theorem dCut_any {zs : List LogV} (hA : At (dskE b f y.f s zs.length :: (logL s (zs.map LogV.val) ++ (fsL y γ D.base ++ zs.flatMap LogV.ents))) w0) (hk : SlOK s zs.length (zs.map LogV.val) 1) (hz : zs.map (·.1) = D.log) {K0 : Nat} (hB : Ol.FInv K0 D.base) (hKN : K0 + 3 * D.log.length ≤ 30000) (hok : ∀ l ∈ D.log, Ol.LogOk l) (hX : Mx w0) (h0 : 0 ∉ keysOf (dskE b f y.f s zs.length :: (logL s (zs.map LogV.val) ++ (fsL y γ D.base ++ zs.flatMap LogV.ents)))) (keep : Int) :
    Calls Tryz.prog 30 #[.pointer (some ⟨b, 0, none⟩), .int .i64 keep] w0 fun e w' => e = .returned (.int .i64 0) ∧ ∃ x1 β1 x2 β2, St w0 [b] w' (dskE b (FsX.f x1) (FsX.f x2) none 0 :: (fsL x1 β1 (Ol.cutFs D keep) ++ fsL x2 β2 (Ol.cutFs D keep))) := by
  have hY : FsAt K0 y γ D.base w0 := ⟨hA.sub (((List.sublist_append_left _ _).trans (List.sublist_append_right _ _)).cons _), hB.inv, hX, keys_sub (((List.sublist_append_left _ _).trans (List.sublist_append_right _ _)).cons _) h0⟩
  have hM := hA.stB
  have HY := Lib.hid hY
  have HX := Lib.hid hX
  have F0 : 0 ∉ ([b] : List Nat) := fun h => h0 (by rcases List.mem_singleton.1 h with rfl; exact .head _)
  have HB := Lib.hid hB
  have HOK := Lib.hid hok
  have HZ := Lib.hid hz
  have HK := Lib.hid hk
  have hlog : zs.length = D.log.length := by rw [← hz, List.length_map]
  have hln : zs.length ≤ 10000 := by omega
  obtain ⟨kk, hkk⟩ : ∃ kk : Nat, max 0 (min keep (zs.length : Int)) = (kk : Int) := ⟨(max 0 (min keep (zs.length : Int))).toNat, by omega⟩
  have hC : Ol.cutFs D keep = Ol.empties (Ol.exits (Ol.replay D.base (D.log.take kk))) := by
    unfold Ol.cutFs
    rw [← hlog, hkk, Int.toNat_natCast]
  rw [hC]
  have hkl : kk ≤ zs.length := by omega
  obtain ⟨va, vc, hv, hva⟩ := slV_open hk
  have hvc : (kk : Int) ≤ (vc : Int) := by
    rcases s with _ | ⟨g, cap⟩
    · have := hk.2; omega
    · obtain ⟨-, rfl⟩ := hva g cap rfl
      have := hk.2.1
      omega
  have HLG := Lib.hid hlog
  clear hA hY hX hB hok hz hk h0 hC hlog
  unfold dskE at hM
  rw [hv] at hM
  rw [List.map_append, List.map_append] at hM
  go_enter Tryz.func30, Tryz.ntmps30
  (repeat (first | ((with_reducible show wpSeq _ _ _ _ _ _ _); first | ((with_reducible refine wpSeq_nil ?_); refine hKr.out _ _ ?_; clear hKr Kr) | (((refine St.copy (v := ?_) (by first | exact .inl rfl | exact .inr rfl) rfl rfl ?_ ?_; rotate_left; (focus ((try simp only [Act.eval, getD_lit, List.getD_cons_zero, List.getD_cons_succ]); with_reducible rfl)))); (try simp only [Act.put, List.setIfInBounds_toArray, List.set_cons_zero, List.set_cons_succ]))) | (first | (refine wp_seq_shut (fun K hK => ?_)) | (refine wp_text hM (fun Kr hKr => ?_); simp only [inText]) | ((refine hK.out _ _ ?_); clear hK K))))
  ((refine St.call rfl rfl rfl (by kernel_rfl) (fun R hR => ?_); simp only [List.map_toArray, List.map_cons, List.map_nil, Act.eval, getD_lit, List.getD_cons_zero, List.getD_cons_succ]))
  refine (dgiven_any (f := f) (g := y.f) (s := s) (n := zs.length) (by
    have := hM.holds _ (.head _)
    unfold dskE
    rw [hv]
    exact this)).mono ?_
  rintro e w' ⟨rfl, rfl⟩; refine hR.out _ _ (fun h => h) ?_; clear hR R; (try simp only [Act.put, List.setIfInBounds_toArray, List.set_cons_zero, List.set_cons_succ])
  (repeat (first | ((with_reducible show wpSeq _ _ _ _ _ _ _); first | ((with_reducible refine wpSeq_nil ?_); refine hKr.out _ _ ?_; clear hKr Kr) | ((first | (refine St.copy (v := ?_) (by exact .inl rfl) rfl rfl ?_ ?_; rotate_left; (focus ((try simp only [Act.eval, getD_lit, List.getD_cons_zero, List.getD_cons_succ]); with_reducible rfl))) | (refine St.pure (v := ?_) rfl rfl rfl (fun w => ?_) ?_; rotate_left; (focus (go_simp; all_goals with_reducible rfl))) | refine St.load rfl hM rfl rfl rfl rfl (by repeat constructor) (by rfl) (by kernel_rfl) ?_); (try simp only [Act.put, List.setIfInBounds_toArray, List.set_cons_zero, List.set_cons_succ]))) | (first | (refine wp_seq_shut (fun K hK => ?_)) | (refine wp_text hM (fun Kr hKr => ?_); simp only [inText]) | refine wp_skip ?_ | (refine wp_cond_false rfl ?_) | ((refine hK.out _ _ ?_); clear hK K))))
  ((refine St.call rfl rfl rfl (by kernel_rfl) (fun R hR => ?_); simp only [List.map_toArray, List.map_cons, List.map_nil, Act.eval, getD_lit, List.getD_cons_zero, List.getD_cons_succ]))
  refine (fClone_any HY.out (by omega)).mono ?_
  rintro e w' ⟨x1, β1, rfl, hN2⟩
  replace hM := hM.madeM hN2 (fsL_flag _ _ _)
  (refine hR.out _ _ (fun _ => ⟨hM.only, nofun⟩) ?_); clear hR R hN2
  replace hM := hM.perm (List.perm_middle)
  (try simp only [Act.put, List.setIfInBounds_toArray, List.set_cons_zero, List.set_cons_succ])
  (repeat (first | ((with_reducible show wpSeq _ _ _ _ _ _ _); first | ((with_reducible refine wpSeq_nil ?_); refine hKr.out _ _ ?_; clear hKr Kr) | ((first | (refine St.copy (v := ?_) (by first | exact .inl rfl | exact .inr rfl) rfl rfl ?_ ?_; rotate_left; (focus ((try simp only [Act.eval, getD_lit, List.getD_cons_zero, List.getD_cons_succ]); with_reducible rfl))) | (refine St.pure (v := ?_) rfl rfl rfl (fun w => ?_) ?_; rotate_left; (focus (go_simp; all_goals with_reducible rfl))) | refine St.load1 rfl rfl rfl rfl (by repeat constructor) (by rfl) (by kernel_rfl) ?_); (try simp only [Act.put, List.setIfInBounds_toArray, List.set_cons_zero, List.set_cons_succ]))) | (first | (refine wp_seq_shut (fun K hK => ?_)) | refine wp_block ?_ | ((refine hK.out _ _ ?_); clear hK K)) | ((refine wp_drawn (id := 4) hM (Sub.all _) [3, 8] [(0, 0), (1, 0), (2, 0), (3, 1), (4, 0), (5, 0), (6, 0), (7, 0), (8, 1), (9, 0), (10, 0), (11, 0), (12, 0), (13, 0), (14, 2)] (by kernel_rfl) (by kernel_rfl) ?_); (clear hM; intro w hM Kr hKr); simp only [opsOf, List.getD_cons_zero, List.getD_cons_succ])))
  have RE : ∀ e ∈ (zs.flatMap LogV.ents).map unflag, e ∈ List.map unflag (logL s (List.map LogV.val zs)) ++ (List.map unflag (fsL y γ D.base) ++ List.map unflag (List.flatMap LogV.ents zs)) := fun e he => List.mem_append_right _ (List.mem_append_right _ he)
  have RG : ∀ g cap, s = some (g, cap) → (g, false, Res.pre (zs.map LogV.val) 138 (cap * 1)) ∈ List.map unflag (logL s (List.map LogV.val zs)) ++ (List.map unflag (fsL y γ D.base) ++ List.map unflag (List.flatMap LogV.ents zs)) := fun g cap hs => by
    subst hs
    exact List.mem_append_left _ (.head _)
  generalize List.map unflag (logL s (List.map LogV.val zs)) ++ (List.map unflag (fsL y γ D.base) ++ List.map unflag (List.flatMap LogV.ents zs)) = RR at *
  have HRE := Lib.hid RE
  have HRG := Lib.hid RG
  clear RE RG
  go_loopw [32] (fun i wr => ∃ (k : Nat) (β' : Int → Nat × Nat) (dk : FsD), k ≤ kk ∧ i = .int .i64 k ∧ Ol.replay D.base (D.log.take k) = dk ∧ Ol.FInv (K0 + 3 * k) dk ∧ St w0 [b] wr ((b, true, .cells [.pointer (some ⟨f, 0, none⟩), .pointer (some ⟨y.f, 0, none⟩), .slice va zs.length vc] 81) :: (fsL x1 β' dk ++ RR))) (fun i _ => kk - (intOf i).toNat)
  case atStart => exact ⟨0, β1, D.base, by omega, rfl, rfl, HB.out, hM⟩
  case round =>
    clear hM
    obtain ⟨k, β1, dk, hk, rfl, hdk, hfi, hM⟩ := hrel
    have HDK := Lib.hid hdk
    have HFK := Lib.hid hfi
    clear hdk hfi
    by_cases hlt : k < kk
    · obtain ⟨z, hzk⟩ := get_at (xs := zs) (k := k) (by omega)
      rcases hs : s with _ | ⟨g, cap⟩
      · have := HK.out
        rw [hs] at this
        exact absurd this.2 (by omega)
      obtain ⟨rfl, rfl⟩ := hva g cap hs
      have hmem := HRG.out g vc hs
      have hzm := List.mem_of_getElem? hzk
      have hvk : ((zs.map LogV.val).drop k).take 1 = [z.val] := by
        have h1 : (zs.map LogV.val)[k]? = some z.val := by rw [List.getElem?_map, hzk]; rfl
        obtain ⟨h2, h3⟩ := List.getElem?_eq_some_iff.1 h1
        rw [List.drop_eq_getElem_cons h2, h3]
        rfl
      have hlk : D.log[k]? = some z.1 := by rw [← HZ.out, List.getElem?_map, hzk]; rfl
      have HST := Lib.hid ((log_step hlk D.base).trans (congrArg (fun q => Ol.again q z.1) HDK.out))
      have hlok := HOK.out z.1 (List.mem_of_getElem? hlk)
      have hKk : K0 + 3 * k + 3 ≤ 30000 := by have := HLG.out; omega
      have HFN := Lib.hid (Ol.finv_again HFK.out (by omega) hlok)
      have hlen : k + 1 ≤ (zs.map LogV.val).length := by rw [List.length_map]; omega
      have k1 : (k : Int) < (kk : Int) := by omega
      clear hzk hlk hs hlt
      (repeat (first | ((with_reducible show wpSeq _ _ _ _ _ _ _); first | ((with_reducible refine wpSeq_nil ?_); refine hKr.out _ _ ?_; clear hKr Kr) | (((refine St.pure (v := ?_) rfl rfl rfl (fun w => ?_) ?_; rotate_left; (focus (go_simp; all_goals with_reducible rfl)))); (try simp only [Act.put, List.setIfInBounds_toArray, List.set_cons_zero, List.set_cons_succ]))) | (first | (refine wp_seq_shut (fun K hK => ?_)) | (refine wp_text hM (fun Kr hKr => ?_); simp only [inText]) | refine wp_block ?_ | refine wp_skip ?_ | (refine wp_cond_true rfl ?_) | ((refine hK.out _ _ ?_); clear hK K))))
      refine St.loadRow rfl hM rfl rfl rfl rfl (.tail _ (List.mem_append_right _ hmem)) (by exact hlen) (by kernel_rfl) ?_
      simp only [Res.known]
      rw [hvk]
      obtain ⟨⟨o, _ | p⟩, ob, qb⟩ := z
      · have HH : ∀ w L, St w0 [b] w L → (∀ e ∈ RR, e ∈ L) → (Res.cells [.int .i64 o] 3).holds w.heap[ob]? := fun w L hM hs => ents_holds (z := ((o, none), ob, qb)) hM (fun e he => hs e (HRE.out e he)) hzm (ob, true, .cells [.int .i64 o] 3) (.head _)
        simp only [LogV.val]
        (try simp only [Act.put, List.setIfInBounds_toArray, List.set_cons_zero, List.set_cons_succ])
        (repeat (first | ((with_reducible show wpSeq _ _ _ _ _ _ _); first | ((with_reducible refine wpSeq_nil ?_); refine hKr.out _ _ ?_; clear hKr Kr) | ((first | (refine St.copy (v := ?_) (by exact .inl rfl) rfl rfl ?_ ?_; rotate_left; (focus ((try simp only [Act.eval, getD_lit, List.getD_cons_zero, List.getD_cons_succ]); with_reducible rfl))) | (refine St.pure (v := ?_) rfl rfl rfl (fun w => ?_) ?_; rotate_left; (focus (go_simp; all_goals with_reducible rfl))) | refine St.load rfl hM rfl rfl rfl rfl (by repeat constructor) (by rfl) (by kernel_rfl) ?_ | ((((refine St.storeRow rfl hM rfl rfl rfl rfl rfl (by repeat constructor) (Nat.le_of_ble_eq_true rfl) (Nat.le_of_ble_eq_true rfl) (by kernel_rfl) rfl ?_ ?_); (focus ((intro h; cases h; done))); clear hM; intro w hM)); (try simp only [Res.put, Res.known, Act.eval, Value.cells, getD_lit, List.getD_cons_zero, List.getD_cons_succ, List.toList_toArray, List.set_cons_zero, List.set_cons_succ, over, Nat.reduceAdd] at hM))); (try simp only [Act.put, List.setIfInBounds_toArray, List.set_cons_zero, List.set_cons_succ])) | (((refine St.alloc (ty := 138) (z := .agg #[.nilFunc]) rfl hM rfl rfl (by kernel_rfl) ?_); clear hM; intro w bk hM); (try simp only [Res.put, Res.known, Act.eval, Value.cells, getD_lit, List.getD_cons_zero, List.getD_cons_succ, List.toList_toArray, List.set_cons_zero, List.set_cons_succ, over, Nat.reduceAdd] at hM); (try simp only [Act.put, List.setIfInBounds_toArray, List.set_cons_zero, List.set_cons_succ]))) | (first | (refine wp_text hM (fun Kr hKr => ?_); simp only [inText]) | ((refine hK.out _ _ ?_); clear hK K))))
        (refine St.callv rfl rfl rfl rfl (by kernel_rfl) (fun R hR => ?_); simp only [List.map_toArray, List.map_cons, List.map_nil, Act.eval, getD_lit, List.getD_cons_zero, List.getD_cons_succ, Array.append_empty, Array.empty_append])
        refine (again_exit (hM.fs (x := x1) (β := β1) (d := dk) (.skip (.skip .here)) HFK.out.inv HX.out F0) (by omega) hlok.1 (HH _ _ hM (fun e he => .tail _ (.tail _ (List.mem_append_right _ he))))).mono ?_
        rintro e w' ⟨rfl, β2, hN2⟩
        replace hM := hM.backM (M := fsL x1 β1 dk) (.skip (.skip .here)) (fsL_flag _ _ _) hN2 (fsL_flag _ _ _)
        (refine hR.out _ _ (fun _ => ⟨hM.only, nofun⟩) ?_); clear hR R hN2
        (try simp only [Act.put, List.setIfInBounds_toArray, List.set_cons_zero, List.set_cons_succ])
        (repeat (first | ((with_reducible show wpSeq _ _ _ _ _ _ _); first | ((with_reducible refine wpSeq_nil ?_); refine hKr.out _ _ ?_; clear hKr Kr) | ((first | (refine St.copy (v := ?_) (by exact .inl rfl) rfl rfl ?_ ?_; rotate_left; (focus ((try simp only [Act.eval, getD_lit, List.getD_cons_zero, List.getD_cons_succ]); with_reducible rfl))) | refine St.inc rfl rfl rfl rfl rfl (by omega) ?_); (try simp only [Act.put, List.setIfInBounds_toArray, List.set_cons_zero, List.set_cons_succ]))) | (first | (refine wp_text hM (fun Kr hKr => ?_); simp only [inText]) | ((refine hK.out _ _ ?_); clear hK K))))
        replace hM := hM.forget
        simp only [Exit.then]
        (refine ⟨?_, ?_⟩; (focus (repeat (first | exact ⟨⟨k + 1, β2, _, by omega, rfl, HST.out, HFN.out, hM⟩, rfl⟩ | apply Exists.intro))); (simp only [getD_lit, List.getD_cons_zero, List.getD_cons_succ, intOf]; omega))
      · have HH1 : ∀ w L, St w0 [b] w L → (∀ e ∈ RR, e ∈ L) → (Res.cells [.int .i64 o] 3).holds w.heap[ob]? := fun w L hM hs => ents_holds (z := ((o, some p), ob, qb)) hM (fun e he => hs e (HRE.out e he)) hzm (ob, true, .cells [.int .i64 o] 3) (.head _)
        have HH2 : ∀ w L, St w0 [b] w L → (∀ e ∈ RR, e ∈ L) → (Res.cells p.cells 34).holds w.heap[qb]? := fun w L hM hs => ents_holds (z := ((o, some p), ob, qb)) hM (fun e he => hs e (HRE.out e he)) hzm (qb, true, .cells p.cells 34) (.tail _ (.head _))
        simp only [LogV.val]
        (try simp only [Act.put, List.setIfInBounds_toArray, List.set_cons_zero, List.set_cons_succ])
        (repeat (first | ((with_reducible show wpSeq _ _ _ _ _ _ _); first | ((with_reducible refine wpSeq_nil ?_); refine hKr.out _ _ ?_; clear hKr Kr) | ((first | (refine St.copy (v := ?_) (by exact .inl rfl) rfl rfl ?_ ?_; rotate_left; (focus ((try simp only [Act.eval, getD_lit, List.getD_cons_zero, List.getD_cons_succ]); with_reducible rfl))) | (refine St.pure (v := ?_) rfl rfl rfl (fun w => ?_) ?_; rotate_left; (focus (go_simp; all_goals with_reducible rfl))) | refine St.load rfl hM rfl rfl rfl rfl (by repeat constructor) (by rfl) (by kernel_rfl) ?_ | ((((refine St.storeRow rfl hM rfl rfl rfl rfl rfl (by repeat constructor) (Nat.le_of_ble_eq_true rfl) (Nat.le_of_ble_eq_true rfl) (by kernel_rfl) rfl ?_ ?_); (focus ((intro h; cases h; done))); clear hM; intro w hM)); (try simp only [Res.put, Res.known, Act.eval, Value.cells, getD_lit, List.getD_cons_zero, List.getD_cons_succ, List.toList_toArray, List.set_cons_zero, List.set_cons_succ, over, Nat.reduceAdd] at hM))); (try simp only [Act.put, List.setIfInBounds_toArray, List.set_cons_zero, List.set_cons_succ])) | (((refine St.alloc (ty := 138) (z := .agg #[.nilFunc]) rfl hM rfl rfl (by kernel_rfl) ?_); clear hM; intro w bk hM); (try simp only [Res.put, Res.known, Act.eval, Value.cells, getD_lit, List.getD_cons_zero, List.getD_cons_succ, List.toList_toArray, List.set_cons_zero, List.set_cons_succ, over, Nat.reduceAdd] at hM); (try simp only [Act.put, List.setIfInBounds_toArray, List.set_cons_zero, List.set_cons_succ]))) | (first | (refine wp_text hM (fun Kr hKr => ?_); simp only [inText]) | ((refine hK.out _ _ ?_); clear hK K))))
        (refine St.callv rfl rfl rfl rfl (by kernel_rfl) (fun R hR => ?_); simp only [List.map_toArray, List.map_cons, List.map_nil, Act.eval, getD_lit, List.getD_cons_zero, List.getD_cons_succ, Array.append_empty, Array.empty_append])
        refine (again_do (hM.fs (x := x1) (β := β1) (d := dk) (.skip (.skip .here)) HFK.out.inv HX.out F0) (by omega) hlok.1 (hlok.2 p rfl) (HH1 _ _ hM (fun e he => .tail _ (.tail _ (List.mem_append_right _ he)))) (HH2 _ _ hM (fun e he => .tail _ (.tail _ (List.mem_append_right _ he))))).mono ?_
        rintro e w' ⟨rfl, β2, hN2⟩
        replace hM := hM.backM (M := fsL x1 β1 dk) (.skip (.skip .here)) (fsL_flag _ _ _) hN2 (fsL_flag _ _ _)
        (refine hR.out _ _ (fun _ => ⟨hM.only, nofun⟩) ?_); clear hR R hN2
        (try simp only [Act.put, List.setIfInBounds_toArray, List.set_cons_zero, List.set_cons_succ])
        (repeat (first | ((with_reducible show wpSeq _ _ _ _ _ _ _); first | ((with_reducible refine wpSeq_nil ?_); refine hKr.out _ _ ?_; clear hKr Kr) | ((first | (refine St.copy (v := ?_) (by exact .inl rfl) rfl rfl ?_ ?_; rotate_left; (focus ((try simp only [Act.eval, getD_lit, List.getD_cons_zero, List.getD_cons_succ]); with_reducible rfl))) | refine St.inc rfl rfl rfl rfl rfl (by omega) ?_); (try simp only [Act.put, List.setIfInBounds_toArray, List.set_cons_zero, List.set_cons_succ]))) | (first | (refine wp_text hM (fun Kr hKr => ?_); simp only [inText]) | ((refine hK.out _ _ ?_); clear hK K))))
        replace hM := hM.forget
        simp only [Exit.then]
        (refine ⟨?_, ?_⟩; (focus (repeat (first | exact ⟨⟨k + 1, β2, _, by omega, rfl, HST.out, HFN.out, hM⟩, rfl⟩ | apply Exists.intro))); (simp only [getD_lit, List.getD_cons_zero, List.getD_cons_succ, intOf]; omega))
    · have k0 : ¬ ((k : Int) < (kk : Int)) := by omega
      obtain rfl : k = kk := by omega
      clear hlt hk
      (repeat (first | ((with_reducible show wpSeq _ _ _ _ _ _ _); first | ((with_reducible refine wpSeq_nil ?_); refine hKr.out _ _ ?_; clear hKr Kr) | ((first | (refine St.copy (v := ?_) (by exact .inl rfl) rfl rfl ?_ ?_; rotate_left; (focus ((try simp only [Act.eval, getD_lit, List.getD_cons_zero, List.getD_cons_succ]); with_reducible rfl))) | (refine St.pure (v := ?_) rfl rfl rfl (fun w => ?_) ?_; rotate_left; (focus (go_simp; all_goals with_reducible rfl)))); (try simp only [Act.put, List.setIfInBounds_toArray, List.set_cons_zero, List.set_cons_succ]))) | (first | (refine wp_seq_shut (fun K hK => ?_)) | (refine wp_text hM (fun Kr hKr => ?_); simp only [inText]) | (refine wp_cond_false rfl ?_) | (refine wp_exit ?_; simp only [Exit.then, Exit.inBlock, if_true, if_false, reduceCtorEq, Nat.reduceEqDiff, Nat.succ_ne_zero]) | ((first | refine hK.out _ _ ?_ | (clear hK K; refine hK.out _ _ ?_)); clear hK K))))
      ((refine St.call rfl rfl rfl (by kernel_rfl) (fun R hR => ?_); simp only [List.map_toArray, List.map_cons, List.map_nil, Act.eval, getD_lit, List.getD_cons_zero, List.getD_cons_succ]))
      refine (fOwners_any (hM.fs (x := x1) (β := β1) (d := dk) (.skip .here) HFK.out.inv HX.out F0) (by omega)).mono ?_
      rintro e w' ⟨s2, rfl, hk2, hN2⟩
      replace hM := hM.madeM hN2 (slL_flag _ _ _ _)
      (refine hR.out _ _ (fun _ => ⟨hM.only, nofun⟩) ?_); clear hR R hN2
      have hol : (Fs.owners dk).length ≤ 30000 := by
        have := HFK.out.inv.len
        unfold Fs.owners
        rw [List.length_map]
        have := HLG.out
        omega
      have HOF := Lib.hid (Ol.owners_fit HFK.out)
      have hex : Ol.exits dk = (Fs.owners dk).foldl Fs.exit dk := rfl
      have HEX := Lib.hid hex
      have HFK' := Lib.hid (HFK.out.more (M := 30000) (by have := HLG.out; omega))
      obtain ⟨v2, c2, hv2, hva2⟩ := slV_open hk2
      have HK2 := Lib.hid hk2
      rw [hv2]
      generalize Fs.owners dk = os at *
      clear hex hk2 hkk hvc
      (try simp only [Act.put, List.setIfInBounds_toArray, List.set_cons_zero, List.set_cons_succ])
      (repeat (first | ((with_reducible show wpSeq _ _ _ _ _ _ _); first | ((with_reducible refine wpSeq_nil ?_); refine hKr.out _ _ ?_; clear hKr Kr) | ((first | (refine St.copy (v := ?_) (by exact .inl rfl) rfl rfl ?_ ?_; rotate_left; (focus ((try simp only [Act.eval, getD_lit, List.getD_cons_zero, List.getD_cons_succ]); with_reducible rfl))) | (refine St.pure (v := ?_) rfl rfl rfl (fun w => ?_) ?_; rotate_left; (focus (go_simp; all_goals with_reducible rfl)))); (try simp only [Act.put, List.setIfInBounds_toArray, List.set_cons_zero, List.set_cons_succ]))) | (first | refine wp_block ?_ | ((refine hK.out _ _ ?_); clear hK K))))
      go_loopw [9, 44] (fun _ i wr => ∃ (j : Nat) (β' : Int → Nat × Nat) (dj : FsD), j ≤ os.length ∧ i = .int .i64 j ∧ (os.take j).foldl Fs.exit dk = dj ∧ Ol.FInv 30000 dj ∧ St w0 [b] wr (slL s2 (os.map (Value.int .i64)) 3 1 ++ ((b, true, .cells [.pointer (some ⟨f, 0, none⟩), .pointer (some ⟨y.f, 0, none⟩), .slice va zs.length vc] 81) :: (fsL x1 β' dj ++ RR)))) (fun _ i _ => os.length - (intOf i).toNat)
      case atStart => exact ⟨0, β1, dk, by omega, rfl, rfl, HFK'.out, hM⟩
      case round =>
        clear hM
        obtain ⟨j, β2, dj, hj, rfl, hdj, hfj, hM⟩ := hrel
        have HDJ := Lib.hid hdj
        have HFJ := Lib.hid hfj
        clear hdj hfj
        by_cases hlt : j < os.length
        · obtain ⟨o, ho⟩ := get_at hlt
          rcases hs2 : s2 with _ | ⟨g2, cap2⟩
          · have := HK2.out
            rw [hs2] at this
            exact absurd this.2 (by omega)
          obtain ⟨rfl, rfl⟩ := hva2 g2 cap2 hs2
          have hof := HOF.out o (List.mem_of_getElem? ho)
          have HST := Lib.hid ((own_step ho dk).trans (congrArg (fun q => Fs.exit q o) HDJ.out))
          have HFN := Lib.hid (Ol.finv_exit HFJ.out hof)
          have hx' : (os.map (Value.int .i64))[j]? = some (.int .i64 o) := by rw [List.getElem?_map, ho]; rfl
          have j1 : (j : Int) < (os.length : Int) := by omega
          subst hs2
          clear ho hlt
          simp only [slL, List.cons_append, List.nil_append] at hM
          (repeat (first | ((with_reducible show wpSeq _ _ _ _ _ _ _); first | ((with_reducible refine wpSeq_nil ?_); refine hKr.out _ _ ?_; clear hKr Kr) | ((first | (refine St.copy (v := ?_) (by first | exact .inl rfl | exact .inr rfl) rfl rfl ?_ ?_; rotate_left; (focus ((try simp only [Act.eval, getD_lit, List.getD_cons_zero, List.getD_cons_succ]); with_reducible rfl))) | (refine St.pure (v := ?_) rfl rfl rfl (fun w => ?_) ?_; rotate_left; (focus (go_simp; all_goals with_reducible rfl))) | refine St.load rfl hM rfl rfl rfl rfl (by repeat constructor) (by assumption) (by kernel_rfl) ?_); (try simp only [Act.put, List.setIfInBounds_toArray, List.set_cons_zero, List.set_cons_succ]))) | (first | (refine wp_seq_shut (fun K hK => ?_)) | (refine wp_text hM (fun Kr hKr => ?_); simp only [inText]) | refine wp_block ?_ | refine wp_skip ?_ | (refine wp_cond_true rfl ?_) | ((refine hK.out _ _ ?_); clear hK K))))
          ((refine St.call rfl rfl rfl (by kernel_rfl) (fun R hR => ?_); simp only [List.map_toArray, List.map_cons, List.map_nil, Act.eval, getD_lit, List.getD_cons_zero, List.getD_cons_succ]))
          refine (fExit_any (hM.fs (x := x1) (β := β2) (d := dj) (.skip (.skip .here)) HFJ.out.inv HX.out F0) (by omega) hof).mono ?_
          rintro e w' ⟨rfl, ⟨β3, hN2⟩, -⟩
          replace hM := hM.backM (M := fsL x1 β2 dj) (.skip (.skip .here)) (fsL_flag _ _ _) hN2 (fsL_flag _ _ _)
          (refine hR.out _ _ (fun _ => ⟨hM.only, nofun⟩) ?_); clear hR R hN2
          (try simp only [Act.put, List.setIfInBounds_toArray, List.set_cons_zero, List.set_cons_succ])
          (repeat (first | ((with_reducible show wpSeq _ _ _ _ _ _ _); first | ((with_reducible refine wpSeq_nil ?_); refine hKr.out _ _ ?_; clear hKr Kr) | ((first | (refine St.copy (v := ?_) (by exact .inl rfl) rfl rfl ?_ ?_; rotate_left; (focus ((try simp only [Act.eval, getD_lit, List.getD_cons_zero, List.getD_cons_succ]); with_reducible rfl))) | refine St.inc rfl rfl rfl rfl rfl (by omega) ?_); (try simp only [Act.put, List.setIfInBounds_toArray, List.set_cons_zero, List.set_cons_succ]))) | (first | (refine wp_text hM (fun Kr hKr => ?_); simp only [inText]) | ((refine hK.out _ _ ?_); clear hK K))))
          simp only [Exit.then]
          (refine ⟨?_, ?_⟩; (focus (repeat (first | exact ⟨⟨j + 1, β3, _, by omega, rfl, HST.out, HFN.out, hM⟩, rfl⟩ | apply Exists.intro))); (simp only [getD_lit, List.getD_cons_zero, List.getD_cons_succ, intOf]; omega))
        · have k0 : ¬ ((j : Int) < (os.length : Int)) := by omega
          obtain rfl : j = os.length := by omega
          have e := HDJ.out
          rw [List.take_length, ← HEX.out] at e
          rw [← e] at hM HFJ
          clear hlt hj e HDJ
          replace hM := hM.subM (List.sublist_append_right _ _)
          have HCF := Lib.hid (show Ol.exits (Ol.replay D.base (D.log.take k)) = Ol.exits dk by rw [HDK.out])
          clear HEX
          generalize Ol.exits dk = de at *
          (repeat (first | ((with_reducible show wpSeq _ _ _ _ _ _ _); first | ((with_reducible refine wpSeq_nil ?_); refine hKr.out _ _ ?_; clear hKr Kr) | ((first | (refine St.copy (v := ?_) (by exact .inl rfl) rfl rfl ?_ ?_; rotate_left; (focus ((try simp only [Act.eval, getD_lit, List.getD_cons_zero, List.getD_cons_succ]); with_reducible rfl))) | (refine St.pure (v := ?_) rfl rfl rfl (fun w => ?_) ?_; rotate_left; (focus (go_simp; all_goals with_reducible rfl)))); (try simp only [Act.put, List.setIfInBounds_toArray, List.set_cons_zero, List.set_cons_succ]))) | (first | (refine wp_seq_shut (fun K hK => ?_)) | (refine wp_text hM (fun Kr hKr => ?_); simp only [inText]) | (refine wp_cond_false rfl ?_) | (refine wp_exit ?_; simp only [Exit.then, Exit.inBlock, if_true, if_false, reduceCtorEq, Nat.reduceEqDiff, Nat.succ_ne_zero]) | ((first | refine hK.out _ _ ?_ | (clear hK K; refine hK.out _ _ ?_)); clear hK K))))
          ((refine St.call rfl rfl rfl (by kernel_rfl) (fun R hR => ?_); simp only [List.map_toArray, List.map_cons, List.map_nil, Act.eval, getD_lit, List.getD_cons_zero, List.getD_cons_succ]))
          refine (empties_any (hM.fs (x := x1) (β := β2) (d := de) (.skip .here) HFJ.out.inv HX.out F0) HFJ.out (by omega)).mono ?_
          rintro e w' ⟨rfl, β3, hN2⟩
          replace hM := hM.backM (M := fsL x1 β2 de) (.skip .here) (fsL_flag _ _ _) hN2 (fsL_flag _ _ _)
          (refine hR.out _ _ (fun _ => ⟨hM.only, nofun⟩) ?_); clear hR R hN2
          have HFE := Lib.hid (Ol.finv_empties HFJ.out)
          have HCE := Lib.hid (congrArg Ol.empties HCF.out)
          generalize Ol.empties de = dz at *
          (try simp only [Act.put, List.setIfInBounds_toArray, List.set_cons_zero, List.set_cons_succ])
          (repeat (first | ((with_reducible show wpSeq _ _ _ _ _ _ _); first | ((with_reducible refine wpSeq_nil ?_); refine hKr.out _ _ ?_; clear hKr Kr) | ((first | (refine St.copy (v := ?_) (by exact .inl rfl) rfl rfl ?_ ?_; rotate_left; (focus ((try simp only [Act.eval, getD_lit, List.getD_cons_zero, List.getD_cons_succ]); with_reducible rfl))) | (refine St.pure (v := ?_) rfl rfl rfl (fun w => ?_) ?_; rotate_left; (focus (go_simp; all_goals with_reducible rfl))) | ((((refine St.store rfl hM rfl rfl rfl rfl rfl (by repeat constructor) (Nat.le_of_ble_eq_true rfl) (by kernel_rfl) rfl ?_ ?_); (focus ((intro h; cases h; done))); clear hM; intro w hM)); (try simp only [Res.put, Res.known, Act.eval, Value.cells, getD_lit, List.getD_cons_zero, List.getD_cons_succ, List.toList_toArray, List.set_cons_zero, List.set_cons_succ, over, Nat.reduceAdd] at hM))); (try simp only [Act.put, List.setIfInBounds_toArray, List.set_cons_zero, List.set_cons_succ]))) | (first | (refine wp_seq_shut (fun K hK => ?_)) | (refine wp_text hM (fun Kr hKr => ?_); simp only [inText]) | ((refine hK.out _ _ ?_); clear hK K))))
          ((refine St.call rfl rfl rfl (by kernel_rfl) (fun R hR => ?_); simp only [List.map_toArray, List.map_cons, List.map_nil, Act.eval, getD_lit, List.getD_cons_zero, List.getD_cons_succ]))
          rw [← hv] at hM
          have hS : St w0 [b] w ((dskE b x1.f y.f s zs.length :: fsL x1 β3 dz) ++ RR) := hM
          have hS2 : St w0 [b] w (dskE b x1.f y.f s zs.length :: (fsL x1 β3 dz ++ RR)) := hM
          clear hM
          refine (syncs_any (hS2.fs (x := x1) (β := β3) (d := dz) (.skip .here) HFE.out.inv HX.out F0) (by omega) (hS.part .here)).mono ?_
          rintro e w' ⟨rfl, x2, β4, hN2⟩
          have hM := hS2.backM (M := [dskE b x1.f y.f s zs.length]) .one (flag_1 _ _) hN2 (fun y hy => by
            rcases List.mem_cons.1 hy with rfl | hy
            · rfl
            · exact fsL_flag _ _ _ y hy)
          (refine hR.out _ _ (fun _ => ⟨hM.only, nofun⟩) ?_); clear hR R hN2 hS hS2
          (try simp only [Act.put, List.setIfInBounds_toArray, List.set_cons_zero, List.set_cons_succ])
          (repeat (first | ((with_reducible show wpSeq _ _ _ _ _ _ _); first | ((with_reducible refine wpSeq_nil ?_); refine hKr.out _ _ ?_; clear hKr Kr) | (((refine St.copy (v := ?_) (by exact .inr rfl) rfl rfl ?_ ?_; rotate_left; (focus ((try simp only [Act.eval, getD_lit, List.getD_cons_zero, List.getD_cons_succ]); with_reducible rfl)))); (try simp only [Act.put, List.setIfInBounds_toArray, List.set_cons_zero, List.set_cons_succ]))) | (first | (refine wp_seq_shut (fun K hK => ?_)) | (refine wp_text hM (fun Kr hKr => ?_); simp only [inText]) | ((refine hK.out _ _ ?_); clear hK K))))
          ((refine wp_ret ?_; (try simp only [Exit.then, Exit.inBlock]); refine St.ret hM rfl (by repeat (first | exact Outs.nil | apply Outs.tmp rfl)) rfl ?_))
          refine ⟨rfl, x1, β3, x2, β4, ?_⟩
          rw [HCE.out]
          have hS3 : St w0 [b] w' ((dskE b x1.f x2.f none 0 :: fsL x2 β4 dz) ++ fsL x1 β3 dz) := hM.subM (List.Sublist.append_left (List.sublist_append_left _ _) _)
          exact hS3.perm (L' := dskE b x1.f x2.f none 0 :: (fsL x1 β3 dz ++ fsL x2 β4 dz)) (perm_by (by intro _ x; simp only [List.append_eq, List.count_append, List.count_cons, List.count_nil, List.cons_append, List.nil_append]; omega))
/-- A cut of a disk that is whole. -/
theorem dCut_whole (h : DskAt N X β γ D w) (hN : N ≤ 30000) (keep : Int) :
    Calls Tryz.prog 30 #[.pointer (some ⟨X.b, 0, none⟩), .int .i64 keep] w fun e w' => e = .returned (.int .i64 0) ∧ DGoes w X β γ D w' (Ol.cut D keep) := by
  have hsub : (dskE X.b X.now.f X.sure.f X.s X.zs.length :: (logL X.s (X.zs.map LogV.val) ++ (fsL X.sure γ D.base ++ X.zs.flatMap LogV.ents))).Sublist (dskL X β γ D) := by
    unfold dskL
    exact (List.sublist_append_right _ _).cons_cons _
  obtain ⟨K0, hB, hK⟩ := h.inv.base
  refine (dCut_any (h.at_.sub hsub) h.ok.sl h.ok.log hB (by omega) h.inv.ok h.mx (keys_sub hsub h.zero) keep).mono ?_
  rintro e w' ⟨rfl, x1, β1, x2, β2, hN2⟩
  have hM : St w (keysOf (dskL X β γ D)) w (dskE X.b X.now.f X.sure.f X.s X.zs.length :: (fsL X.now β D.now ++ (logL X.s (X.zs.map LogV.val) ++ (fsL X.sure γ D.base ++ X.zs.flatMap LogV.ents)))) := h.at_.st
  have hS := hM.backM (M := [dskE X.b X.now.f X.sure.f X.s X.zs.length]) .one (flag_1 _ _) hN2 (fun y hy => by
    rcases List.mem_cons.1 hy with rfl | hy
    · rfl
    · rcases List.mem_append.1 hy with hy | hy
      · exact fsL_flag _ _ _ y hy
      · exact fsL_flag _ _ _ y hy)
  refine ⟨rfl, ⟨X.b, x1, x2, none, []⟩, β1, β2, rfl, ⟨rfl, ⟨rfl, rfl⟩⟩, ?_⟩
  have hS2 := hS.front
  exact hS2.perm (L' := dskE X.b x1.f x2.f none 0 :: (fsL x1 β1 (Ol.cutFs D keep) ++ ([] ++ (fsL x2 β2 (Ol.cutFs D keep) ++ [])))) (perm_by (by intro _ x; simp only [List.append_eq, List.count_append, List.count_cons, List.count_nil, List.cons_append, List.nil_append]; omega))
/-- Do, where the answer lists no names: the disk alone comes back. -/
theorem dDo_bare (h : DskAt N X β γ D w) (hN : N ≤ 999999980) {o : Int} (ho : Fits o) (p : OpD) (hp : p.Ok) {er n : Int} {da : ByteArray} {D' : DskD} (hd : Ol.do_ D o p = (⟨er, n, da, []⟩, D')) :
    Calls Tryz.prog 34 #[.pointer (some ⟨X.b, 0, none⟩), .int .i64 o, .agg p.cells.toArray] w fun e w' => (∃ a c, e = .returned (.agg #[.int .i64 er, .int .i64 n, .string da, .slice a 0 c])) ∧ DGoes w X β γ D w' D' := by
  refine (dDo_any h hN ho p hp).mono ?_
  rintro e w' ⟨s, X', β', γ', rfl, hs, hb, hok, hM⟩
  rw [hd] at hM hok ⊢
  refine ⟨?_, X', β', γ', hb, hok, hM.subM (List.sublist_append_right _ _)⟩
  rcases s with _ | ⟨g, c⟩ <;> exact ⟨_, _, rfl⟩
end
end Go.Proofs.YtcicjklhbnipcaaGreatDoor
namespace Go.Proofs.YtcicjklhbnipcaaGreatDoor
set_option linter.unusedVariables false
set_option linter.unusedSimpArgs false
open Go.RowKit Go.Maps
section
variable {w w' w0 : World} {F : List Nat} {L : List Ent}
/-- What is no disk, or one that New did not give. -/
def DBare (w : World) (p : Option Addr) : Prop := p = none ∨ ∃ f, p = some ⟨f, 0, none⟩ ∧ w.rangeAt f 0 [.pointer none, .pointer none, .slice none 0 0]
theorem DBare.below {p : Option Addr} (h : DBare w p) (hb : Below w.heap.size w w') : DBare w' p := by
  rcases h with h | ⟨f, h, hc⟩
  · exact .inl h
  · refine .inr ⟨f, h, fun j v hj => ?_⟩
    have := hc j v hj
    exact (hb.cell (p := ⟨f, 0 + j, none⟩) (World.block_lt_of_cell? w _ this)).trans this
end
end Go.Proofs.YtcicjklhbnipcaaGreatDoor
namespace Go.Proofs.YtcicjklhbnipcaaGreatDoor
set_option linter.unusedVariables false
set_option linter.unusedSimpArgs false
open Go.RowKit Go.Maps
namespace Aw10
def o1 : OpD := ⟨3, ⟨#[97]⟩, ⟨#[]⟩, 0, 0, 0, ⟨#[]⟩, 0, 0⟩
def o2 : OpD := ⟨14, ⟨#[]⟩, ⟨#[]⟩, 0, 0, 0, ⟨#[]⟩, 0, 0⟩
def o3 : OpD := ⟨7, ⟨#[]⟩, ⟨#[]⟩, 1, 0, 0, ⟨#[120]⟩, 0, 0⟩
def o4 : OpD := ⟨1, ⟨#[100]⟩, ⟨#[]⟩, 0, 0, 0, ⟨#[]⟩, 0, 0⟩
def o5 : OpD := ⟨6, ⟨#[]⟩, ⟨#[]⟩, 1, 0, 1, ⟨#[]⟩, 0, 0⟩
def s1 : FsD := ⟨⟨4096, 128, 2, [⟨1, true, 1, 0, ⟨#[]⟩, [(⟨#[97]⟩, 2)]⟩, ⟨2, false, 1, 1, ⟨#[]⟩, []⟩]⟩, [(1, [0, 2, 0, 0, 0, 0, 0, 0, 0])]⟩
def s3 : FsD := ⟨⟨4096, 129, 2, [⟨1, true, 1, 0, ⟨#[]⟩, [(⟨#[97]⟩, 2)]⟩, ⟨2, false, 1, 1, ⟨#[120]⟩, []⟩]⟩, [(1, [0, 2, 0, 0, 0, 0, 0, 0, 0])]⟩
def s4 : FsD := ⟨⟨4096, 193, 3, [⟨1, true, 1, 0, ⟨#[]⟩, [(⟨#[97]⟩, 2), (⟨#[100]⟩, 3)]⟩, ⟨2, false, 1, 1, ⟨#[120]⟩, []⟩, ⟨3, true, 1, 0, ⟨#[]⟩, []⟩]⟩, [(1, [0, 2, 0, 0, 0, 0, 0, 0, 0])]⟩
def s5 : FsD := ⟨⟨4096, 129, 2, [⟨1, true, 1, 0, ⟨#[]⟩, [(⟨#[97]⟩, 2)]⟩, ⟨2, false, 1, 0, ⟨#[120]⟩, []⟩]⟩, []⟩
def D1 : DskD := ⟨s1, Fs.new 4096, [(1, some o1)]⟩
def D2 : DskD := ⟨s1, s1, []⟩
def D3 : DskD := ⟨s3, s1, [(1, some o3)]⟩
def D4 : DskD := ⟨s4, s1, [(1, some o3), (1, some o4)]⟩
def D5 : DskD := ⟨s5, s5, []⟩
theorem f1 : Fs.do_ (Fs.new 4096) 1 o1 = (⟨0, 1, ⟨#[]⟩, []⟩, s1) := by kernel_rfl
theorem f3 : Fs.do_ s1 1 o3 = (⟨0, 0, ⟨#[]⟩, []⟩, s3) := by kernel_rfl
theorem f4 : Fs.do_ s3 1 o4 = (⟨0, 0, ⟨#[]⟩, []⟩, s4) := by kernel_rfl
theorem f5 : Fs.do_ s5 1 o5 = (⟨13, 0, ⟨#[]⟩, []⟩, s5) := by kernel_rfl
theorem d1 : Ol.do_ (Ol.new 4096) 1 o1 = (⟨0, 1, ⟨#[]⟩, []⟩, D1) := by
  unfold Ol.do_ Ol.doN Ol.new
  rw [if_neg (by decide), f1]
  rw [if_pos (by unfold Ol.logs; decide)]
  rfl
theorem d2 : Ol.do_ D1 1 o2 = (⟨0, 0, ⟨#[]⟩, []⟩, D2) := rfl
theorem d3 : Ol.do_ D2 1 o3 = (⟨0, 0, ⟨#[]⟩, []⟩, D3) := by
  unfold Ol.do_ Ol.doN D2
  rw [if_neg (by decide), f3]
  rw [if_pos (by unfold Ol.logs; decide)]
  rfl
theorem d4 : Ol.do_ D3 1 o4 = (⟨0, 0, ⟨#[]⟩, []⟩, D4) := by
  unfold Ol.do_ Ol.doN D3
  rw [if_neg (by decide), f4]
  rw [if_pos (by unfold Ol.logs; decide)]
  rfl
theorem d5 : Ol.cut D4 1 = D5 := by kernel_rfl
theorem d6 : Ol.do_ D5 1 o5 = (⟨13, 0, ⟨#[]⟩, []⟩, D5) := by
  unfold Ol.do_ Ol.doN D5
  rw [if_neg (by decide), f5]
  rw [if_neg (by unfold Ol.logs; decide)]
theorem e1 : Fs.files s5 = [⟨⟨#[97]⟩, false, ⟨#[120]⟩⟩] := by kernel_rfl
theorem e2 : Fs.files s4 = [⟨⟨#[97]⟩, false, ⟨#[120]⟩⟩, ⟨⟨#[100]⟩, true, ⟨#[]⟩⟩] := by kernel_rfl
end Aw10
theorem val_one (zs : List LogV) : (zs.map LogV.val).all (·.oneCell') = true := by
  rw [List.all_eq_true]
  intro v hv
  obtain ⟨z, -, rfl⟩ := List.mem_map.1 hv
  obtain ⟨⟨o, _ | p⟩, q⟩ := z <;> rfl
theorem log_sub {X : DskX} {β γ : Int → Nat × Nat} {D : DskD} : (logL X.s (X.zs.map LogV.val)).Sublist (dskL X β γ D) := by
  unfold dskL
  exact (((List.sublist_append_left _ _).trans (List.sublist_append_right _ _))).cons _
set_option maxHeartbeats 16000000 in
set_option maxRecDepth 100000 in
theorem awake10_any (w : World) (hX : Mx w) : Calls Tryz.prog 25 #[] w fun e w' => e = .returned (.bool true) ∧ Below w.heap.size w w' := by
  have hM := St.start w []
  have HX := Lib.hid hX
  have F0 : 0 ∉ ([] : List Nat) := nofun
  have I0 := Lib.hid (Ol.inv_new (q := 4096) (by decide) (by decide))
  have I1 := Lib.hid (Aw10.d1 ▸ Ol.inv_do I0.out (by decide) (o := 1) (by decide) (p := Aw10.o1) (by constructor <;> decide))
  have I2 := Lib.hid (Aw10.d2 ▸ Ol.inv_do I1.out (by decide) (o := 1) (by decide) (p := Aw10.o2) (by constructor <;> decide))
  have I3 := Lib.hid (Aw10.d3 ▸ Ol.inv_do I2.out (by decide) (o := 1) (by decide) (p := Aw10.o3) (by constructor <;> decide))
  have I4 := Lib.hid (Aw10.d4 ▸ Ol.inv_do I3.out (by decide) (o := 1) (by decide) (p := Aw10.o4) (by constructor <;> decide))
  have I5 := Lib.hid (Aw10.d5 ▸ Ol.inv_cut I4.out (by decide) 1)
  clear hX
  go_enter Tryz.func25, Tryz.ntmps25
  (repeat (first | ((with_reducible show wpSeq _ _ _ _ _ _ _); first | ((with_reducible refine wpSeq_nil ?_); refine hKr.out _ _ ?_; clear hKr Kr) | (((refine St.copy (v := ?_) (by exact .inr rfl) rfl rfl ?_ ?_; rotate_left; (focus ((try simp only [Act.eval, getD_lit, List.getD_cons_zero, List.getD_cons_succ]); with_reducible rfl)))); (try simp only [Act.put, List.setIfInBounds_toArray, List.set_cons_zero, List.set_cons_succ]))) | (first | (refine wp_seq_shut (fun K hK => ?_)) | (refine wp_text hM (fun Kr hKr => ?_); simp only [inText]) | ((refine hK.out _ _ ?_); clear hK K))))
  ((refine St.call rfl rfl rfl (by kernel_rfl) (fun R hR => ?_); simp only [List.map_toArray, List.map_cons, List.map_nil, Act.eval, getD_lit, List.getD_cons_zero, List.getD_cons_succ]))
  refine (dNew_any 4096 _ rfl (hM.mx HX.out F0)).mono ?_
  rintro e w' ⟨X, β, γ, rfl, hk0, hN⟩
  replace hM := hM.madeM hN (dskL_flag _ _ _ _)
  rw [List.append_nil] at hM
  (refine hR.out _ _ (fun _ => ⟨hM.only, nofun⟩) ?_); clear hR R hN
  (try simp only [Act.put, List.setIfInBounds_toArray, List.set_cons_zero, List.set_cons_succ])
  (repeat (first | ((with_reducible show wpSeq _ _ _ _ _ _ _); first | ((with_reducible refine wpSeq_nil ?_); refine hKr.out _ _ ?_; clear hKr Kr) | ((first | (refine St.copy (v := ?_) (by first | exact .inl rfl | exact .inr rfl) rfl rfl ?_ ?_; rotate_left; (focus ((try simp only [Act.eval, getD_lit, List.getD_cons_zero, List.getD_cons_succ]); with_reducible rfl))) | (refine St.pure (v := ?_) rfl rfl rfl (fun w => ?_) ?_; rotate_left; (focus (go_simp; all_goals with_reducible rfl)))); (try simp only [Act.put, List.setIfInBounds_toArray, List.set_cons_zero, List.set_cons_succ]))) | (first | (refine wp_seq_shut (fun K hK => ?_)) | (refine wp_text hM (fun Kr hKr => ?_); simp only [inText]) | refine wp_skip ?_ | (refine wp_cond_false rfl ?_) | ((refine hK.out _ _ ?_); clear hK K))))
  generalize hb : DskX.b X = bb
  ((refine St.call rfl rfl rfl (by kernel_rfl) (fun R hR => ?_); simp only [List.map_toArray, List.map_cons, List.map_nil, Act.eval, getD_lit, List.getD_cons_zero, List.getD_cons_succ]))
  have C := dDo_bare (hM.dsk (by repeat (exact Part.all)) hk0 I0.out HX.out F0) (by decide) (o := 1) (by decide) Aw10.o1 (by constructor <;> decide) Aw10.d1
  rw [hb] at C
  refine C.mono ?_
  rintro e w' ⟨⟨a0, c0, rfl⟩, X1, β, γ, hb', hk1, hN⟩
  replace hM := hM.backM (by repeat (exact Swap.all)) (dskL_flag _ _ _ _) hN (dskL_flag _ _ _ _)
  rw [hb] at hb'
  (refine hR.out _ _ (fun _ => ⟨hM.only, nofun⟩) ?_); clear hR R hN C hb
  have hb := hb'
  clear hb'
  (try simp only [Act.put, List.setIfInBounds_toArray, List.set_cons_zero, List.set_cons_succ])
  (repeat (first | ((with_reducible show wpSeq _ _ _ _ _ _ _); first | ((with_reducible refine wpSeq_nil ?_); refine hKr.out _ _ ?_; clear hKr Kr) | ((first | (refine St.copy (v := ?_) (by exact .inl rfl) rfl rfl ?_ ?_; rotate_left; (focus ((try simp only [Act.eval, getD_lit, List.getD_cons_zero, List.getD_cons_succ]); with_reducible rfl))) | (refine St.pure (v := ?_) rfl rfl rfl (fun w => ?_) ?_; rotate_left; (focus (go_simp; all_goals with_reducible rfl)))); (try simp only [Act.put, List.setIfInBounds_toArray, List.set_cons_zero, List.set_cons_succ]))) | (first | (refine wp_seq_shut (fun K hK => ?_)) | (refine wp_text hM (fun Kr hKr => ?_); simp only [inText]) | ((refine hK.out _ _ ?_); clear hK K))))
  ((refine St.call rfl rfl rfl (by kernel_rfl) (fun R hR => ?_); simp only [List.map_toArray, List.map_cons, List.map_nil, Act.eval, getD_lit, List.getD_cons_zero, List.getD_cons_succ]))
  have C := dDo_bare (hM.dsk (by repeat (exact Part.all)) hk1 I1.out HX.out F0) (by decide) (o := 1) (by decide) Aw10.o2 (by constructor <;> decide) Aw10.d2
  rw [hb] at C
  refine C.mono ?_
  rintro e w' ⟨⟨a1, c1, rfl⟩, X2, β, γ, hb', hk2, hN⟩
  replace hM := hM.backM (by repeat (exact Swap.all)) (dskL_flag _ _ _ _) hN (dskL_flag _ _ _ _)
  rw [hb] at hb'
  (refine hR.out _ _ (fun _ => ⟨hM.only, nofun⟩) ?_); clear hR R hN C hb
  have hb := hb'
  clear hb'
  (try simp only [Act.put, List.setIfInBounds_toArray, List.set_cons_zero, List.set_cons_succ])
  (repeat (first | ((with_reducible show wpSeq _ _ _ _ _ _ _); first | ((with_reducible refine wpSeq_nil ?_); refine hKr.out _ _ ?_; clear hKr Kr) | ((first | (refine St.copy (v := ?_) (by exact .inl rfl) rfl rfl ?_ ?_; rotate_left; (focus ((try simp only [Act.eval, getD_lit, List.getD_cons_zero, List.getD_cons_succ]); with_reducible rfl))) | (refine St.pure (v := ?_) rfl rfl rfl (fun w => ?_) ?_; rotate_left; (focus (go_simp; all_goals with_reducible rfl)))); (try simp only [Act.put, List.setIfInBounds_toArray, List.set_cons_zero, List.set_cons_succ]))) | (first | (refine wp_seq_shut (fun K hK => ?_)) | (refine wp_text hM (fun Kr hKr => ?_); simp only [inText]) | ((refine hK.out _ _ ?_); clear hK K))))
  ((refine St.call rfl rfl rfl (by kernel_rfl) (fun R hR => ?_); simp only [List.map_toArray, List.map_cons, List.map_nil, Act.eval, getD_lit, List.getD_cons_zero, List.getD_cons_succ]))
  have C := dDo_bare (hM.dsk (by repeat (exact Part.all)) hk2 I2.out HX.out F0) (by decide) (o := 1) (by decide) Aw10.o3 (by constructor <;> decide) Aw10.d3
  rw [hb] at C
  refine C.mono ?_
  rintro e w' ⟨⟨a2, c2, rfl⟩, X3, β, γ, hb', hk3, hN⟩
  replace hM := hM.backM (by repeat (exact Swap.all)) (dskL_flag _ _ _ _) hN (dskL_flag _ _ _ _)
  rw [hb] at hb'
  (refine hR.out _ _ (fun _ => ⟨hM.only, nofun⟩) ?_); clear hR R hN C hb
  have hb := hb'
  clear hb'
  (try simp only [Act.put, List.setIfInBounds_toArray, List.set_cons_zero, List.set_cons_succ])
  (repeat (first | ((with_reducible show wpSeq _ _ _ _ _ _ _); first | ((with_reducible refine wpSeq_nil ?_); refine hKr.out _ _ ?_; clear hKr Kr) | ((first | (refine St.copy (v := ?_) (by exact .inl rfl) rfl rfl ?_ ?_; rotate_left; (focus ((try simp only [Act.eval, getD_lit, List.getD_cons_zero, List.getD_cons_succ]); with_reducible rfl))) | (refine St.pure (v := ?_) rfl rfl rfl (fun w => ?_) ?_; rotate_left; (focus (go_simp; all_goals with_reducible rfl)))); (try simp only [Act.put, List.setIfInBounds_toArray, List.set_cons_zero, List.set_cons_succ]))) | (first | (refine wp_seq_shut (fun K hK => ?_)) | (refine wp_text hM (fun Kr hKr => ?_); simp only [inText]) | ((refine hK.out _ _ ?_); clear hK K))))
  ((refine St.call rfl rfl rfl (by kernel_rfl) (fun R hR => ?_); simp only [List.map_toArray, List.map_cons, List.map_nil, Act.eval, getD_lit, List.getD_cons_zero, List.getD_cons_succ]))
  have C := dDo_bare (hM.dsk (by repeat (exact Part.all)) hk3 I3.out HX.out F0) (by decide) (o := 1) (by decide) Aw10.o4 (by constructor <;> decide) Aw10.d4
  rw [hb] at C
  refine C.mono ?_
  rintro e w' ⟨⟨a3, c3, rfl⟩, X4, β, γ, hb', hk4, hN⟩
  replace hM := hM.backM (by repeat (exact Swap.all)) (dskL_flag _ _ _ _) hN (dskL_flag _ _ _ _)
  rw [hb] at hb'
  (refine hR.out _ _ (fun _ => ⟨hM.only, nofun⟩) ?_); clear hR R hN C hb
  have hb := hb'
  clear hb'
  (try simp only [Act.put, List.setIfInBounds_toArray, List.set_cons_zero, List.set_cons_succ])
  (repeat (first | ((with_reducible show wpSeq _ _ _ _ _ _ _); first | ((with_reducible refine wpSeq_nil ?_); refine hKr.out _ _ ?_; clear hKr Kr) | (((refine St.copy (v := ?_) (by exact .inl rfl) rfl rfl ?_ ?_; rotate_left; (focus ((try simp only [Act.eval, getD_lit, List.getD_cons_zero, List.getD_cons_succ]); with_reducible rfl)))); (try simp only [Act.put, List.setIfInBounds_toArray, List.set_cons_zero, List.set_cons_succ]))) | (first | (refine wp_seq_shut (fun K hK => ?_)) | (refine wp_text hM (fun Kr hKr => ?_); simp only [inText]) | ((refine hK.out _ _ ?_); clear hK K))))
  ((refine St.call rfl rfl rfl (by kernel_rfl) (fun R hR => ?_); simp only [List.map_toArray, List.map_cons, List.map_nil, Act.eval, getD_lit, List.getD_cons_zero, List.getD_cons_succ]))
  have C := dLogged_any (hM.dsk (by repeat (exact Part.all)) hk4 I4.out HX.out F0).row hk4.sl
  rw [hb, show X4.zs.length = 2 by have := congrArg List.length hk4.log; rw [List.length_map] at this; exact this] at C
  refine C.mono ?_
  rintro e w' ⟨rfl, hb'⟩
  replace hM := hM.below hb'
  (refine hR.out _ _ (fun _ => ⟨hM.only, nofun⟩) ?_); clear hR R C hb'
  (try simp only [Act.put, List.setIfInBounds_toArray, List.set_cons_zero, List.set_cons_succ])
  (repeat (first | ((with_reducible show wpSeq _ _ _ _ _ _ _); first | ((with_reducible refine wpSeq_nil ?_); refine hKr.out _ _ ?_; clear hKr Kr) | (((refine St.copy (v := ?_) (by first | exact .inl rfl | exact .inr rfl) rfl rfl ?_ ?_; rotate_left; (focus ((try simp only [Act.eval, getD_lit, List.getD_cons_zero, List.getD_cons_succ]); with_reducible rfl)))); (try simp only [Act.put, List.setIfInBounds_toArray, List.set_cons_zero, List.set_cons_succ]))) | (first | (refine wp_seq_shut (fun K hK => ?_)) | (refine wp_text hM (fun Kr hKr => ?_); simp only [inText]) | ((refine hK.out _ _ ?_); clear hK K))))
  ((refine St.call rfl rfl rfl (by kernel_rfl) (fun R hR => ?_); simp only [List.map_toArray, List.map_cons, List.map_nil, Act.eval, getD_lit, List.getD_cons_zero, List.getD_cons_succ]))
  have C := dClone_any hk4.sl (val_one _) (by have := congrArg List.length hk4.log; rw [List.length_map] at this; rw [this]; decide) (by decide) (hM.dsk (by repeat (exact Part.all)) hk4 I4.out HX.out F0).row (hM.dsk (by repeat (exact Part.all)) hk4 I4.out HX.out F0).now ((hM.dsk (by repeat (exact Part.all)) hk4 I4.out HX.out F0).at_.sub log_sub)
  rw [hb, show X4.zs.length = 2 by have := congrArg List.length hk4.log; rw [List.length_map] at this; exact this] at C
  refine C.mono ?_
  rintro e w' ⟨c, y, δ, sc, rfl, hkc, hN⟩
  replace hM := hM.madeM hN (fun z hz => by
    rcases List.mem_cons.1 hz with rfl | hz
    · rfl
    · rcases List.mem_append.1 hz with hz | hz
      · exact fsL_flag _ _ _ z hz
      · exact slL_flag _ _ _ _ z hz)
  (refine hR.out _ _ (fun _ => ⟨hM.only, nofun⟩) ?_); clear hR R C hN
  have HKC := Lib.hid hkc
  clear hkc
  simp only [List.cons_append, List.append_assoc] at hM
  (try simp only [Act.put, List.setIfInBounds_toArray, List.set_cons_zero, List.set_cons_succ])
  (repeat (first | ((with_reducible show wpSeq _ _ _ _ _ _ _); first | ((with_reducible refine wpSeq_nil ?_); refine hKr.out _ _ ?_; clear hKr Kr) | (((refine St.copy (v := ?_) (by first | exact .inl rfl | exact .inr rfl) rfl rfl ?_ ?_; rotate_left; (focus ((try simp only [Act.eval, getD_lit, List.getD_cons_zero, List.getD_cons_succ]); with_reducible rfl)))); (try simp only [Act.put, List.setIfInBounds_toArray, List.set_cons_zero, List.set_cons_succ]))) | (first | (refine wp_seq_shut (fun K hK => ?_)) | (refine wp_text hM (fun Kr hKr => ?_); simp only [inText]) | ((refine hK.out _ _ ?_); clear hK K))))
  ((refine St.call rfl rfl rfl (by kernel_rfl) (fun R hR => ?_); simp only [List.map_toArray, List.map_cons, List.map_nil, Act.eval, getD_lit, List.getD_cons_zero, List.getD_cons_succ]))
  have C := dCut_whole (hM.dsk (.skip (.past (.past .all))) hk4 I4.out HX.out F0) (by decide) 1
  rw [hb, Aw10.d5] at C
  refine C.mono ?_
  rintro e w' ⟨rfl, X5, β, γ, hb', hk5, hN⟩
  replace hM := hM.backM (.skip (.past (.past .all))) (dskL_flag _ _ _ _) hN (dskL_flag _ _ _ _)
  rw [hb] at hb'
  (refine hR.out _ _ (fun _ => ⟨hM.only, nofun⟩) ?_); clear hR R hN C hb
  have hb := hb'
  clear hb'
  (try simp only [Act.put, List.setIfInBounds_toArray, List.set_cons_zero, List.set_cons_succ])
  (repeat (first | ((with_reducible show wpSeq _ _ _ _ _ _ _); first | ((with_reducible refine wpSeq_nil ?_); refine hKr.out _ _ ?_; clear hKr Kr) | (((refine St.copy (v := ?_) (by exact .inl rfl) rfl rfl ?_ ?_; rotate_left; (focus ((try simp only [Act.eval, getD_lit, List.getD_cons_zero, List.getD_cons_succ]); with_reducible rfl)))); (try simp only [Act.put, List.setIfInBounds_toArray, List.set_cons_zero, List.set_cons_succ]))) | (first | (refine wp_seq_shut (fun K hK => ?_)) | (refine wp_text hM (fun Kr hKr => ?_); simp only [inText]) | ((refine hK.out _ _ ?_); clear hK K))))
  ((refine St.call rfl rfl rfl (by kernel_rfl) (fun R hR => ?_); simp only [List.map_toArray, List.map_cons, List.map_nil, Act.eval, getD_lit, List.getD_cons_zero, List.getD_cons_succ]))
  have C := dFiles_any (hM.dsk (.skip (.past (.past .all))) hk5 I5.out HX.out F0).row (hM.dsk (.skip (.past (.past .all))) hk5 I5.out HX.out F0).now I5.out.now.up (by decide)
  rw [hb, show Aw10.D5.now = Aw10.s5 from rfl, Aw10.e1] at C
  refine C.mono ?_
  rintro e w' ⟨sf, rfl, hkf, hN⟩
  replace hM := hM.madeM hN (slL_flag _ _ _ _)
  (refine hR.out _ _ (fun _ => ⟨hM.only, nofun⟩) ?_); clear hR R C hN
  rcases sf with _ | ⟨gf, cf⟩
  · exact absurd hkf.2 (by decide)
  clear hkf
  simp only [slL, slV, List.length_cons, List.length_nil, Nat.zero_add, List.flatMap_cons, List.flatMap_nil, FileD.cells, List.cons_append, List.nil_append, List.append_nil] at hM ⊢
  (try simp only [Act.put, List.setIfInBounds_toArray, List.set_cons_zero, List.set_cons_succ])
  (repeat (first | ((with_reducible show wpSeq _ _ _ _ _ _ _); first | ((with_reducible refine wpSeq_nil ?_); refine hKr.out _ _ ?_; clear hKr Kr) | ((first | (refine St.copy (v := ?_) (by first | exact .inl rfl | exact .inr rfl) rfl rfl ?_ ?_; rotate_left; (focus ((try simp only [Act.eval, getD_lit, List.getD_cons_zero, List.getD_cons_succ]); with_reducible rfl))) | (refine St.pure (v := ?_) rfl rfl rfl (fun w => ?_) ?_; rotate_left; (focus (go_simp; all_goals with_reducible rfl)))); (try simp only [Act.put, List.setIfInBounds_toArray, List.set_cons_zero, List.set_cons_succ]))) | (first | (refine wp_seq_shut (fun K hK => ?_)) | (refine wp_text hM (fun Kr hKr => ?_); simp only [inText]) | ((refine hK.out _ _ ?_); clear hK K))))
  ((refine St.call rfl rfl rfl (by kernel_rfl) (fun R hR => ?_); simp only [List.map_toArray, List.map_cons, List.map_nil, Act.eval, getD_lit, List.getD_cons_zero, List.getD_cons_succ]))
  have C := dDo_bare (hM.dsk (.skip (.skip (.past (.past .all)))) hk5 I5.out HX.out F0) (by decide) (o := 1) (by decide) Aw10.o5 (by constructor <;> decide) Aw10.d6
  rw [hb] at C
  refine C.mono ?_
  rintro e w' ⟨⟨a5, c5, rfl⟩, X6, β, γ, hb', hk6, hN⟩
  replace hM := hM.backM (.skip (.skip (.past (.past .all)))) (dskL_flag _ _ _ _) hN (dskL_flag _ _ _ _)
  rw [hb] at hb'
  (refine hR.out _ _ (fun _ => ⟨hM.only, nofun⟩) ?_); clear hR R hN C hb
  have hb := hb'
  clear hb'
  (try simp only [Act.put, List.setIfInBounds_toArray, List.set_cons_zero, List.set_cons_succ])
  (repeat (first | ((with_reducible show wpSeq _ _ _ _ _ _ _); first | ((with_reducible refine wpSeq_nil ?_); refine hKr.out _ _ ?_; clear hKr Kr) | ((first | (refine St.copy (v := ?_) (by exact .inl rfl) rfl rfl ?_ ?_; rotate_left; (focus ((try simp only [Act.eval, getD_lit, List.getD_cons_zero, List.getD_cons_succ]); with_reducible rfl))) | (refine St.pure (v := ?_) rfl rfl rfl (fun w => ?_) ?_; rotate_left; (focus (go_simp; all_goals with_reducible rfl))) | refine St.load rfl hM rfl rfl rfl rfl (by repeat constructor) (by rfl) (by kernel_rfl) ?_ | ((refine St.loadRow rfl hM rfl rfl rfl rfl (by repeat constructor) (Nat.le_of_ble_eq_true rfl) (by kernel_rfl) ?_); (try simp only [Res.known, List.drop_succ_cons, List.drop_zero, List.take_succ_cons, List.take_zero])) | ((((refine St.storeRow rfl hM rfl rfl rfl rfl rfl (by repeat constructor) (Nat.le_of_ble_eq_true rfl) (Nat.le_of_ble_eq_true rfl) (by kernel_rfl) rfl ?_ ?_); (focus ((intro h; cases h; done))); clear hM; intro w hM)); (try simp only [Res.put, Res.known, Act.eval, Value.cells, getD_lit, List.getD_cons_zero, List.getD_cons_succ, List.toList_toArray, List.set_cons_zero, List.set_cons_succ, over, Nat.reduceAdd] at hM))); (try simp only [Act.put, List.setIfInBounds_toArray, List.set_cons_zero, List.set_cons_succ])) | (((refine St.alloc (ty := 31) (z := .agg #[.int .i64 0, .int .i64 0, .string ⟨#[]⟩, .slice none 0 0]) rfl hM rfl rfl (by kernel_rfl) ?_); clear hM; intro w bk hM); (try simp only [Res.put, Res.known, Act.eval, Value.cells, getD_lit, List.getD_cons_zero, List.getD_cons_succ, List.toList_toArray, List.set_cons_zero, List.set_cons_succ, over, Nat.reduceAdd] at hM); (try simp only [Act.put, List.setIfInBounds_toArray, List.set_cons_zero, List.set_cons_succ]))) | (first | (refine wp_seq_shut (fun K hK => ?_)) | (refine wp_text hM (fun Kr hKr => ?_); simp only [inText]) | ((refine hK.out _ _ ?_); clear hK K))))
  ((refine St.call rfl rfl rfl (by kernel_rfl) (fun R hR => ?_); simp only [List.map_toArray, List.map_cons, List.map_nil, Act.eval, getD_lit, List.getD_cons_zero, List.getD_cons_succ]))
  have C := dLogged_any (hM.dsk (.skip (.skip (.skip (.past (.past .all))))) hk6 I5.out HX.out F0).row hk6.sl
  rw [hb, show X6.zs.length = 0 by have := congrArg List.length hk6.log; rw [List.length_map] at this; exact this] at C
  refine C.mono ?_
  rintro e w' ⟨rfl, hb'⟩
  replace hM := hM.below hb'
  (refine hR.out _ _ (fun _ => ⟨hM.only, nofun⟩) ?_); clear hR R C hb'
  (try simp only [Act.put, List.setIfInBounds_toArray, List.set_cons_zero, List.set_cons_succ])
  (repeat (((with_reducible show wpSeq _ _ _ _ _ _ _); ((first | (refine St.copy (v := ?_) (by exact .inl rfl) rfl rfl ?_ ?_; rotate_left; (focus ((try simp only [Act.eval, getD_lit, List.getD_cons_zero, List.getD_cons_succ]); with_reducible rfl))) | (refine St.pure (v := ?_) rfl rfl rfl (fun w => ?_) ?_; rotate_left; (focus (go_simp; all_goals with_reducible rfl)))); (try simp only [Act.put, List.setIfInBounds_toArray, List.set_cons_zero, List.set_cons_succ])))))
  ((refine St.call rfl rfl rfl (by kernel_rfl) (fun R hR => ?_); simp only [List.map_toArray, List.map_cons, List.map_nil, Act.eval, getD_lit, List.getD_cons_zero, List.getD_cons_succ]))
  have C := dFiles_any (hM.holds (dskE c y.f X4.sure.f sc 2) (.tail _ (.tail _ (.head _)))) (hM.fs (x := y) (β := δ) (d := Aw10.D4.now) (.skip (.skip (.skip .here))) I4.out.now.inv HX.out F0) I4.out.now.up (by decide)
  rw [show Aw10.D4.now = Aw10.s4 from rfl, Aw10.e2] at C
  refine C.mono ?_
  rintro e w' ⟨sg, rfl, hkg, hN⟩
  replace hM := hM.below hN.to_below
  (refine hR.out _ _ (fun _ => ⟨hM.only, nofun⟩) ?_); clear hR R C hN
  obtain ⟨ag, cg, hvg, -⟩ := slV_open hkg
  rw [hvg]
  simp only [List.length_cons, List.length_nil, Nat.zero_add, Nat.reduceAdd]
  (try simp only [Act.put, List.setIfInBounds_toArray, List.set_cons_zero, List.set_cons_succ])
  (repeat (((with_reducible show wpSeq _ _ _ _ _ _ _); ((first | (refine St.copy (v := ?_) (by exact .inl rfl) rfl rfl ?_ ?_; rotate_left; (focus ((try simp only [Act.eval, getD_lit, List.getD_cons_zero, List.getD_cons_succ]); with_reducible rfl))) | (refine St.pure (v := ?_) rfl rfl rfl (fun w => ?_) ?_; rotate_left; (focus (go_simp; all_goals with_reducible rfl)))); (try simp only [Act.put, List.setIfInBounds_toArray, List.set_cons_zero, List.set_cons_succ])))))
  ((refine St.call rfl rfl rfl (by kernel_rfl) (fun R hR => ?_); simp only [List.map_toArray, List.map_cons, List.map_nil, Act.eval, getD_lit, List.getD_cons_zero, List.getD_cons_succ]))
  refine (dLogged_any (hM.holds (dskE c y.f X4.sure.f sc 2) (.tail _ (.tail _ (.head _)))) HKC.out).mono ?_
  rintro e w' ⟨rfl, hb'⟩
  replace hM := hM.below hb'
  (refine hR.out _ _ (fun _ => ⟨hM.only, nofun⟩) ?_); clear hR R hb'
  (try simp only [Act.put, List.setIfInBounds_toArray, List.set_cons_zero, List.set_cons_succ])
  (repeat (first | ((with_reducible show wpSeq _ _ _ _ _ _ _); first | ((with_reducible refine wpSeq_nil ?_); refine hKr.out _ _ ?_; clear hKr Kr) | ((first | (refine St.copy (v := ?_) (by exact .inr rfl) rfl rfl ?_ ?_; rotate_left; (focus ((try simp only [Act.eval, getD_lit, List.getD_cons_zero, List.getD_cons_succ]); with_reducible rfl))) | (refine St.pure (v := ?_) rfl rfl rfl (fun w => ?_) ?_; rotate_left; (focus (go_simp; all_goals with_reducible rfl)))); (try simp only [Act.put, List.setIfInBounds_toArray, List.set_cons_zero, List.set_cons_succ]))) | (((refine hK.out _ _ ?_); clear hK K))))
  ((refine wp_ret ?_; (try simp only [Exit.then, Exit.inBlock]); refine St.ret hM rfl (by repeat (first | exact Outs.nil | apply Outs.tmp rfl)) rfl ?_))
  exact ⟨rfl, hM.to_below⟩
end Go.Proofs.YtcicjklhbnipcaaGreatDoor
