/-
  Own rows of records: made, appended to, read.
-/
import Derived.Test.YtlniiaopindjnaaAppend2
namespace Go.Proofs.Ytlniiaopindjnaa
set_option linter.unusedVariables false
open Go.RowKit

theorem named_info : (Try.prog.info? 44).map (fun i => (i.zero, i.size, i.bytes)) = some (some (.agg #[.string ByteArray.empty, .slice none 0 0]), 2, 40) := by kernel_rfl

/-- A slice value that owns its row, which reads as xs; what the records hold lies below base. -/
def OwnsN (w : World) (base : Nat) (v : Value) (xs : List NamedD) : Prop := base ≤ w.heap.size ∧ ∃ cells, w.ownsRow base 44 2 v xs.length cells ∧ CellsRead 2 RNamed w base cells xs
theorem OwnsN.reads {w : World} {base : Nat} {v : Value} {xs : List NamedD} (h : OwnsN w base v xs) : ∃ a cap, v = .slice a xs.length cap ∧ RNameds w w.heap.size [.slice a xs.length cap] xs := by
  obtain ⟨hb, cells, h1, h2⟩ := h
  exact (own_slice (by decide) h1 (h2.go kept_named (Same.refl _ _) hb)).2
theorem OwnsN.on {w w' : World} {base : Nat} {v : Value} {xs : List NamedD} (h : OwnsN w base v xs) (hb : Below w.heap.size w w') : OwnsN w' base v xs := by
  obtain ⟨h0, cells, h1, h2⟩ := h
  exact ⟨Nat.le_trans h0 hb.size, cells, own_below h1 hb, h2.go kept_named (Same.of_below hb h0) (Nat.le_refl _)⟩
theorem OwnsN.alloc {w : World} {base : Nat} {v : Value} {xs : List NamedD} (h : OwnsN w base v xs) (o : Obj) : OwnsN (w.alloc o) base v xs := h.on ((Below.refl _ _).alloc (Nat.le_refl _) _)
theorem OwnsN.none (w : World) : OwnsN (w.alloc (.cells #[] 44)) w.heap.size (.slice (some ⟨w.heap.size, 0, Option.none⟩) 0 0) [] :=
  ⟨by simp, [], own_fresh w 44 2 0 [] rfl (by decide), CellsRead.nil⟩
theorem OwnsN.one {w : World} (x : NamedD) {na : Option Addr} {c : Nat} (hn : RStrs w w.heap.size [.slice na x.names.length c] x.names) (hs : x.id.size ≤ maxLen) :
    OwnsN (w.alloc (.cells #[.string x.id, .slice na x.names.length c] 44)) w.heap.size (.slice (some ⟨w.heap.size, 0, Option.none⟩) 1 1) [x] :=
  ⟨by simp, _, own_fresh w 44 2 1 [.string x.id, .slice na x.names.length c] rfl (by decide), (named_cells hn hs).go kept_named (Same.alloc _ _ _ (Nat.le_refl _)) (Nat.le_refl _)⟩
/-- What is appended: its cells, and how they read below base. -/
def BringsN (w : World) (base : Nat) (na : Option Addr) (m c : Nat) (ys : List NamedD) : Prop :=
  m = ys.length ∧ (na = none → m = 0 ∧ c = 0) ∧ ∃ news : List Value, news.length = ys.length * 2 ∧ (∀ ad, na = some ad → ∀ j u, news[j]? = some u → w.cell? (ad.add j) = some u) ∧ CellsRead 2 RNamed w base news ys
theorem BringsN.of_read {w : World} {base B : Nat} {na : Option Addr} {m c : Nat} {ys : List NamedD} (h : RNameds w B [.slice na m c] ys) (hB : B ≤ base) : BringsN w base na m c ys := by
  obtain ⟨h1, h2, news, h3, h4, h5⟩ := slice_news h
  exact ⟨h1, h2, news, h3, h4, h5.go kept_named (Same.refl _ _) hB⟩
theorem BringsN.one {w : World} {base : Nat} (x : NamedD) {na : Option Addr} {c : Nat} (hn : RStrs w base [.slice na x.names.length c] x.names) (hs : x.id.size ≤ maxLen) (hb : base ≤ w.heap.size) :
    BringsN (w.alloc (.cells #[.string x.id, .slice na x.names.length c] 44)) base (some ⟨w.heap.size, 0, Option.none⟩) 1 1 [x] := by
  refine ⟨rfl, (fun h => by cases h), [.string x.id, .slice na x.names.length c], rfl, ?_, (named_cells hn hs).go kept_named (Same.alloc _ _ _ hb) (Nat.le_refl _)⟩
  intro ad had j u hu
  injection had with had
  subst had
  rw [Addr.add_lit, Nat.zero_add, cell_of_row _ _ j _ _ _ (heap_alloc_new w _)]
  simpa using hu

theorem wpList_append_nameds {w : World} {ops : Array Oper} {rest : List Oper} {o : Oper} {a : Act} {Q : Exit → Act → World → Prop} (hgd : o.guard = none) (s x : Operand)
    (ho : o.op = .call { callee := .builtin .append, args := #[s, x], argTypes := #[34, 34] }) (base : Nat) (v : Value) (xs : List NamedD) (hs : a.eval s = v) (hown : OwnsN w base v xs)
    (na : Option Addr) (m c : Nat) (ys : List NamedD) (hx : a.eval x = .slice na m c) (hr : BringsN w base na m c ys) (hlen : xs.length + ys.length ≤ 1000000)
    (h : ∀ v' w', OwnsN w' base v' (xs ++ ys) → Below base w w' → wpList Try.prog ops Q rest (a.put o.dst v') w') : wpList Try.prog ops Q (o :: rest) a w := by
  obtain ⟨i0, hi, hz0, hz1, hz2⟩ := info_parts named_info
  obtain ⟨hbase, cells, h1, h2⟩ := hown
  obtain ⟨rfl, n1, news, n2, n3, n4⟩ := hr
  refine wpList_append_any hgd s x 34 ho base 44 i0 _ 2 40 Try.underlying34 hi hz0 hz1 hz2 rfl (by decide) v xs.length cells hs h1 na ys.length c news hx n1 n2 n3 (named_one n4) (by unfold maxLen; omega) (by omega) hbase ?_
  intro v' w' ho' hg
  have hb : Below base w w' := (Below.refl base w).grown hg hbase (fun k hk => own_block h1 k hk)
  refine h v' w' ⟨Nat.le_trans hbase hb.size, cells ++ news, by rw [List.length_append]; exact ho', ?_⟩ hb
  exact (h2.go kept_named (Same.of_below hb (Nat.le_refl _)) (Nat.le_refl _)).append (n4.go kept_named (Same.of_below hb (Nat.le_refl _)) (Nat.le_refl _))
end Go.Proofs.Ytlniiaopindjnaa
