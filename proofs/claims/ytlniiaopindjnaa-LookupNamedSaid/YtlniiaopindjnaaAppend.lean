/-
  append(own row, xs...), xs any list that is read (nil too).
-/
import Derived.Test.YtlniiaopindjnaaSpaceR
import Derived.Laws.AppendOwnNone
namespace Go.Proofs.Ytlniiaopindjnaa
set_option linter.unusedVariables false
open Go.RowKit

theorem own_fresh (w : World) (e : TypeId) (size n : Nat) (l : List Value) (hl : l.length = n * size) (hn : n ≤ maxLen) : (w.alloc (.cells l.toArray e)).ownsRow w.heap.size e size (.slice (some ⟨w.heap.size, 0, none⟩) n n) n l :=
  ⟨hl, .inr ⟨w.heap.size, n, l.toArray, rfl, Nat.le_refl _, heap_alloc_new w _, Nat.le_refl _, hn, by simpa using hl, by simp [← hl]⟩⟩

theorem wpList_append_any {P : Program} {w : World} {ops : Array Oper} {rest : List Oper} {o : Oper} {a : Act} {Q : Exit → Act → World → Prop} (hgd : o.guard = none) (s x : Operand) (t : TypeId)
    (ho : o.op = .call { callee := .builtin .append, args := #[s, x], argTypes := #[t, t] })
    (base : Nat) (e : TypeId) (i : TypeInfo) (z : Value) (size bytes : Nat) (ht : P.underlying t = some (.slice e)) (hi : P.info? e = some i) (hz : i.zero = some z)
    (hsize : i.size = size) (hby : i.bytes = bytes) (hzs : z.cells.size = size) (hsz : 0 < size)
    (v : Value) (n : Nat) (xs : List Value) (hs : a.eval s = v) (hown : w.ownsRow base e size v n xs)
    (na : Option Addr) (m c : Nat) (news : List Value) (hx : a.eval x = .slice na m c) (hnone : na = none → m = 0 ∧ c = 0) (hl : news.length = m * size) (hnews : ∀ ad, na = some ad → ∀ j u, news[j]? = some u → w.cell? (ad.add j) = some u) (h1 : ∀ u ∈ news, u.oneCell' = true)
    (h63 : n + m ≤ maxLen) (hbytes : (n + m) * bytes ≤ 140737488355328) (hbase : base ≤ w.heap.size)
    (h : ∀ v' w', w'.ownsRow base e size v' (n + m) (xs ++ news) → w.grownBy w' v.ownBlock → wpList P ops Q rest (a.put o.dst v') w') : wpList P ops Q (o :: rest) a w := by
  cases na with
  | some ad => exact wpList_append_own w hgd s x t ho base e i z size bytes ht hi hz hsize hby hzs hsz v n xs hs hown ad m c news hx hl (hnews ad rfl) h1 h63 hbytes hbase fun v' w' h2 h3 _ => h v' w' h2 h3
  | none =>
    obtain ⟨rfl, rfl⟩ := hnone rfl
    have hnil : news = [] := List.length_eq_zero_iff.1 (by omega)
    subst hnil
    refine wpList_append_own_none hgd s x t ho base e i size ht hi v n xs hs hown hx ?_
    exact h v w (by simpa using hown) ⟨rfl, rfl, rfl, Nat.le_refl _, fun _ _ _ => rfl⟩

/-- The texts of a list that is read, as appended. -/
theorem strs_news {w : World} {B : Nat} {na : Option Addr} {m c : Nat} {ys : List ByteArray} (h : RStrs w B [.slice na m c] ys) :
    m = ys.length ∧ (na = none → m = 0 ∧ c = 0) ∧ (∀ ad, na = some ad → ∀ j u, (ys.map Value.string)[j]? = some u → w.cell? (ad.add j) = some u) := by
  obtain ⟨rfl, h1, -, h3, hc⟩ := strs_open h
  refine ⟨rfl, fun hn => ?_, ?_⟩
  · have := h3 hn; omega
  · rintro ad rfl j u hu
    rw [List.getElem?_map] at hu
    cases hy : ys[j]? with
    | none => rw [hy] at hu; cases hu
    | some y =>
      rw [hy] at hu
      simp only [Option.map_some, Option.some.injEq] at hu
      have hj : j < ys.length := (List.getElem?_eq_some_iff.1 hy).1
      obtain ⟨b, off, hb, -, hcc⟩ := hc (by omega)
      injection hb with hb
      subst hb
      rw [Addr.add_lit, (hcc j y hy).2, hu]
end Go.Proofs.Ytlniiaopindjnaa
