/-
  Lists of records that the call itself makes by append: how they read.
-/
import Derived.Test.YtlniiaopindjnaaAppend
import Derived.Test.YtlniiaopindjnaaUnhexW
namespace Go.Proofs.Ytlniiaopindjnaa
set_option linter.unusedVariables false
open Go.RowKit

theorem flat_at {α : Type} (size : Nat) : ∀ (l : List (List α)) (i : Nat) (e : List α), (∀ x ∈ l, x.length = size) → l[i]? = some e → (l.flatten.drop (i * size)).take size = e
  | [], _, _, _, h => by simp at h
  | a :: r, 0, e, hl, h => by
    simp at h
    subst h
    have := hl a (by simp)
    simp [← this]
  | a :: r, i + 1, e, hl, h => by
    simp at h
    have ha := hl a (by simp)
    have := flat_at size r i e (fun x hx => hl x (by simp [hx])) h
    rw [List.flatten_cons, show (i + 1) * size = a.length + i * size by rw [ha]; rw [Nat.add_mul]; omega, ← List.drop_drop, List.drop_left]
    exact this
theorem flat_length {α : Type} (size : Nat) : ∀ (l : List (List α)), (∀ x ∈ l, x.length = size) → l.flatten.length = l.length * size
  | [], _ => by simp
  | a :: r, hl => by
    rw [List.flatten_cons, List.length_append, hl a (by simp), flat_length size r (fun x hx => hl x (by simp [hx])), List.length_cons, Nat.add_mul]; omega

/-- Cells that read as a list, element by element. -/
def CellsRead (size : Nat) {α : Type} (R : Rep α) (w : World) (B : Nat) (cells : List Value) (xs : List α) : Prop :=
  cells.length = xs.length * size ∧ ∀ i x, xs[i]? = some x → R w B ((cells.drop (i * size)).take size) x
theorem CellsRead.nil {size : Nat} {α : Type} {R : Rep α} {w : World} {B : Nat} : CellsRead size R w B [] ([] : List α) := ⟨by simp, fun i x h => by simp at h⟩
theorem CellsRead.go {size : Nat} {α : Type} {R : Rep α} (hR : Kept R) {w w' : World} {B B' : Nat} {cells : List Value} {xs : List α} (hs : Same B w w') (hB : B ≤ B') (h : CellsRead size R w B cells xs) : CellsRead size R w' B' cells xs :=
  ⟨h.1, fun i x hx => hR.go hs hB (h.2 i x hx)⟩
theorem CellsRead.append {size : Nat} {α : Type} {R : Rep α} {w : World} {B : Nat} {c1 c2 : List Value} {xs ys : List α} (h1 : CellsRead size R w B c1 xs) (h2 : CellsRead size R w B c2 ys) : CellsRead size R w B (c1 ++ c2) (xs ++ ys) := by
  refine ⟨by rw [List.length_append, List.length_append, h1.1, h2.1, Nat.add_mul], fun i x hx => ?_⟩
  by_cases hi : i < xs.length
  · rw [List.getElem?_append_left hi] at hx
    have := h1.2 i x hx
    have hle : (i + 1) * size ≤ c1.length := by rw [h1.1]; exact Nat.mul_le_mul_right _ hi
    rw [Nat.add_mul] at hle
    rw [List.drop_append_of_le_length (by omega), List.take_append_of_le_length (by rw [List.length_drop]; omega)]
    exact this
  · rw [List.getElem?_append_right (by omega)] at hx
    have := h2.2 (i - xs.length) x hx
    have hm : i * size = c1.length + (i - xs.length) * size := by
      rw [h1.1, ← Nat.add_mul]; congr 1; omega
    rw [hm, ← List.drop_drop, List.drop_left]
    exact this
/-- An own row that reads as a list. -/
theorem own_slice {size : Nat} {α : Type} {R : Rep α} {w : World} {base : Nat} {e : TypeId} {v : Value} {n : Nat} {cells : List Value} {xs : List α} (hsz : 0 < size) (h : w.ownsRow base e size v n cells) (hr : CellsRead size R w w.heap.size cells xs) :
    n = xs.length ∧ ∃ a cap, v = .slice a xs.length cap ∧ RSlice size R w w.heap.size [.slice a xs.length cap] xs := by
  have hn : n = xs.length := Nat.eq_of_mul_eq_mul_right hsz (by rw [← h.1, hr.1])
  subst hn
  refine ⟨rfl, ?_⟩
  rcases h.2 with ⟨rfl, h0⟩ | ⟨g, cap, cur, rfl, -, hg, h1, h2, h3, h4⟩
  · have : xs = [] := List.length_eq_zero_iff.1 h0
    subst this
    exact ⟨none, 0, rfl, slice_nil⟩
  · refine ⟨_, cap, rfl, slice_of_block hg ((Array.getElem?_eq_some_iff.1 hg).1) h1 h2 fun i x hx => ⟨_, ?_, fun j hj => ?_, hr.2 i x hx⟩⟩
    · have hi : i < xs.length := (List.getElem?_eq_some_iff.1 hx).1
      have hle : (i + 1) * size ≤ cells.length := by rw [hr.1]; exact Nat.mul_le_mul_right _ hi
      rw [Nat.add_mul] at hle
      rw [List.length_take, List.length_drop]; omega
    · have hi : i < xs.length := (List.getElem?_eq_some_iff.1 hx).1
      have hle : (i + 1) * size ≤ xs.length * size := Nat.mul_le_mul_right _ hi
      rw [Nat.add_mul] at hle
      rw [List.getElem?_take_of_lt hj, List.getElem?_drop, ← h4, List.getElem?_take_of_lt (by omega), Array.getElem?_toList]
/-- What a list that is read appends. -/
theorem slice_news {size : Nat} {α : Type} {R : Rep α} {w : World} {B : Nat} {na : Option Addr} {m c : Nat} {ys : List α} (h : RSlice size R w B [.slice na m c] ys) :
    m = ys.length ∧ (na = none → m = 0 ∧ c = 0) ∧ ∃ news : List Value, news.length = ys.length * size ∧ (∀ ad, na = some ad → ∀ j u, news[j]? = some u → w.cell? (ad.add j) = some u) ∧ CellsRead size R w B news ys := by
  obtain ⟨h1, h2, h3, h4, h5⟩ := slice_open h
  subst h1
  refine ⟨rfl, fun hn => by have := h4 hn; omega, ?_⟩
  by_cases h0 : 0 < ys.length
  · obtain ⟨b, off, rfl, hb, hx⟩ := h5 h0
    obtain ⟨ess, hel, hes⟩ := exists_list (α := List Value) ys.length (fun i es => ∀ y, ys[i]? = some y → es.length = size ∧ (∀ j, j < size → w.cell? ⟨b, off + i * size + j, none⟩ = es[j]?) ∧ R w B es y) (fun i hi => by
      obtain ⟨es, e1, e2, e3⟩ := hx i _ (List.getElem?_eq_getElem hi)
      exact ⟨es, fun y hy => by rw [List.getElem?_eq_getElem hi] at hy; injection hy with hy; subst hy; exact ⟨e1, e2, e3⟩⟩)
    have hall : ∀ x ∈ ess, x.length = size := by
      intro x hx
      obtain ⟨i, hi, rfl⟩ := List.getElem_of_mem hx
      exact (hes i _ (List.getElem?_eq_getElem hi) _ (List.getElem?_eq_getElem (by omega))).1
    refine ⟨ess.flatten, by rw [flat_length size ess hall, hel], ?_, by rw [flat_length size ess hall, hel], fun i y hy => ?_⟩
    · rintro ad had j u hu
      injection had with had
      subst had
      have hsz : 0 < size := by
        rcases Nat.eq_zero_or_pos size with h | h
        · subst h
          have : ess.flatten.length = 0 := by rw [flat_length 0 ess hall]; omega
          have hj := (List.getElem?_eq_some_iff.1 hu).1
          omega
        · exact h
      have hj := (List.getElem?_eq_some_iff.1 hu).1
      rw [flat_length size ess hall] at hj
      have hq : j / size < ess.length := Nat.div_lt_of_lt_mul (by rw [Nat.mul_comm]; exact hj)
      have hr : j % size < size := Nat.mod_lt _ hsz
      have hjj : j = j / size * size + j % size := by rw [Nat.mul_comm]; exact (Nat.div_add_mod j size).symm
      have e := flat_at size ess (j / size) _ hall (List.getElem?_eq_getElem hq)
      obtain ⟨-, c1, -⟩ := hes (j / size) _ (List.getElem?_eq_getElem hq) _ (List.getElem?_eq_getElem (by omega))
      have hc := c1 (j % size) hr
      rw [← e, List.getElem?_take_of_lt hr, List.getElem?_drop, ← hjj, hu] at hc
      rw [Addr.add_lit, ← hc]
      congr 2
      omega
    · have hi : i < ys.length := (List.getElem?_eq_some_iff.1 hy).1
      rw [flat_at size ess i _ hall (List.getElem?_eq_getElem (by omega))]
      exact (hes i _ (List.getElem?_eq_getElem (by omega)) y hy).2.2
  · have : ys = [] := List.length_eq_zero_iff.1 (by omega)
    subst this
    exact ⟨[], by simp, fun ad _ j u hu => by simp at hu, CellsRead.nil⟩
/-- A record's cells are one cell each. -/
theorem named_one {w : World} {B : Nat} {news : List Value} {ys : List NamedD} (h : CellsRead 2 RNamed w B news ys) : ∀ u ∈ news, u.oneCell' = true := by
  intro u hu
  obtain ⟨j, hj, rfl⟩ := List.getElem_of_mem hu
  have hl := h.1
  have hi : j / 2 < ys.length := by omega
  obtain ⟨nm, he, hn, -⟩ := h.2 (j / 2) _ (List.getElem?_eq_getElem hi)
  obtain ⟨na, nc, rfl⟩ := slice_form hn
  have hc : ((news.drop (j / 2 * 2)).take 2)[j % 2]? = some news[j] := by
    rw [List.getElem?_take_of_lt (by omega), List.getElem?_drop, show j / 2 * 2 + j % 2 = j by omega, List.getElem?_eq_getElem hj]
  rw [he] at hc
  have h2 : j % 2 = 0 ∨ j % 2 = 1 := by omega
  rcases h2 with h2 | h2
  · rw [h2] at hc; simp at hc; rw [← hc]; rfl
  · rw [h2] at hc; simp at hc; rw [← hc]; rfl
theorem named_cells {w : World} {B : Nat} {x : NamedD} {na : Option Addr} {c : Nat} (hn : RStrs w B [.slice na x.names.length c] x.names) (hs : x.id.size ≤ maxLen) : CellsRead 2 RNamed w B [.string x.id, .slice na x.names.length c] [x] := by
  refine ⟨rfl, fun i y hy => ?_⟩
  match i, hy with
  | 0, hy => simp at hy; subst hy; exact ⟨_, rfl, hn, hs⟩
end Go.Proofs.Ytlniiaopindjnaa
