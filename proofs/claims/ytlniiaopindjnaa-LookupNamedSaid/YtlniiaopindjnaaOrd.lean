/-
  Own rows of records in a region that draws its order: said of a world and of a block's number that stands as any sum.
-/
import Derived.Test.YtlniiaopindjnaaAppend4
namespace Go.Proofs.Ytlniiaopindjnaa
set_option linter.unusedVariables false
open Go.RowKit

theorem Below.al {B : Nat} {w x : World} (h : Below B w x) (hB : B ≤ w.heap.size) (o : Obj) : Below B w (x.alloc o) := h.alloc (Nat.le_trans hB h.size) o
theorem OwnsN.none_at {w : World} {base k : Nat} (hk : k = w.heap.size) (hb : base ≤ w.heap.size) : OwnsN (w.alloc (.cells #[] 44)) base (.slice (some ⟨k, 0, Option.none⟩) 0 0) [] := by
  subst hk
  exact OwnsN.none' hb
theorem OwnsN.one_at {w : World} {base k : Nat} (x : NamedD) {na : Option Addr} {c : Nat} (hk : k = w.heap.size) (hn : RStrs w base [.slice na x.names.length c] x.names) (hs : x.id.size ≤ maxLen) (hb : base ≤ w.heap.size) :
    OwnsN (w.alloc (.cells #[.string x.id, .slice na x.names.length c] 44)) base (.slice (some ⟨k, 0, Option.none⟩) 1 1) [x] := by
  subst hk
  exact OwnsN.one' x hn hs hb
theorem BringsN.one_at {w : World} {base k : Nat} (x : NamedD) {na : Option Addr} {c : Nat} (hk : k = w.heap.size) (hn : RStrs w base [.slice na x.names.length c] x.names) (hs : x.id.size ≤ maxLen) (hb : base ≤ w.heap.size) :
    BringsN (w.alloc (.cells #[.string x.id, .slice na x.names.length c] 44)) base (some ⟨k, 0, Option.none⟩) 1 1 [x] := by
  subst hk
  exact BringsN.one x hn hs hb
theorem OwnsN.drew {w : World} {base : Nat} {v : Value} {xs : List NamedD} (h : OwnsN w base v xs) : OwnsN w.drew base v xs := h.on ((Below.refl _ _).drew)
theorem BringsN.drew {w : World} {base : Nat} {na : Option Addr} {m c : Nat} {ys : List NamedD} (h : BringsN w base na m c ys) (h0 : base ≤ w.heap.size) : BringsN w.drew base na m c ys := h.on h0 ((Below.refl _ _).drew)

theorem ne_of_list {a b : ByteArray} (h : (a.toList == b.toList) = false) : a ≠ b := fun e => by subst e; simp at h
/-- An append whose row is made, while another row that is to be appended later stands in slot t. -/
theorem wp_append_nameds_by {w : World} {o : Oper} {a : Act} {K : Act → World → Prop} {Q : Exit → Act → World → Prop} (s x : Operand)
    (ho : o.op = .call { callee := .builtin .append, args := #[s, x], argTypes := #[34, 34] }) (base : Nat) (pv : Addr) (m0 c0 : Nat) (xs : List NamedD) (hs : a.eval s = .slice (some pv) m0 c0) (hown : OwnsN w base (.slice (some pv) m0 c0) xs)
    (na : Option Addr) (m c : Nat) (ys : List NamedD) (hx : a.eval x = .slice na m c) (hr : BringsN w base na m c ys) (hlen : xs.length + ys.length ≤ 1000000)
    (t : Nat) (ad : Addr) (m' c' : Nat) (zs : List NamedD) (ht : a.tmps[t]? = some (.slice (some ad) m' c')) (hz : BringsN w base (some ad) m' c' zs) (hne : ad.block ≠ pv.block)
    (h : ∀ v' w', OwnsN w' base v' (xs ++ ys) → Below base w w' → BringsN w' base (some ad) m' c' zs → K (a.put o.dst v') w') : o.wp Try.prog a w K Q :=
  wp_append_nameds s x ho base _ xs hs hown na m c ys hx hr hlen fun v' w' h1 h2 h3 => h v' w' h1 h2 (hz.grown h2 h3 fun ad' had => by
    injection had with had
    subst had
    intro he
    injection he with he
    exact hne he)
theorem opAt0 {o : Oper} {l : List Oper} : (o :: l).toArray[0]? = some o := by simp
theorem opAtS {o p : Oper} {l : List Oper} {n : Nat} (h : l.toArray[n]? = some p) : (o :: l).toArray[n + 1]? = some p := by simpa using h
end Go.Proofs.Ytlniiaopindjnaa
