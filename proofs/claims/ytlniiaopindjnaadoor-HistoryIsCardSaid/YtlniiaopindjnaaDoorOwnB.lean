/-
  A []byte that the call itself makes: appended to, and told as a text.
-/
import Derived.Test.YtlniiaopindjnaaDoorBuilder
import Derived.Laws.IdiomStrings
import Derived.Laws.BytesArg
namespace Go.Proofs.YtlniiaopindjnaaDoor
set_option linter.unusedVariables false
open Go.RowKit

theorem own_block {w : World} {base : Nat} {e : TypeId} {size : Nat} {v : Value} {n : Nat} {xs : List Value} (h : w.ownsRow base e size v n xs) : ∀ k, v.ownBlock = some k → base ≤ k := by
  intro k hk
  rcases h.2 with ⟨rfl, _⟩ | ⟨g, cap, cur, rfl, hg, _⟩
  · simp [Value.ownBlock] at hk
  · simp [Value.ownBlock] at hk; omega
theorem own_mono {w : World} {base base' : Nat} {e : TypeId} {size : Nat} {v : Value} {n : Nat} {xs : List Value} (h : w.ownsRow base e size v n xs) (hb : base' ≤ base) : w.ownsRow base' e size v n xs := by
  obtain ⟨h1, h2⟩ := h
  refine ⟨h1, ?_⟩
  rcases h2 with h2 | ⟨g, cap, cur, e, hg, r⟩
  · exact .inl h2
  · exact .inr ⟨g, cap, cur, e, by omega, r⟩
theorem own_below {w w' : World} {base : Nat} {e : TypeId} {size : Nat} {v : Value} {n : Nat} {xs : List Value} (h : w.ownsRow base e size v n xs) (hb : Below w.heap.size w w') : w'.ownsRow base e size v n xs := by
  obtain ⟨h1, h2⟩ := h
  refine ⟨h1, ?_⟩
  rcases h2 with h2 | ⟨g, cap, cur, e, hg, hgb, r⟩
  · exact .inl h2
  · have hlt : g < w.heap.size := (Array.getElem?_eq_some_iff.1 hgb).1
    exact .inr ⟨g, cap, cur, e, hg, (hb.block g hlt).trans hgb, r⟩

/-- The text of an own row of bytes. -/
theorem own_bytes {P : Program} {w : World} {base : Nat} {e src dst : TypeId} {v : Value} {l : List UInt8} (h : w.ownsRow base e 1 v l.length (Lib.byteCells l)) (hs : P.underlying src = some (.slice e)) (he : P.underlying e = some (.int .u8)) (hd : P.underlying dst = some .string) :
    (convert src dst v).run P w = .ok (.string ⟨l.toArray⟩) w := by
  rcases h.2 with ⟨rfl, hn⟩ | ⟨g, cap, cur, rfl, -, hg, -, -, -, hcur⟩
  · rw [List.length_eq_zero_iff.1 hn]
    exact run_convert_bytes_nil w src e hs he 0 0 dst hd
  · refine run_convert_bytes_back w src dst e ⟨g, 0, none⟩ cap l hs he hd ?_
    intro j hj
    rw [Addr.add_lit, Nat.zero_add, cell_of_row w g j cur e _ hg]
    have h1 : (cur.toList.take (l.length * 1))[j]? = (Lib.byteCells l)[j]? := by rw [hcur]
    rw [List.getElem?_take_of_lt (by omega)] at h1
    simpa [Lib.byteCells, List.getElem?_map, List.getElem?_eq_getElem hj] using h1

def OwnB (w : World) (base : Nat) (v : Value) (l : List UInt8) : Prop := base ≤ w.heap.size ∧ w.ownsRow base 5 1 v l.length (Lib.byteCells l)
theorem OwnB.nil (w : World) (base : Nat) (h : base ≤ w.heap.size) : OwnB w base (.slice none 0 0) [] := ⟨h, World.ownsRow_nil _ _ _ _⟩
theorem OwnB.on {w w' : World} {base : Nat} {v : Value} {l : List UInt8} (h : OwnB w base v l) (hb : Below w.heap.size w w') : OwnB w' base v l := ⟨Nat.le_trans h.1 hb.size, own_below h.2 hb⟩
theorem OwnB.conv {w : World} {base : Nat} {v : Value} {l : List UInt8} (h : OwnB w base v l) : (convert 53 9 v).run Tryd.prog w = .ok (.string ⟨l.toArray⟩) w :=
  own_bytes h.2 Tryd.underlying53 Tryd.underlying5 Tryd.underlying9

theorem wpList_append_str {w : World} {ops : Array Oper} {rest : List Oper} {o : Oper} {a : Act} {Q : Exit → Act → World → Prop} (hgd : o.guard = none) (sl x : Operand)
    (ho : o.op = .call { callee := .builtin .append, args := #[sl, x], argTypes := #[53, 9] }) (base : Nat) (v : Value) (l : List UInt8) (hs : a.eval sl = v) (hown : OwnB w base v l) (s : ByteArray) (hx : a.eval x = .string s)
    (hlen : l.length + s.size ≤ 100000000) (h : ∀ v' w', OwnB w' base v' (l ++ s.data.toList) → Below base w w' → wpList Tryd.prog ops Q rest (a.put o.dst v') w') : wpList Tryd.prog ops Q (o :: rest) a w := by
  obtain ⟨i0, hi, hz0, hz1, hz2⟩ := info_parts byte_info
  refine wpList_append_string_at w hgd sl x _ _ ho base 5 i0 Tryd.underlying53 Tryd.underlying9 hi hz0 hz1 hz2 v l.length (Lib.byteCells l) hs hown.2 s hx (by unfold maxLen; omega) (by omega) hown.1 ?_
  intro v' w' h1 h2 h3
  have hb : Below base w w' := (Below.refl base w).grown h2 hown.1 (fun k hk => own_block hown.2 k hk)
  refine h v' w' ⟨Nat.le_trans hown.1 hb.size, ?_⟩ hb
  have e1 : (l ++ s.data.toList).length = l.length + s.size := by simp
  have e2 : Lib.byteCells (l ++ s.data.toList) = Lib.byteCells l ++ Lib.strCells s := by simp [Lib.byteCells, Lib.strCells]
  rw [e1, e2]
  exact h1
theorem wpList_append_byte {w : World} {ops : Array Oper} {rest : List Oper} {o : Oper} {a : Act} {Q : Exit → Act → World → Prop} (hgd : o.guard = none) (sl x : Operand)
    (ho : o.op = .call { callee := .builtin .append, args := #[sl, x], argTypes := #[53, 53] }) (base : Nat) (v : Value) (l : List UInt8) (hs : a.eval sl = v) (hown : OwnB w base v l) (c : UInt8)
    (hx : a.eval x = .slice (some ⟨w.heap.size, 0, none⟩) 1 1) (hlen : l.length ≤ 100000000)
    (h : ∀ v' w', OwnB w' base v' (l ++ [c]) → Below base w w' → wpList Tryd.prog ops Q rest (a.put o.dst v') w') : wpList Tryd.prog ops Q (o :: rest) a (w.alloc (.cells #[.int .u8 (c.toNat : Int)] 5)) := by
  obtain ⟨i0, hi, hz0, hz1, hz2⟩ := info_parts byte_info
  have h0 := hown.1
  refine wpList_append_own _ hgd sl x _ ho base 5 i0 (.int .u8 0) 1 1 Tryd.underlying53 hi hz0 hz1 hz2 rfl (by decide) v l.length (Lib.byteCells l) hs (hown.2.alloc _) ⟨w.heap.size, 0, none⟩ 1 1 [.int .u8 (c.toNat : Int)] hx rfl (cell_one_new _ _ _) (by intro u hu; simp at hu; subst hu; rfl) (by unfold maxLen; omega) (by omega) (by simp; omega) ?_
  intro v' w' h1 h2 h3
  have hb : Below base w w' := ((Below.refl base w).alloc h0 _).grown h2 (by simp; omega) (fun k hk => own_block hown.2 k hk)
  refine h v' w' ⟨Nat.le_trans h0 hb.size, ?_⟩ hb
  have e2 : Lib.byteCells (l ++ [c]) = Lib.byteCells l ++ [.int .u8 (c.toNat : Int)] := by simp [Lib.byteCells]
  rw [e2]
  simpa using h1
end Go.Proofs.YtlniiaopindjnaaDoor
