/-
  Layer 35: lines: plain; the program's Dec and line, walked.
-/
import Derived.Test.YtlniiaopindjnaaDoorHisI
import Derived.Test.YtlniiaopindjnaaDoorBuilder
import Derived.Lib.ItoaLen
import Derived.Sort.Grow
namespace Go.Proofs.YtlniiaopindjnaaDoor
set_option linter.unusedVariables false
open Go.RowKit
open Go.Lib hiding intOf

namespace Hi
/-- Numbers, a blank behind each. -/
def nums : List Int → List UInt8
  | [] => []
  | n :: r => Lib.itoa n ++ 32 :: nums r
def lineL (word : List UInt8) (l : List Int) : List UInt8 := nums l ++ word ++ [10]
theorem nums_snoc (n : Int) : ∀ l : List Int, nums (l ++ [n]) = nums l ++ (Lib.itoa n ++ [32])
  | [] => by simp [nums]
  | a :: r => by rw [List.cons_append, nums, nums, nums_snoc n r]; simp
theorem nums_len : ∀ l : List Int, (∀ n ∈ l, Fits n) → (nums l).length ≤ 22 * l.length
  | [], _ => by simp [nums]
  | a :: r, h => by
    have hb := fits_bounds (h a (List.mem_cons_self ..))
    have h1 := Lib.itoa_length_le a hb.1 hb.2
    have h2 := nums_len r (fun n hn => h n (List.mem_cons_of_mem _ hn))
    rw [nums, List.length_append, List.length_cons, List.length_cons]
    omega
theorem lineL_len (word : List UInt8) (l : List Int) (h : ∀ n ∈ l, Fits n) : (lineL word l).length ≤ 22 * l.length + word.length + 1 := by
  have := nums_len l h
  unfold lineL
  rw [List.length_append, List.length_append, List.length_singleton]
  omega
end Hi
/-- The table that numbers' digits are counted by. -/
def Pow (w : World) : Prop := Lib.TabIs Tryd.prog w "internal/strconv.uint64pow10" .u64 Lib.pow10Tab
theorem var_below {P : Program} {w w' : World} {name : String} {cs : Array Value} (h : w.var? P name = some cs) (hb : Below w.heap.size w w') : w'.var? P name = some cs := by
  unfold World.var? at h ⊢
  cases hg : P.globalNamed name with
  | none => rw [hg] at h; cases h
  | some g =>
    rw [hg] at h
    simp only [Option.bind_some] at h ⊢
    rcases Nat.lt_or_ge g w.heap.size with hlt | hge
    · rw [hb.block g hlt]; exact h
    · rw [Array.getElem?_eq_none hge] at h; cases h
theorem Pow.on {w w' : World} (h : Pow w) (hb : Below w.heap.size w w') : Pow w' := var_below h hb
theorem below_grow {B : Nat} {a w : World} (h : Below B a w) (hB : B ≤ w.heap.size) (os : Array Obj) : Below B a (Sort.grow w os) :=
  ⟨h.os, h.tape, h.output, by simp [Sort.grow]; have := h.size; omega, fun k hk => by
    rw [← h.block k hk]
    simp only [Sort.grow]
    rw [Array.getElem?_append_left (by omega)]⟩
theorem str_add (a b : List UInt8) : (⟨a.toArray⟩ : ByteArray) ++ ⟨b.toArray⟩ = ⟨(a ++ b).toArray⟩ := ByteArray.ext (by simp)
theorem str_size (a : List UInt8) : (⟨a.toArray⟩ : ByteArray).size = a.length := rfl
theorem str_cells (a : List UInt8) : Lib.strCells ⟨a.toArray⟩ = Lib.byteCells a := rfl
theorem bytes_add (a b : List UInt8) : Lib.byteCells (a ++ b) = Lib.byteCells a ++ Lib.byteCells b := by simp [Lib.byteCells]
theorem bytes_length (a : List UInt8) : (Lib.byteCells a).length = a.length := by simp [Lib.byteCells]
theorem ret_str {a b : ByteArray} (h : a = b) : Ending.returned (.string a) = .returned (.string b) := by rw [h]

set_option maxHeartbeats 400000 in
theorem digits_Dec_any (n : Int) (w : World) (hn : Fits n) (ht : Pow w) : Calls Tryd.prog 51 #[.int .i64 n] w fun e w' => e = .returned (.string ⟨(Lib.itoa n).toArray⟩) ∧ Below w.heap.size w w' := by
  have hb := fits_bounds hn
  have H := Lib.hid (Tryd.strconv_Itoa n hb.1 hb.2 w ht)
  clear ht
  go_enter Tryd.func51, Tryd.ntmps51
  go_wp2_with (go_at_call 67; refine H.out.mono ?_; rintro e w2 ⟨rfl, k, os, rfl⟩)
  go_ret
  exact ⟨rfl, below_grow (below_drew (Below.refl _ _) k) (by simp) os⟩
theorem IsB.on_below {T e : TypeId} {keep : Nat → Prop} {b : Nat} {bs : List Value} {w w' : World} (h : IsB T e keep b bs w) (hb : Below w.heap.size w w') : IsB T e keep b bs w' :=
  h.kept hb.size (fun k hk _ => hb.block k hk)
set_option maxHeartbeats 4000000 in
set_option maxRecDepth 100000 in
theorem history_line_any (word : ByteArray) (a : Option Addr) (n c : Nat) (l : List Int) (w : World) (hw : word.size ≤ 1000) (hl : l.length ≤ 100) (h : RInts w w.heap.size [.slice a n c] l) (hf : ∀ n ∈ l, Fits n) (ht : Pow w) :
    Calls Tryd.prog 50 #[.string word, .slice a n c] w fun e w' => e = .returned (.string ⟨(Hi.lineL word.data.toList l).toArray⟩) ∧ Below w.heap.size w w' := by
  obtain ⟨hn, m1, m2, _, _⟩ := ints_open h
  subst hn
  rw [maxLen_val] at m2
  have H := Lib.hid h
  have HF := Lib.hid hf
  have HT := Lib.hid ht
  have HI0 := Lib.hid (IsB.fresh 55 5 (fun k => k < w.heap.size) w (fun k hk => hk))
  have HB0 := Lib.hid (bel1 w (.cells #[.pointer none, .slice none 0 0] 55))
  clear h hf ht
  go_enter Tryd.func50, Tryd.ntmps50
  go_wp2_with fail
  go_loopw [10] (fun i wr => ∃ k : Nat, k ≤ l.length ∧ i = .int .i64 k ∧ IsB 55 5 (fun k => k < w.heap.size) w.heap.size (Lib.byteCells (Hi.nums (l.take k))) wr ∧ Below w.heap.size w wr) (fun i _ => l.length - (intOf i).toNat)
  case atStart => exact ⟨0, by omega, rfl, HI0.out, HB0.out⟩
  case round =>
    obtain ⟨k, hk, rfl, hisb, hbel⟩ := hrel
    have HI := Lib.hid hisb
    have HB := Lib.hid hbel
    have hlen := Hi.nums_len (l.take k) (fun n hn => HF.out n (List.mem_of_mem_take hn))
    have hlt2 : (l.take k).length ≤ k := List.length_take_le _ _
    by_cases hlt : k < l.length
    · obtain ⟨x, hx⟩ := get_at hlt
      obtain ⟨_, _, _, _, hev⟩ := ints_open (kept_ints.on hbel H.out)
      obtain ⟨b, off, rfl, hb, hc⟩ := hev (by omega)
      obtain ⟨hfx, c0⟩ := hc k x hx
      have HS := Lib.hid (show Hi.nums (l.take (k + 1)) = Hi.nums (l.take k) ++ (Lib.itoa x ++ [32]) by rw [take_at hx, Hi.nums_snoc])
      have hfb := fits_bounds hfx
      have hil := Lib.itoa_length_le x hfb.1 hfb.2
      have HD := Lib.hid (digits_Dec_any x wr hfx (HT.out.on hbel))
      obtain ⟨q, hq⟩ : ∃ q, Lib.itoa x = q := ⟨_, rfl⟩
      rw [hq] at HD HS hil
      obtain ⟨bs, hbs⟩ : ∃ bs, Hi.nums (l.take k) = bs := ⟨_, rfl⟩
      rw [hbs] at HI HS hlen
      have HL := Lib.hid (show (Lib.byteCells bs).length + ((⟨q.toArray⟩ : ByteArray) ++ ⟨#[32]⟩).size ≤ 140737488355328 by rw [bytes_length, ByteArray.size_append]; show bs.length + (q.length + 1) ≤ _; omega)
      have hqs : (⟨q.toArray⟩ : ByteArray).size ≤ 21 := by rw [str_size]; exact hil
      clear hx hisb hbel hc hev hq hbs hlen hfx hfb hlt2
      go_wp2_with (first
        | (go_at_call 51; refine HD.out.mono ?_; rintro e w2 ⟨rfl, hb2⟩; replace HI := Lib.hid (HI.out.on_below hb2); replace HB := Lib.hid (HB.out.trans (hb2.mono HB.out.size)); clear hb2)
        | (go_at_call 31; refine (writeString_any _ _ _ _ _ HI.out HL.out).mono ?_; rintro e w3 ⟨rfl, hi3, hu3⟩; replace HI := Lib.hid hi3; replace HB := Lib.hid (HB.out.trans (hu3.below (fun k hk => hk))); clear hi3 hu3))
      go_roundw
      case rel => exact ⟨k + 1, by omega, by go_num, by rw [HS.out, bytes_add]; exact HI.out, HB.out⟩
      case measure => simp [intOf]; omega
    · obtain rfl : k = l.length := by omega
      rw [List.take_length] at hisb hlen
      have HI := Lib.hid hisb
      have hbs := hbel.size
      have HST := Lib.hid (Tryd.Builder_String_any w.heap.size w.heap.size _ _ (HI.out.lib (fun k hk => hk)) hbs)
      have HE := Lib.hid (show Hi.lineL word.data.toList l = Hi.nums l ++ word.data.toList ++ [10] from rfl)
      obtain ⟨bs, hbse⟩ : ∃ bs, Hi.nums l = bs := ⟨_, rfl⟩
      rw [hbse] at HST HE hlen
      have hsz : (⟨bs.toArray⟩ : ByteArray).size ≤ 10000 := by rw [str_size]; omega
      clear hisb hbel hbse
      go_wp2_with (go_at_call 34; refine HST.out.mono ?_; rintro e w7 ⟨rfl, b7⟩; replace HB := Lib.hid (HB.out.trans b7); clear b7)
      go_ret
      exact ⟨ret_str (by rw [HE.out]; exact ByteArray.ext (by simp)), HB.out⟩
end Go.Proofs.YtlniiaopindjnaaDoor
