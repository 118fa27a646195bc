/-
  Layer 4's document: letters: isLetter, length, Bytes, walked.
-/
import Derived.Test.YtlniiaopindjnaaDoorBase0
import Derived.Test.YtlniiaopindjnaaDoorQuoP
import Derived.Laws.IdiomStrings
import Derived.Laws.BytesArg
namespace Go.Proofs.YtlniiaopindjnaaDoor
set_option linter.unusedVariables false
open Go.RowKit

set_option maxHeartbeats 1000000 in
set_option maxRecDepth 100000 in
theorem ref04_isLetter_any (n : Int) (w : World) : Calls Tryd.prog 57 #[.int .i64 n] w fun e w' => e = .returned (.bool (Qt.isLetter n)) ∧ w = w' := by
  unfold Qt.isLetter
  by_cases h1 : 0 ≤ n
  · by_cases h2 : n ≤ 1114111
    · by_cases h3 : n < 55296
      · go_enter Tryd.func57, Tryd.ntmps57
        go_wp2_with fail
        go_ret
        exact ⟨congrArg (fun b => Ending.returned (.bool b)) (Bool.eq_iff_iff.2 (by first | (simp; done) | (simp; omega))), rfl⟩
      · by_cases h4 : 57343 < n
        · go_enter Tryd.func57, Tryd.ntmps57
          go_wp2_with fail
          go_ret
          exact ⟨congrArg (fun b => Ending.returned (.bool b)) (Bool.eq_iff_iff.2 (by first | (simp; done) | (simp; omega))), rfl⟩
        · go_enter Tryd.func57, Tryd.ntmps57
          go_wp2_with fail
          go_ret
          exact ⟨congrArg (fun b => Ending.returned (.bool b)) (Bool.eq_iff_iff.2 (by first | (simp; done) | (simp; omega))), rfl⟩
    · go_enter Tryd.func57, Tryd.ntmps57
      go_wp2_with fail
      go_ret
      exact ⟨congrArg (fun b => Ending.returned (.bool b)) (Bool.eq_iff_iff.2 (by first | (simp; done) | (simp; omega))), rfl⟩
  · go_enter Tryd.func57, Tryd.ntmps57
    go_wp2_with fail
    go_ret
    exact ⟨congrArg (fun b => Ending.returned (.bool b)) (Bool.eq_iff_iff.2 (by first | (simp; done) | (simp; omega))), rfl⟩

set_option maxHeartbeats 1000000 in
set_option maxRecDepth 100000 in
theorem ref04_length_any (c : Nat) (w : World) (hc : c < 256) : Calls Tryd.prog 56 #[.int .u8 c] w fun e w' => e = .returned (.int .i64 (Qt.lenN c)) ∧ w = w' := by
  rcases (show c < 128 ∨ (128 ≤ c ∧ c < 192) ∨ (192 ≤ c ∧ c < 224) ∨ (224 ≤ c ∧ c < 240) ∨ (240 ≤ c ∧ c < 248) ∨ 248 ≤ c by omega) with h | h | h | h | h | h
  · have hl : Qt.lenN c = 1 := by unfold Qt.lenN; (repeat' split) <;> omega
    rw [hl]
    have z0 : ((c : Int) < 128) := by omega
    go_enter Tryd.func56, Tryd.ntmps56
    go_wp2_with fail
    go_ret
    exact ⟨rfl, rfl⟩
  · have hl : Qt.lenN c = 0 := by unfold Qt.lenN; (repeat' split) <;> omega
    rw [hl]
    have z0 : ¬ ((c : Int) < 128) := by omega
    have z1 : ¬ ((192 : Int) ≤ (c : Int)) := by omega
    have z2 : ((c : Int) < 224) := by omega
    have z3 : ¬ ((224 : Int) ≤ (c : Int)) := by omega
    have z4 : ¬ ((240 : Int) ≤ (c : Int)) := by omega
    go_enter Tryd.func56, Tryd.ntmps56
    go_wp2_with fail
    go_ret
    exact ⟨rfl, rfl⟩
  · have hl : Qt.lenN c = 2 := by unfold Qt.lenN; (repeat' split) <;> omega
    rw [hl]
    have z0 : ¬ ((c : Int) < 128) := by omega
    have z1 : ((192 : Int) ≤ (c : Int)) := by omega
    have z2 : ((c : Int) < 224) := by omega
    go_enter Tryd.func56, Tryd.ntmps56
    go_wp2_with fail
    go_ret
    exact ⟨rfl, rfl⟩
  · have hl : Qt.lenN c = 3 := by unfold Qt.lenN; (repeat' split) <;> omega
    rw [hl]
    have z0 : ¬ ((c : Int) < 128) := by omega
    have z1 : ((192 : Int) ≤ (c : Int)) := by omega
    have z2 : ¬ ((c : Int) < 224) := by omega
    have z3 : ((224 : Int) ≤ (c : Int)) := by omega
    have z4 : ((c : Int) < 240) := by omega
    go_enter Tryd.func56, Tryd.ntmps56
    go_wp2_with fail
    go_ret
    exact ⟨rfl, rfl⟩
  · have hl : Qt.lenN c = 4 := by unfold Qt.lenN; (repeat' split) <;> omega
    rw [hl]
    have z0 : ¬ ((c : Int) < 128) := by omega
    have z1 : ((192 : Int) ≤ (c : Int)) := by omega
    have z2 : ¬ ((c : Int) < 224) := by omega
    have z3 : ((224 : Int) ≤ (c : Int)) := by omega
    have z4 : ¬ ((c : Int) < 240) := by omega
    have z5 : ((240 : Int) ≤ (c : Int)) := by omega
    have z6 : ((c : Int) < 248) := by omega
    go_enter Tryd.func56, Tryd.ntmps56
    go_wp2_with fail
    go_ret
    exact ⟨rfl, rfl⟩
  · have hl : Qt.lenN c = 0 := by unfold Qt.lenN; (repeat' split) <;> omega
    rw [hl]
    have z0 : ¬ ((c : Int) < 128) := by omega
    have z1 : ((192 : Int) ≤ (c : Int)) := by omega
    have z2 : ¬ ((c : Int) < 224) := by omega
    have z3 : ((224 : Int) ≤ (c : Int)) := by omega
    have z4 : ¬ ((c : Int) < 240) := by omega
    have z5 : ((240 : Int) ≤ (c : Int)) := by omega
    have z6 : ¬ ((c : Int) < 248) := by omega
    go_enter Tryd.func56, Tryd.ntmps56
    go_wp2_with fail
    go_ret
    exact ⟨rfl, rfl⟩

def u8s (l : List Nat) : List UInt8 := l.map UInt8.ofNat
theorem bytes_conv (l : List Nat) (hl : ∀ x ∈ l, x < 256) (w : World) (k : Nat) (hk : k = l.length) (cs : Array Value) (hcs : cs.toList = l.map (fun (x : Nat) => Value.int .u8 (x : Int))) :
    (convert 53 9 (.slice (some ⟨w.heap.size, 0, none⟩) k k)).run Tryd.prog (w.alloc (.cells cs 5)) = .ok (.string ⟨(u8s l).toArray⟩) (w.alloc (.cells cs 5)) := by
  have hk' : k = (u8s l).length := by rw [hk]; simp [u8s]
  rw [hk']
  refine run_convert_bytes_back _ _ _ 5 _ _ (u8s l) Tryd.underlying53 Tryd.underlying5 Tryd.underlying9 ?_
  intro j hj
  have hj' : j < l.length := by simpa [u8s] using hj
  rw [Addr.add_lit, Nat.zero_add, cell_of_row _ _ j _ _ _ (heap_alloc_new w _)]
  have h1 : cs[j]? = (l.map (fun (x : Nat) => Value.int .u8 (x : Int)))[j]? := by rw [← hcs]; simp
  rw [h1, List.getElem?_map, List.getElem?_eq_getElem hj']
  have h2 := hl l[j] (List.getElem_mem hj')
  simp only [u8s, Option.map_some, List.getElem_map]
  rw [UInt8.toNat_ofNat', Nat.mod_eq_of_lt h2]

theorem bytesN_lt {n : Nat} (h : n ≤ 1114111) : ∀ x ∈ Qt.bytesN n, x < 256 := by
  intro x hx
  unfold Qt.bytesN at hx
  repeat' split at hx
  all_goals simp at hx
  all_goals omega

set_option maxHeartbeats 1000000 in
set_option maxRecDepth 100000 in
theorem ref04_Bytes_any (n : Nat) (w : World) (hn : n ≤ 1114111) : Calls Tryd.prog 41 #[.int .i64 n] w fun e w' => e = .returned (.string ⟨(u8s (Qt.bytesN n)).toArray⟩) ∧ Below w.heap.size w w' := by
  have hlt := bytesN_lt hn
  rcases (show n < 128 ∨ (128 ≤ n ∧ n < 2048) ∨ (2048 ≤ n ∧ n < 65536) ∨ 65536 ≤ n by omega) with h | h | h | h
  · have hb : Qt.bytesN n = [n] := by unfold Qt.bytesN; (repeat' split) <;> first | rfl | omega
    rw [hb] at hlt ⊢
    have z0 : ((n : Int) < 128) := by omega
    have hcv := bytes_conv _ hlt w 1 rfl #[.int .u8 (n : Int)] (by simp)
    clear hlt hb
    go_enter Tryd.func41, Tryd.ntmps41
    go_wp2_with fail
    go_ret
    exact ⟨rfl, (Below.refl _ _).alloc (Nat.le_refl _) _⟩
  · have hb : Qt.bytesN n = [192 + n / 64, 128 + n % 64] := by unfold Qt.bytesN; (repeat' split) <;> first | rfl | omega
    rw [hb] at hlt ⊢
    have z0 : ¬ ((n : Int) < 128) := by omega
    have z1 : ((n : Int) < 2048) := by omega
    have hcv := bytes_conv _ hlt w 2 rfl #[.int .u8 (192 + (n : Int) / 64), .int .u8 (128 + (n : Int) % 64)] (by simp)
    clear hlt hb
    go_enter Tryd.func41, Tryd.ntmps41
    go_wp2_with fail
    go_ret
    exact ⟨rfl, (Below.refl _ _).alloc (Nat.le_refl _) _⟩
  · have hb : Qt.bytesN n = [224 + n / 4096, 128 + n / 64 % 64, 128 + n % 64] := by unfold Qt.bytesN; (repeat' split) <;> first | rfl | omega
    rw [hb] at hlt ⊢
    have z0 : ¬ ((n : Int) < 128) := by omega
    have z1 : ¬ ((n : Int) < 2048) := by omega
    have z2 : ((n : Int) < 65536) := by omega
    have hcv := bytes_conv _ hlt w 3 rfl #[.int .u8 (224 + (n : Int) / 4096), .int .u8 (128 + (n : Int) / 64 % 64), .int .u8 (128 + (n : Int) % 64)] (by simp)
    clear hlt hb
    go_enter Tryd.func41, Tryd.ntmps41
    go_wp2_with fail
    go_ret
    exact ⟨rfl, (Below.refl _ _).alloc (Nat.le_refl _) _⟩
  · have hb : Qt.bytesN n = [240 + n / 262144, 128 + n / 4096 % 64, 128 + n / 64 % 64, 128 + n % 64] := by unfold Qt.bytesN; (repeat' split) <;> first | rfl | omega
    rw [hb] at hlt ⊢
    have z0 : ¬ ((n : Int) < 128) := by omega
    have z1 : ¬ ((n : Int) < 2048) := by omega
    have z2 : ¬ ((n : Int) < 65536) := by omega
    have hcv := bytes_conv _ hlt w 4 rfl #[.int .u8 (240 + (n : Int) / 262144), .int .u8 (128 + (n : Int) / 4096 % 64), .int .u8 (128 + (n : Int) / 64 % 64), .int .u8 (128 + (n : Int) % 64)] (by simp)
    clear hlt hb
    go_enter Tryd.func41, Tryd.ntmps41
    go_wp2_with fail
    go_ret
    exact ⟨rfl, (Below.refl _ _).alloc (Nat.le_refl _) _⟩
end Go.Proofs.YtlniiaopindjnaaDoor
