/-
  Layer 39: what a store's records, blobs and most bytes are: plain lists. No program is named.
-/
namespace Go.Proofs.Ytlniiaopindjnaa
set_option linter.unusedVariables false
namespace Sp
/-- Each text once, in the order in which it is met first. -/
def once (acc : List (List UInt8)) (d : List UInt8) : List (List UInt8) := if d ∈ acc then acc else acc ++ [d]
def dd (l : List (List UInt8)) : List (List UInt8) := l.foldl once []
/-- The diffs of n layers: a layer without one has none. -/
def ld (n : Nat) (ds : List (List UInt8)) : List (List UInt8) := (List.range n).map fun k => ds.getD k []
def weight (l : List (List UInt8)) : Nat := (l.map fun d => 64 + d.length).sum
theorem ld_succ (k : Nat) (ds : List (List UInt8)) : ld (k + 1) ds = ld k ds ++ [ds.getD k []] := by simp [ld, List.range_succ]
theorem dd_ld_succ (k : Nat) (ds : List (List UInt8)) : dd (ld (k + 1) ds) = once (dd (ld k ds)) (ds.getD k []) := by rw [ld_succ, dd, List.foldl_append]; rfl
theorem once_nodup {l : List (List UInt8)} (h : l.Nodup) (d : List UInt8) : (once l d).Nodup := by
  unfold once; split
  · exact h
  · rename_i hn
    rw [List.nodup_append]
    exact ⟨h, by simp, fun a ha b hb => by simp at hb; subst hb; rintro rfl; exact hn ha⟩
theorem dd_nodup (l : List (List UInt8)) : (dd l).Nodup := by
  have : ∀ (l acc : List (List UInt8)), acc.Nodup → (l.foldl once acc).Nodup := by
    intro l; induction l with
    | nil => intro acc h; exact h
    | cons d r ih => intro acc h; exact ih _ (once_nodup h d)
  exact this l [] List.nodup_nil
theorem once_length (l : List (List UInt8)) (d : List UInt8) : (once l d).length = if d ∈ l then l.length else l.length + 1 := by unfold once; split <;> simp
theorem dd_length_le (l : List (List UInt8)) : (dd l).length ≤ l.length := by
  have : ∀ (l acc : List (List UInt8)), (l.foldl once acc).length ≤ acc.length + l.length := by
    intro l; induction l with
    | nil => intro acc; simp
    | cons d r ih => intro acc; have := ih (once acc d); have h2 := once_length acc d; simp only [List.foldl_cons, List.length_cons]; split at h2 <;> omega
  have h := this l []; simpa [dd] using h
theorem mem_once {l : List (List UInt8)} {d x : List UInt8} : x ∈ once l d ↔ x ∈ l ∨ x = d := by
  unfold once; split
  · rename_i h; constructor
    · exact .inl
    · rintro (h' | rfl)
      · exact h'
      · exact h
  · simp
theorem mem_dd {l : List (List UInt8)} {x : List UInt8} : x ∈ dd l ↔ x ∈ l := by
  have : ∀ (l acc : List (List UInt8)), x ∈ l.foldl once acc ↔ x ∈ acc ∨ x ∈ l := by
    intro l; induction l with
    | nil => intro acc; simp
    | cons d r ih => intro acc; rw [List.foldl_cons, ih, mem_once, List.mem_cons, or_assoc]
  have h := this l []; simpa [dd] using h
/-- What the texts weigh that are no longer to come. -/
def done (left : List UInt8 → Bool) : List (List UInt8) → Nat
  | [] => 0
  | d :: r => (if left d then 0 else 64 + d.length) + done left r
theorem done_congr (f g : List UInt8 → Bool) : ∀ l : List (List UInt8), (∀ d ∈ l, f d = g d) → done f l = done g l
  | [], _ => rfl
  | d :: r, h => by simp only [done]; rw [h d (by simp), done_congr f g r (fun x hx => h x (by simp [hx]))]
theorem done_none (left : List UInt8 → Bool) : ∀ l : List (List UInt8), (∀ d ∈ l, left d = true) → done left l = 0
  | [], _ => rfl
  | d :: r, h => by simp only [done]; rw [h d (by simp), done_none left r (fun x hx => h x (by simp [hx]))]; rfl
theorem done_all (left : List UInt8 → Bool) : ∀ l : List (List UInt8), (∀ d ∈ l, left d = false) → done left l = weight l
  | [], _ => rfl
  | d :: r, h => by
    simp only [done]; rw [h d (by simp), done_all left r (fun x hx => h x (by simp [hx]))]
    simp [weight]
theorem done_step (left : List UInt8 → Bool) (d : List UInt8) : ∀ l : List (List UInt8), l.Nodup → d ∈ l → left d = true → done (fun x => left x && !(x == d)) l = done left l + (64 + d.length)
  | [], _, h, _ => by cases h
  | x :: r, hn, hm, hl => by
    rw [List.nodup_cons] at hn
    simp only [done]
    by_cases hx : x = d
    · subst hx
      rw [done_congr (fun y => left y && !(y == x)) left r (fun y hy => by
        have : (y == x) = false := by simp; rintro rfl; exact hn.1 hy
        simp [this])]
      simp [hl]; omega
    · have hm' : d ∈ r := by
        rcases List.mem_cons.1 hm with h | h
        · exact absurd h.symm hx
        · exact h
      rw [done_step left d r hn.2 hm' hl]
      have : (x == d) = false := by simpa using hx
      simp [this]; omega
theorem done_le (left : List UInt8 → Bool) (m : Nat) : ∀ l : List (List UInt8), (∀ d ∈ l, d.length ≤ m) → done left l ≤ l.length * (64 + m)
  | [], _ => by simp [done]
  | d :: r, h => by
    have h1 := h d (by simp)
    have h2 := done_le left m r (fun x hx => h x (by simp [hx]))
    simp only [done, List.length_cons, Nat.succ_mul]
    split <;> omega
theorem weight_le (m : Nat) (l : List (List UInt8)) (h : ∀ d ∈ l, d.length ≤ m) : weight l ≤ l.length * (64 + m) := by
  rw [← done_all (fun _ => false) l (fun _ _ => rfl)]; exact done_le _ m l h
end Sp
end Go.Proofs.Ytlniiaopindjnaa
