/-
  Layer 35: Few, walked; Powers, walked.
-/
import Derived.Test.YtlniiaopindjnaaDoorHisI
namespace Go.Proofs.YtlniiaopindjnaaDoor
set_option linter.unusedVariables false
open Go.RowKit

/-- What Few's yes says. -/
def FewR (r : ReportD) (b : Bool) : Prop := b = true → r.events.length ≤ 20 ∧ r.powers.length ≤ 10 ∧ ∀ e ∈ r.events, e.answer.id.size ≤ 100
set_option maxHeartbeats 2000000 in
set_option maxRecDepth 100000 in
theorem ref35_Few_any (ea pa : Option Addr) (en ec pn pc : Nat) (r : ReportD) (w : World) (h : REvents w w.heap.size [.slice ea en ec] r.events) (hp : RInts w w.heap.size [.slice pa pn pc] r.powers) :
    Calls Tryd.prog 16 #[.agg #[.slice ea en ec, .slice pa pn pc]] w (SomeBelB (FewR r) w) := by
  obtain ⟨hn, hm1, hm2, _, _⟩ := events_open h
  obtain ⟨hn2, p1, p2, _, _⟩ := ints_open hp
  subst hn hn2
  rw [maxLen_val] at hm2 p2
  have H := Lib.hid h
  have BX := Lib.hid (BoxedAt.alloc w [.slice ea r.events.length ec, .slice pa r.powers.length pc] 34)
  clear h hp
  go_enter Tryd.func16, Tryd.ntmps16
  go_wp2_with fail
  go_loopw [3] (fun i wr => ∃ k : Nat, k ≤ r.events.length ∧ k ≤ 20 ∧ i = .int .i64 k ∧ BoxedAt w wr [.slice ea r.events.length ec, .slice pa r.powers.length pc] ∧ Hid (∀ j x, j < k → r.events[j]? = some x → x.answer.id.size ≤ 100)) (fun i _ => r.events.length - (intOf i).toNat)
  case atStart => exact ⟨0, by omega, by omega, rfl, BX.out, Lib.hid (none_before (Q := fun x : EventD => x.answer.id.size ≤ 100) _)⟩
  case round =>
    obtain ⟨k, hk, hk20, rfl, hbox, hall⟩ := hrel
    have HBX := Lib.hid hbox
    have b0 := hbox.cell 0 _ rfl
    have b1 := hbox.cell 1 _ rfl
    have bs := hbox.size
    by_cases hlt : k < r.events.length ∧ k < 20
    · obtain ⟨h1, h2⟩ := hlt
      obtain ⟨x, hx⟩ := get_at h1
      obtain ⟨_, _, _, _, hev⟩ := events_open (kept_events.on hbox.below H.out)
      obtain ⟨b, off, rfl, hb, hc⟩ := hev (by omega)
      obtain ⟨hok, hcell⟩ := hc k x hx
      have c13 := hcell 13 (by omega)
      have c15 := hcell 15 (by omega)
      replace c13 : wr.cell? ⟨b, off + k * 16 + 13, none⟩ = some (.string x.answer.id) := c13
      replace c15 : wr.cell? ⟨b, off + k * 16 + 15, none⟩ = some (.string x.answer.text) := c15
      have HX := Lib.hid hx
      have q1 := hok.id
      have q2 := hok.text
      rw [maxLen_val] at q1 q2
      clear hx hbox hcell hc hev hok
      by_cases hs : x.answer.id.size ≤ 100
      · by_cases ht : x.answer.text.size ≤ 16384
        · go_wp2_with fail
          go_roundw
          case rel => exact ⟨k + 1, by omega, by omega, by go_num, HBX.out, Lib.hid (grow_all (Q := fun x : EventD => x.answer.id.size ≤ 100) hall.out HX.out hs)⟩
          case measure => simp [intOf]; omega
        · go_wp2_with fail
          go_ret
          exact ⟨false, rfl, HBX.out.below, fun h => by cases h⟩
      · go_wp2_with fail
        go_ret
        exact ⟨false, rfl, HBX.out.below, fun h => by cases h⟩
    · clear hbox
      go_wp2_with fail
      all_goals
        go_ret
        exact ⟨_, rfl, HBX.out.below, fun h => by
          have h9 : r.events.length ≤ 20 ∧ r.powers.length ≤ 10 := by first | (simp at h; omega) | (simp [*] at h)
          exact ⟨h9.1, h9.2, all_of (Q := fun x : EventD => x.answer.id.size ≤ 100) hall.out (by omega)⟩⟩
end Go.Proofs.YtlniiaopindjnaaDoor
