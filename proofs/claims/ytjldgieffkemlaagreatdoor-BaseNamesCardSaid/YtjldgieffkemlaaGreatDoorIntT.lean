/-
  What the statements that count digits use at their top: the tables and the two errors as the condition lays them; a world that meets it.
-/
import Derived.Test.YtjldgieffkemlaaGreatDoorNumW
import Derived.Test.YtjldgieffkemlaaGreatDoorRows
import Derived.Test.YtjldgieffkemlaaGreatDoorTie
import Derived.Test.YtjldgieffkemlaaGreatDoorCards
import Derived.Lib.LaidIn
import Derived.Lib.LaidTab
import Derived.Lib.LaidU8T
import Derived.LaidSub
import Derived.Stop.LaidErr
import Derived.Deep.DeepHandedRow
import Derived.Deep.DeepWitnessRowRef
import Derived.ProofKit
import Derived.SizedLaws
import Derived.SevenTiedAt
namespace Go.Proofs.YtjldgieffkemlaaGreatDoor
set_option linter.unusedVariables false
set_option linter.unusedSimpArgs false
open Go.Shelf
open Go.ChangeShapes Go.WideShapes Go.ChangeAt Go.RowKit
open Go.Lib hiding intOf

theorem topOwnI : ownKnob Tryz.prog.godebug = none := by kernel_rfl
theorem laidOutI : laidOutB Tryz.prog = true := by kernel_rfl
theorem pow_isI : (Rows.laid_internal_strconv_uint64pow10 : DataW Unit) = Lib.tabData .u64 Lib.pow10Tab := by kernel_rfl
abbrev tabsLaidI : List (String × DataW Unit) := Rows.intentNamesRow.laid
def cells32I : Array Value := #[.int .u8 0, .int .u8 1, .int .u8 28, .int .u8 2, .int .u8 29, .int .u8 14, .int .u8 24, .int .u8 3, .int .u8 30, .int .u8 22, .int .u8 20, .int .u8 15, .int .u8 25, .int .u8 17, .int .u8 4, .int .u8 8, .int .u8 31, .int .u8 27, .int .u8 13, .int .u8 23, .int .u8 21, .int .u8 19, .int .u8 16, .int .u8 7, .int .u8 26, .int .u8 12, .int .u8 18, .int .u8 6, .int .u8 11, .int .u8 5, .int .u8 10, .int .u8 9]
def cells64I : Array Value := #[.int .u8 0, .int .u8 1, .int .u8 56, .int .u8 2, .int .u8 57, .int .u8 49, .int .u8 28, .int .u8 3, .int .u8 61, .int .u8 58, .int .u8 42, .int .u8 50, .int .u8 38, .int .u8 29, .int .u8 17, .int .u8 4, .int .u8 62, .int .u8 47, .int .u8 59, .int .u8 36, .int .u8 45, .int .u8 43, .int .u8 51, .int .u8 22, .int .u8 53, .int .u8 39, .int .u8 33, .int .u8 30, .int .u8 24, .int .u8 18, .int .u8 12, .int .u8 5, .int .u8 63, .int .u8 55, .int .u8 48, .int .u8 27, .int .u8 60, .int .u8 41, .int .u8 37, .int .u8 16, .int .u8 46, .int .u8 35, .int .u8 44, .int .u8 21, .int .u8 52, .int .u8 32, .int .u8 23, .int .u8 11, .int .u8 54, .int .u8 26, .int .u8 40, .int .u8 15, .int .u8 34, .int .u8 20, .int .u8 31, .int .u8 10, .int .u8 25, .int .u8 14, .int .u8 19, .int .u8 9, .int .u8 13, .int .u8 8, .int .u8 7, .int .u8 6]
def cellsPowI : Array Value := #[.int .u64 1, .int .u64 10, .int .u64 100, .int .u64 1000, .int .u64 10000, .int .u64 100000, .int .u64 1000000, .int .u64 10000000, .int .u64 100000000, .int .u64 1000000000, .int .u64 10000000000, .int .u64 100000000000, .int .u64 1000000000000, .int .u64 10000000000000, .int .u64 100000000000000, .int .u64 1000000000000000, .int .u64 10000000000000000, .int .u64 100000000000000000, .int .u64 1000000000000000000, .int .u64 10000000000000000000]
/-- A world in which the tables and the errors lie as their initialisers lay them. -/
noncomputable def laidWorldI (os : Os) : World :=
  let w0 := World.holding Tryz.prog os ⟨#[], #[], []⟩
  let put (h : Array Obj) (g : Nat) (cs : Array Value) : Array Obj := h.modify g fun
    | .cells _ t frozen => .cells cs t frozen
    | o => o
  let h1 := put w0.heap 3 cellsPowI
  let h2 := put h1 6 cells32I
  let h3 := put h2 7 cells64I
  let h4 := put h3 4 (Lib.firstTab.map fun z => Value.int .u8 z).toArray
  let h5 := put h4 5 ((List.range 16).flatMap fun i => [Value.int .u8 (Lib.accLo i), Value.int .u8 (Lib.accHi i)]).toArray
  let h6 := put h5 1 #[.iface 271 (.pointer (some ⟨13, 0, none⟩))]
  let h7 := put h6 2 #[.iface 271 (.pointer (some ⟨14, 0, none⟩))]
  { w0 with heap := (h7.push (.cells #[.string ⟨#[105, 110, 118, 97, 108, 105, 100, 32, 115, 121, 110, 116, 97, 120]⟩] 273)).push (.cells #[.string ⟨#[118, 97, 108, 117, 101, 32, 111, 117, 116, 32, 111, 102, 32, 114, 97, 110, 103, 101]⟩] 273) }
theorem laid_metI (os : Os) (args : Array Value) : laidMet Tryz.prog tabsLaidI ((laidWorldI os).forCall (fun _ _ => 0) ⟨#[], args, []⟩).memory :=
  (LaidIn.of_run (l := tabsLaidI) [6, 7, 3, 5, 14, 2, 13, 1, 4] 8 (by kernel_rfl) (by kernel_rfl) (by kernel_rfl) (by kernel_rfl)).met
theorem pow_ofI {W : World} (hL : laidMet Tryz.prog tabsLaidI W) : Pow W := by
  have h := laidMet.filter (fun x => x.1 == "internal/strconv.uint64pow10") hL
  have e : tabsLaidI.filter (fun x => x.1 == "internal/strconv.uint64pow10") = [("internal/strconv.uint64pow10", Lib.tabData .u64 Lib.pow10Tab)] := by rw [← pow_isI]; rfl
  rw [e] at h
  exact Lib.tabIs_of_head (g := 3) (t := 246) (e := 186) (n := 20) (by kernel_rfl) (by kernel_rfl) Tryz.underlying246 Tryz.underlying186 (by kernel_rfl) (by kernel_rfl) h
theorem errRow (u : TypeId) (h : Tryz.prog.typeName? 3 u = some "*errors.errorString") : u = 271 :=
  typeName_ptr_named (nm := "errors.errorString") (by rw [show "*" ++ "errors.errorString" = "*errors.errorString" from by decide]; kernel_rfl) (by kernel_rfl) (by decide) u (by rw [show "*" ++ "errors.errorString" = "*errors.errorString" from by decide]; exact h)
theorem syn_ofI {W : World} (hL : laidMet Tryz.prog tabsLaidI W) : ∃ tp p, W.var? Tryz.prog "strconv.ErrSyntax" = some #[.iface tp p] := by
  have h := laidMet.filter (fun x => x.1 == "strconv.ErrSyntax") hL
  have e : tabsLaidI.filter (fun x => x.1 == "strconv.ErrSyntax") = [("strconv.ErrSyntax", Rows.laid_strconv_ErrSyntax)] := by rfl
  rw [e] at h
  obtain ⟨a0, s0, hv0, -, -, -⟩ := laid_sentinel h (g := 1) (by kernel_rfl) (by kernel_rfl) Tryz.underlying114 errRow Tryz.underlying271 Tryz.underlying273 rfl rfl Tryz.underlying9 (by kernel_rfl) (by kernel_rfl)
  exact ⟨_, _, hv0⟩
theorem rng_ofI {W : World} (hL : laidMet Tryz.prog tabsLaidI W) : ∃ tp p, W.var? Tryz.prog "strconv.ErrRange" = some #[.iface tp p] := by
  have h := laidMet.filter (fun x => x.1 == "strconv.ErrRange") hL
  have e : tabsLaidI.filter (fun x => x.1 == "strconv.ErrRange") = [("strconv.ErrRange", Rows.laid_strconv_ErrRange)] := by rfl
  rw [e] at h
  obtain ⟨a0, s0, hv0, -, -, -⟩ := laid_sentinel h (g := 2) (by kernel_rfl) (by kernel_rfl) Tryz.underlying114 errRow Tryz.underlying271 Tryz.underlying273 rfl rfl Tryz.underlying9 (by kernel_rfl) (by kernel_rfl)
  exact ⟨_, _, hv0⟩
theorem tabs_ofI {W : World} (hL : laidMet Tryz.prog tabsLaidI W) (hsh : W.ShapedOpen Tryz.prog) : Tabs W where
  pow := pow_ofI hL
  syn := syn_ofI hL
  rng := rng_ofI hL
  most := Go.Proofs.cell_of_shapedOpen_int (zero := #[.int .i64 0]) (t := 3) hsh (of_decide_eq_true (by kernel_rfl)) (by kernel_rfl) rfl (by kernel_rfl) (by kernel_rfl) Tryz.underlying3
end Go.Proofs.YtjldgieffkemlaaGreatDoor
