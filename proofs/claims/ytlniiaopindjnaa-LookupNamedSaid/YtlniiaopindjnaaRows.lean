/-
  No cell of these rows narrows 'for every input' (looked for: loops, veiled, ifaces, maps, wideKeys, modest, calm, conditions, laid).
  DERIVED. THE GIVEN ROWS OF THIS SEAT. 4 by the template 'for every input the law returns true; each argument reads behind the call as it read before'; 0 by the template 'total and deterministic' (their statements: YtlniiaopindjnaaTotals.lean).
  GIVEN WITH THE SEED: the statements are not yours to turn. If you find one false, say at which input.
  Laid BY PROGRAM, IN A SANDBOX (cutbox-rows.mjs): the forced cells as the released guide's own fill.sh prints them over the translation 4a971340a154f223… (all of the seat's roots in one cut). By AI agents, Wed Nov 11 2026. No macro, syntax, notation, axiom, sorry.
-/
import Derived.Test.YtlniiaopindjnaaChecked
import GoSem.Claim
import GoSem.ClaimJoined
import GoSem.ClaimMapViews
import Derived.JoinedTies
import Derived.KernelRfl
namespace Go.Proofs.Ytlniiaopindjnaa
/- THE CELL 'sum', in the pinned program and in every row, IS THE sha256 OF THE DUMP (.gsa) THAT YtlniiaopindjnaaProg.lean LOADS. Nothing in Lean hashes anything: it is a label: what it is worth is what the hold of that sum in a sandbox is worth. -/
noncomputable def Try.pinned : Pinned := { name := "ytlniiaopindjnaa", sum := "4a971340a154f2233a96a27501226f036da84e2d85189c9be1a853bd70c96db2", checked := Try.checked }
namespace Rows
def none {H : Type} : Left H := { results := [], args := [] }

/-- 'cooperagelaw39.SpaceIs': WHATEVER THE INPUT: true; the input reads as it did. -/
def spaceIsSpec : ChangeSpec := { name := "spaceIs", fn := fun _ => fun
  | [d1, d2, d3] => { results := [.lit (.bool true)], args := [d1, d2, d3] }
  | _ => none }
def spaceIsRow : OpenClaim := { program := "ytlniiaopindjnaa", sum := "4a971340a154f2233a96a27501226f036da84e2d85189c9be1a853bd70c96db2", func := "cooperage/cooperagelaw39.SpaceIs", spec := "spaceIs", apart := false }
def SpaceIsSaid : Prop := spaceIsRow.holds Try.pinned (OpenSpec.ofChange spaceIsSpec)

/-- ITS FALSE NEIGHBOUR: 'it returns false'. Refute it at one input. -/
def spaceIsWrong : ChangeSpec := { name := "spaceIs", fn := fun _ => fun
  | [d1, d2, d3] => { results := [.lit (.bool false)], args := [d1, d2, d3] }
  | _ => none }
def SpaceIsWrongFalsely : Prop := spaceIsRow.holds Try.pinned (OpenSpec.ofChange spaceIsWrong)

/-- 'cooperagelaw18.LookupFinds': WHATEVER THE INPUT: true; the input reads as it did. -/
def lookupFindsSpec : ChangeSpec := { name := "lookupFinds", fn := fun _ => fun
  | [d1, d2, d3] => { results := [.lit (.bool true)], args := [d1, d2, d3] }
  | _ => none }
def lookupFindsRow : OpenClaim := { program := "ytlniiaopindjnaa", sum := "4a971340a154f2233a96a27501226f036da84e2d85189c9be1a853bd70c96db2", func := "cooperage/cooperagelaw18.LookupFinds", spec := "lookupFinds", inPlace := ["internal/abi.NoEscape", "internal/bytealg.MakeNoZero"], unfollowed := true, recurses := true, apart := false }
def LookupFindsSaid : Prop := lookupFindsRow.holds Try.pinned (OpenSpec.ofChange lookupFindsSpec)

/-- ITS FALSE NEIGHBOUR: 'it returns false'. Refute it at one input. -/
def lookupFindsWrong : ChangeSpec := { name := "lookupFinds", fn := fun _ => fun
  | [d1, d2, d3] => { results := [.lit (.bool false)], args := [d1, d2, d3] }
  | _ => none }
def LookupFindsWrongFalsely : Prop := lookupFindsRow.holds Try.pinned (OpenSpec.ofChange lookupFindsWrong)

/-- 'cooperagelaw18.LookupMeans': WHATEVER THE INPUT: true; the input reads as it did. -/
def lookupMeansSpec : ChangeSpec := { name := "lookupMeans", fn := fun _ => fun
  | [d1, d2] => { results := [.lit (.bool true)], args := [d1, d2] }
  | _ => none }
def lookupMeansRow : OpenClaim := { program := "ytlniiaopindjnaa", sum := "4a971340a154f2233a96a27501226f036da84e2d85189c9be1a853bd70c96db2", func := "cooperage/cooperagelaw18.LookupMeans", spec := "lookupMeans", inPlace := ["internal/abi.NoEscape", "internal/bytealg.MakeNoZero"], unfollowed := true, recurses := true, apart := false }
def LookupMeansSaid : Prop := lookupMeansRow.holds Try.pinned (OpenSpec.ofChange lookupMeansSpec)

/-- ITS FALSE NEIGHBOUR: 'it returns false'. Refute it at one input. -/
def lookupMeansWrong : ChangeSpec := { name := "lookupMeans", fn := fun _ => fun
  | [d1, d2] => { results := [.lit (.bool false)], args := [d1, d2] }
  | _ => none }
def LookupMeansWrongFalsely : Prop := lookupMeansRow.holds Try.pinned (OpenSpec.ofChange lookupMeansWrong)

/-- 'cooperagelaw18.LookupNamed': WHATEVER THE INPUT: true; the input reads as it did. -/
def lookupNamedSpec : ChangeSpec := { name := "lookupNamed", fn := fun _ => fun
  | [d1, d2, d3] => { results := [.lit (.bool true)], args := [d1, d2, d3] }
  | _ => none }
def lookupNamedRow : OpenClaim := { program := "ytlniiaopindjnaa", sum := "4a971340a154f2233a96a27501226f036da84e2d85189c9be1a853bd70c96db2", func := "cooperage/cooperagelaw18.LookupNamed", spec := "lookupNamed", inPlace := ["internal/abi.NoEscape", "internal/bytealg.MakeNoZero"], unfollowed := true, recurses := true, apart := false }
def LookupNamedSaid : Prop := lookupNamedRow.holds Try.pinned (OpenSpec.ofChange lookupNamedSpec)

/-- ITS FALSE NEIGHBOUR: 'it returns false'. Refute it at one input. -/
def lookupNamedWrong : ChangeSpec := { name := "lookupNamed", fn := fun _ => fun
  | [d1, d2, d3] => { results := [.lit (.bool false)], args := [d1, d2, d3] }
  | _ => none }
def LookupNamedWrongFalsely : Prop := lookupNamedRow.holds Try.pinned (OpenSpec.ofChange lookupNamedWrong)

/- THE SECOND FORM. 'bulk': how many values and letters a reading holds, each counted each time it is reached (what is shared counts as often as it is met; a slice's spare places count too). A statement '..UptoSaid' is the law's where the arguments, and the package variables that the reading takes, are together of bulk at most 1048576: NARROWER than '..Said'. Prove '..Said' where nothing that the law and all that it calls make is longer than what came in: it says more and counts as full. Else prove '..UptoSaid'. A law counts once. -/
mutual
def uptoBulk {H : Type} : DataW H → Nat
  | .lit (.string bytes) => bytes.length + 1
  | .lit _ => 1
  | .nil => 1
  | .ptr d => uptoBulk d + 1
  | .slice elems spare => uptoBulkAll elems + uptoBulkAll spare + 1
  | .agg parts => uptoBulkAll parts + 1
  | .iface _ d => uptoBulk d + 1
  | .map entries => uptoBulkEntries entries + 1
  | .held _ => 1
def uptoBulkAll {H : Type} : List (DataW H) → Nat
  | [] => 0
  | d :: r => uptoBulk d + uptoBulkAll r
def uptoBulkEntries {H : Type} : List (Lit × DataW H) → Nat
  | [] => 0
  | x :: r => uptoBulkEntry x + uptoBulkEntries r
def uptoBulkEntry {H : Type} : Lit × DataW H → Nat
  | (.string bytes, d) => bytes.length + uptoBulk d + 1
  | (_, d) => uptoBulk d + 1
 end
def uptoSmall : (H : Type) → List (DataW H) → Bool := fun _ ds => decide (uptoBulkAll ds ≤ 1048576)
def OpenSpec.upto (s : _root_.Go.ChangeSpec) : _root_.Go.OpenSpec := { _root_.Go.OpenSpec.ofChange s with cond := some uptoSmall }

/-- 'cooperagelaw39.SpaceIs', WHERE WHAT IT READS IS OF BULK AT MOST 1048576: true; the input reads as it did. -/
def spaceIsUptoRow : OpenClaim := { program := "ytlniiaopindjnaa", sum := "4a971340a154f2233a96a27501226f036da84e2d85189c9be1a853bd70c96db2", func := "cooperage/cooperagelaw39.SpaceIs", spec := "spaceIs", apart := false, narrowed := true }
def SpaceIsUptoSaid : Prop := spaceIsUptoRow.holds Try.pinned (OpenSpec.upto spaceIsSpec)

/-- 'cooperagelaw18.LookupFinds', WHERE WHAT IT READS IS OF BULK AT MOST 1048576: true; the input reads as it did. -/
def lookupFindsUptoRow : OpenClaim := { program := "ytlniiaopindjnaa", sum := "4a971340a154f2233a96a27501226f036da84e2d85189c9be1a853bd70c96db2", func := "cooperage/cooperagelaw18.LookupFinds", spec := "lookupFinds", inPlace := ["internal/abi.NoEscape", "internal/bytealg.MakeNoZero"], unfollowed := true, recurses := true, apart := false, narrowed := true }
def LookupFindsUptoSaid : Prop := lookupFindsUptoRow.holds Try.pinned (OpenSpec.upto lookupFindsSpec)

/-- 'cooperagelaw18.LookupMeans', WHERE WHAT IT READS IS OF BULK AT MOST 1048576: true; the input reads as it did. -/
def lookupMeansUptoRow : OpenClaim := { program := "ytlniiaopindjnaa", sum := "4a971340a154f2233a96a27501226f036da84e2d85189c9be1a853bd70c96db2", func := "cooperage/cooperagelaw18.LookupMeans", spec := "lookupMeans", inPlace := ["internal/abi.NoEscape", "internal/bytealg.MakeNoZero"], unfollowed := true, recurses := true, apart := false, narrowed := true }
def LookupMeansUptoSaid : Prop := lookupMeansUptoRow.holds Try.pinned (OpenSpec.upto lookupMeansSpec)

/-- 'cooperagelaw18.LookupNamed', WHERE WHAT IT READS IS OF BULK AT MOST 1048576: true; the input reads as it did. -/
def lookupNamedUptoRow : OpenClaim := { program := "ytlniiaopindjnaa", sum := "4a971340a154f2233a96a27501226f036da84e2d85189c9be1a853bd70c96db2", func := "cooperage/cooperagelaw18.LookupNamed", spec := "lookupNamed", inPlace := ["internal/abi.NoEscape", "internal/bytealg.MakeNoZero"], unfollowed := true, recurses := true, apart := false, narrowed := true }
def LookupNamedUptoSaid : Prop := lookupNamedUptoRow.holds Try.pinned (OpenSpec.upto lookupNamedSpec)

end Rows
end Go.Proofs.Ytlniiaopindjnaa
