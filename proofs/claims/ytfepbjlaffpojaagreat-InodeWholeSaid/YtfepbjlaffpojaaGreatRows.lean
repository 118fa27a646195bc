/-
  No cell of these rows narrows 'for every input' (looked for: loops, veiled, ifaces, maps, wideKeys, modest, calm, conditions, laid).
  DERIVED. THE GIVEN ROWS OF THIS SEAT. 3 by the template 'for every input the law returns true; each argument reads behind the call as it read before'; 0 by the template 'total and deterministic' (their statements: YtfepbjlaffpojaaGreatTotals.lean).
  GIVEN WITH THE SEED: the statements are not yours to turn. If you find one false, say at which input.
  Laid BY PROGRAM, IN A SANDBOX (cutbox-rows.mjs): the forced cells as the released guide's own fill.sh prints them over the translation 56d3fee30b429cd0… (all of the seat's roots in one cut). By AI agents, Wed Nov 11 2026. No macro, syntax, notation, axiom, sorry.
-/
import Derived.Test.YtfepbjlaffpojaaGreatChecked
import GoSem.Claim
import GoSem.ClaimJoined
import GoSem.ClaimMapViews
import Derived.JoinedTies
import Derived.KernelRfl
namespace Go.Proofs.YtfepbjlaffpojaaGreat
/- THE CELL 'sum', in the pinned program and in every row, IS THE sha256 OF THE DUMP (.gsa) THAT YtfepbjlaffpojaaGreatProg.lean LOADS. Nothing in Lean hashes anything: it is a label: what it is worth is what the hold of that sum in a sandbox is worth. -/
noncomputable def Tryz.pinned : Pinned := { name := "ytfepbjlaffpojaagreat", sum := "56d3fee30b429cd0203522011c4936665b6cbe8cc6c895f55c4a0344fdc2d2f5", checked := Tryz.checked }
namespace Rows
def none {H : Type} : Left H := { results := [], args := [] }

/-- 'cooperagelaw08.InodeWhole': WHATEVER THE INPUT: true; the input reads as it did. -/
def inodeWholeSpec : ChangeSpec := { name := "inodeWhole", fn := fun _ => fun
  | [d1, d2] => { results := [.lit (.bool true)], args := [d1, d2] }
  | _ => none }
def inodeWholeRow : OpenClaim := { program := "ytfepbjlaffpojaagreat", sum := "56d3fee30b429cd0203522011c4936665b6cbe8cc6c895f55c4a0344fdc2d2f5", func := "cooperage/cooperagelaw08.InodeWhole", spec := "inodeWhole", inPlace := ["internal/bytealg.IndexByteString", "internal/bytealg.IndexString", "internal/abi.NoEscape", "internal/bytealg.MakeNoZero"], unfollowed := true, recurses := true, named := ["internal/bytealg.MaxLen"], apart := false }
def InodeWholeSaid : Prop := inodeWholeRow.holds Tryz.pinned (OpenSpec.ofChange inodeWholeSpec)

/-- ITS FALSE NEIGHBOUR: 'it returns false'. Refute it at one input. -/
def inodeWholeWrong : ChangeSpec := { name := "inodeWhole", fn := fun _ => fun
  | [d1, d2] => { results := [.lit (.bool false)], args := [d1, d2] }
  | _ => none }
def InodeWholeWrongFalsely : Prop := inodeWholeRow.holds Tryz.pinned (OpenSpec.ofChange inodeWholeWrong)

/-- 'cooperagelaw08.InodePlays': WHATEVER THE INPUT: true; the input reads as it did. -/
def inodePlaysSpec : ChangeSpec := { name := "inodePlays", fn := fun _ => fun
  | [d1, d2] => { results := [.lit (.bool true)], args := [d1, d2] }
  | _ => none }
def inodePlaysRow : OpenClaim := { program := "ytfepbjlaffpojaagreat", sum := "56d3fee30b429cd0203522011c4936665b6cbe8cc6c895f55c4a0344fdc2d2f5", func := "cooperage/cooperagelaw08.InodePlays", spec := "inodePlays", inPlace := ["internal/bytealg.IndexByteString", "internal/bytealg.IndexString", "internal/abi.NoEscape", "internal/bytealg.MakeNoZero", "maps.clone"], unfollowed := true, recurses := true, named := ["internal/bytealg.MaxLen"], apart := false }
def InodePlaysSaid : Prop := inodePlaysRow.holds Tryz.pinned (OpenSpec.ofChange inodePlaysSpec)

/-- ITS FALSE NEIGHBOUR: 'it returns false'. Refute it at one input. -/
def inodePlaysWrong : ChangeSpec := { name := "inodePlays", fn := fun _ => fun
  | [d1, d2] => { results := [.lit (.bool false)], args := [d1, d2] }
  | _ => none }
def InodePlaysWrongFalsely : Prop := inodePlaysRow.holds Tryz.pinned (OpenSpec.ofChange inodePlaysWrong)

/-- 'cooperagelaw08.InodeNobody': WHATEVER THE INPUT: true; the input reads as it did. -/
def inodeNobodySpec : ChangeSpec := { name := "inodeNobody", fn := fun _ => fun
  | [d] => { results := [.lit (.bool true)], args := [d] }
  | _ => none }
def inodeNobodyRow : OpenClaim := { program := "ytfepbjlaffpojaagreat", sum := "56d3fee30b429cd0203522011c4936665b6cbe8cc6c895f55c4a0344fdc2d2f5", func := "cooperage/cooperagelaw08.InodeNobody", spec := "inodeNobody", inPlace := ["internal/bytealg.IndexByteString", "internal/bytealg.IndexString", "internal/abi.NoEscape", "internal/bytealg.MakeNoZero", "maps.clone"], unfollowed := true, recurses := true, named := ["internal/bytealg.MaxLen"], apart := false }
def InodeNobodySaid : Prop := inodeNobodyRow.holds Tryz.pinned (OpenSpec.ofChange inodeNobodySpec)

/-- ITS FALSE NEIGHBOUR: 'it returns false'. Refute it at one input. -/
def inodeNobodyWrong : ChangeSpec := { name := "inodeNobody", fn := fun _ => fun
  | [d] => { results := [.lit (.bool false)], args := [d] }
  | _ => none }
def InodeNobodyWrongFalsely : Prop := inodeNobodyRow.holds Tryz.pinned (OpenSpec.ofChange inodeNobodyWrong)

/- THE SECOND FORM. 'bulk': how many values and letters a reading holds, each counted each time it is reached (what is shared counts as often as it is met; a slice's spare places count too). A statement '..UptoSaid' is the law's where the arguments, and the package variables that the reading takes, are together of bulk at most 1048576: NARROWER than '..Said'. Prove '..Said' where nothing that the law and all that it calls make is longer than what came in: it says more and counts as full. Else prove '..UptoSaid'. A law counts once. -/
mutual
def uptoBulk {H : Type} : DataW H → Nat
  | .lit (.string bytes) => bytes.length + 1
  | .lit _ => 1
  | .nil => 1
  | .ptr d => uptoBulk d + 1
  | .slice elems spare => uptoBulkAll elems + uptoBulkAll spare + 1
  | .agg parts => uptoBulkAll parts + 1
  | .iface _ d => uptoBulk d + 1
  | .map entries => uptoBulkEntries entries + 1
  | .held _ => 1
def uptoBulkAll {H : Type} : List (DataW H) → Nat
  | [] => 0
  | d :: r => uptoBulk d + uptoBulkAll r
def uptoBulkEntries {H : Type} : List (Lit × DataW H) → Nat
  | [] => 0
  | x :: r => uptoBulkEntry x + uptoBulkEntries r
def uptoBulkEntry {H : Type} : Lit × DataW H → Nat
  | (.string bytes, d) => bytes.length + uptoBulk d + 1
  | (_, d) => uptoBulk d + 1
 end
def uptoSmall : (H : Type) → List (DataW H) → Bool := fun _ ds => decide (uptoBulkAll ds ≤ 1048576)
def OpenSpec.upto (s : _root_.Go.ChangeSpec) : _root_.Go.OpenSpec := { _root_.Go.OpenSpec.ofChange s with cond := some uptoSmall }

/-- 'cooperagelaw08.InodeWhole', WHERE WHAT IT READS IS OF BULK AT MOST 1048576: true; the input reads as it did. -/
def inodeWholeUptoRow : OpenClaim := { program := "ytfepbjlaffpojaagreat", sum := "56d3fee30b429cd0203522011c4936665b6cbe8cc6c895f55c4a0344fdc2d2f5", func := "cooperage/cooperagelaw08.InodeWhole", spec := "inodeWhole", inPlace := ["internal/bytealg.IndexByteString", "internal/bytealg.IndexString", "internal/abi.NoEscape", "internal/bytealg.MakeNoZero"], unfollowed := true, recurses := true, named := ["internal/bytealg.MaxLen"], apart := false, narrowed := true }
def InodeWholeUptoSaid : Prop := inodeWholeUptoRow.holds Tryz.pinned (OpenSpec.upto inodeWholeSpec)

/-- 'cooperagelaw08.InodePlays', WHERE WHAT IT READS IS OF BULK AT MOST 1048576: true; the input reads as it did. -/
def inodePlaysUptoRow : OpenClaim := { program := "ytfepbjlaffpojaagreat", sum := "56d3fee30b429cd0203522011c4936665b6cbe8cc6c895f55c4a0344fdc2d2f5", func := "cooperage/cooperagelaw08.InodePlays", spec := "inodePlays", inPlace := ["internal/bytealg.IndexByteString", "internal/bytealg.IndexString", "internal/abi.NoEscape", "internal/bytealg.MakeNoZero", "maps.clone"], unfollowed := true, recurses := true, named := ["internal/bytealg.MaxLen"], apart := false, narrowed := true }
def InodePlaysUptoSaid : Prop := inodePlaysUptoRow.holds Tryz.pinned (OpenSpec.upto inodePlaysSpec)

/-- 'cooperagelaw08.InodeNobody', WHERE WHAT IT READS IS OF BULK AT MOST 1048576: true; the input reads as it did. -/
def inodeNobodyUptoRow : OpenClaim := { program := "ytfepbjlaffpojaagreat", sum := "56d3fee30b429cd0203522011c4936665b6cbe8cc6c895f55c4a0344fdc2d2f5", func := "cooperage/cooperagelaw08.InodeNobody", spec := "inodeNobody", inPlace := ["internal/bytealg.IndexByteString", "internal/bytealg.IndexString", "internal/abi.NoEscape", "internal/bytealg.MakeNoZero", "maps.clone"], unfollowed := true, recurses := true, named := ["internal/bytealg.MaxLen"], apart := false, narrowed := true }
def InodeNobodyUptoSaid : Prop := inodeNobodyUptoRow.holds Tryz.pinned (OpenSpec.upto inodeNobodySpec)

end Rows
end Go.Proofs.YtfepbjlaffpojaaGreat
