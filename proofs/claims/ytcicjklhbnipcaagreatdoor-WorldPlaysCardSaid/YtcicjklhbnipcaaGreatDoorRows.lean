/-
  NARROWER THAN 'FOR EVERY INPUT', by the rows' own cells (each row's printed sentence says how): FsHandles: laid · FsSwaps: laid · FsNobody: laid · OplogSure: laid · OplogMore: laid · OplogPlays: laid · OplogNobody: laid · WorldDead: laid · WorldPlays: laid · WorldNobody: laid.
  DERIVED. THE GIVEN ROWS OF THIS SEAT. 10 by the template 'for every input the law returns true; each argument reads behind the call as it read before'; 0 by the template 'total and deterministic' (their statements: YtcicjklhbnipcaaGreatDoorTotals.lean).
  GIVEN WITH THE SEED: the statements are not yours to turn. If you find one false, say at which input.
  Laid BY PROGRAM, IN A SANDBOX (cutbox-rows.mjs): the forced cells as the released guide's own fill.sh prints them over the translation ea4cf9f284f9d951… (all of the seat's roots in one cut). By AI agents, Wed Nov 11 2026. No macro, syntax, notation, axiom, sorry.
-/
import Derived.Test.YtcicjklhbnipcaaGreatDoorChecked
import GoSem.PinnedTables
import GoSem.Claim
import GoSem.ClaimJoined
import GoSem.ClaimMapViews
import Derived.JoinedTies
import Derived.KernelRfl
namespace Go.Proofs.YtcicjklhbnipcaaGreatDoor
/- THE CELL 'sum', in the pinned program and in every row, IS THE sha256 OF THE DUMP (.gsa) THAT YtcicjklhbnipcaaGreatDoorProg.lean LOADS. Nothing in Lean hashes anything: it is a label: what it is worth is what the hold of that sum in a sandbox is worth. -/
noncomputable def Tryz.pinned : Pinned := { name := "ytcicjklhbnipcaagreatdoor", sum := "ea4cf9f284f9d951cf6204a0d24c08fae7d3ece288c192d49c42123101ab3c0b", checked := Tryz.checked }
namespace Rows
def none {H : Type} : Left H := { results := [], args := [] }

/- WHAT THE LISTED PACKAGE-LEVEL VARIABLES READ AS WHEN THE CALL BEGINS. Each datum BY PROGRAM (the guide's laid-datum.mjs) off the statement by which the dump's own 'gosem.cut.vars' lays the variable. In a bare row this is a premise. The card (YtcicjklhbnipcaaGreatDoorCards.lean) ties it to the program's text. -/
def laid_unicode_utf8_acceptRanges {H : Type} : DataW H := .agg [.agg [.lit (.int .u8 128), .lit (.int .u8 191)], .agg [.lit (.int .u8 160), .lit (.int .u8 191)], .agg [.lit (.int .u8 128), .lit (.int .u8 159)], .agg [.lit (.int .u8 144), .lit (.int .u8 191)], .agg [.lit (.int .u8 128), .lit (.int .u8 143)], .agg [.lit (.int .u8 0), .lit (.int .u8 0)], .agg [.lit (.int .u8 0), .lit (.int .u8 0)], .agg [.lit (.int .u8 0), .lit (.int .u8 0)], .agg [.lit (.int .u8 0), .lit (.int .u8 0)], .agg [.lit (.int .u8 0), .lit (.int .u8 0)], .agg [.lit (.int .u8 0), .lit (.int .u8 0)], .agg [.lit (.int .u8 0), .lit (.int .u8 0)], .agg [.lit (.int .u8 0), .lit (.int .u8 0)], .agg [.lit (.int .u8 0), .lit (.int .u8 0)], .agg [.lit (.int .u8 0), .lit (.int .u8 0)], .agg [.lit (.int .u8 0), .lit (.int .u8 0)]]
/-- One of Go's own tables, pinned by name: the form's constant. -/
def laid_unicode_utf8_first : DataW Unit := Go.Pinned.utf8First

/-- 'cooperagelaw09.FsHandles': WHATEVER THE INPUT: true; the input reads as it did. -/
def fsHandlesSpec : ChangeSpec := { name := "fsHandles", fn := fun _ => fun
  | [d1, d2] => { results := [.lit (.bool true)], args := [d1, d2] }
  | _ => none }
def fsHandlesRow : OpenClaim := { program := "ytcicjklhbnipcaagreatdoor", sum := "ea4cf9f284f9d951cf6204a0d24c08fae7d3ece288c192d49c42123101ab3c0b", func := "cooperage/cooperagelaw09.FsHandles", spec := "fsHandles", inPlace := ["internal/bytealg.CountString", "internal/bytealg.IndexByteString", "internal/bytealg.IndexString", "internal/abi.NoEscape", "internal/bytealg.MakeNoZero"], unfollowed := true, recurses := true, named := ["unicode/utf8.first", "unicode/utf8.acceptRanges", "internal/bytealg.MaxLen"], apart := false, laid := [("unicode/utf8.acceptRanges", laid_unicode_utf8_acceptRanges), ("unicode/utf8.first", laid_unicode_utf8_first)] }
def FsHandlesSaid : Prop := fsHandlesRow.holds Tryz.pinned (OpenSpec.ofChange fsHandlesSpec)

/-- ITS FALSE NEIGHBOUR: 'it returns false'. Refute it at one input. -/
def fsHandlesWrong : ChangeSpec := { name := "fsHandles", fn := fun _ => fun
  | [d1, d2] => { results := [.lit (.bool false)], args := [d1, d2] }
  | _ => none }
def FsHandlesWrongFalsely : Prop := fsHandlesRow.holds Tryz.pinned (OpenSpec.ofChange fsHandlesWrong)

/-- 'cooperagelaw09.FsSwaps': WHATEVER THE INPUT: true; the input reads as it did. -/
def fsSwapsSpec : ChangeSpec := { name := "fsSwaps", fn := fun _ => fun
  | [d1, d2] => { results := [.lit (.bool true)], args := [d1, d2] }
  | _ => none }
def fsSwapsRow : OpenClaim := { program := "ytcicjklhbnipcaagreatdoor", sum := "ea4cf9f284f9d951cf6204a0d24c08fae7d3ece288c192d49c42123101ab3c0b", func := "cooperage/cooperagelaw09.FsSwaps", spec := "fsSwaps", inPlace := ["internal/bytealg.CountString", "internal/bytealg.IndexByteString", "internal/bytealg.IndexString", "internal/abi.NoEscape", "internal/bytealg.MakeNoZero"], unfollowed := true, recurses := true, named := ["unicode/utf8.first", "unicode/utf8.acceptRanges", "internal/bytealg.MaxLen"], apart := false, laid := [("unicode/utf8.acceptRanges", laid_unicode_utf8_acceptRanges), ("unicode/utf8.first", laid_unicode_utf8_first)] }
def FsSwapsSaid : Prop := fsSwapsRow.holds Tryz.pinned (OpenSpec.ofChange fsSwapsSpec)

/-- ITS FALSE NEIGHBOUR: 'it returns false'. Refute it at one input. -/
def fsSwapsWrong : ChangeSpec := { name := "fsSwaps", fn := fun _ => fun
  | [d1, d2] => { results := [.lit (.bool false)], args := [d1, d2] }
  | _ => none }
def FsSwapsWrongFalsely : Prop := fsSwapsRow.holds Tryz.pinned (OpenSpec.ofChange fsSwapsWrong)

/-- 'cooperagelaw09.FsNobody': WHATEVER THE INPUT: true; the input reads as it did. -/
def fsNobodySpec : ChangeSpec := { name := "fsNobody", fn := fun _ => fun
  | [d] => { results := [.lit (.bool true)], args := [d] }
  | _ => none }
def fsNobodyRow : OpenClaim := { program := "ytcicjklhbnipcaagreatdoor", sum := "ea4cf9f284f9d951cf6204a0d24c08fae7d3ece288c192d49c42123101ab3c0b", func := "cooperage/cooperagelaw09.FsNobody", spec := "fsNobody", inPlace := ["internal/bytealg.CountString", "internal/bytealg.IndexByteString", "internal/bytealg.IndexString", "internal/abi.NoEscape", "internal/bytealg.MakeNoZero", "maps.clone"], unfollowed := true, recurses := true, named := ["unicode/utf8.first", "unicode/utf8.acceptRanges", "internal/bytealg.MaxLen"], apart := false, laid := [("unicode/utf8.acceptRanges", laid_unicode_utf8_acceptRanges), ("unicode/utf8.first", laid_unicode_utf8_first)] }
def FsNobodySaid : Prop := fsNobodyRow.holds Tryz.pinned (OpenSpec.ofChange fsNobodySpec)

/-- ITS FALSE NEIGHBOUR: 'it returns false'. Refute it at one input. -/
def fsNobodyWrong : ChangeSpec := { name := "fsNobody", fn := fun _ => fun
  | [d] => { results := [.lit (.bool false)], args := [d] }
  | _ => none }
def FsNobodyWrongFalsely : Prop := fsNobodyRow.holds Tryz.pinned (OpenSpec.ofChange fsNobodyWrong)

/-- 'cooperagelaw10.OplogSure': WHATEVER THE INPUT: true; the input reads as it did. -/
def oplogSureSpec : ChangeSpec := { name := "oplogSure", fn := fun _ => fun
  | [d1, d2, d3] => { results := [.lit (.bool true)], args := [d1, d2, d3] }
  | _ => none }
def oplogSureRow : OpenClaim := { program := "ytcicjklhbnipcaagreatdoor", sum := "ea4cf9f284f9d951cf6204a0d24c08fae7d3ece288c192d49c42123101ab3c0b", func := "cooperage/cooperagelaw10.OplogSure", spec := "oplogSure", inPlace := ["maps.clone", "internal/bytealg.CountString", "internal/bytealg.IndexByteString", "internal/bytealg.IndexString", "internal/abi.NoEscape", "internal/bytealg.MakeNoZero"], unfollowed := true, recurses := true, named := ["unicode/utf8.first", "unicode/utf8.acceptRanges", "internal/bytealg.MaxLen"], apart := false, laid := [("unicode/utf8.acceptRanges", laid_unicode_utf8_acceptRanges), ("unicode/utf8.first", laid_unicode_utf8_first)] }
def OplogSureSaid : Prop := oplogSureRow.holds Tryz.pinned (OpenSpec.ofChange oplogSureSpec)

/-- ITS FALSE NEIGHBOUR: 'it returns false'. Refute it at one input. -/
def oplogSureWrong : ChangeSpec := { name := "oplogSure", fn := fun _ => fun
  | [d1, d2, d3] => { results := [.lit (.bool false)], args := [d1, d2, d3] }
  | _ => none }
def OplogSureWrongFalsely : Prop := oplogSureRow.holds Tryz.pinned (OpenSpec.ofChange oplogSureWrong)

/-- 'cooperagelaw10.OplogMore': WHATEVER THE INPUT: true; the input reads as it did. -/
def oplogMoreSpec : ChangeSpec := { name := "oplogMore", fn := fun _ => fun
  | [d1, d2] => { results := [.lit (.bool true)], args := [d1, d2] }
  | _ => none }
def oplogMoreRow : OpenClaim := { program := "ytcicjklhbnipcaagreatdoor", sum := "ea4cf9f284f9d951cf6204a0d24c08fae7d3ece288c192d49c42123101ab3c0b", func := "cooperage/cooperagelaw10.OplogMore", spec := "oplogMore", inPlace := ["maps.clone", "internal/bytealg.CountString", "internal/bytealg.IndexByteString", "internal/bytealg.IndexString", "internal/abi.NoEscape", "internal/bytealg.MakeNoZero"], unfollowed := true, recurses := true, named := ["unicode/utf8.first", "unicode/utf8.acceptRanges", "internal/bytealg.MaxLen"], apart := false, laid := [("unicode/utf8.acceptRanges", laid_unicode_utf8_acceptRanges), ("unicode/utf8.first", laid_unicode_utf8_first)] }
def OplogMoreSaid : Prop := oplogMoreRow.holds Tryz.pinned (OpenSpec.ofChange oplogMoreSpec)

/-- ITS FALSE NEIGHBOUR: 'it returns false'. Refute it at one input. -/
def oplogMoreWrong : ChangeSpec := { name := "oplogMore", fn := fun _ => fun
  | [d1, d2] => { results := [.lit (.bool false)], args := [d1, d2] }
  | _ => none }
def OplogMoreWrongFalsely : Prop := oplogMoreRow.holds Tryz.pinned (OpenSpec.ofChange oplogMoreWrong)

/-- 'cooperagelaw10.OplogPlays': WHATEVER THE INPUT: true; the input reads as it did. -/
def oplogPlaysSpec : ChangeSpec := { name := "oplogPlays", fn := fun _ => fun
  | [d1, d2] => { results := [.lit (.bool true)], args := [d1, d2] }
  | _ => none }
def oplogPlaysRow : OpenClaim := { program := "ytcicjklhbnipcaagreatdoor", sum := "ea4cf9f284f9d951cf6204a0d24c08fae7d3ece288c192d49c42123101ab3c0b", func := "cooperage/cooperagelaw10.OplogPlays", spec := "oplogPlays", inPlace := ["maps.clone", "internal/bytealg.CountString", "internal/bytealg.IndexByteString", "internal/bytealg.IndexString", "internal/abi.NoEscape", "internal/bytealg.MakeNoZero"], unfollowed := true, recurses := true, named := ["unicode/utf8.first", "unicode/utf8.acceptRanges", "internal/bytealg.MaxLen"], apart := false, laid := [("unicode/utf8.acceptRanges", laid_unicode_utf8_acceptRanges), ("unicode/utf8.first", laid_unicode_utf8_first)] }
def OplogPlaysSaid : Prop := oplogPlaysRow.holds Tryz.pinned (OpenSpec.ofChange oplogPlaysSpec)

/-- ITS FALSE NEIGHBOUR: 'it returns false'. Refute it at one input. -/
def oplogPlaysWrong : ChangeSpec := { name := "oplogPlays", fn := fun _ => fun
  | [d1, d2] => { results := [.lit (.bool false)], args := [d1, d2] }
  | _ => none }
def OplogPlaysWrongFalsely : Prop := oplogPlaysRow.holds Tryz.pinned (OpenSpec.ofChange oplogPlaysWrong)

/-- 'cooperagelaw10.OplogNobody': WHATEVER THE INPUT: true; the input reads as it did. -/
def oplogNobodySpec : ChangeSpec := { name := "oplogNobody", fn := fun _ => fun
  | [d] => { results := [.lit (.bool true)], args := [d] }
  | _ => none }
def oplogNobodyRow : OpenClaim := { program := "ytcicjklhbnipcaagreatdoor", sum := "ea4cf9f284f9d951cf6204a0d24c08fae7d3ece288c192d49c42123101ab3c0b", func := "cooperage/cooperagelaw10.OplogNobody", spec := "oplogNobody", inPlace := ["maps.clone", "internal/bytealg.CountString", "internal/bytealg.IndexByteString", "internal/bytealg.IndexString", "internal/abi.NoEscape", "internal/bytealg.MakeNoZero"], unfollowed := true, recurses := true, named := ["unicode/utf8.first", "unicode/utf8.acceptRanges", "internal/bytealg.MaxLen"], apart := false, laid := [("unicode/utf8.acceptRanges", laid_unicode_utf8_acceptRanges), ("unicode/utf8.first", laid_unicode_utf8_first)] }
def OplogNobodySaid : Prop := oplogNobodyRow.holds Tryz.pinned (OpenSpec.ofChange oplogNobodySpec)

/-- ITS FALSE NEIGHBOUR: 'it returns false'. Refute it at one input. -/
def oplogNobodyWrong : ChangeSpec := { name := "oplogNobody", fn := fun _ => fun
  | [d] => { results := [.lit (.bool false)], args := [d] }
  | _ => none }
def OplogNobodyWrongFalsely : Prop := oplogNobodyRow.holds Tryz.pinned (OpenSpec.ofChange oplogNobodyWrong)

/-- 'cooperagelaw25.WorldDead': WHATEVER THE INPUT: true; the input reads as it did. -/
def worldDeadSpec : ChangeSpec := { name := "worldDead", fn := fun _ => fun
  | [d] => { results := [.lit (.bool true)], args := [d] }
  | _ => none }
def worldDeadRow : OpenClaim := { program := "ytcicjklhbnipcaagreatdoor", sum := "ea4cf9f284f9d951cf6204a0d24c08fae7d3ece288c192d49c42123101ab3c0b", func := "cooperage/cooperagelaw25.WorldDead", spec := "worldDead", inPlace := ["maps.clone", "internal/bytealg.CountString", "internal/bytealg.IndexByteString", "internal/bytealg.IndexString", "internal/abi.NoEscape", "internal/bytealg.MakeNoZero"], unfollowed := true, recurses := true, named := ["unicode/utf8.first", "unicode/utf8.acceptRanges", "internal/bytealg.MaxLen"], apart := false, laid := [("unicode/utf8.acceptRanges", laid_unicode_utf8_acceptRanges), ("unicode/utf8.first", laid_unicode_utf8_first)] }
def WorldDeadSaid : Prop := worldDeadRow.holds Tryz.pinned (OpenSpec.ofChange worldDeadSpec)

/-- ITS FALSE NEIGHBOUR: 'it returns false'. Refute it at one input. -/
def worldDeadWrong : ChangeSpec := { name := "worldDead", fn := fun _ => fun
  | [d] => { results := [.lit (.bool false)], args := [d] }
  | _ => none }
def WorldDeadWrongFalsely : Prop := worldDeadRow.holds Tryz.pinned (OpenSpec.ofChange worldDeadWrong)

/-- 'cooperagelaw25.WorldPlays': WHATEVER THE INPUT: true; the input reads as it did. -/
def worldPlaysSpec : ChangeSpec := { name := "worldPlays", fn := fun _ => fun
  | [d1, d2] => { results := [.lit (.bool true)], args := [d1, d2] }
  | _ => none }
def worldPlaysRow : OpenClaim := { program := "ytcicjklhbnipcaagreatdoor", sum := "ea4cf9f284f9d951cf6204a0d24c08fae7d3ece288c192d49c42123101ab3c0b", func := "cooperage/cooperagelaw25.WorldPlays", spec := "worldPlays", inPlace := ["maps.clone", "internal/bytealg.CountString", "internal/bytealg.IndexByteString", "internal/bytealg.IndexString", "internal/abi.NoEscape", "internal/bytealg.MakeNoZero"], unfollowed := true, recurses := true, named := ["unicode/utf8.first", "unicode/utf8.acceptRanges", "internal/bytealg.MaxLen"], apart := false, laid := [("unicode/utf8.acceptRanges", laid_unicode_utf8_acceptRanges), ("unicode/utf8.first", laid_unicode_utf8_first)] }
def WorldPlaysSaid : Prop := worldPlaysRow.holds Tryz.pinned (OpenSpec.ofChange worldPlaysSpec)

/-- ITS FALSE NEIGHBOUR: 'it returns false'. Refute it at one input. -/
def worldPlaysWrong : ChangeSpec := { name := "worldPlays", fn := fun _ => fun
  | [d1, d2] => { results := [.lit (.bool false)], args := [d1, d2] }
  | _ => none }
def WorldPlaysWrongFalsely : Prop := worldPlaysRow.holds Tryz.pinned (OpenSpec.ofChange worldPlaysWrong)

/-- 'cooperagelaw25.WorldNobody': WHATEVER THE INPUT: true; the input reads as it did. -/
def worldNobodySpec : ChangeSpec := { name := "worldNobody", fn := fun _ => fun
  | [d] => { results := [.lit (.bool true)], args := [d] }
  | _ => none }
def worldNobodyRow : OpenClaim := { program := "ytcicjklhbnipcaagreatdoor", sum := "ea4cf9f284f9d951cf6204a0d24c08fae7d3ece288c192d49c42123101ab3c0b", func := "cooperage/cooperagelaw25.WorldNobody", spec := "worldNobody", inPlace := ["maps.clone", "internal/bytealg.CountString", "internal/bytealg.IndexByteString", "internal/bytealg.IndexString", "internal/abi.NoEscape", "internal/bytealg.MakeNoZero"], unfollowed := true, recurses := true, named := ["unicode/utf8.first", "unicode/utf8.acceptRanges", "internal/bytealg.MaxLen"], apart := false, laid := [("unicode/utf8.acceptRanges", laid_unicode_utf8_acceptRanges), ("unicode/utf8.first", laid_unicode_utf8_first)] }
def WorldNobodySaid : Prop := worldNobodyRow.holds Tryz.pinned (OpenSpec.ofChange worldNobodySpec)

/-- ITS FALSE NEIGHBOUR: 'it returns false'. Refute it at one input. -/
def worldNobodyWrong : ChangeSpec := { name := "worldNobody", fn := fun _ => fun
  | [d] => { results := [.lit (.bool false)], args := [d] }
  | _ => none }
def WorldNobodyWrongFalsely : Prop := worldNobodyRow.holds Tryz.pinned (OpenSpec.ofChange worldNobodyWrong)

/- THE SECOND FORM. 'bulk': how many values and letters a reading holds, each counted each time it is reached (what is shared counts as often as it is met; a slice's spare places count too). A statement '..UptoSaid' is the law's where the arguments, and the package variables that the reading takes, are together of bulk at most 1048576: NARROWER than '..Said'. Prove '..Said' where nothing that the law and all that it calls make is longer than what came in: it says more and counts as full. Else prove '..UptoSaid'. A law counts once. -/
mutual
def uptoBulk {H : Type} : DataW H → Nat
  | .lit (.string bytes) => bytes.length + 1
  | .lit _ => 1
  | .nil => 1
  | .ptr d => uptoBulk d + 1
  | .slice elems spare => uptoBulkAll elems + uptoBulkAll spare + 1
  | .agg parts => uptoBulkAll parts + 1
  | .iface _ d => uptoBulk d + 1
  | .map entries => uptoBulkEntries entries + 1
  | .held _ => 1
def uptoBulkAll {H : Type} : List (DataW H) → Nat
  | [] => 0
  | d :: r => uptoBulk d + uptoBulkAll r
def uptoBulkEntries {H : Type} : List (Lit × DataW H) → Nat
  | [] => 0
  | x :: r => uptoBulkEntry x + uptoBulkEntries r
def uptoBulkEntry {H : Type} : Lit × DataW H → Nat
  | (.string bytes, d) => bytes.length + uptoBulk d + 1
  | (_, d) => uptoBulk d + 1
 end
def uptoSmall : (H : Type) → List (DataW H) → Bool := fun _ ds => decide (uptoBulkAll ds ≤ 1048576)
def OpenSpec.upto (s : _root_.Go.ChangeSpec) : _root_.Go.OpenSpec := { _root_.Go.OpenSpec.ofChange s with cond := some uptoSmall }

/-- 'cooperagelaw09.FsHandles', WHERE WHAT IT READS IS OF BULK AT MOST 1048576: true; the input reads as it did. -/
def fsHandlesUptoRow : OpenClaim := { program := "ytcicjklhbnipcaagreatdoor", sum := "ea4cf9f284f9d951cf6204a0d24c08fae7d3ece288c192d49c42123101ab3c0b", func := "cooperage/cooperagelaw09.FsHandles", spec := "fsHandles", inPlace := ["internal/bytealg.CountString", "internal/bytealg.IndexByteString", "internal/bytealg.IndexString", "internal/abi.NoEscape", "internal/bytealg.MakeNoZero"], unfollowed := true, recurses := true, named := ["unicode/utf8.first", "unicode/utf8.acceptRanges", "internal/bytealg.MaxLen"], apart := false, laid := [("unicode/utf8.acceptRanges", laid_unicode_utf8_acceptRanges), ("unicode/utf8.first", laid_unicode_utf8_first)], narrowed := true }
def FsHandlesUptoSaid : Prop := fsHandlesUptoRow.holds Tryz.pinned (OpenSpec.upto fsHandlesSpec)

/-- 'cooperagelaw09.FsSwaps', WHERE WHAT IT READS IS OF BULK AT MOST 1048576: true; the input reads as it did. -/
def fsSwapsUptoRow : OpenClaim := { program := "ytcicjklhbnipcaagreatdoor", sum := "ea4cf9f284f9d951cf6204a0d24c08fae7d3ece288c192d49c42123101ab3c0b", func := "cooperage/cooperagelaw09.FsSwaps", spec := "fsSwaps", inPlace := ["internal/bytealg.CountString", "internal/bytealg.IndexByteString", "internal/bytealg.IndexString", "internal/abi.NoEscape", "internal/bytealg.MakeNoZero"], unfollowed := true, recurses := true, named := ["unicode/utf8.first", "unicode/utf8.acceptRanges", "internal/bytealg.MaxLen"], apart := false, laid := [("unicode/utf8.acceptRanges", laid_unicode_utf8_acceptRanges), ("unicode/utf8.first", laid_unicode_utf8_first)], narrowed := true }
def FsSwapsUptoSaid : Prop := fsSwapsUptoRow.holds Tryz.pinned (OpenSpec.upto fsSwapsSpec)

/-- 'cooperagelaw09.FsNobody', WHERE WHAT IT READS IS OF BULK AT MOST 1048576: true; the input reads as it did. -/
def fsNobodyUptoRow : OpenClaim := { program := "ytcicjklhbnipcaagreatdoor", sum := "ea4cf9f284f9d951cf6204a0d24c08fae7d3ece288c192d49c42123101ab3c0b", func := "cooperage/cooperagelaw09.FsNobody", spec := "fsNobody", inPlace := ["internal/bytealg.CountString", "internal/bytealg.IndexByteString", "internal/bytealg.IndexString", "internal/abi.NoEscape", "internal/bytealg.MakeNoZero", "maps.clone"], unfollowed := true, recurses := true, named := ["unicode/utf8.first", "unicode/utf8.acceptRanges", "internal/bytealg.MaxLen"], apart := false, laid := [("unicode/utf8.acceptRanges", laid_unicode_utf8_acceptRanges), ("unicode/utf8.first", laid_unicode_utf8_first)], narrowed := true }
def FsNobodyUptoSaid : Prop := fsNobodyUptoRow.holds Tryz.pinned (OpenSpec.upto fsNobodySpec)

/-- 'cooperagelaw10.OplogSure', WHERE WHAT IT READS IS OF BULK AT MOST 1048576: true; the input reads as it did. -/
def oplogSureUptoRow : OpenClaim := { program := "ytcicjklhbnipcaagreatdoor", sum := "ea4cf9f284f9d951cf6204a0d24c08fae7d3ece288c192d49c42123101ab3c0b", func := "cooperage/cooperagelaw10.OplogSure", spec := "oplogSure", inPlace := ["maps.clone", "internal/bytealg.CountString", "internal/bytealg.IndexByteString", "internal/bytealg.IndexString", "internal/abi.NoEscape", "internal/bytealg.MakeNoZero"], unfollowed := true, recurses := true, named := ["unicode/utf8.first", "unicode/utf8.acceptRanges", "internal/bytealg.MaxLen"], apart := false, laid := [("unicode/utf8.acceptRanges", laid_unicode_utf8_acceptRanges), ("unicode/utf8.first", laid_unicode_utf8_first)], narrowed := true }
def OplogSureUptoSaid : Prop := oplogSureUptoRow.holds Tryz.pinned (OpenSpec.upto oplogSureSpec)

/-- 'cooperagelaw10.OplogMore', WHERE WHAT IT READS IS OF BULK AT MOST 1048576: true; the input reads as it did. -/
def oplogMoreUptoRow : OpenClaim := { program := "ytcicjklhbnipcaagreatdoor", sum := "ea4cf9f284f9d951cf6204a0d24c08fae7d3ece288c192d49c42123101ab3c0b", func := "cooperage/cooperagelaw10.OplogMore", spec := "oplogMore", inPlace := ["maps.clone", "internal/bytealg.CountString", "internal/bytealg.IndexByteString", "internal/bytealg.IndexString", "internal/abi.NoEscape", "internal/bytealg.MakeNoZero"], unfollowed := true, recurses := true, named := ["unicode/utf8.first", "unicode/utf8.acceptRanges", "internal/bytealg.MaxLen"], apart := false, laid := [("unicode/utf8.acceptRanges", laid_unicode_utf8_acceptRanges), ("unicode/utf8.first", laid_unicode_utf8_first)], narrowed := true }
def OplogMoreUptoSaid : Prop := oplogMoreUptoRow.holds Tryz.pinned (OpenSpec.upto oplogMoreSpec)

/-- 'cooperagelaw10.OplogPlays', WHERE WHAT IT READS IS OF BULK AT MOST 1048576: true; the input reads as it did. -/
def oplogPlaysUptoRow : OpenClaim := { program := "ytcicjklhbnipcaagreatdoor", sum := "ea4cf9f284f9d951cf6204a0d24c08fae7d3ece288c192d49c42123101ab3c0b", func := "cooperage/cooperagelaw10.OplogPlays", spec := "oplogPlays", inPlace := ["maps.clone", "internal/bytealg.CountString", "internal/bytealg.IndexByteString", "internal/bytealg.IndexString", "internal/abi.NoEscape", "internal/bytealg.MakeNoZero"], unfollowed := true, recurses := true, named := ["unicode/utf8.first", "unicode/utf8.acceptRanges", "internal/bytealg.MaxLen"], apart := false, laid := [("unicode/utf8.acceptRanges", laid_unicode_utf8_acceptRanges), ("unicode/utf8.first", laid_unicode_utf8_first)], narrowed := true }
def OplogPlaysUptoSaid : Prop := oplogPlaysUptoRow.holds Tryz.pinned (OpenSpec.upto oplogPlaysSpec)

/-- 'cooperagelaw10.OplogNobody', WHERE WHAT IT READS IS OF BULK AT MOST 1048576: true; the input reads as it did. -/
def oplogNobodyUptoRow : OpenClaim := { program := "ytcicjklhbnipcaagreatdoor", sum := "ea4cf9f284f9d951cf6204a0d24c08fae7d3ece288c192d49c42123101ab3c0b", func := "cooperage/cooperagelaw10.OplogNobody", spec := "oplogNobody", inPlace := ["maps.clone", "internal/bytealg.CountString", "internal/bytealg.IndexByteString", "internal/bytealg.IndexString", "internal/abi.NoEscape", "internal/bytealg.MakeNoZero"], unfollowed := true, recurses := true, named := ["unicode/utf8.first", "unicode/utf8.acceptRanges", "internal/bytealg.MaxLen"], apart := false, laid := [("unicode/utf8.acceptRanges", laid_unicode_utf8_acceptRanges), ("unicode/utf8.first", laid_unicode_utf8_first)], narrowed := true }
def OplogNobodyUptoSaid : Prop := oplogNobodyUptoRow.holds Tryz.pinned (OpenSpec.upto oplogNobodySpec)

/-- 'cooperagelaw25.WorldDead', WHERE WHAT IT READS IS OF BULK AT MOST 1048576: true; the input reads as it did. -/
def worldDeadUptoRow : OpenClaim := { program := "ytcicjklhbnipcaagreatdoor", sum := "ea4cf9f284f9d951cf6204a0d24c08fae7d3ece288c192d49c42123101ab3c0b", func := "cooperage/cooperagelaw25.WorldDead", spec := "worldDead", inPlace := ["maps.clone", "internal/bytealg.CountString", "internal/bytealg.IndexByteString", "internal/bytealg.IndexString", "internal/abi.NoEscape", "internal/bytealg.MakeNoZero"], unfollowed := true, recurses := true, named := ["unicode/utf8.first", "unicode/utf8.acceptRanges", "internal/bytealg.MaxLen"], apart := false, laid := [("unicode/utf8.acceptRanges", laid_unicode_utf8_acceptRanges), ("unicode/utf8.first", laid_unicode_utf8_first)], narrowed := true }
def WorldDeadUptoSaid : Prop := worldDeadUptoRow.holds Tryz.pinned (OpenSpec.upto worldDeadSpec)

/-- 'cooperagelaw25.WorldPlays', WHERE WHAT IT READS IS OF BULK AT MOST 1048576: true; the input reads as it did. -/
def worldPlaysUptoRow : OpenClaim := { program := "ytcicjklhbnipcaagreatdoor", sum := "ea4cf9f284f9d951cf6204a0d24c08fae7d3ece288c192d49c42123101ab3c0b", func := "cooperage/cooperagelaw25.WorldPlays", spec := "worldPlays", inPlace := ["maps.clone", "internal/bytealg.CountString", "internal/bytealg.IndexByteString", "internal/bytealg.IndexString", "internal/abi.NoEscape", "internal/bytealg.MakeNoZero"], unfollowed := true, recurses := true, named := ["unicode/utf8.first", "unicode/utf8.acceptRanges", "internal/bytealg.MaxLen"], apart := false, laid := [("unicode/utf8.acceptRanges", laid_unicode_utf8_acceptRanges), ("unicode/utf8.first", laid_unicode_utf8_first)], narrowed := true }
def WorldPlaysUptoSaid : Prop := worldPlaysUptoRow.holds Tryz.pinned (OpenSpec.upto worldPlaysSpec)

/-- 'cooperagelaw25.WorldNobody', WHERE WHAT IT READS IS OF BULK AT MOST 1048576: true; the input reads as it did. -/
def worldNobodyUptoRow : OpenClaim := { program := "ytcicjklhbnipcaagreatdoor", sum := "ea4cf9f284f9d951cf6204a0d24c08fae7d3ece288c192d49c42123101ab3c0b", func := "cooperage/cooperagelaw25.WorldNobody", spec := "worldNobody", inPlace := ["maps.clone", "internal/bytealg.CountString", "internal/bytealg.IndexByteString", "internal/bytealg.IndexString", "internal/abi.NoEscape", "internal/bytealg.MakeNoZero"], unfollowed := true, recurses := true, named := ["unicode/utf8.first", "unicode/utf8.acceptRanges", "internal/bytealg.MaxLen"], apart := false, laid := [("unicode/utf8.acceptRanges", laid_unicode_utf8_acceptRanges), ("unicode/utf8.first", laid_unicode_utf8_first)], narrowed := true }
def WorldNobodyUptoSaid : Prop := worldNobodyUptoRow.holds Tryz.pinned (OpenSpec.upto worldNobodySpec)

end Rows
end Go.Proofs.YtcicjklhbnipcaaGreatDoor
