/-
  NARROWER THAN 'FOR EVERY INPUT', by the rows' own cells (each row's printed sentence says how): PasteBytes: laid · PasteRunes: laid · PasteOnes: laid · PasteLongs: laid · PasteHolds: laid.
  DERIVED. THE GIVEN ROWS OF THIS SEAT. 5 by the template 'for every input the law returns true; each argument reads behind the call as it read before'; 0 by the template 'total and deterministic' (their statements: YtnihneffgbhjjaaDoorTotals.lean).
  GIVEN WITH THE SEED: the statements are not yours to turn. If you find one false, say at which input.
  Laid BY PROGRAM, IN A SANDBOX (cutbox-rows.mjs): the forced cells as the released guide's own fill.sh prints them over the translation aec1e21013907db7… (all of the seat's roots in one cut). By AI agents, Wed Nov 11 2026. No macro, syntax, notation, axiom, sorry.
-/
import Derived.Test.YtnihneffgbhjjaaDoorChecked
import GoSem.PinnedTables
import GoSem.Claim
import GoSem.ClaimJoined
import GoSem.ClaimMapViews
import Derived.JoinedTies
import Derived.KernelRfl
namespace Go.Proofs.YtnihneffgbhjjaaDoor
/- THE CELL 'sum', in the pinned program and in every row, IS THE sha256 OF THE DUMP (.gsa) THAT YtnihneffgbhjjaaDoorProg.lean LOADS. Nothing in Lean hashes anything: it is a label: what it is worth is what the hold of that sum in a sandbox is worth. -/
noncomputable def Tryd.pinned : Pinned := { name := "ytnihneffgbhjjaadoor", sum := "aec1e21013907db732ab0406a6a9e8c9c2626f3f6a419d61d328339376ec2c06", checked := Tryd.checked }
namespace Rows
def none {H : Type} : Left H := { results := [], args := [] }

/- WHAT THE LISTED PACKAGE-LEVEL VARIABLES READ AS WHEN THE CALL BEGINS. Each datum BY PROGRAM (the guide's laid-datum.mjs) off the statement by which the dump's own 'gosem.cut.vars' lays the variable. In a bare row this is a premise. The card (YtnihneffgbhjjaaDoorCards.lean) ties it to the program's text. -/
def laid_unicode_utf8_acceptRanges {H : Type} : DataW H := .agg [.agg [.lit (.int .u8 128), .lit (.int .u8 191)], .agg [.lit (.int .u8 160), .lit (.int .u8 191)], .agg [.lit (.int .u8 128), .lit (.int .u8 159)], .agg [.lit (.int .u8 144), .lit (.int .u8 191)], .agg [.lit (.int .u8 128), .lit (.int .u8 143)], .agg [.lit (.int .u8 0), .lit (.int .u8 0)], .agg [.lit (.int .u8 0), .lit (.int .u8 0)], .agg [.lit (.int .u8 0), .lit (.int .u8 0)], .agg [.lit (.int .u8 0), .lit (.int .u8 0)], .agg [.lit (.int .u8 0), .lit (.int .u8 0)], .agg [.lit (.int .u8 0), .lit (.int .u8 0)], .agg [.lit (.int .u8 0), .lit (.int .u8 0)], .agg [.lit (.int .u8 0), .lit (.int .u8 0)], .agg [.lit (.int .u8 0), .lit (.int .u8 0)], .agg [.lit (.int .u8 0), .lit (.int .u8 0)], .agg [.lit (.int .u8 0), .lit (.int .u8 0)]]
/-- One of Go's own tables, pinned by name: the form's constant. -/
def laid_unicode_utf8_first : DataW Unit := Go.Pinned.utf8First

/-- 'scrollbacklaw51.PasteBytes': WHATEVER THE INPUT: true; the input reads as it did. -/
def pasteBytesSpec : ChangeSpec := { name := "pasteBytes", fn := fun _ => fun
  | [d1, d2] => { results := [.lit (.bool true)], args := [d1, d2] }
  | _ => none }
def pasteBytesRow : OpenClaim := { program := "ytnihneffgbhjjaadoor", sum := "aec1e21013907db732ab0406a6a9e8c9c2626f3f6a419d61d328339376ec2c06", func := "scrollback/scrollbacklaw51.PasteBytes", spec := "pasteBytes", inPlace := ["internal/abi.NoEscape", "internal/bytealg.CountString", "internal/bytealg.IndexByteString", "internal/bytealg.IndexString"], recurses := true, named := ["internal/bytealg.MaxLen", "unicode/utf8.first", "unicode/utf8.acceptRanges"], apart := false, laid := [("unicode/utf8.acceptRanges", laid_unicode_utf8_acceptRanges), ("unicode/utf8.first", laid_unicode_utf8_first)] }
def PasteBytesSaid : Prop := pasteBytesRow.holds Tryd.pinned (OpenSpec.ofChange pasteBytesSpec)

/-- ITS FALSE NEIGHBOUR: 'it returns false'. Refute it at one input. -/
def pasteBytesWrong : ChangeSpec := { name := "pasteBytes", fn := fun _ => fun
  | [d1, d2] => { results := [.lit (.bool false)], args := [d1, d2] }
  | _ => none }
def PasteBytesWrongFalsely : Prop := pasteBytesRow.holds Tryd.pinned (OpenSpec.ofChange pasteBytesWrong)

/-- 'scrollbacklaw51.PasteRunes': WHATEVER THE INPUT: true; the input reads as it did. -/
def pasteRunesSpec : ChangeSpec := { name := "pasteRunes", fn := fun _ => fun
  | [d1, d2] => { results := [.lit (.bool true)], args := [d1, d2] }
  | _ => none }
def pasteRunesRow : OpenClaim := { program := "ytnihneffgbhjjaadoor", sum := "aec1e21013907db732ab0406a6a9e8c9c2626f3f6a419d61d328339376ec2c06", func := "scrollback/scrollbacklaw51.PasteRunes", spec := "pasteRunes", inPlace := ["internal/abi.NoEscape", "internal/bytealg.CountString", "internal/bytealg.IndexByteString", "internal/bytealg.IndexString"], recurses := true, named := ["internal/bytealg.MaxLen", "unicode/utf8.first", "unicode/utf8.acceptRanges"], apart := false, laid := [("unicode/utf8.acceptRanges", laid_unicode_utf8_acceptRanges), ("unicode/utf8.first", laid_unicode_utf8_first)] }
def PasteRunesSaid : Prop := pasteRunesRow.holds Tryd.pinned (OpenSpec.ofChange pasteRunesSpec)

/-- ITS FALSE NEIGHBOUR: 'it returns false'. Refute it at one input. -/
def pasteRunesWrong : ChangeSpec := { name := "pasteRunes", fn := fun _ => fun
  | [d1, d2] => { results := [.lit (.bool false)], args := [d1, d2] }
  | _ => none }
def PasteRunesWrongFalsely : Prop := pasteRunesRow.holds Tryd.pinned (OpenSpec.ofChange pasteRunesWrong)

/-- 'scrollbacklaw51.PasteOnes': WHATEVER THE INPUT: true; the input reads as it did. -/
def pasteOnesSpec : ChangeSpec := { name := "pasteOnes", fn := fun _ => fun
  | [d] => { results := [.lit (.bool true)], args := [d] }
  | _ => none }
def pasteOnesRow : OpenClaim := { program := "ytnihneffgbhjjaadoor", sum := "aec1e21013907db732ab0406a6a9e8c9c2626f3f6a419d61d328339376ec2c06", func := "scrollback/scrollbacklaw51.PasteOnes", spec := "pasteOnes", inPlace := ["internal/abi.NoEscape", "internal/bytealg.CountString", "internal/bytealg.IndexByteString", "internal/bytealg.IndexString"], recurses := true, named := ["internal/bytealg.MaxLen", "unicode/utf8.first", "unicode/utf8.acceptRanges"], apart := false, laid := [("unicode/utf8.acceptRanges", laid_unicode_utf8_acceptRanges), ("unicode/utf8.first", laid_unicode_utf8_first)] }
def PasteOnesSaid : Prop := pasteOnesRow.holds Tryd.pinned (OpenSpec.ofChange pasteOnesSpec)

/-- ITS FALSE NEIGHBOUR: 'it returns false'. Refute it at one input. -/
def pasteOnesWrong : ChangeSpec := { name := "pasteOnes", fn := fun _ => fun
  | [d] => { results := [.lit (.bool false)], args := [d] }
  | _ => none }
def PasteOnesWrongFalsely : Prop := pasteOnesRow.holds Tryd.pinned (OpenSpec.ofChange pasteOnesWrong)

/-- 'scrollbacklaw51.PasteLongs': WHATEVER THE INPUT: true; the input reads as it did. -/
def pasteLongsSpec : ChangeSpec := { name := "pasteLongs", fn := fun _ => fun
  | [d1, d2] => { results := [.lit (.bool true)], args := [d1, d2] }
  | _ => none }
def pasteLongsRow : OpenClaim := { program := "ytnihneffgbhjjaadoor", sum := "aec1e21013907db732ab0406a6a9e8c9c2626f3f6a419d61d328339376ec2c06", func := "scrollback/scrollbacklaw51.PasteLongs", spec := "pasteLongs", inPlace := ["internal/abi.NoEscape", "internal/bytealg.CountString", "internal/bytealg.IndexByteString", "internal/bytealg.IndexString"], named := ["internal/bytealg.MaxLen", "unicode/utf8.first", "unicode/utf8.acceptRanges"], apart := false, laid := [("unicode/utf8.acceptRanges", laid_unicode_utf8_acceptRanges), ("unicode/utf8.first", laid_unicode_utf8_first)] }
def PasteLongsSaid : Prop := pasteLongsRow.holds Tryd.pinned (OpenSpec.ofChange pasteLongsSpec)

/-- ITS FALSE NEIGHBOUR: 'it returns false'. Refute it at one input. -/
def pasteLongsWrong : ChangeSpec := { name := "pasteLongs", fn := fun _ => fun
  | [d1, d2] => { results := [.lit (.bool false)], args := [d1, d2] }
  | _ => none }
def PasteLongsWrongFalsely : Prop := pasteLongsRow.holds Tryd.pinned (OpenSpec.ofChange pasteLongsWrong)

/-- 'scrollbacklaw51.PasteHolds': WHATEVER THE INPUT: true; the input reads as it did. -/
def pasteHoldsSpec : ChangeSpec := { name := "pasteHolds", fn := fun _ => fun
  | [d1, d2] => { results := [.lit (.bool true)], args := [d1, d2] }
  | _ => none }
def pasteHoldsRow : OpenClaim := { program := "ytnihneffgbhjjaadoor", sum := "aec1e21013907db732ab0406a6a9e8c9c2626f3f6a419d61d328339376ec2c06", func := "scrollback/scrollbacklaw51.PasteHolds", spec := "pasteHolds", inPlace := ["internal/abi.NoEscape", "internal/bytealg.CountString", "internal/bytealg.IndexByteString", "internal/bytealg.IndexString"], named := ["internal/bytealg.MaxLen", "unicode/utf8.first", "unicode/utf8.acceptRanges"], apart := false, laid := [("unicode/utf8.acceptRanges", laid_unicode_utf8_acceptRanges), ("unicode/utf8.first", laid_unicode_utf8_first)] }
def PasteHoldsSaid : Prop := pasteHoldsRow.holds Tryd.pinned (OpenSpec.ofChange pasteHoldsSpec)

/-- ITS FALSE NEIGHBOUR: 'it returns false'. Refute it at one input. -/
def pasteHoldsWrong : ChangeSpec := { name := "pasteHolds", fn := fun _ => fun
  | [d1, d2] => { results := [.lit (.bool false)], args := [d1, d2] }
  | _ => none }
def PasteHoldsWrongFalsely : Prop := pasteHoldsRow.holds Tryd.pinned (OpenSpec.ofChange pasteHoldsWrong)

/- THE SECOND FORM. 'bulk': how many values and letters a reading holds, each counted each time it is reached (what is shared counts as often as it is met; a slice's spare places count too). A statement '..UptoSaid' is the law's where the arguments, and the package variables that the reading takes, are together of bulk at most 1048576: NARROWER than '..Said'. Prove '..Said' where nothing that the law and all that it calls make is longer than what came in: it says more and counts as full. Else prove '..UptoSaid'. A law counts once. -/
mutual
def uptoBulk {H : Type} : DataW H → Nat
  | .lit (.string bytes) => bytes.length + 1
  | .lit _ => 1
  | .nil => 1
  | .ptr d => uptoBulk d + 1
  | .slice elems spare => uptoBulkAll elems + uptoBulkAll spare + 1
  | .agg parts => uptoBulkAll parts + 1
  | .iface _ d => uptoBulk d + 1
  | .map entries => uptoBulkEntries entries + 1
  | .held _ => 1
def uptoBulkAll {H : Type} : List (DataW H) → Nat
  | [] => 0
  | d :: r => uptoBulk d + uptoBulkAll r
def uptoBulkEntries {H : Type} : List (Lit × DataW H) → Nat
  | [] => 0
  | x :: r => uptoBulkEntry x + uptoBulkEntries r
def uptoBulkEntry {H : Type} : Lit × DataW H → Nat
  | (.string bytes, d) => bytes.length + uptoBulk d + 1
  | (_, d) => uptoBulk d + 1
 end
def uptoSmall : (H : Type) → List (DataW H) → Bool := fun _ ds => decide (uptoBulkAll ds ≤ 1048576)
def OpenSpec.upto (s : _root_.Go.ChangeSpec) : _root_.Go.OpenSpec := { _root_.Go.OpenSpec.ofChange s with cond := some uptoSmall }

/-- 'scrollbacklaw51.PasteBytes', WHERE WHAT IT READS IS OF BULK AT MOST 1048576: true; the input reads as it did. -/
def pasteBytesUptoRow : OpenClaim := { program := "ytnihneffgbhjjaadoor", sum := "aec1e21013907db732ab0406a6a9e8c9c2626f3f6a419d61d328339376ec2c06", func := "scrollback/scrollbacklaw51.PasteBytes", spec := "pasteBytes", inPlace := ["internal/abi.NoEscape", "internal/bytealg.CountString", "internal/bytealg.IndexByteString", "internal/bytealg.IndexString"], recurses := true, named := ["internal/bytealg.MaxLen", "unicode/utf8.first", "unicode/utf8.acceptRanges"], apart := false, laid := [("unicode/utf8.acceptRanges", laid_unicode_utf8_acceptRanges), ("unicode/utf8.first", laid_unicode_utf8_first)], narrowed := true }
def PasteBytesUptoSaid : Prop := pasteBytesUptoRow.holds Tryd.pinned (OpenSpec.upto pasteBytesSpec)

/-- 'scrollbacklaw51.PasteRunes', WHERE WHAT IT READS IS OF BULK AT MOST 1048576: true; the input reads as it did. -/
def pasteRunesUptoRow : OpenClaim := { program := "ytnihneffgbhjjaadoor", sum := "aec1e21013907db732ab0406a6a9e8c9c2626f3f6a419d61d328339376ec2c06", func := "scrollback/scrollbacklaw51.PasteRunes", spec := "pasteRunes", inPlace := ["internal/abi.NoEscape", "internal/bytealg.CountString", "internal/bytealg.IndexByteString", "internal/bytealg.IndexString"], recurses := true, named := ["internal/bytealg.MaxLen", "unicode/utf8.first", "unicode/utf8.acceptRanges"], apart := false, laid := [("unicode/utf8.acceptRanges", laid_unicode_utf8_acceptRanges), ("unicode/utf8.first", laid_unicode_utf8_first)], narrowed := true }
def PasteRunesUptoSaid : Prop := pasteRunesUptoRow.holds Tryd.pinned (OpenSpec.upto pasteRunesSpec)

/-- 'scrollbacklaw51.PasteOnes', WHERE WHAT IT READS IS OF BULK AT MOST 1048576: true; the input reads as it did. -/
def pasteOnesUptoRow : OpenClaim := { program := "ytnihneffgbhjjaadoor", sum := "aec1e21013907db732ab0406a6a9e8c9c2626f3f6a419d61d328339376ec2c06", func := "scrollback/scrollbacklaw51.PasteOnes", spec := "pasteOnes", inPlace := ["internal/abi.NoEscape", "internal/bytealg.CountString", "internal/bytealg.IndexByteString", "internal/bytealg.IndexString"], recurses := true, named := ["internal/bytealg.MaxLen", "unicode/utf8.first", "unicode/utf8.acceptRanges"], apart := false, laid := [("unicode/utf8.acceptRanges", laid_unicode_utf8_acceptRanges), ("unicode/utf8.first", laid_unicode_utf8_first)], narrowed := true }
def PasteOnesUptoSaid : Prop := pasteOnesUptoRow.holds Tryd.pinned (OpenSpec.upto pasteOnesSpec)

/-- 'scrollbacklaw51.PasteLongs', WHERE WHAT IT READS IS OF BULK AT MOST 1048576: true; the input reads as it did. -/
def pasteLongsUptoRow : OpenClaim := { program := "ytnihneffgbhjjaadoor", sum := "aec1e21013907db732ab0406a6a9e8c9c2626f3f6a419d61d328339376ec2c06", func := "scrollback/scrollbacklaw51.PasteLongs", spec := "pasteLongs", inPlace := ["internal/abi.NoEscape", "internal/bytealg.CountString", "internal/bytealg.IndexByteString", "internal/bytealg.IndexString"], named := ["internal/bytealg.MaxLen", "unicode/utf8.first", "unicode/utf8.acceptRanges"], apart := false, laid := [("unicode/utf8.acceptRanges", laid_unicode_utf8_acceptRanges), ("unicode/utf8.first", laid_unicode_utf8_first)], narrowed := true }
def PasteLongsUptoSaid : Prop := pasteLongsUptoRow.holds Tryd.pinned (OpenSpec.upto pasteLongsSpec)

/-- 'scrollbacklaw51.PasteHolds', WHERE WHAT IT READS IS OF BULK AT MOST 1048576: true; the input reads as it did. -/
def pasteHoldsUptoRow : OpenClaim := { program := "ytnihneffgbhjjaadoor", sum := "aec1e21013907db732ab0406a6a9e8c9c2626f3f6a419d61d328339376ec2c06", func := "scrollback/scrollbacklaw51.PasteHolds", spec := "pasteHolds", inPlace := ["internal/abi.NoEscape", "internal/bytealg.CountString", "internal/bytealg.IndexByteString", "internal/bytealg.IndexString"], named := ["internal/bytealg.MaxLen", "unicode/utf8.first", "unicode/utf8.acceptRanges"], apart := false, laid := [("unicode/utf8.acceptRanges", laid_unicode_utf8_acceptRanges), ("unicode/utf8.first", laid_unicode_utf8_first)], narrowed := true }
def PasteHoldsUptoSaid : Prop := pasteHoldsUptoRow.holds Tryd.pinned (OpenSpec.upto pasteHoldsSpec)

end Rows
end Go.Proofs.YtnihneffgbhjjaaDoor
