/-
  NARROWER THAN 'FOR EVERY INPUT', by the rows' own cells (each row's printed sentence says how): PackTakes: laid · PackPuts: laid · StampOpens: laid · StampTorn: laid · StampFrames: laid · RingAppends: laid · RingScans: laid · RingCosts: laid · RingKept: laid · SuperWrites: laid · SuperReads: laid · SuperSpoilt: laid · SuperTurn: laid.
  DERIVED. THE GIVEN ROWS OF THIS SEAT. 13 by the template 'for every input the law returns true; each argument reads behind the call as it read before'; 0 by the template 'total and deterministic' (their statements: YtkmbbgnbklklcaaDoorTotals.lean).
  GIVEN WITH THE SEED: the statements are not yours to turn. If you find one false, say at which input.
  Laid BY PROGRAM, IN A SANDBOX (cutbox-rows.mjs): the forced cells as the released guide's own fill.sh prints them over the translation b017e3b010a5ec48… (all of the seat's roots in one cut). By AI agents, Wed Nov 11 2026. No macro, syntax, notation, axiom, sorry.
-/
import Derived.Test.YtkmbbgnbklklcaaDoorChecked
import GoSem.PinnedTables
import GoSem.Claim
import GoSem.ClaimJoined
import GoSem.ClaimMapViews
import Derived.JoinedTies
import Derived.KernelRfl
namespace Go.Proofs.YtkmbbgnbklklcaaDoor
/- THE CELL 'sum', in the pinned program and in every row, IS THE sha256 OF THE DUMP (.gsa) THAT YtkmbbgnbklklcaaDoorProg.lean LOADS. Nothing in Lean hashes anything: it is a label: what it is worth is what the hold of that sum in a sandbox is worth. -/
noncomputable def Tryd.pinned : Pinned := { name := "ytkmbbgnbklklcaadoor", sum := "b017e3b010a5ec48250f9ad5e509da52c8353390ce8d70dcb6c31e71eac35a09", checked := Tryd.checked }
namespace Rows
def none {H : Type} : Left H := { results := [], args := [] }

/- WHAT THE LISTED PACKAGE-LEVEL VARIABLES READ AS WHEN THE CALL BEGINS. Each datum BY PROGRAM (the guide's laid-datum.mjs) off the statement by which the dump's own 'gosem.cut.vars' lays the variable. In a bare row this is a premise. The card (YtkmbbgnbklklcaaDoorCards.lean) ties it to the program's text. -/
def laid_unicode_utf8_acceptRanges {H : Type} : DataW H := .agg [.agg [.lit (.int .u8 128), .lit (.int .u8 191)], .agg [.lit (.int .u8 160), .lit (.int .u8 191)], .agg [.lit (.int .u8 128), .lit (.int .u8 159)], .agg [.lit (.int .u8 144), .lit (.int .u8 191)], .agg [.lit (.int .u8 128), .lit (.int .u8 143)], .agg [.lit (.int .u8 0), .lit (.int .u8 0)], .agg [.lit (.int .u8 0), .lit (.int .u8 0)], .agg [.lit (.int .u8 0), .lit (.int .u8 0)], .agg [.lit (.int .u8 0), .lit (.int .u8 0)], .agg [.lit (.int .u8 0), .lit (.int .u8 0)], .agg [.lit (.int .u8 0), .lit (.int .u8 0)], .agg [.lit (.int .u8 0), .lit (.int .u8 0)], .agg [.lit (.int .u8 0), .lit (.int .u8 0)], .agg [.lit (.int .u8 0), .lit (.int .u8 0)], .agg [.lit (.int .u8 0), .lit (.int .u8 0)], .agg [.lit (.int .u8 0), .lit (.int .u8 0)]]
/-- One of Go's own tables, pinned by name: the form's constant. -/
def laid_unicode_utf8_first : DataW Unit := Go.Pinned.utf8First

/-- 'stereobatelaw03.PackTakes': WHATEVER THE INPUT: true; the input reads as it did. -/
def packTakesSpec : ChangeSpec := { name := "packTakes", fn := fun _ => fun
  | [d1, d2] => { results := [.lit (.bool true)], args := [d1, d2] }
  | _ => none }
def packTakesRow : OpenClaim := { program := "ytkmbbgnbklklcaadoor", sum := "b017e3b010a5ec48250f9ad5e509da52c8353390ce8d70dcb6c31e71eac35a09", func := "stereobate/stereobatelaw03.PackTakes", spec := "packTakes", inPlace := ["internal/bytealg.IndexByteString", "internal/bytealg.IndexString"], unfollowed := true, recurses := true, named := ["unicode/utf8.first", "unicode/utf8.acceptRanges", "internal/bytealg.MaxLen"], apart := false, laid := [("unicode/utf8.acceptRanges", laid_unicode_utf8_acceptRanges), ("unicode/utf8.first", laid_unicode_utf8_first)] }
def PackTakesSaid : Prop := packTakesRow.holds Tryd.pinned (OpenSpec.ofChange packTakesSpec)

/-- ITS FALSE NEIGHBOUR: 'it returns false'. Refute it at one input. -/
def packTakesWrong : ChangeSpec := { name := "packTakes", fn := fun _ => fun
  | [d1, d2] => { results := [.lit (.bool false)], args := [d1, d2] }
  | _ => none }
def PackTakesWrongFalsely : Prop := packTakesRow.holds Tryd.pinned (OpenSpec.ofChange packTakesWrong)

/-- 'stereobatelaw03.PackPuts': WHATEVER THE INPUT: true; the input reads as it did. -/
def packPutsSpec : ChangeSpec := { name := "packPuts", fn := fun _ => fun
  | [d1, d2, d3, d4, d5, d6] => { results := [.lit (.bool true)], args := [d1, d2, d3, d4, d5, d6] }
  | _ => none }
def packPutsRow : OpenClaim := { program := "ytkmbbgnbklklcaadoor", sum := "b017e3b010a5ec48250f9ad5e509da52c8353390ce8d70dcb6c31e71eac35a09", func := "stereobate/stereobatelaw03.PackPuts", spec := "packPuts", inPlace := ["internal/abi.NoEscape", "internal/bytealg.MakeNoZero", "internal/bytealg.IndexByteString", "internal/bytealg.IndexString"], unfollowed := true, recurses := true, named := ["unicode/utf8.first", "unicode/utf8.acceptRanges", "internal/bytealg.MaxLen"], apart := false, laid := [("unicode/utf8.acceptRanges", laid_unicode_utf8_acceptRanges), ("unicode/utf8.first", laid_unicode_utf8_first)] }
def PackPutsSaid : Prop := packPutsRow.holds Tryd.pinned (OpenSpec.ofChange packPutsSpec)

/-- ITS FALSE NEIGHBOUR: 'it returns false'. Refute it at one input. -/
def packPutsWrong : ChangeSpec := { name := "packPuts", fn := fun _ => fun
  | [d1, d2, d3, d4, d5, d6] => { results := [.lit (.bool false)], args := [d1, d2, d3, d4, d5, d6] }
  | _ => none }
def PackPutsWrongFalsely : Prop := packPutsRow.holds Tryd.pinned (OpenSpec.ofChange packPutsWrong)

/-- 'stereobatelaw05.StampOpens': WHATEVER THE INPUT: true; the input reads as it did. -/
def stampOpensSpec : ChangeSpec := { name := "stampOpens", fn := fun _ => fun
  | [d1, d2, d3, d4] => { results := [.lit (.bool true)], args := [d1, d2, d3, d4] }
  | _ => none }
def stampOpensRow : OpenClaim := { program := "ytkmbbgnbklklcaadoor", sum := "b017e3b010a5ec48250f9ad5e509da52c8353390ce8d70dcb6c31e71eac35a09", func := "stereobate/stereobatelaw05.StampOpens", spec := "stampOpens", inPlace := ["internal/abi.NoEscape", "internal/bytealg.MakeNoZero", "internal/bytealg.IndexByteString", "internal/bytealg.IndexString"], unfollowed := true, recurses := true, named := ["unicode/utf8.first", "unicode/utf8.acceptRanges", "internal/bytealg.MaxLen"], apart := false, laid := [("unicode/utf8.acceptRanges", laid_unicode_utf8_acceptRanges), ("unicode/utf8.first", laid_unicode_utf8_first)] }
def StampOpensSaid : Prop := stampOpensRow.holds Tryd.pinned (OpenSpec.ofChange stampOpensSpec)

/-- ITS FALSE NEIGHBOUR: 'it returns false'. Refute it at one input. -/
def stampOpensWrong : ChangeSpec := { name := "stampOpens", fn := fun _ => fun
  | [d1, d2, d3, d4] => { results := [.lit (.bool false)], args := [d1, d2, d3, d4] }
  | _ => none }
def StampOpensWrongFalsely : Prop := stampOpensRow.holds Tryd.pinned (OpenSpec.ofChange stampOpensWrong)

/-- 'stereobatelaw05.StampTorn': WHATEVER THE INPUT: true; the input reads as it did. -/
def stampTornSpec : ChangeSpec := { name := "stampTorn", fn := fun _ => fun
  | [d1, d2, d3, d4, d5] => { results := [.lit (.bool true)], args := [d1, d2, d3, d4, d5] }
  | _ => none }
def stampTornRow : OpenClaim := { program := "ytkmbbgnbklklcaadoor", sum := "b017e3b010a5ec48250f9ad5e509da52c8353390ce8d70dcb6c31e71eac35a09", func := "stereobate/stereobatelaw05.StampTorn", spec := "stampTorn", inPlace := ["internal/abi.NoEscape", "internal/bytealg.MakeNoZero", "internal/bytealg.IndexByteString", "internal/bytealg.IndexString"], unfollowed := true, recurses := true, named := ["unicode/utf8.first", "unicode/utf8.acceptRanges", "internal/bytealg.MaxLen"], apart := false, laid := [("unicode/utf8.acceptRanges", laid_unicode_utf8_acceptRanges), ("unicode/utf8.first", laid_unicode_utf8_first)] }
def StampTornSaid : Prop := stampTornRow.holds Tryd.pinned (OpenSpec.ofChange stampTornSpec)

/-- ITS FALSE NEIGHBOUR: 'it returns false'. Refute it at one input. -/
def stampTornWrong : ChangeSpec := { name := "stampTorn", fn := fun _ => fun
  | [d1, d2, d3, d4, d5] => { results := [.lit (.bool false)], args := [d1, d2, d3, d4, d5] }
  | _ => none }
def StampTornWrongFalsely : Prop := stampTornRow.holds Tryd.pinned (OpenSpec.ofChange stampTornWrong)

/-- 'stereobatelaw05.StampFrames': WHATEVER THE INPUT: true; the input reads as it did. -/
def stampFramesSpec : ChangeSpec := { name := "stampFrames", fn := fun _ => fun
  | [d1, d2, d3, d4, d5] => { results := [.lit (.bool true)], args := [d1, d2, d3, d4, d5] }
  | _ => none }
def stampFramesRow : OpenClaim := { program := "ytkmbbgnbklklcaadoor", sum := "b017e3b010a5ec48250f9ad5e509da52c8353390ce8d70dcb6c31e71eac35a09", func := "stereobate/stereobatelaw05.StampFrames", spec := "stampFrames", inPlace := ["internal/abi.NoEscape", "internal/bytealg.MakeNoZero", "internal/bytealg.IndexByteString", "internal/bytealg.IndexString"], unfollowed := true, recurses := true, named := ["unicode/utf8.first", "unicode/utf8.acceptRanges", "internal/bytealg.MaxLen"], apart := false, laid := [("unicode/utf8.acceptRanges", laid_unicode_utf8_acceptRanges), ("unicode/utf8.first", laid_unicode_utf8_first)] }
def StampFramesSaid : Prop := stampFramesRow.holds Tryd.pinned (OpenSpec.ofChange stampFramesSpec)

/-- ITS FALSE NEIGHBOUR: 'it returns false'. Refute it at one input. -/
def stampFramesWrong : ChangeSpec := { name := "stampFrames", fn := fun _ => fun
  | [d1, d2, d3, d4, d5] => { results := [.lit (.bool false)], args := [d1, d2, d3, d4, d5] }
  | _ => none }
def StampFramesWrongFalsely : Prop := stampFramesRow.holds Tryd.pinned (OpenSpec.ofChange stampFramesWrong)

/-- 'stereobatelaw08.RingAppends': WHATEVER THE INPUT: true; the input reads as it did. -/
def ringAppendsSpec : ChangeSpec := { name := "ringAppends", fn := fun _ => fun
  | [d1, d2, d3, d4, d5] => { results := [.lit (.bool true)], args := [d1, d2, d3, d4, d5] }
  | _ => none }
def ringAppendsRow : OpenClaim := { program := "ytkmbbgnbklklcaadoor", sum := "b017e3b010a5ec48250f9ad5e509da52c8353390ce8d70dcb6c31e71eac35a09", func := "stereobate/stereobatelaw08.RingAppends", spec := "ringAppends", inPlace := ["internal/abi.NoEscape", "internal/bytealg.MakeNoZero", "internal/bytealg.IndexByteString", "internal/bytealg.IndexString"], unfollowed := true, recurses := true, named := ["unicode/utf8.first", "unicode/utf8.acceptRanges", "internal/bytealg.MaxLen"], apart := false, laid := [("unicode/utf8.acceptRanges", laid_unicode_utf8_acceptRanges), ("unicode/utf8.first", laid_unicode_utf8_first)] }
def RingAppendsSaid : Prop := ringAppendsRow.holds Tryd.pinned (OpenSpec.ofChange ringAppendsSpec)

/-- ITS FALSE NEIGHBOUR: 'it returns false'. Refute it at one input. -/
def ringAppendsWrong : ChangeSpec := { name := "ringAppends", fn := fun _ => fun
  | [d1, d2, d3, d4, d5] => { results := [.lit (.bool false)], args := [d1, d2, d3, d4, d5] }
  | _ => none }
def RingAppendsWrongFalsely : Prop := ringAppendsRow.holds Tryd.pinned (OpenSpec.ofChange ringAppendsWrong)

/-- 'stereobatelaw08.RingScans': WHATEVER THE INPUT: true; the input reads as it did. -/
def ringScansSpec : ChangeSpec := { name := "ringScans", fn := fun _ => fun
  | [d1, d2, d3, d4, d5, d6] => { results := [.lit (.bool true)], args := [d1, d2, d3, d4, d5, d6] }
  | _ => none }
def ringScansRow : OpenClaim := { program := "ytkmbbgnbklklcaadoor", sum := "b017e3b010a5ec48250f9ad5e509da52c8353390ce8d70dcb6c31e71eac35a09", func := "stereobate/stereobatelaw08.RingScans", spec := "ringScans", inPlace := ["internal/abi.NoEscape", "internal/bytealg.MakeNoZero", "internal/bytealg.IndexByteString", "internal/bytealg.IndexString"], unfollowed := true, recurses := true, named := ["unicode/utf8.first", "unicode/utf8.acceptRanges", "internal/bytealg.MaxLen"], apart := false, laid := [("unicode/utf8.acceptRanges", laid_unicode_utf8_acceptRanges), ("unicode/utf8.first", laid_unicode_utf8_first)] }
def RingScansSaid : Prop := ringScansRow.holds Tryd.pinned (OpenSpec.ofChange ringScansSpec)

/-- ITS FALSE NEIGHBOUR: 'it returns false'. Refute it at one input. -/
def ringScansWrong : ChangeSpec := { name := "ringScans", fn := fun _ => fun
  | [d1, d2, d3, d4, d5, d6] => { results := [.lit (.bool false)], args := [d1, d2, d3, d4, d5, d6] }
  | _ => none }
def RingScansWrongFalsely : Prop := ringScansRow.holds Tryd.pinned (OpenSpec.ofChange ringScansWrong)

/-- 'stereobatelaw08.RingCosts': WHATEVER THE INPUT: true; the input reads as it did. -/
def ringCostsSpec : ChangeSpec := { name := "ringCosts", fn := fun _ => fun
  | [d1, d2] => { results := [.lit (.bool true)], args := [d1, d2] }
  | _ => none }
def ringCostsRow : OpenClaim := { program := "ytkmbbgnbklklcaadoor", sum := "b017e3b010a5ec48250f9ad5e509da52c8353390ce8d70dcb6c31e71eac35a09", func := "stereobate/stereobatelaw08.RingCosts", spec := "ringCosts", inPlace := ["internal/abi.NoEscape", "internal/bytealg.MakeNoZero", "internal/bytealg.IndexByteString", "internal/bytealg.IndexString"], unfollowed := true, recurses := true, named := ["unicode/utf8.first", "unicode/utf8.acceptRanges", "internal/bytealg.MaxLen"], apart := false, laid := [("unicode/utf8.acceptRanges", laid_unicode_utf8_acceptRanges), ("unicode/utf8.first", laid_unicode_utf8_first)] }
def RingCostsSaid : Prop := ringCostsRow.holds Tryd.pinned (OpenSpec.ofChange ringCostsSpec)

/-- ITS FALSE NEIGHBOUR: 'it returns false'. Refute it at one input. -/
def ringCostsWrong : ChangeSpec := { name := "ringCosts", fn := fun _ => fun
  | [d1, d2] => { results := [.lit (.bool false)], args := [d1, d2] }
  | _ => none }
def RingCostsWrongFalsely : Prop := ringCostsRow.holds Tryd.pinned (OpenSpec.ofChange ringCostsWrong)

/-- 'stereobatelaw08.RingKept': WHATEVER THE INPUT: true; the input reads as it did. -/
def ringKeptSpec : ChangeSpec := { name := "ringKept", fn := fun _ => fun
  | [d1, d2, d3, d4, d5] => { results := [.lit (.bool true)], args := [d1, d2, d3, d4, d5] }
  | _ => none }
def ringKeptRow : OpenClaim := { program := "ytkmbbgnbklklcaadoor", sum := "b017e3b010a5ec48250f9ad5e509da52c8353390ce8d70dcb6c31e71eac35a09", func := "stereobate/stereobatelaw08.RingKept", spec := "ringKept", inPlace := ["internal/abi.NoEscape", "internal/bytealg.MakeNoZero", "internal/bytealg.IndexByteString", "internal/bytealg.IndexString"], unfollowed := true, recurses := true, named := ["unicode/utf8.first", "unicode/utf8.acceptRanges", "internal/bytealg.MaxLen"], apart := false, laid := [("unicode/utf8.acceptRanges", laid_unicode_utf8_acceptRanges), ("unicode/utf8.first", laid_unicode_utf8_first)] }
def RingKeptSaid : Prop := ringKeptRow.holds Tryd.pinned (OpenSpec.ofChange ringKeptSpec)

/-- ITS FALSE NEIGHBOUR: 'it returns false'. Refute it at one input. -/
def ringKeptWrong : ChangeSpec := { name := "ringKept", fn := fun _ => fun
  | [d1, d2, d3, d4, d5] => { results := [.lit (.bool false)], args := [d1, d2, d3, d4, d5] }
  | _ => none }
def RingKeptWrongFalsely : Prop := ringKeptRow.holds Tryd.pinned (OpenSpec.ofChange ringKeptWrong)

/-- 'stereobatelaw07.SuperWrites': WHATEVER THE INPUT: true; the input reads as it did. -/
def superWritesSpec : ChangeSpec := { name := "superWrites", fn := fun _ => fun
  | [d1, d2] => { results := [.lit (.bool true)], args := [d1, d2] }
  | _ => none }
def superWritesRow : OpenClaim := { program := "ytkmbbgnbklklcaadoor", sum := "b017e3b010a5ec48250f9ad5e509da52c8353390ce8d70dcb6c31e71eac35a09", func := "stereobate/stereobatelaw07.SuperWrites", spec := "superWrites", inPlace := ["internal/abi.NoEscape", "internal/bytealg.MakeNoZero", "internal/bytealg.IndexByteString", "internal/bytealg.IndexString"], unfollowed := true, recurses := true, named := ["unicode/utf8.first", "unicode/utf8.acceptRanges", "internal/bytealg.MaxLen"], apart := false, laid := [("unicode/utf8.acceptRanges", laid_unicode_utf8_acceptRanges), ("unicode/utf8.first", laid_unicode_utf8_first)] }
def SuperWritesSaid : Prop := superWritesRow.holds Tryd.pinned (OpenSpec.ofChange superWritesSpec)

/-- ITS FALSE NEIGHBOUR: 'it returns false'. Refute it at one input. -/
def superWritesWrong : ChangeSpec := { name := "superWrites", fn := fun _ => fun
  | [d1, d2] => { results := [.lit (.bool false)], args := [d1, d2] }
  | _ => none }
def SuperWritesWrongFalsely : Prop := superWritesRow.holds Tryd.pinned (OpenSpec.ofChange superWritesWrong)

/-- 'stereobatelaw07.SuperReads': WHATEVER THE INPUT: true; the input reads as it did. -/
def superReadsSpec : ChangeSpec := { name := "superReads", fn := fun _ => fun
  | [d1, d2, d3, d4, d5, d6] => { results := [.lit (.bool true)], args := [d1, d2, d3, d4, d5, d6] }
  | _ => none }
def superReadsRow : OpenClaim := { program := "ytkmbbgnbklklcaadoor", sum := "b017e3b010a5ec48250f9ad5e509da52c8353390ce8d70dcb6c31e71eac35a09", func := "stereobate/stereobatelaw07.SuperReads", spec := "superReads", inPlace := ["internal/abi.NoEscape", "internal/bytealg.MakeNoZero", "internal/bytealg.IndexByteString", "internal/bytealg.IndexString"], unfollowed := true, recurses := true, named := ["unicode/utf8.first", "unicode/utf8.acceptRanges", "internal/bytealg.MaxLen"], apart := false, laid := [("unicode/utf8.acceptRanges", laid_unicode_utf8_acceptRanges), ("unicode/utf8.first", laid_unicode_utf8_first)] }
def SuperReadsSaid : Prop := superReadsRow.holds Tryd.pinned (OpenSpec.ofChange superReadsSpec)

/-- ITS FALSE NEIGHBOUR: 'it returns false'. Refute it at one input. -/
def superReadsWrong : ChangeSpec := { name := "superReads", fn := fun _ => fun
  | [d1, d2, d3, d4, d5, d6] => { results := [.lit (.bool false)], args := [d1, d2, d3, d4, d5, d6] }
  | _ => none }
def SuperReadsWrongFalsely : Prop := superReadsRow.holds Tryd.pinned (OpenSpec.ofChange superReadsWrong)

/-- 'stereobatelaw07.SuperSpoilt': WHATEVER THE INPUT: true; the input reads as it did. -/
def superSpoiltSpec : ChangeSpec := { name := "superSpoilt", fn := fun _ => fun
  | [d1, d2, d3] => { results := [.lit (.bool true)], args := [d1, d2, d3] }
  | _ => none }
def superSpoiltRow : OpenClaim := { program := "ytkmbbgnbklklcaadoor", sum := "b017e3b010a5ec48250f9ad5e509da52c8353390ce8d70dcb6c31e71eac35a09", func := "stereobate/stereobatelaw07.SuperSpoilt", spec := "superSpoilt", inPlace := ["internal/abi.NoEscape", "internal/bytealg.MakeNoZero", "internal/bytealg.IndexByteString", "internal/bytealg.IndexString"], unfollowed := true, recurses := true, named := ["unicode/utf8.first", "unicode/utf8.acceptRanges", "internal/bytealg.MaxLen"], apart := false, laid := [("unicode/utf8.acceptRanges", laid_unicode_utf8_acceptRanges), ("unicode/utf8.first", laid_unicode_utf8_first)] }
def SuperSpoiltSaid : Prop := superSpoiltRow.holds Tryd.pinned (OpenSpec.ofChange superSpoiltSpec)

/-- ITS FALSE NEIGHBOUR: 'it returns false'. Refute it at one input. -/
def superSpoiltWrong : ChangeSpec := { name := "superSpoilt", fn := fun _ => fun
  | [d1, d2, d3] => { results := [.lit (.bool false)], args := [d1, d2, d3] }
  | _ => none }
def SuperSpoiltWrongFalsely : Prop := superSpoiltRow.holds Tryd.pinned (OpenSpec.ofChange superSpoiltWrong)

/-- 'stereobatelaw07.SuperTurn': WHATEVER THE INPUT: true; the input reads as it did. -/
def superTurnSpec : ChangeSpec := { name := "superTurn", fn := fun _ => fun
  | [d1, d2, d3, d4] => { results := [.lit (.bool true)], args := [d1, d2, d3, d4] }
  | _ => none }
def superTurnRow : OpenClaim := { program := "ytkmbbgnbklklcaadoor", sum := "b017e3b010a5ec48250f9ad5e509da52c8353390ce8d70dcb6c31e71eac35a09", func := "stereobate/stereobatelaw07.SuperTurn", spec := "superTurn", inPlace := ["internal/abi.NoEscape", "internal/bytealg.MakeNoZero", "internal/bytealg.IndexByteString", "internal/bytealg.IndexString"], unfollowed := true, recurses := true, named := ["unicode/utf8.first", "unicode/utf8.acceptRanges", "internal/bytealg.MaxLen"], apart := false, laid := [("unicode/utf8.acceptRanges", laid_unicode_utf8_acceptRanges), ("unicode/utf8.first", laid_unicode_utf8_first)] }
def SuperTurnSaid : Prop := superTurnRow.holds Tryd.pinned (OpenSpec.ofChange superTurnSpec)

/-- ITS FALSE NEIGHBOUR: 'it returns false'. Refute it at one input. -/
def superTurnWrong : ChangeSpec := { name := "superTurn", fn := fun _ => fun
  | [d1, d2, d3, d4] => { results := [.lit (.bool false)], args := [d1, d2, d3, d4] }
  | _ => none }
def SuperTurnWrongFalsely : Prop := superTurnRow.holds Tryd.pinned (OpenSpec.ofChange superTurnWrong)

/- THE SECOND FORM. 'bulk': how many values and letters a reading holds, each counted each time it is reached (what is shared counts as often as it is met; a slice's spare places count too). A statement '..UptoSaid' is the law's where the arguments, and the package variables that the reading takes, are together of bulk at most 1048576: NARROWER than '..Said'. Prove '..Said' where nothing that the law and all that it calls make is longer than what came in: it says more and counts as full. Else prove '..UptoSaid'. A law counts once. -/
mutual
def uptoBulk {H : Type} : DataW H → Nat
  | .lit (.string bytes) => bytes.length + 1
  | .lit _ => 1
  | .nil => 1
  | .ptr d => uptoBulk d + 1
  | .slice elems spare => uptoBulkAll elems + uptoBulkAll spare + 1
  | .agg parts => uptoBulkAll parts + 1
  | .iface _ d => uptoBulk d + 1
  | .map entries => uptoBulkEntries entries + 1
  | .held _ => 1
def uptoBulkAll {H : Type} : List (DataW H) → Nat
  | [] => 0
  | d :: r => uptoBulk d + uptoBulkAll r
def uptoBulkEntries {H : Type} : List (Lit × DataW H) → Nat
  | [] => 0
  | x :: r => uptoBulkEntry x + uptoBulkEntries r
def uptoBulkEntry {H : Type} : Lit × DataW H → Nat
  | (.string bytes, d) => bytes.length + uptoBulk d + 1
  | (_, d) => uptoBulk d + 1
 end
def uptoSmall : (H : Type) → List (DataW H) → Bool := fun _ ds => decide (uptoBulkAll ds ≤ 1048576)
def OpenSpec.upto (s : _root_.Go.ChangeSpec) : _root_.Go.OpenSpec := { _root_.Go.OpenSpec.ofChange s with cond := some uptoSmall }

/-- 'stereobatelaw03.PackTakes', WHERE WHAT IT READS IS OF BULK AT MOST 1048576: true; the input reads as it did. -/
def packTakesUptoRow : OpenClaim := { program := "ytkmbbgnbklklcaadoor", sum := "b017e3b010a5ec48250f9ad5e509da52c8353390ce8d70dcb6c31e71eac35a09", func := "stereobate/stereobatelaw03.PackTakes", spec := "packTakes", inPlace := ["internal/bytealg.IndexByteString", "internal/bytealg.IndexString"], unfollowed := true, recurses := true, named := ["unicode/utf8.first", "unicode/utf8.acceptRanges", "internal/bytealg.MaxLen"], apart := false, laid := [("unicode/utf8.acceptRanges", laid_unicode_utf8_acceptRanges), ("unicode/utf8.first", laid_unicode_utf8_first)], narrowed := true }
def PackTakesUptoSaid : Prop := packTakesUptoRow.holds Tryd.pinned (OpenSpec.upto packTakesSpec)

/-- 'stereobatelaw03.PackPuts', WHERE WHAT IT READS IS OF BULK AT MOST 1048576: true; the input reads as it did. -/
def packPutsUptoRow : OpenClaim := { program := "ytkmbbgnbklklcaadoor", sum := "b017e3b010a5ec48250f9ad5e509da52c8353390ce8d70dcb6c31e71eac35a09", func := "stereobate/stereobatelaw03.PackPuts", spec := "packPuts", inPlace := ["internal/abi.NoEscape", "internal/bytealg.MakeNoZero", "internal/bytealg.IndexByteString", "internal/bytealg.IndexString"], unfollowed := true, recurses := true, named := ["unicode/utf8.first", "unicode/utf8.acceptRanges", "internal/bytealg.MaxLen"], apart := false, laid := [("unicode/utf8.acceptRanges", laid_unicode_utf8_acceptRanges), ("unicode/utf8.first", laid_unicode_utf8_first)], narrowed := true }
def PackPutsUptoSaid : Prop := packPutsUptoRow.holds Tryd.pinned (OpenSpec.upto packPutsSpec)

/-- 'stereobatelaw05.StampOpens', WHERE WHAT IT READS IS OF BULK AT MOST 1048576: true; the input reads as it did. -/
def stampOpensUptoRow : OpenClaim := { program := "ytkmbbgnbklklcaadoor", sum := "b017e3b010a5ec48250f9ad5e509da52c8353390ce8d70dcb6c31e71eac35a09", func := "stereobate/stereobatelaw05.StampOpens", spec := "stampOpens", inPlace := ["internal/abi.NoEscape", "internal/bytealg.MakeNoZero", "internal/bytealg.IndexByteString", "internal/bytealg.IndexString"], unfollowed := true, recurses := true, named := ["unicode/utf8.first", "unicode/utf8.acceptRanges", "internal/bytealg.MaxLen"], apart := false, laid := [("unicode/utf8.acceptRanges", laid_unicode_utf8_acceptRanges), ("unicode/utf8.first", laid_unicode_utf8_first)], narrowed := true }
def StampOpensUptoSaid : Prop := stampOpensUptoRow.holds Tryd.pinned (OpenSpec.upto stampOpensSpec)

/-- 'stereobatelaw05.StampTorn', WHERE WHAT IT READS IS OF BULK AT MOST 1048576: true; the input reads as it did. -/
def stampTornUptoRow : OpenClaim := { program := "ytkmbbgnbklklcaadoor", sum := "b017e3b010a5ec48250f9ad5e509da52c8353390ce8d70dcb6c31e71eac35a09", func := "stereobate/stereobatelaw05.StampTorn", spec := "stampTorn", inPlace := ["internal/abi.NoEscape", "internal/bytealg.MakeNoZero", "internal/bytealg.IndexByteString", "internal/bytealg.IndexString"], unfollowed := true, recurses := true, named := ["unicode/utf8.first", "unicode/utf8.acceptRanges", "internal/bytealg.MaxLen"], apart := false, laid := [("unicode/utf8.acceptRanges", laid_unicode_utf8_acceptRanges), ("unicode/utf8.first", laid_unicode_utf8_first)], narrowed := true }
def StampTornUptoSaid : Prop := stampTornUptoRow.holds Tryd.pinned (OpenSpec.upto stampTornSpec)

/-- 'stereobatelaw05.StampFrames', WHERE WHAT IT READS IS OF BULK AT MOST 1048576: true; the input reads as it did. -/
def stampFramesUptoRow : OpenClaim := { program := "ytkmbbgnbklklcaadoor", sum := "b017e3b010a5ec48250f9ad5e509da52c8353390ce8d70dcb6c31e71eac35a09", func := "stereobate/stereobatelaw05.StampFrames", spec := "stampFrames", inPlace := ["internal/abi.NoEscape", "internal/bytealg.MakeNoZero", "internal/bytealg.IndexByteString", "internal/bytealg.IndexString"], unfollowed := true, recurses := true, named := ["unicode/utf8.first", "unicode/utf8.acceptRanges", "internal/bytealg.MaxLen"], apart := false, laid := [("unicode/utf8.acceptRanges", laid_unicode_utf8_acceptRanges), ("unicode/utf8.first", laid_unicode_utf8_first)], narrowed := true }
def StampFramesUptoSaid : Prop := stampFramesUptoRow.holds Tryd.pinned (OpenSpec.upto stampFramesSpec)

/-- 'stereobatelaw08.RingAppends', WHERE WHAT IT READS IS OF BULK AT MOST 1048576: true; the input reads as it did. -/
def ringAppendsUptoRow : OpenClaim := { program := "ytkmbbgnbklklcaadoor", sum := "b017e3b010a5ec48250f9ad5e509da52c8353390ce8d70dcb6c31e71eac35a09", func := "stereobate/stereobatelaw08.RingAppends", spec := "ringAppends", inPlace := ["internal/abi.NoEscape", "internal/bytealg.MakeNoZero", "internal/bytealg.IndexByteString", "internal/bytealg.IndexString"], unfollowed := true, recurses := true, named := ["unicode/utf8.first", "unicode/utf8.acceptRanges", "internal/bytealg.MaxLen"], apart := false, laid := [("unicode/utf8.acceptRanges", laid_unicode_utf8_acceptRanges), ("unicode/utf8.first", laid_unicode_utf8_first)], narrowed := true }
def RingAppendsUptoSaid : Prop := ringAppendsUptoRow.holds Tryd.pinned (OpenSpec.upto ringAppendsSpec)

/-- 'stereobatelaw08.RingScans', WHERE WHAT IT READS IS OF BULK AT MOST 1048576: true; the input reads as it did. -/
def ringScansUptoRow : OpenClaim := { program := "ytkmbbgnbklklcaadoor", sum := "b017e3b010a5ec48250f9ad5e509da52c8353390ce8d70dcb6c31e71eac35a09", func := "stereobate/stereobatelaw08.RingScans", spec := "ringScans", inPlace := ["internal/abi.NoEscape", "internal/bytealg.MakeNoZero", "internal/bytealg.IndexByteString", "internal/bytealg.IndexString"], unfollowed := true, recurses := true, named := ["unicode/utf8.first", "unicode/utf8.acceptRanges", "internal/bytealg.MaxLen"], apart := false, laid := [("unicode/utf8.acceptRanges", laid_unicode_utf8_acceptRanges), ("unicode/utf8.first", laid_unicode_utf8_first)], narrowed := true }
def RingScansUptoSaid : Prop := ringScansUptoRow.holds Tryd.pinned (OpenSpec.upto ringScansSpec)

/-- 'stereobatelaw08.RingCosts', WHERE WHAT IT READS IS OF BULK AT MOST 1048576: true; the input reads as it did. -/
def ringCostsUptoRow : OpenClaim := { program := "ytkmbbgnbklklcaadoor", sum := "b017e3b010a5ec48250f9ad5e509da52c8353390ce8d70dcb6c31e71eac35a09", func := "stereobate/stereobatelaw08.RingCosts", spec := "ringCosts", inPlace := ["internal/abi.NoEscape", "internal/bytealg.MakeNoZero", "internal/bytealg.IndexByteString", "internal/bytealg.IndexString"], unfollowed := true, recurses := true, named := ["unicode/utf8.first", "unicode/utf8.acceptRanges", "internal/bytealg.MaxLen"], apart := false, laid := [("unicode/utf8.acceptRanges", laid_unicode_utf8_acceptRanges), ("unicode/utf8.first", laid_unicode_utf8_first)], narrowed := true }
def RingCostsUptoSaid : Prop := ringCostsUptoRow.holds Tryd.pinned (OpenSpec.upto ringCostsSpec)

/-- 'stereobatelaw08.RingKept', WHERE WHAT IT READS IS OF BULK AT MOST 1048576: true; the input reads as it did. -/
def ringKeptUptoRow : OpenClaim := { program := "ytkmbbgnbklklcaadoor", sum := "b017e3b010a5ec48250f9ad5e509da52c8353390ce8d70dcb6c31e71eac35a09", func := "stereobate/stereobatelaw08.RingKept", spec := "ringKept", inPlace := ["internal/abi.NoEscape", "internal/bytealg.MakeNoZero", "internal/bytealg.IndexByteString", "internal/bytealg.IndexString"], unfollowed := true, recurses := true, named := ["unicode/utf8.first", "unicode/utf8.acceptRanges", "internal/bytealg.MaxLen"], apart := false, laid := [("unicode/utf8.acceptRanges", laid_unicode_utf8_acceptRanges), ("unicode/utf8.first", laid_unicode_utf8_first)], narrowed := true }
def RingKeptUptoSaid : Prop := ringKeptUptoRow.holds Tryd.pinned (OpenSpec.upto ringKeptSpec)

/-- 'stereobatelaw07.SuperWrites', WHERE WHAT IT READS IS OF BULK AT MOST 1048576: true; the input reads as it did. -/
def superWritesUptoRow : OpenClaim := { program := "ytkmbbgnbklklcaadoor", sum := "b017e3b010a5ec48250f9ad5e509da52c8353390ce8d70dcb6c31e71eac35a09", func := "stereobate/stereobatelaw07.SuperWrites", spec := "superWrites", inPlace := ["internal/abi.NoEscape", "internal/bytealg.MakeNoZero", "internal/bytealg.IndexByteString", "internal/bytealg.IndexString"], unfollowed := true, recurses := true, named := ["unicode/utf8.first", "unicode/utf8.acceptRanges", "internal/bytealg.MaxLen"], apart := false, laid := [("unicode/utf8.acceptRanges", laid_unicode_utf8_acceptRanges), ("unicode/utf8.first", laid_unicode_utf8_first)], narrowed := true }
def SuperWritesUptoSaid : Prop := superWritesUptoRow.holds Tryd.pinned (OpenSpec.upto superWritesSpec)

/-- 'stereobatelaw07.SuperReads', WHERE WHAT IT READS IS OF BULK AT MOST 1048576: true; the input reads as it did. -/
def superReadsUptoRow : OpenClaim := { program := "ytkmbbgnbklklcaadoor", sum := "b017e3b010a5ec48250f9ad5e509da52c8353390ce8d70dcb6c31e71eac35a09", func := "stereobate/stereobatelaw07.SuperReads", spec := "superReads", inPlace := ["internal/abi.NoEscape", "internal/bytealg.MakeNoZero", "internal/bytealg.IndexByteString", "internal/bytealg.IndexString"], unfollowed := true, recurses := true, named := ["unicode/utf8.first", "unicode/utf8.acceptRanges", "internal/bytealg.MaxLen"], apart := false, laid := [("unicode/utf8.acceptRanges", laid_unicode_utf8_acceptRanges), ("unicode/utf8.first", laid_unicode_utf8_first)], narrowed := true }
def SuperReadsUptoSaid : Prop := superReadsUptoRow.holds Tryd.pinned (OpenSpec.upto superReadsSpec)

/-- 'stereobatelaw07.SuperSpoilt', WHERE WHAT IT READS IS OF BULK AT MOST 1048576: true; the input reads as it did. -/
def superSpoiltUptoRow : OpenClaim := { program := "ytkmbbgnbklklcaadoor", sum := "b017e3b010a5ec48250f9ad5e509da52c8353390ce8d70dcb6c31e71eac35a09", func := "stereobate/stereobatelaw07.SuperSpoilt", spec := "superSpoilt", inPlace := ["internal/abi.NoEscape", "internal/bytealg.MakeNoZero", "internal/bytealg.IndexByteString", "internal/bytealg.IndexString"], unfollowed := true, recurses := true, named := ["unicode/utf8.first", "unicode/utf8.acceptRanges", "internal/bytealg.MaxLen"], apart := false, laid := [("unicode/utf8.acceptRanges", laid_unicode_utf8_acceptRanges), ("unicode/utf8.first", laid_unicode_utf8_first)], narrowed := true }
def SuperSpoiltUptoSaid : Prop := superSpoiltUptoRow.holds Tryd.pinned (OpenSpec.upto superSpoiltSpec)

/-- 'stereobatelaw07.SuperTurn', WHERE WHAT IT READS IS OF BULK AT MOST 1048576: true; the input reads as it did. -/
def superTurnUptoRow : OpenClaim := { program := "ytkmbbgnbklklcaadoor", sum := "b017e3b010a5ec48250f9ad5e509da52c8353390ce8d70dcb6c31e71eac35a09", func := "stereobate/stereobatelaw07.SuperTurn", spec := "superTurn", inPlace := ["internal/abi.NoEscape", "internal/bytealg.MakeNoZero", "internal/bytealg.IndexByteString", "internal/bytealg.IndexString"], unfollowed := true, recurses := true, named := ["unicode/utf8.first", "unicode/utf8.acceptRanges", "internal/bytealg.MaxLen"], apart := false, laid := [("unicode/utf8.acceptRanges", laid_unicode_utf8_acceptRanges), ("unicode/utf8.first", laid_unicode_utf8_first)], narrowed := true }
def SuperTurnUptoSaid : Prop := superTurnUptoRow.holds Tryd.pinned (OpenSpec.upto superTurnSpec)

end Rows
end Go.Proofs.YtkmbbgnbklklcaaDoor
