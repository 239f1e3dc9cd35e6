/-
  DERIVED. GIVEN WITH THE SEED: THE CARDS: each row of YtkmbbgnbklklcaaDoorRows.lean that lists a variable, with what it lists TIED to the program's text (the seventh form; the later family's looks); each row that meets fmt, with fmt's text TOLD by the authors' own Lean function (tested against real Go, not proved from fmt's source: count such statements apart). THE CARD IS WHAT COUNTS. Prove the row's statement (the work); the ties are given (YtkmbbgnbklklcaaDoorTie.lean); close each card by the builder's one call (the guide's Derived/Test/ToyasCard.lean, 'card_holds'). Laid BY PROGRAM, IN A SANDBOX (cutbox-door.mjs). By AI agents, Wed Nov 11 2026. No macro, syntax, notation, axiom, sorry.
-/
import Derived.Test.YtkmbbgnbklklcaaDoorRows
import GoSem.ClaimSeven
namespace Go.Proofs.YtkmbbgnbklklcaaDoor
namespace Rows

/-- THE TIED CARD OF 'stereobatelaw03.PackTakes'. -/
def packTakesCard : Claim7 := { stood := { row := packTakesRow, standIns := [], harness := (true, "d71d81e95c04230741320d0c3fd4da9cdef4c08888f4a5d5b00b8cb6e28b9915"), looks := true }, kinds := [], alts := [], laidByText := true, laidKinds := [.data, .pinned], laidTests := true, laidLooks := .later }
def PackTakesCardSaid : Prop := Claim7.holds Tryd.pinned (.plain (OpenSpec.ofChange packTakesSpec)) packTakesCard

/-- THE TIED CARD OF 'stereobatelaw03.PackPuts'. -/
def packPutsCard : Claim7 := { stood := { row := packPutsRow, standIns := [], harness := (true, "d71d81e95c04230741320d0c3fd4da9cdef4c08888f4a5d5b00b8cb6e28b9915"), looks := true }, kinds := [], alts := [], laidByText := true, laidKinds := [.data, .pinned], laidTests := true, laidLooks := .later }
def PackPutsCardSaid : Prop := Claim7.holds Tryd.pinned (.plain (OpenSpec.ofChange packPutsSpec)) packPutsCard

/-- THE TIED CARD OF 'stereobatelaw05.StampOpens'. -/
def stampOpensCard : Claim7 := { stood := { row := stampOpensRow, standIns := [], harness := (true, "d71d81e95c04230741320d0c3fd4da9cdef4c08888f4a5d5b00b8cb6e28b9915"), looks := true }, kinds := [], alts := [], laidByText := true, laidKinds := [.data, .pinned], laidTests := true, laidLooks := .later }
def StampOpensCardSaid : Prop := Claim7.holds Tryd.pinned (.plain (OpenSpec.ofChange stampOpensSpec)) stampOpensCard

/-- THE TIED CARD OF 'stereobatelaw05.StampTorn'. -/
def stampTornCard : Claim7 := { stood := { row := stampTornRow, standIns := [], harness := (true, "d71d81e95c04230741320d0c3fd4da9cdef4c08888f4a5d5b00b8cb6e28b9915"), looks := true }, kinds := [], alts := [], laidByText := true, laidKinds := [.data, .pinned], laidTests := true, laidLooks := .later }
def StampTornCardSaid : Prop := Claim7.holds Tryd.pinned (.plain (OpenSpec.ofChange stampTornSpec)) stampTornCard

/-- THE TIED CARD OF 'stereobatelaw05.StampFrames'. -/
def stampFramesCard : Claim7 := { stood := { row := stampFramesRow, standIns := [], harness := (true, "d71d81e95c04230741320d0c3fd4da9cdef4c08888f4a5d5b00b8cb6e28b9915"), looks := true }, kinds := [], alts := [], laidByText := true, laidKinds := [.data, .pinned], laidTests := true, laidLooks := .later }
def StampFramesCardSaid : Prop := Claim7.holds Tryd.pinned (.plain (OpenSpec.ofChange stampFramesSpec)) stampFramesCard

/-- THE TIED CARD OF 'stereobatelaw08.RingAppends'. -/
def ringAppendsCard : Claim7 := { stood := { row := ringAppendsRow, standIns := [], harness := (true, "d71d81e95c04230741320d0c3fd4da9cdef4c08888f4a5d5b00b8cb6e28b9915"), looks := true }, kinds := [], alts := [], laidByText := true, laidKinds := [.data, .pinned], laidTests := true, laidLooks := .later }
def RingAppendsCardSaid : Prop := Claim7.holds Tryd.pinned (.plain (OpenSpec.ofChange ringAppendsSpec)) ringAppendsCard

/-- THE TIED CARD OF 'stereobatelaw08.RingScans'. -/
def ringScansCard : Claim7 := { stood := { row := ringScansRow, standIns := [], harness := (true, "d71d81e95c04230741320d0c3fd4da9cdef4c08888f4a5d5b00b8cb6e28b9915"), looks := true }, kinds := [], alts := [], laidByText := true, laidKinds := [.data, .pinned], laidTests := true, laidLooks := .later }
def RingScansCardSaid : Prop := Claim7.holds Tryd.pinned (.plain (OpenSpec.ofChange ringScansSpec)) ringScansCard

/-- THE TIED CARD OF 'stereobatelaw08.RingCosts'. -/
def ringCostsCard : Claim7 := { stood := { row := ringCostsRow, standIns := [], harness := (true, "d71d81e95c04230741320d0c3fd4da9cdef4c08888f4a5d5b00b8cb6e28b9915"), looks := true }, kinds := [], alts := [], laidByText := true, laidKinds := [.data, .pinned], laidTests := true, laidLooks := .later }
def RingCostsCardSaid : Prop := Claim7.holds Tryd.pinned (.plain (OpenSpec.ofChange ringCostsSpec)) ringCostsCard

/-- THE TIED CARD OF 'stereobatelaw08.RingKept'. -/
def ringKeptCard : Claim7 := { stood := { row := ringKeptRow, standIns := [], harness := (true, "d71d81e95c04230741320d0c3fd4da9cdef4c08888f4a5d5b00b8cb6e28b9915"), looks := true }, kinds := [], alts := [], laidByText := true, laidKinds := [.data, .pinned], laidTests := true, laidLooks := .later }
def RingKeptCardSaid : Prop := Claim7.holds Tryd.pinned (.plain (OpenSpec.ofChange ringKeptSpec)) ringKeptCard

/-- THE TIED CARD OF 'stereobatelaw07.SuperWrites'. -/
def superWritesCard : Claim7 := { stood := { row := superWritesRow, standIns := [], harness := (true, "d71d81e95c04230741320d0c3fd4da9cdef4c08888f4a5d5b00b8cb6e28b9915"), looks := true }, kinds := [], alts := [], laidByText := true, laidKinds := [.data, .pinned], laidTests := true, laidLooks := .later }
def SuperWritesCardSaid : Prop := Claim7.holds Tryd.pinned (.plain (OpenSpec.ofChange superWritesSpec)) superWritesCard

/-- THE TIED CARD OF 'stereobatelaw07.SuperReads'. -/
def superReadsCard : Claim7 := { stood := { row := superReadsRow, standIns := [], harness := (true, "d71d81e95c04230741320d0c3fd4da9cdef4c08888f4a5d5b00b8cb6e28b9915"), looks := true }, kinds := [], alts := [], laidByText := true, laidKinds := [.data, .pinned], laidTests := true, laidLooks := .later }
def SuperReadsCardSaid : Prop := Claim7.holds Tryd.pinned (.plain (OpenSpec.ofChange superReadsSpec)) superReadsCard

/-- THE TIED CARD OF 'stereobatelaw07.SuperSpoilt'. -/
def superSpoiltCard : Claim7 := { stood := { row := superSpoiltRow, standIns := [], harness := (true, "d71d81e95c04230741320d0c3fd4da9cdef4c08888f4a5d5b00b8cb6e28b9915"), looks := true }, kinds := [], alts := [], laidByText := true, laidKinds := [.data, .pinned], laidTests := true, laidLooks := .later }
def SuperSpoiltCardSaid : Prop := Claim7.holds Tryd.pinned (.plain (OpenSpec.ofChange superSpoiltSpec)) superSpoiltCard

/-- THE TIED CARD OF 'stereobatelaw07.SuperTurn'. -/
def superTurnCard : Claim7 := { stood := { row := superTurnRow, standIns := [], harness := (true, "d71d81e95c04230741320d0c3fd4da9cdef4c08888f4a5d5b00b8cb6e28b9915"), looks := true }, kinds := [], alts := [], laidByText := true, laidKinds := [.data, .pinned], laidTests := true, laidLooks := .later }
def SuperTurnCardSaid : Prop := Claim7.holds Tryd.pinned (.plain (OpenSpec.ofChange superTurnSpec)) superTurnCard

/-- THE SECOND FORM's CARD OF 'stereobatelaw03.PackTakes'. -/
def packTakesUptoCard : Claim7 := { stood := { row := packTakesUptoRow, standIns := [], harness := (true, "d71d81e95c04230741320d0c3fd4da9cdef4c08888f4a5d5b00b8cb6e28b9915"), looks := true }, kinds := [], alts := [], laidByText := true, laidKinds := [.data, .pinned], laidTests := true, laidLooks := .later }
def PackTakesUptoCardSaid : Prop := Claim7.holds Tryd.pinned (.plain (OpenSpec.upto packTakesSpec)) packTakesUptoCard

/-- THE SECOND FORM's CARD OF 'stereobatelaw03.PackPuts'. -/
def packPutsUptoCard : Claim7 := { stood := { row := packPutsUptoRow, standIns := [], harness := (true, "d71d81e95c04230741320d0c3fd4da9cdef4c08888f4a5d5b00b8cb6e28b9915"), looks := true }, kinds := [], alts := [], laidByText := true, laidKinds := [.data, .pinned], laidTests := true, laidLooks := .later }
def PackPutsUptoCardSaid : Prop := Claim7.holds Tryd.pinned (.plain (OpenSpec.upto packPutsSpec)) packPutsUptoCard

/-- THE SECOND FORM's CARD OF 'stereobatelaw05.StampOpens'. -/
def stampOpensUptoCard : Claim7 := { stood := { row := stampOpensUptoRow, standIns := [], harness := (true, "d71d81e95c04230741320d0c3fd4da9cdef4c08888f4a5d5b00b8cb6e28b9915"), looks := true }, kinds := [], alts := [], laidByText := true, laidKinds := [.data, .pinned], laidTests := true, laidLooks := .later }
def StampOpensUptoCardSaid : Prop := Claim7.holds Tryd.pinned (.plain (OpenSpec.upto stampOpensSpec)) stampOpensUptoCard

/-- THE SECOND FORM's CARD OF 'stereobatelaw05.StampTorn'. -/
def stampTornUptoCard : Claim7 := { stood := { row := stampTornUptoRow, standIns := [], harness := (true, "d71d81e95c04230741320d0c3fd4da9cdef4c08888f4a5d5b00b8cb6e28b9915"), looks := true }, kinds := [], alts := [], laidByText := true, laidKinds := [.data, .pinned], laidTests := true, laidLooks := .later }
def StampTornUptoCardSaid : Prop := Claim7.holds Tryd.pinned (.plain (OpenSpec.upto stampTornSpec)) stampTornUptoCard

/-- THE SECOND FORM's CARD OF 'stereobatelaw05.StampFrames'. -/
def stampFramesUptoCard : Claim7 := { stood := { row := stampFramesUptoRow, standIns := [], harness := (true, "d71d81e95c04230741320d0c3fd4da9cdef4c08888f4a5d5b00b8cb6e28b9915"), looks := true }, kinds := [], alts := [], laidByText := true, laidKinds := [.data, .pinned], laidTests := true, laidLooks := .later }
def StampFramesUptoCardSaid : Prop := Claim7.holds Tryd.pinned (.plain (OpenSpec.upto stampFramesSpec)) stampFramesUptoCard

/-- THE SECOND FORM's CARD OF 'stereobatelaw08.RingAppends'. -/
def ringAppendsUptoCard : Claim7 := { stood := { row := ringAppendsUptoRow, standIns := [], harness := (true, "d71d81e95c04230741320d0c3fd4da9cdef4c08888f4a5d5b00b8cb6e28b9915"), looks := true }, kinds := [], alts := [], laidByText := true, laidKinds := [.data, .pinned], laidTests := true, laidLooks := .later }
def RingAppendsUptoCardSaid : Prop := Claim7.holds Tryd.pinned (.plain (OpenSpec.upto ringAppendsSpec)) ringAppendsUptoCard

/-- THE SECOND FORM's CARD OF 'stereobatelaw08.RingScans'. -/
def ringScansUptoCard : Claim7 := { stood := { row := ringScansUptoRow, standIns := [], harness := (true, "d71d81e95c04230741320d0c3fd4da9cdef4c08888f4a5d5b00b8cb6e28b9915"), looks := true }, kinds := [], alts := [], laidByText := true, laidKinds := [.data, .pinned], laidTests := true, laidLooks := .later }
def RingScansUptoCardSaid : Prop := Claim7.holds Tryd.pinned (.plain (OpenSpec.upto ringScansSpec)) ringScansUptoCard

/-- THE SECOND FORM's CARD OF 'stereobatelaw08.RingCosts'. -/
def ringCostsUptoCard : Claim7 := { stood := { row := ringCostsUptoRow, standIns := [], harness := (true, "d71d81e95c04230741320d0c3fd4da9cdef4c08888f4a5d5b00b8cb6e28b9915"), looks := true }, kinds := [], alts := [], laidByText := true, laidKinds := [.data, .pinned], laidTests := true, laidLooks := .later }
def RingCostsUptoCardSaid : Prop := Claim7.holds Tryd.pinned (.plain (OpenSpec.upto ringCostsSpec)) ringCostsUptoCard

/-- THE SECOND FORM's CARD OF 'stereobatelaw08.RingKept'. -/
def ringKeptUptoCard : Claim7 := { stood := { row := ringKeptUptoRow, standIns := [], harness := (true, "d71d81e95c04230741320d0c3fd4da9cdef4c08888f4a5d5b00b8cb6e28b9915"), looks := true }, kinds := [], alts := [], laidByText := true, laidKinds := [.data, .pinned], laidTests := true, laidLooks := .later }
def RingKeptUptoCardSaid : Prop := Claim7.holds Tryd.pinned (.plain (OpenSpec.upto ringKeptSpec)) ringKeptUptoCard

/-- THE SECOND FORM's CARD OF 'stereobatelaw07.SuperWrites'. -/
def superWritesUptoCard : Claim7 := { stood := { row := superWritesUptoRow, standIns := [], harness := (true, "d71d81e95c04230741320d0c3fd4da9cdef4c08888f4a5d5b00b8cb6e28b9915"), looks := true }, kinds := [], alts := [], laidByText := true, laidKinds := [.data, .pinned], laidTests := true, laidLooks := .later }
def SuperWritesUptoCardSaid : Prop := Claim7.holds Tryd.pinned (.plain (OpenSpec.upto superWritesSpec)) superWritesUptoCard

/-- THE SECOND FORM's CARD OF 'stereobatelaw07.SuperReads'. -/
def superReadsUptoCard : Claim7 := { stood := { row := superReadsUptoRow, standIns := [], harness := (true, "d71d81e95c04230741320d0c3fd4da9cdef4c08888f4a5d5b00b8cb6e28b9915"), looks := true }, kinds := [], alts := [], laidByText := true, laidKinds := [.data, .pinned], laidTests := true, laidLooks := .later }
def SuperReadsUptoCardSaid : Prop := Claim7.holds Tryd.pinned (.plain (OpenSpec.upto superReadsSpec)) superReadsUptoCard

/-- THE SECOND FORM's CARD OF 'stereobatelaw07.SuperSpoilt'. -/
def superSpoiltUptoCard : Claim7 := { stood := { row := superSpoiltUptoRow, standIns := [], harness := (true, "d71d81e95c04230741320d0c3fd4da9cdef4c08888f4a5d5b00b8cb6e28b9915"), looks := true }, kinds := [], alts := [], laidByText := true, laidKinds := [.data, .pinned], laidTests := true, laidLooks := .later }
def SuperSpoiltUptoCardSaid : Prop := Claim7.holds Tryd.pinned (.plain (OpenSpec.upto superSpoiltSpec)) superSpoiltUptoCard

/-- THE SECOND FORM's CARD OF 'stereobatelaw07.SuperTurn'. -/
def superTurnUptoCard : Claim7 := { stood := { row := superTurnUptoRow, standIns := [], harness := (true, "d71d81e95c04230741320d0c3fd4da9cdef4c08888f4a5d5b00b8cb6e28b9915"), looks := true }, kinds := [], alts := [], laidByText := true, laidKinds := [.data, .pinned], laidTests := true, laidLooks := .later }
def SuperTurnUptoCardSaid : Prop := Claim7.holds Tryd.pinned (.plain (OpenSpec.upto superTurnSpec)) superTurnUptoCard
end Rows
end Go.Proofs.YtkmbbgnbklklcaaDoor
