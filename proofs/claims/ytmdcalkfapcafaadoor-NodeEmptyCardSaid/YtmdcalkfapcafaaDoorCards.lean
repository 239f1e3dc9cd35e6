/-
  DERIVED. GIVEN WITH THE SEED: THE CARDS: each row of YtmdcalkfapcafaaDoorRows.lean that lists a variable, with what it lists TIED to the program's text (the seventh form; the later family's looks); each row that meets fmt, with fmt's text TOLD by the authors' own Lean function (tested against real Go, not proved from fmt's source: count such statements apart). THE CARD IS WHAT COUNTS. Prove the row's statement (the work); the ties are given (YtmdcalkfapcafaaDoorTie.lean); close each card by the builder's one call (the guide's Derived/Test/ToyasCard.lean, 'card_holds'). Laid BY PROGRAM, IN A SANDBOX (cutbox-door.mjs). By AI agents, Wed Nov 11 2026. No macro, syntax, notation, axiom, sorry.
-/
import Derived.Test.YtmdcalkfapcafaaDoorRows
import GoSem.ClaimSeven
namespace Go.Proofs.YtmdcalkfapcafaaDoor
namespace Rows

/-- THE TIED CARD OF 'stereobatelaw01.ShaParts'. -/
def shaPartsCard : Claim7 := { stood := { row := shaPartsRow, standIns := [], harness := (true, "36081fb9f8f5cabbb4eb0035c73f297a5d101f5fc53c3feebb2de29a0b06c432"), looks := false }, kinds := [], alts := [], laidByText := true, laidKinds := [.data], laidTests := true, laidLooks := .later }
def ShaPartsCardSaid : Prop := Claim7.holds Tryd.pinned (.plain (OpenSpec.ofChange shaPartsSpec)) shaPartsCard

/-- THE TIED CARD OF 'stereobatelaw01.ShaApart'. -/
def shaApartCard : Claim7 := { stood := { row := shaApartRow, standIns := [], harness := (true, "36081fb9f8f5cabbb4eb0035c73f297a5d101f5fc53c3feebb2de29a0b06c432"), looks := false }, kinds := [], alts := [], laidByText := true, laidKinds := [.data], laidTests := true, laidLooks := .later }
def ShaApartCardSaid : Prop := Claim7.holds Tryd.pinned (.plain (OpenSpec.ofChange shaApartSpec)) shaApartCard

/-- THE TIED CARD OF 'stereobatelaw01.ShaSums'. -/
def shaSumsCard : Claim7 := { stood := { row := shaSumsRow, standIns := [], harness := (true, "36081fb9f8f5cabbb4eb0035c73f297a5d101f5fc53c3feebb2de29a0b06c432"), looks := false }, kinds := [], alts := [], laidByText := true, laidKinds := [.data], laidTests := true, laidLooks := .later }
def ShaSumsCardSaid : Prop := Claim7.holds Tryd.pinned (.plain (OpenSpec.ofChange shaSumsSpec)) shaSumsCard

/-- THE TIED CARD OF 'stereobatelaw01.ShaHead'. -/
def shaHeadCard : Claim7 := { stood := { row := shaHeadRow, standIns := [], harness := (true, "36081fb9f8f5cabbb4eb0035c73f297a5d101f5fc53c3feebb2de29a0b06c432"), looks := false }, kinds := [], alts := [], laidByText := true, laidKinds := [.data], laidTests := true, laidLooks := .later }
def ShaHeadCardSaid : Prop := Claim7.holds Tryd.pinned (.plain (OpenSpec.ofChange shaHeadSpec)) shaHeadCard

/-- THE TIED CARD OF 'stereobatelaw12.NodeDigest'. -/
def nodeDigestCard : Claim7 := { stood := { row := nodeDigestRow, standIns := [], harness := (true, "36081fb9f8f5cabbb4eb0035c73f297a5d101f5fc53c3feebb2de29a0b06c432"), looks := false }, kinds := [], alts := [], laidByText := true, laidKinds := [.data], laidTests := true, laidLooks := .later }
def NodeDigestCardSaid : Prop := Claim7.holds Tryd.pinned (.plain (OpenSpec.ofChange nodeDigestSpec)) nodeDigestCard

/-- THE TIED CARD OF 'stereobatelaw12.NodeSlots'. -/
def nodeSlotsCard : Claim7 := { stood := { row := nodeSlotsRow, standIns := [], harness := (true, "36081fb9f8f5cabbb4eb0035c73f297a5d101f5fc53c3feebb2de29a0b06c432"), looks := false }, kinds := [], alts := [], laidByText := true, laidKinds := [.data], laidTests := true, laidLooks := .later }
def NodeSlotsCardSaid : Prop := Claim7.holds Tryd.pinned (.plain (OpenSpec.ofChange nodeSlotsSpec)) nodeSlotsCard

/-- THE TIED CARD OF 'stereobatelaw12.NodeEmpty'. -/
def nodeEmptyCard : Claim7 := { stood := { row := nodeEmptyRow, standIns := [], harness := (true, "36081fb9f8f5cabbb4eb0035c73f297a5d101f5fc53c3feebb2de29a0b06c432"), looks := false }, kinds := [], alts := [], laidByText := true, laidKinds := [.data], laidTests := true, laidLooks := .later }
def NodeEmptyCardSaid : Prop := Claim7.holds Tryd.pinned (.plain (OpenSpec.ofChange nodeEmptySpec)) nodeEmptyCard

/-- THE SECOND FORM's CARD OF 'stereobatelaw01.ShaParts'. -/
def shaPartsUptoCard : Claim7 := { stood := { row := shaPartsUptoRow, standIns := [], harness := (true, "36081fb9f8f5cabbb4eb0035c73f297a5d101f5fc53c3feebb2de29a0b06c432"), looks := false }, kinds := [], alts := [], laidByText := true, laidKinds := [.data], laidTests := true, laidLooks := .later }
def ShaPartsUptoCardSaid : Prop := Claim7.holds Tryd.pinned (.plain (OpenSpec.upto shaPartsSpec)) shaPartsUptoCard

/-- THE SECOND FORM's CARD OF 'stereobatelaw01.ShaApart'. -/
def shaApartUptoCard : Claim7 := { stood := { row := shaApartUptoRow, standIns := [], harness := (true, "36081fb9f8f5cabbb4eb0035c73f297a5d101f5fc53c3feebb2de29a0b06c432"), looks := false }, kinds := [], alts := [], laidByText := true, laidKinds := [.data], laidTests := true, laidLooks := .later }
def ShaApartUptoCardSaid : Prop := Claim7.holds Tryd.pinned (.plain (OpenSpec.upto shaApartSpec)) shaApartUptoCard

/-- THE SECOND FORM's CARD OF 'stereobatelaw01.ShaSums'. -/
def shaSumsUptoCard : Claim7 := { stood := { row := shaSumsUptoRow, standIns := [], harness := (true, "36081fb9f8f5cabbb4eb0035c73f297a5d101f5fc53c3feebb2de29a0b06c432"), looks := false }, kinds := [], alts := [], laidByText := true, laidKinds := [.data], laidTests := true, laidLooks := .later }
def ShaSumsUptoCardSaid : Prop := Claim7.holds Tryd.pinned (.plain (OpenSpec.upto shaSumsSpec)) shaSumsUptoCard

/-- THE SECOND FORM's CARD OF 'stereobatelaw01.ShaHead'. -/
def shaHeadUptoCard : Claim7 := { stood := { row := shaHeadUptoRow, standIns := [], harness := (true, "36081fb9f8f5cabbb4eb0035c73f297a5d101f5fc53c3feebb2de29a0b06c432"), looks := false }, kinds := [], alts := [], laidByText := true, laidKinds := [.data], laidTests := true, laidLooks := .later }
def ShaHeadUptoCardSaid : Prop := Claim7.holds Tryd.pinned (.plain (OpenSpec.upto shaHeadSpec)) shaHeadUptoCard

/-- THE SECOND FORM's CARD OF 'stereobatelaw12.NodeDigest'. -/
def nodeDigestUptoCard : Claim7 := { stood := { row := nodeDigestUptoRow, standIns := [], harness := (true, "36081fb9f8f5cabbb4eb0035c73f297a5d101f5fc53c3feebb2de29a0b06c432"), looks := false }, kinds := [], alts := [], laidByText := true, laidKinds := [.data], laidTests := true, laidLooks := .later }
def NodeDigestUptoCardSaid : Prop := Claim7.holds Tryd.pinned (.plain (OpenSpec.upto nodeDigestSpec)) nodeDigestUptoCard

/-- THE SECOND FORM's CARD OF 'stereobatelaw12.NodeSlots'. -/
def nodeSlotsUptoCard : Claim7 := { stood := { row := nodeSlotsUptoRow, standIns := [], harness := (true, "36081fb9f8f5cabbb4eb0035c73f297a5d101f5fc53c3feebb2de29a0b06c432"), looks := false }, kinds := [], alts := [], laidByText := true, laidKinds := [.data], laidTests := true, laidLooks := .later }
def NodeSlotsUptoCardSaid : Prop := Claim7.holds Tryd.pinned (.plain (OpenSpec.upto nodeSlotsSpec)) nodeSlotsUptoCard

/-- THE SECOND FORM's CARD OF 'stereobatelaw12.NodeEmpty'. -/
def nodeEmptyUptoCard : Claim7 := { stood := { row := nodeEmptyUptoRow, standIns := [], harness := (true, "36081fb9f8f5cabbb4eb0035c73f297a5d101f5fc53c3feebb2de29a0b06c432"), looks := false }, kinds := [], alts := [], laidByText := true, laidKinds := [.data], laidTests := true, laidLooks := .later }
def NodeEmptyUptoCardSaid : Prop := Claim7.holds Tryd.pinned (.plain (OpenSpec.upto nodeEmptySpec)) nodeEmptyUptoCard
end Rows
end Go.Proofs.YtmdcalkfapcafaaDoor
