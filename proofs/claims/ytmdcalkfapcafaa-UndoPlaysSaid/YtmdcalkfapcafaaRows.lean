/-
  No cell of these rows narrows 'for every input' (looked for: loops, veiled, ifaces, maps, wideKeys, modest, calm, conditions, laid).
  DERIVED. THE GIVEN ROWS OF THIS SEAT. 5 by the template 'for every input the law returns true; each argument reads behind the call as it read before'; 0 by the template 'total and deterministic' (their statements: YtmdcalkfapcafaaTotals.lean).
  GIVEN WITH THE SEED: the statements are not yours to turn. If you find one false, say at which input.
  Laid BY PROGRAM, IN A SANDBOX (cutbox-rows.mjs): the forced cells as the released guide's own fill.sh prints them over the translation 22d1f694f8e9ccbd… (all of the seat's roots in one cut). By AI agents, Wed Nov 11 2026. No macro, syntax, notation, axiom, sorry.
-/
import Derived.Test.YtmdcalkfapcafaaChecked
import GoSem.Claim
import GoSem.ClaimJoined
import GoSem.ClaimMapViews
import Derived.JoinedTies
import Derived.KernelRfl
namespace Go.Proofs.Ytmdcalkfapcafaa
/- THE CELL 'sum', in the pinned program and in every row, IS THE sha256 OF THE DUMP (.gsa) THAT YtmdcalkfapcafaaProg.lean LOADS. Nothing in Lean hashes anything: it is a label: what it is worth is what the hold of that sum in a sandbox is worth. -/
noncomputable def Try.pinned : Pinned := { name := "ytmdcalkfapcafaa", sum := "22d1f694f8e9ccbd207e5a59c35aca0760081e499c1479b76b55df253a96ae7e", checked := Try.checked }
namespace Rows
def none {H : Type} : Left H := { results := [], args := [] }

/-- 'stereobatelaw03.PackGuards': WHATEVER THE INPUT: true; the input reads as it did. -/
def packGuardsSpec : ChangeSpec := { name := "packGuards", fn := fun _ => fun
  | [d1, d2] => { results := [.lit (.bool true)], args := [d1, d2] }
  | _ => none }
def packGuardsRow : OpenClaim := { program := "ytmdcalkfapcafaa", sum := "22d1f694f8e9ccbd207e5a59c35aca0760081e499c1479b76b55df253a96ae7e", func := "stereobate/stereobatelaw03.PackGuards", spec := "packGuards", unfollowed := true, recurses := true, apart := false }
def PackGuardsSaid : Prop := packGuardsRow.holds Try.pinned (OpenSpec.ofChange packGuardsSpec)

/-- ITS FALSE NEIGHBOUR: 'it returns false'. Refute it at one input. -/
def packGuardsWrong : ChangeSpec := { name := "packGuards", fn := fun _ => fun
  | [d1, d2] => { results := [.lit (.bool false)], args := [d1, d2] }
  | _ => none }
def PackGuardsWrongFalsely : Prop := packGuardsRow.holds Try.pinned (OpenSpec.ofChange packGuardsWrong)

/-- 'stereobatelaw09.UndoOrder': WHATEVER THE INPUT: true; the input reads as it did. -/
def undoOrderSpec : ChangeSpec := { name := "undoOrder", fn := fun _ => fun
  | [d1, d2] => { results := [.lit (.bool true)], args := [d1, d2] }
  | _ => none }
def undoOrderRow : OpenClaim := { program := "ytmdcalkfapcafaa", sum := "22d1f694f8e9ccbd207e5a59c35aca0760081e499c1479b76b55df253a96ae7e", func := "stereobate/stereobatelaw09.UndoOrder", spec := "undoOrder", unfollowed := true, recurses := true, apart := false }
def UndoOrderSaid : Prop := undoOrderRow.holds Try.pinned (OpenSpec.ofChange undoOrderSpec)

/-- ITS FALSE NEIGHBOUR: 'it returns false'. Refute it at one input. -/
def undoOrderWrong : ChangeSpec := { name := "undoOrder", fn := fun _ => fun
  | [d1, d2] => { results := [.lit (.bool false)], args := [d1, d2] }
  | _ => none }
def UndoOrderWrongFalsely : Prop := undoOrderRow.holds Try.pinned (OpenSpec.ofChange undoOrderWrong)

/-- 'stereobatelaw03.PackOrder': WHATEVER THE INPUT: true; the input reads as it did. -/
def packOrderSpec : ChangeSpec := { name := "packOrder", fn := fun _ => fun
  | [d1, d2] => { results := [.lit (.bool true)], args := [d1, d2] }
  | _ => none }
def packOrderRow : OpenClaim := { program := "ytmdcalkfapcafaa", sum := "22d1f694f8e9ccbd207e5a59c35aca0760081e499c1479b76b55df253a96ae7e", func := "stereobate/stereobatelaw03.PackOrder", spec := "packOrder", unfollowed := true, recurses := true, apart := false }
def PackOrderSaid : Prop := packOrderRow.holds Try.pinned (OpenSpec.ofChange packOrderSpec)

/-- ITS FALSE NEIGHBOUR: 'it returns false'. Refute it at one input. -/
def packOrderWrong : ChangeSpec := { name := "packOrder", fn := fun _ => fun
  | [d1, d2] => { results := [.lit (.bool false)], args := [d1, d2] }
  | _ => none }
def PackOrderWrongFalsely : Prop := packOrderRow.holds Try.pinned (OpenSpec.ofChange packOrderWrong)

/-- 'stereobatelaw09.UndoTable': WHATEVER THE INPUT: true; the input reads as it did. -/
def undoTableSpec : ChangeSpec := { name := "undoTable", fn := fun _ => fun
  | [d1, d2, d3] => { results := [.lit (.bool true)], args := [d1, d2, d3] }
  | _ => none }
def undoTableRow : OpenClaim := { program := "ytmdcalkfapcafaa", sum := "22d1f694f8e9ccbd207e5a59c35aca0760081e499c1479b76b55df253a96ae7e", func := "stereobate/stereobatelaw09.UndoTable", spec := "undoTable", unfollowed := true, recurses := true, apart := false }
def UndoTableSaid : Prop := undoTableRow.holds Try.pinned (OpenSpec.ofChange undoTableSpec)

/-- ITS FALSE NEIGHBOUR: 'it returns false'. Refute it at one input. -/
def undoTableWrong : ChangeSpec := { name := "undoTable", fn := fun _ => fun
  | [d1, d2, d3] => { results := [.lit (.bool false)], args := [d1, d2, d3] }
  | _ => none }
def UndoTableWrongFalsely : Prop := undoTableRow.holds Try.pinned (OpenSpec.ofChange undoTableWrong)

/-- 'stereobatelaw09.UndoPlays': WHATEVER THE INPUT: true; the input reads as it did. -/
def undoPlaysSpec : ChangeSpec := { name := "undoPlays", fn := fun _ => fun
  | [d] => { results := [.lit (.bool true)], args := [d] }
  | _ => none }
def undoPlaysRow : OpenClaim := { program := "ytmdcalkfapcafaa", sum := "22d1f694f8e9ccbd207e5a59c35aca0760081e499c1479b76b55df253a96ae7e", func := "stereobate/stereobatelaw09.UndoPlays", spec := "undoPlays", unfollowed := true, recurses := true, apart := false }
def UndoPlaysSaid : Prop := undoPlaysRow.holds Try.pinned (OpenSpec.ofChange undoPlaysSpec)

/-- ITS FALSE NEIGHBOUR: 'it returns false'. Refute it at one input. -/
def undoPlaysWrong : ChangeSpec := { name := "undoPlays", fn := fun _ => fun
  | [d] => { results := [.lit (.bool false)], args := [d] }
  | _ => none }
def UndoPlaysWrongFalsely : Prop := undoPlaysRow.holds Try.pinned (OpenSpec.ofChange undoPlaysWrong)

/- THE SECOND FORM. 'bulk': how many values and letters a reading holds, each counted each time it is reached (what is shared counts as often as it is met; a slice's spare places count too). A statement '..UptoSaid' is the law's where the arguments, and the package variables that the reading takes, are together of bulk at most 1048576: NARROWER than '..Said'. Prove '..Said' where nothing that the law and all that it calls make is longer than what came in: it says more and counts as full. Else prove '..UptoSaid'. A law counts once. -/
mutual
def uptoBulk {H : Type} : DataW H → Nat
  | .lit (.string bytes) => bytes.length + 1
  | .lit _ => 1
  | .nil => 1
  | .ptr d => uptoBulk d + 1
  | .slice elems spare => uptoBulkAll elems + uptoBulkAll spare + 1
  | .agg parts => uptoBulkAll parts + 1
  | .iface _ d => uptoBulk d + 1
  | .map entries => uptoBulkEntries entries + 1
  | .held _ => 1
def uptoBulkAll {H : Type} : List (DataW H) → Nat
  | [] => 0
  | d :: r => uptoBulk d + uptoBulkAll r
def uptoBulkEntries {H : Type} : List (Lit × DataW H) → Nat
  | [] => 0
  | x :: r => uptoBulkEntry x + uptoBulkEntries r
def uptoBulkEntry {H : Type} : Lit × DataW H → Nat
  | (.string bytes, d) => bytes.length + uptoBulk d + 1
  | (_, d) => uptoBulk d + 1
 end
def uptoSmall : (H : Type) → List (DataW H) → Bool := fun _ ds => decide (uptoBulkAll ds ≤ 1048576)
def OpenSpec.upto (s : _root_.Go.ChangeSpec) : _root_.Go.OpenSpec := { _root_.Go.OpenSpec.ofChange s with cond := some uptoSmall }

/-- 'stereobatelaw03.PackGuards', WHERE WHAT IT READS IS OF BULK AT MOST 1048576: true; the input reads as it did. -/
def packGuardsUptoRow : OpenClaim := { program := "ytmdcalkfapcafaa", sum := "22d1f694f8e9ccbd207e5a59c35aca0760081e499c1479b76b55df253a96ae7e", func := "stereobate/stereobatelaw03.PackGuards", spec := "packGuards", unfollowed := true, recurses := true, apart := false, narrowed := true }
def PackGuardsUptoSaid : Prop := packGuardsUptoRow.holds Try.pinned (OpenSpec.upto packGuardsSpec)

/-- 'stereobatelaw09.UndoOrder', WHERE WHAT IT READS IS OF BULK AT MOST 1048576: true; the input reads as it did. -/
def undoOrderUptoRow : OpenClaim := { program := "ytmdcalkfapcafaa", sum := "22d1f694f8e9ccbd207e5a59c35aca0760081e499c1479b76b55df253a96ae7e", func := "stereobate/stereobatelaw09.UndoOrder", spec := "undoOrder", unfollowed := true, recurses := true, apart := false, narrowed := true }
def UndoOrderUptoSaid : Prop := undoOrderUptoRow.holds Try.pinned (OpenSpec.upto undoOrderSpec)

/-- 'stereobatelaw03.PackOrder', WHERE WHAT IT READS IS OF BULK AT MOST 1048576: true; the input reads as it did. -/
def packOrderUptoRow : OpenClaim := { program := "ytmdcalkfapcafaa", sum := "22d1f694f8e9ccbd207e5a59c35aca0760081e499c1479b76b55df253a96ae7e", func := "stereobate/stereobatelaw03.PackOrder", spec := "packOrder", unfollowed := true, recurses := true, apart := false, narrowed := true }
def PackOrderUptoSaid : Prop := packOrderUptoRow.holds Try.pinned (OpenSpec.upto packOrderSpec)

/-- 'stereobatelaw09.UndoTable', WHERE WHAT IT READS IS OF BULK AT MOST 1048576: true; the input reads as it did. -/
def undoTableUptoRow : OpenClaim := { program := "ytmdcalkfapcafaa", sum := "22d1f694f8e9ccbd207e5a59c35aca0760081e499c1479b76b55df253a96ae7e", func := "stereobate/stereobatelaw09.UndoTable", spec := "undoTable", unfollowed := true, recurses := true, apart := false, narrowed := true }
def UndoTableUptoSaid : Prop := undoTableUptoRow.holds Try.pinned (OpenSpec.upto undoTableSpec)

/-- 'stereobatelaw09.UndoPlays', WHERE WHAT IT READS IS OF BULK AT MOST 1048576: true; the input reads as it did. -/
def undoPlaysUptoRow : OpenClaim := { program := "ytmdcalkfapcafaa", sum := "22d1f694f8e9ccbd207e5a59c35aca0760081e499c1479b76b55df253a96ae7e", func := "stereobate/stereobatelaw09.UndoPlays", spec := "undoPlays", unfollowed := true, recurses := true, apart := false, narrowed := true }
def UndoPlaysUptoSaid : Prop := undoPlaysUptoRow.holds Try.pinned (OpenSpec.upto undoPlaysSpec)

end Rows
end Go.Proofs.Ytmdcalkfapcafaa
