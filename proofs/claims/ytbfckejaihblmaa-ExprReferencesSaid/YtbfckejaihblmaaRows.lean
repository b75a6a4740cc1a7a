/-
  No cell of these rows narrows 'for every input' (looked for: loops, veiled, ifaces, maps, wideKeys, modest, calm, conditions, laid).
  DERIVED. THE GIVEN ROWS OF THIS SEAT. 5 by the template 'for every input the law returns true; each argument reads behind the call as it read before'; 0 by the template 'total and deterministic' (their statements: YtbfckejaihblmaaTotals.lean).
  GIVEN WITH THE SEED: the statements are not yours to turn. If you find one false, say at which input.
  Laid BY PROGRAM, IN A SANDBOX (cutbox-rows.mjs): the forced cells as the released guide's own fill.sh prints them over the translation 8ffebea8f159a90e… (all of the seat's roots in one cut). By AI agents, Wed Nov 11 2026. No macro, syntax, notation, axiom, sorry.
-/
import Derived.Test.YtbfckejaihblmaaChecked
import GoSem.Claim
import GoSem.ClaimJoined
import GoSem.ClaimMapViews
import Derived.JoinedTies
import Derived.KernelRfl
namespace Go.Proofs.Ytbfckejaihblmaa
/- THE CELL 'sum', in the pinned program and in every row, IS THE sha256 OF THE DUMP (.gsa) THAT YtbfckejaihblmaaProg.lean LOADS. Nothing in Lean hashes anything: it is a label: what it is worth is what the hold of that sum in a sandbox is worth. -/
noncomputable def Try.pinned : Pinned := { name := "ytbfckejaihblmaa", sum := "8ffebea8f159a90ef5f35d36dacb44b8264ce711124eec1c01e9f967788330a1", checked := Try.checked }
namespace Rows
def none {H : Type} : Left H := { results := [], args := [] }

/-- 'guerdonlaw10.ExprStructure': WHATEVER THE INPUT: true; the input reads as it did. -/
def exprStructureSpec : ChangeSpec := { name := "exprStructure", fn := fun _ => fun
  | [d1, d2, d3] => { results := [.lit (.bool true)], args := [d1, d2, d3] }
  | _ => none }
def exprStructureRow : OpenClaim := { program := "ytbfckejaihblmaa", sum := "8ffebea8f159a90ef5f35d36dacb44b8264ce711124eec1c01e9f967788330a1", func := "guerdon/guerdonlaw10.ExprStructure", spec := "exprStructure", unfollowed := true, recurses := true, apart := false }
def ExprStructureSaid : Prop := exprStructureRow.holds Try.pinned (OpenSpec.ofChange exprStructureSpec)

/-- ITS FALSE NEIGHBOUR: 'it returns false'. Refute it at one input. -/
def exprStructureWrong : ChangeSpec := { name := "exprStructure", fn := fun _ => fun
  | [d1, d2, d3] => { results := [.lit (.bool false)], args := [d1, d2, d3] }
  | _ => none }
def ExprStructureWrongFalsely : Prop := exprStructureRow.holds Try.pinned (OpenSpec.ofChange exprStructureWrong)

/-- 'guerdonlaw10.ExprTypes': WHATEVER THE INPUT: true; the input reads as it did. -/
def exprTypesSpec : ChangeSpec := { name := "exprTypes", fn := fun _ => fun
  | [d1, d2] => { results := [.lit (.bool true)], args := [d1, d2] }
  | _ => none }
def exprTypesRow : OpenClaim := { program := "ytbfckejaihblmaa", sum := "8ffebea8f159a90ef5f35d36dacb44b8264ce711124eec1c01e9f967788330a1", func := "guerdon/guerdonlaw10.ExprTypes", spec := "exprTypes", unfollowed := true, recurses := true, apart := false }
def ExprTypesSaid : Prop := exprTypesRow.holds Try.pinned (OpenSpec.ofChange exprTypesSpec)

/-- ITS FALSE NEIGHBOUR: 'it returns false'. Refute it at one input. -/
def exprTypesWrong : ChangeSpec := { name := "exprTypes", fn := fun _ => fun
  | [d1, d2] => { results := [.lit (.bool false)], args := [d1, d2] }
  | _ => none }
def ExprTypesWrongFalsely : Prop := exprTypesRow.holds Try.pinned (OpenSpec.ofChange exprTypesWrong)

/-- 'guerdonlaw10.ExprComposition': WHATEVER THE INPUT: true; the input reads as it did. -/
def exprCompositionSpec : ChangeSpec := { name := "exprComposition", fn := fun _ => fun
  | [d1, d2] => { results := [.lit (.bool true)], args := [d1, d2] }
  | _ => none }
def exprCompositionRow : OpenClaim := { program := "ytbfckejaihblmaa", sum := "8ffebea8f159a90ef5f35d36dacb44b8264ce711124eec1c01e9f967788330a1", func := "guerdon/guerdonlaw10.ExprComposition", spec := "exprComposition", unfollowed := true, recurses := true, apart := false }
def ExprCompositionSaid : Prop := exprCompositionRow.holds Try.pinned (OpenSpec.ofChange exprCompositionSpec)

/-- ITS FALSE NEIGHBOUR: 'it returns false'. Refute it at one input. -/
def exprCompositionWrong : ChangeSpec := { name := "exprComposition", fn := fun _ => fun
  | [d1, d2] => { results := [.lit (.bool false)], args := [d1, d2] }
  | _ => none }
def ExprCompositionWrongFalsely : Prop := exprCompositionRow.holds Try.pinned (OpenSpec.ofChange exprCompositionWrong)

/-- 'guerdonlaw10.ExprStack': WHATEVER THE INPUT: true; the input reads as it did. -/
def exprStackSpec : ChangeSpec := { name := "exprStack", fn := fun _ => fun
  | [d1, d2, d3] => { results := [.lit (.bool true)], args := [d1, d2, d3] }
  | _ => none }
def exprStackRow : OpenClaim := { program := "ytbfckejaihblmaa", sum := "8ffebea8f159a90ef5f35d36dacb44b8264ce711124eec1c01e9f967788330a1", func := "guerdon/guerdonlaw10.ExprStack", spec := "exprStack", unfollowed := true, recurses := true, apart := false }
def ExprStackSaid : Prop := exprStackRow.holds Try.pinned (OpenSpec.ofChange exprStackSpec)

/-- ITS FALSE NEIGHBOUR: 'it returns false'. Refute it at one input. -/
def exprStackWrong : ChangeSpec := { name := "exprStack", fn := fun _ => fun
  | [d1, d2, d3] => { results := [.lit (.bool false)], args := [d1, d2, d3] }
  | _ => none }
def ExprStackWrongFalsely : Prop := exprStackRow.holds Try.pinned (OpenSpec.ofChange exprStackWrong)

/-- 'guerdonlaw10.ExprReferences': WHATEVER THE INPUT: true; the input reads as it did. -/
def exprReferencesSpec : ChangeSpec := { name := "exprReferences", fn := fun _ => fun
  | [d] => { results := [.lit (.bool true)], args := [d] }
  | _ => none }
def exprReferencesRow : OpenClaim := { program := "ytbfckejaihblmaa", sum := "8ffebea8f159a90ef5f35d36dacb44b8264ce711124eec1c01e9f967788330a1", func := "guerdon/guerdonlaw10.ExprReferences", spec := "exprReferences", unfollowed := true, recurses := true, apart := false }
def ExprReferencesSaid : Prop := exprReferencesRow.holds Try.pinned (OpenSpec.ofChange exprReferencesSpec)

/-- ITS FALSE NEIGHBOUR: 'it returns false'. Refute it at one input. -/
def exprReferencesWrong : ChangeSpec := { name := "exprReferences", fn := fun _ => fun
  | [d] => { results := [.lit (.bool false)], args := [d] }
  | _ => none }
def ExprReferencesWrongFalsely : Prop := exprReferencesRow.holds Try.pinned (OpenSpec.ofChange exprReferencesWrong)

/- THE SECOND FORM. 'bulk': how many values and letters a reading holds, each counted each time it is reached (what is shared counts as often as it is met; a slice's spare places count too). A statement '..UptoSaid' is the law's where the arguments, and the package variables that the reading takes, are together of bulk at most 1048576: NARROWER than '..Said'. Prove '..Said' where nothing that the law and all that it calls make is longer than what came in: it says more and counts as full. Else prove '..UptoSaid'. A law counts once. -/
mutual
def uptoBulk {H : Type} : DataW H → Nat
  | .lit (.string bytes) => bytes.length + 1
  | .lit _ => 1
  | .nil => 1
  | .ptr d => uptoBulk d + 1
  | .slice elems spare => uptoBulkAll elems + uptoBulkAll spare + 1
  | .agg parts => uptoBulkAll parts + 1
  | .iface _ d => uptoBulk d + 1
  | .map entries => uptoBulkEntries entries + 1
  | .held _ => 1
def uptoBulkAll {H : Type} : List (DataW H) → Nat
  | [] => 0
  | d :: r => uptoBulk d + uptoBulkAll r
def uptoBulkEntries {H : Type} : List (Lit × DataW H) → Nat
  | [] => 0
  | x :: r => uptoBulkEntry x + uptoBulkEntries r
def uptoBulkEntry {H : Type} : Lit × DataW H → Nat
  | (.string bytes, d) => bytes.length + uptoBulk d + 1
  | (_, d) => uptoBulk d + 1
 end
def uptoSmall : (H : Type) → List (DataW H) → Bool := fun _ ds => decide (uptoBulkAll ds ≤ 1048576)
def OpenSpec.upto (s : _root_.Go.ChangeSpec) : _root_.Go.OpenSpec := { _root_.Go.OpenSpec.ofChange s with cond := some uptoSmall }

/-- 'guerdonlaw10.ExprStructure', WHERE WHAT IT READS IS OF BULK AT MOST 1048576: true; the input reads as it did. -/
def exprStructureUptoRow : OpenClaim := { program := "ytbfckejaihblmaa", sum := "8ffebea8f159a90ef5f35d36dacb44b8264ce711124eec1c01e9f967788330a1", func := "guerdon/guerdonlaw10.ExprStructure", spec := "exprStructure", unfollowed := true, recurses := true, apart := false, narrowed := true }
def ExprStructureUptoSaid : Prop := exprStructureUptoRow.holds Try.pinned (OpenSpec.upto exprStructureSpec)

/-- 'guerdonlaw10.ExprTypes', WHERE WHAT IT READS IS OF BULK AT MOST 1048576: true; the input reads as it did. -/
def exprTypesUptoRow : OpenClaim := { program := "ytbfckejaihblmaa", sum := "8ffebea8f159a90ef5f35d36dacb44b8264ce711124eec1c01e9f967788330a1", func := "guerdon/guerdonlaw10.ExprTypes", spec := "exprTypes", unfollowed := true, recurses := true, apart := false, narrowed := true }
def ExprTypesUptoSaid : Prop := exprTypesUptoRow.holds Try.pinned (OpenSpec.upto exprTypesSpec)

/-- 'guerdonlaw10.ExprComposition', WHERE WHAT IT READS IS OF BULK AT MOST 1048576: true; the input reads as it did. -/
def exprCompositionUptoRow : OpenClaim := { program := "ytbfckejaihblmaa", sum := "8ffebea8f159a90ef5f35d36dacb44b8264ce711124eec1c01e9f967788330a1", func := "guerdon/guerdonlaw10.ExprComposition", spec := "exprComposition", unfollowed := true, recurses := true, apart := false, narrowed := true }
def ExprCompositionUptoSaid : Prop := exprCompositionUptoRow.holds Try.pinned (OpenSpec.upto exprCompositionSpec)

/-- 'guerdonlaw10.ExprStack', WHERE WHAT IT READS IS OF BULK AT MOST 1048576: true; the input reads as it did. -/
def exprStackUptoRow : OpenClaim := { program := "ytbfckejaihblmaa", sum := "8ffebea8f159a90ef5f35d36dacb44b8264ce711124eec1c01e9f967788330a1", func := "guerdon/guerdonlaw10.ExprStack", spec := "exprStack", unfollowed := true, recurses := true, apart := false, narrowed := true }
def ExprStackUptoSaid : Prop := exprStackUptoRow.holds Try.pinned (OpenSpec.upto exprStackSpec)

/-- 'guerdonlaw10.ExprReferences', WHERE WHAT IT READS IS OF BULK AT MOST 1048576: true; the input reads as it did. -/
def exprReferencesUptoRow : OpenClaim := { program := "ytbfckejaihblmaa", sum := "8ffebea8f159a90ef5f35d36dacb44b8264ce711124eec1c01e9f967788330a1", func := "guerdon/guerdonlaw10.ExprReferences", spec := "exprReferences", unfollowed := true, recurses := true, apart := false, narrowed := true }
def ExprReferencesUptoSaid : Prop := exprReferencesUptoRow.holds Try.pinned (OpenSpec.upto exprReferencesSpec)

end Rows
end Go.Proofs.Ytbfckejaihblmaa
