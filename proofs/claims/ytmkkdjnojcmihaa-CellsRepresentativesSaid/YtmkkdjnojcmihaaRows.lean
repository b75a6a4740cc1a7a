/-
  No cell of these rows narrows 'for every input' (looked for: loops, veiled, ifaces, maps, wideKeys, modest, calm, conditions, laid).
  DERIVED. THE GIVEN ROWS OF THIS SEAT. 5 by the template 'for every input the law returns true; each argument reads behind the call as it read before'; 0 by the template 'total and deterministic' (their statements: YtmkkdjnojcmihaaTotals.lean).
  GIVEN WITH THE SEED: the statements are not yours to turn. If you find one false, say at which input.
  Laid BY PROGRAM, IN A SANDBOX (cutbox-rows.mjs): the forced cells as the released guide's own fill.sh prints them over the translation ab1d4663bf60fc07… (all of the seat's roots in one cut). By AI agents, Wed Nov 11 2026. No macro, syntax, notation, axiom, sorry.
-/
import Derived.Test.YtmkkdjnojcmihaaChecked
import GoSem.Claim
import GoSem.ClaimJoined
import GoSem.ClaimMapViews
import Derived.JoinedTies
import Derived.KernelRfl
namespace Go.Proofs.Ytmkkdjnojcmihaa
/- THE CELL 'sum', in the pinned program and in every row, IS THE sha256 OF THE DUMP (.gsa) THAT YtmkkdjnojcmihaaProg.lean LOADS. Nothing in Lean hashes anything: it is a label: what it is worth is what the hold of that sum in a sandbox is worth. -/
noncomputable def Try.pinned : Pinned := { name := "ytmkkdjnojcmihaa", sum := "ab1d4663bf60fc076139e6e6c1a10a84467f419c6aed09c79675aa1ffaa852b7", checked := Try.checked }
namespace Rows
def none {H : Type} : Left H := { results := [], args := [] }

/-- 'guerdonlaw23.CellsFlat': WHATEVER THE INPUT: true; the input reads as it did. -/
def cellsFlatSpec : ChangeSpec := { name := "cellsFlat", fn := fun _ => fun
  | [d1, d2] => { results := [.lit (.bool true)], args := [d1, d2] }
  | _ => none }
def cellsFlatRow : OpenClaim := { program := "ytmkkdjnojcmihaa", sum := "ab1d4663bf60fc076139e6e6c1a10a84467f419c6aed09c79675aa1ffaa852b7", func := "guerdon/guerdonlaw23.CellsFlat", spec := "cellsFlat", unfollowed := true, recurses := true, apart := false }
def CellsFlatSaid : Prop := cellsFlatRow.holds Try.pinned (OpenSpec.ofChange cellsFlatSpec)

/-- ITS FALSE NEIGHBOUR: 'it returns false'. Refute it at one input. -/
def cellsFlatWrong : ChangeSpec := { name := "cellsFlat", fn := fun _ => fun
  | [d1, d2] => { results := [.lit (.bool false)], args := [d1, d2] }
  | _ => none }
def CellsFlatWrongFalsely : Prop := cellsFlatRow.holds Try.pinned (OpenSpec.ofChange cellsFlatWrong)

/-- 'guerdonlaw23.CellsCuts': WHATEVER THE INPUT: true; the input reads as it did. -/
def cellsCutsSpec : ChangeSpec := { name := "cellsCuts", fn := fun _ => fun
  | [d1, d2] => { results := [.lit (.bool true)], args := [d1, d2] }
  | _ => none }
def cellsCutsRow : OpenClaim := { program := "ytmkkdjnojcmihaa", sum := "ab1d4663bf60fc076139e6e6c1a10a84467f419c6aed09c79675aa1ffaa852b7", func := "guerdon/guerdonlaw23.CellsCuts", spec := "cellsCuts", unfollowed := true, recurses := true, apart := false }
def CellsCutsSaid : Prop := cellsCutsRow.holds Try.pinned (OpenSpec.ofChange cellsCutsSpec)

/-- ITS FALSE NEIGHBOUR: 'it returns false'. Refute it at one input. -/
def cellsCutsWrong : ChangeSpec := { name := "cellsCuts", fn := fun _ => fun
  | [d1, d2] => { results := [.lit (.bool false)], args := [d1, d2] }
  | _ => none }
def CellsCutsWrongFalsely : Prop := cellsCutsRow.holds Try.pinned (OpenSpec.ofChange cellsCutsWrong)

/-- 'guerdonlaw23.CellsRepresentatives': WHATEVER THE INPUT: true; the input reads as it did. -/
def cellsRepresentativesSpec : ChangeSpec := { name := "cellsRepresentatives", fn := fun _ => fun
  | [d1, d2, d3, d4] => { results := [.lit (.bool true)], args := [d1, d2, d3, d4] }
  | _ => none }
def cellsRepresentativesRow : OpenClaim := { program := "ytmkkdjnojcmihaa", sum := "ab1d4663bf60fc076139e6e6c1a10a84467f419c6aed09c79675aa1ffaa852b7", func := "guerdon/guerdonlaw23.CellsRepresentatives", spec := "cellsRepresentatives", unfollowed := true, recurses := true, apart := false }
def CellsRepresentativesSaid : Prop := cellsRepresentativesRow.holds Try.pinned (OpenSpec.ofChange cellsRepresentativesSpec)

/-- ITS FALSE NEIGHBOUR: 'it returns false'. Refute it at one input. -/
def cellsRepresentativesWrong : ChangeSpec := { name := "cellsRepresentatives", fn := fun _ => fun
  | [d1, d2, d3, d4] => { results := [.lit (.bool false)], args := [d1, d2, d3, d4] }
  | _ => none }
def CellsRepresentativesWrongFalsely : Prop := cellsRepresentativesRow.holds Try.pinned (OpenSpec.ofChange cellsRepresentativesWrong)

/-- 'guerdonlaw23.CellsLocate': WHATEVER THE INPUT: true; the input reads as it did. -/
def cellsLocateSpec : ChangeSpec := { name := "cellsLocate", fn := fun _ => fun
  | [d1, d2] => { results := [.lit (.bool true)], args := [d1, d2] }
  | _ => none }
def cellsLocateRow : OpenClaim := { program := "ytmkkdjnojcmihaa", sum := "ab1d4663bf60fc076139e6e6c1a10a84467f419c6aed09c79675aa1ffaa852b7", func := "guerdon/guerdonlaw23.CellsLocate", spec := "cellsLocate", unfollowed := true, recurses := true, apart := false }
def CellsLocateSaid : Prop := cellsLocateRow.holds Try.pinned (OpenSpec.ofChange cellsLocateSpec)

/-- ITS FALSE NEIGHBOUR: 'it returns false'. Refute it at one input. -/
def cellsLocateWrong : ChangeSpec := { name := "cellsLocate", fn := fun _ => fun
  | [d1, d2] => { results := [.lit (.bool false)], args := [d1, d2] }
  | _ => none }
def CellsLocateWrongFalsely : Prop := cellsLocateRow.holds Try.pinned (OpenSpec.ofChange cellsLocateWrong)

/-- 'guerdonlaw23.CellsCount': WHATEVER THE INPUT: true; the input reads as it did. -/
def cellsCountSpec : ChangeSpec := { name := "cellsCount", fn := fun _ => fun
  | [d] => { results := [.lit (.bool true)], args := [d] }
  | _ => none }
def cellsCountRow : OpenClaim := { program := "ytmkkdjnojcmihaa", sum := "ab1d4663bf60fc076139e6e6c1a10a84467f419c6aed09c79675aa1ffaa852b7", func := "guerdon/guerdonlaw23.CellsCount", spec := "cellsCount", unfollowed := true, recurses := true, apart := false }
def CellsCountSaid : Prop := cellsCountRow.holds Try.pinned (OpenSpec.ofChange cellsCountSpec)

/-- ITS FALSE NEIGHBOUR: 'it returns false'. Refute it at one input. -/
def cellsCountWrong : ChangeSpec := { name := "cellsCount", fn := fun _ => fun
  | [d] => { results := [.lit (.bool false)], args := [d] }
  | _ => none }
def CellsCountWrongFalsely : Prop := cellsCountRow.holds Try.pinned (OpenSpec.ofChange cellsCountWrong)

/- THE SECOND FORM. 'bulk': how many values and letters a reading holds, each counted each time it is reached (what is shared counts as often as it is met; a slice's spare places count too). A statement '..UptoSaid' is the law's where the arguments, and the package variables that the reading takes, are together of bulk at most 1048576: NARROWER than '..Said'. Prove '..Said' where nothing that the law and all that it calls make is longer than what came in: it says more and counts as full. Else prove '..UptoSaid'. A law counts once. -/
mutual
def uptoBulk {H : Type} : DataW H → Nat
  | .lit (.string bytes) => bytes.length + 1
  | .lit _ => 1
  | .nil => 1
  | .ptr d => uptoBulk d + 1
  | .slice elems spare => uptoBulkAll elems + uptoBulkAll spare + 1
  | .agg parts => uptoBulkAll parts + 1
  | .iface _ d => uptoBulk d + 1
  | .map entries => uptoBulkEntries entries + 1
  | .held _ => 1
def uptoBulkAll {H : Type} : List (DataW H) → Nat
  | [] => 0
  | d :: r => uptoBulk d + uptoBulkAll r
def uptoBulkEntries {H : Type} : List (Lit × DataW H) → Nat
  | [] => 0
  | x :: r => uptoBulkEntry x + uptoBulkEntries r
def uptoBulkEntry {H : Type} : Lit × DataW H → Nat
  | (.string bytes, d) => bytes.length + uptoBulk d + 1
  | (_, d) => uptoBulk d + 1
 end
def uptoSmall : (H : Type) → List (DataW H) → Bool := fun _ ds => decide (uptoBulkAll ds ≤ 1048576)
def OpenSpec.upto (s : _root_.Go.ChangeSpec) : _root_.Go.OpenSpec := { _root_.Go.OpenSpec.ofChange s with cond := some uptoSmall }

/-- 'guerdonlaw23.CellsFlat', WHERE WHAT IT READS IS OF BULK AT MOST 1048576: true; the input reads as it did. -/
def cellsFlatUptoRow : OpenClaim := { program := "ytmkkdjnojcmihaa", sum := "ab1d4663bf60fc076139e6e6c1a10a84467f419c6aed09c79675aa1ffaa852b7", func := "guerdon/guerdonlaw23.CellsFlat", spec := "cellsFlat", unfollowed := true, recurses := true, apart := false, narrowed := true }
def CellsFlatUptoSaid : Prop := cellsFlatUptoRow.holds Try.pinned (OpenSpec.upto cellsFlatSpec)

/-- 'guerdonlaw23.CellsCuts', WHERE WHAT IT READS IS OF BULK AT MOST 1048576: true; the input reads as it did. -/
def cellsCutsUptoRow : OpenClaim := { program := "ytmkkdjnojcmihaa", sum := "ab1d4663bf60fc076139e6e6c1a10a84467f419c6aed09c79675aa1ffaa852b7", func := "guerdon/guerdonlaw23.CellsCuts", spec := "cellsCuts", unfollowed := true, recurses := true, apart := false, narrowed := true }
def CellsCutsUptoSaid : Prop := cellsCutsUptoRow.holds Try.pinned (OpenSpec.upto cellsCutsSpec)

/-- 'guerdonlaw23.CellsRepresentatives', WHERE WHAT IT READS IS OF BULK AT MOST 1048576: true; the input reads as it did. -/
def cellsRepresentativesUptoRow : OpenClaim := { program := "ytmkkdjnojcmihaa", sum := "ab1d4663bf60fc076139e6e6c1a10a84467f419c6aed09c79675aa1ffaa852b7", func := "guerdon/guerdonlaw23.CellsRepresentatives", spec := "cellsRepresentatives", unfollowed := true, recurses := true, apart := false, narrowed := true }
def CellsRepresentativesUptoSaid : Prop := cellsRepresentativesUptoRow.holds Try.pinned (OpenSpec.upto cellsRepresentativesSpec)

/-- 'guerdonlaw23.CellsLocate', WHERE WHAT IT READS IS OF BULK AT MOST 1048576: true; the input reads as it did. -/
def cellsLocateUptoRow : OpenClaim := { program := "ytmkkdjnojcmihaa", sum := "ab1d4663bf60fc076139e6e6c1a10a84467f419c6aed09c79675aa1ffaa852b7", func := "guerdon/guerdonlaw23.CellsLocate", spec := "cellsLocate", unfollowed := true, recurses := true, apart := false, narrowed := true }
def CellsLocateUptoSaid : Prop := cellsLocateUptoRow.holds Try.pinned (OpenSpec.upto cellsLocateSpec)

/-- 'guerdonlaw23.CellsCount', WHERE WHAT IT READS IS OF BULK AT MOST 1048576: true; the input reads as it did. -/
def cellsCountUptoRow : OpenClaim := { program := "ytmkkdjnojcmihaa", sum := "ab1d4663bf60fc076139e6e6c1a10a84467f419c6aed09c79675aa1ffaa852b7", func := "guerdon/guerdonlaw23.CellsCount", spec := "cellsCount", unfollowed := true, recurses := true, apart := false, narrowed := true }
def CellsCountUptoSaid : Prop := cellsCountUptoRow.holds Try.pinned (OpenSpec.upto cellsCountSpec)

end Rows
end Go.Proofs.Ytmkkdjnojcmihaa
