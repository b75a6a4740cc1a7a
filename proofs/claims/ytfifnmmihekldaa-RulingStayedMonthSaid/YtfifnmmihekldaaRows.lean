/-
  No cell of these rows narrows 'for every input' (looked for: loops, veiled, ifaces, maps, wideKeys, modest, calm, conditions, laid).
  DERIVED. THE GIVEN ROWS OF THIS SEAT. 5 by the template 'for every input the law returns true; each argument reads behind the call as it read before'; 0 by the template 'total and deterministic' (their statements: YtfifnmmihekldaaTotals.lean).
  GIVEN WITH THE SEED: the statements are not yours to turn. If you find one false, say at which input.
  Laid BY PROGRAM, IN A SANDBOX (cutbox-rows.mjs): the forced cells as the released guide's own fill.sh prints them over the translation 5e48a46b3108fb6f… (all of the seat's roots in one cut). By AI agents, Wed Nov 11 2026. No macro, syntax, notation, axiom, sorry.
-/
import Derived.Test.YtfifnmmihekldaaChecked
import GoSem.Claim
import GoSem.ClaimJoined
import GoSem.ClaimMapViews
import Derived.JoinedTies
import Derived.KernelRfl
namespace Go.Proofs.Ytfifnmmihekldaa
/- THE CELL 'sum', in the pinned program and in every row, IS THE sha256 OF THE DUMP (.gsa) THAT YtfifnmmihekldaaProg.lean LOADS. Nothing in Lean hashes anything: it is a label: what it is worth is what the hold of that sum in a sandbox is worth. -/
noncomputable def Try.pinned : Pinned := { name := "ytfifnmmihekldaa", sum := "5e48a46b3108fb6ffdcac44dff1513a9773732a855f5c1b5aade7d2c500d0a95", checked := Try.checked }
namespace Rows
def none {H : Type} : Left H := { results := [], args := [] }

/-- 'guerdonlaw42.RulingStayed': WHATEVER THE INPUT: true; the input reads as it did. -/
def rulingStayedSpec : ChangeSpec := { name := "rulingStayed", fn := fun _ => fun
  | [d] => { results := [.lit (.bool true)], args := [d] }
  | _ => none }
def rulingStayedRow : OpenClaim := { program := "ytfifnmmihekldaa", sum := "5e48a46b3108fb6ffdcac44dff1513a9773732a855f5c1b5aade7d2c500d0a95", func := "guerdon/guerdonlaw42.RulingStayed", spec := "rulingStayed", unfollowed := true, recurses := true, apart := false }
def RulingStayedSaid : Prop := rulingStayedRow.holds Try.pinned (OpenSpec.ofChange rulingStayedSpec)

/-- ITS FALSE NEIGHBOUR: 'it returns false'. Refute it at one input. -/
def rulingStayedWrong : ChangeSpec := { name := "rulingStayed", fn := fun _ => fun
  | [d] => { results := [.lit (.bool false)], args := [d] }
  | _ => none }
def RulingStayedWrongFalsely : Prop := rulingStayedRow.holds Try.pinned (OpenSpec.ofChange rulingStayedWrong)

/-- 'guerdonlaw42.RulingStayedMonth': WHATEVER THE INPUT: true; the input reads as it did. -/
def rulingStayedMonthSpec : ChangeSpec := { name := "rulingStayedMonth", fn := fun _ => fun
  | [d1, d2] => { results := [.lit (.bool true)], args := [d1, d2] }
  | _ => none }
def rulingStayedMonthRow : OpenClaim := { program := "ytfifnmmihekldaa", sum := "5e48a46b3108fb6ffdcac44dff1513a9773732a855f5c1b5aade7d2c500d0a95", func := "guerdon/guerdonlaw42.RulingStayedMonth", spec := "rulingStayedMonth", unfollowed := true, recurses := true, apart := false }
def RulingStayedMonthSaid : Prop := rulingStayedMonthRow.holds Try.pinned (OpenSpec.ofChange rulingStayedMonthSpec)

/-- ITS FALSE NEIGHBOUR: 'it returns false'. Refute it at one input. -/
def rulingStayedMonthWrong : ChangeSpec := { name := "rulingStayedMonth", fn := fun _ => fun
  | [d1, d2] => { results := [.lit (.bool false)], args := [d1, d2] }
  | _ => none }
def RulingStayedMonthWrongFalsely : Prop := rulingStayedMonthRow.holds Try.pinned (OpenSpec.ofChange rulingStayedMonthWrong)

/-- 'guerdonlaw42.RulingApply': WHATEVER THE INPUT: true; the input reads as it did. -/
def rulingApplySpec : ChangeSpec := { name := "rulingApply", fn := fun _ => fun
  | [d1, d2, d3] => { results := [.lit (.bool true)], args := [d1, d2, d3] }
  | _ => none }
def rulingApplyRow : OpenClaim := { program := "ytfifnmmihekldaa", sum := "5e48a46b3108fb6ffdcac44dff1513a9773732a855f5c1b5aade7d2c500d0a95", func := "guerdon/guerdonlaw42.RulingApply", spec := "rulingApply", unfollowed := true, recurses := true, apart := false }
def RulingApplySaid : Prop := rulingApplyRow.holds Try.pinned (OpenSpec.ofChange rulingApplySpec)

/-- ITS FALSE NEIGHBOUR: 'it returns false'. Refute it at one input. -/
def rulingApplyWrong : ChangeSpec := { name := "rulingApply", fn := fun _ => fun
  | [d1, d2, d3] => { results := [.lit (.bool false)], args := [d1, d2, d3] }
  | _ => none }
def RulingApplyWrongFalsely : Prop := rulingApplyRow.holds Try.pinned (OpenSpec.ofChange rulingApplyWrong)

/-- 'guerdonlaw42.RulingLatestWins': WHATEVER THE INPUT: true; the input reads as it did. -/
def rulingLatestWinsSpec : ChangeSpec := { name := "rulingLatestWins", fn := fun _ => fun
  | [d1, d2, d3] => { results := [.lit (.bool true)], args := [d1, d2, d3] }
  | _ => none }
def rulingLatestWinsRow : OpenClaim := { program := "ytfifnmmihekldaa", sum := "5e48a46b3108fb6ffdcac44dff1513a9773732a855f5c1b5aade7d2c500d0a95", func := "guerdon/guerdonlaw42.RulingLatestWins", spec := "rulingLatestWins", unfollowed := true, recurses := true, apart := false }
def RulingLatestWinsSaid : Prop := rulingLatestWinsRow.holds Try.pinned (OpenSpec.ofChange rulingLatestWinsSpec)

/-- ITS FALSE NEIGHBOUR: 'it returns false'. Refute it at one input. -/
def rulingLatestWinsWrong : ChangeSpec := { name := "rulingLatestWins", fn := fun _ => fun
  | [d1, d2, d3] => { results := [.lit (.bool false)], args := [d1, d2, d3] }
  | _ => none }
def RulingLatestWinsWrongFalsely : Prop := rulingLatestWinsRow.holds Try.pinned (OpenSpec.ofChange rulingLatestWinsWrong)

/-- 'guerdonlaw42.RulingIdempotent': WHATEVER THE INPUT: true; the input reads as it did. -/
def rulingIdempotentSpec : ChangeSpec := { name := "rulingIdempotent", fn := fun _ => fun
  | [d1, d2] => { results := [.lit (.bool true)], args := [d1, d2] }
  | _ => none }
def rulingIdempotentRow : OpenClaim := { program := "ytfifnmmihekldaa", sum := "5e48a46b3108fb6ffdcac44dff1513a9773732a855f5c1b5aade7d2c500d0a95", func := "guerdon/guerdonlaw42.RulingIdempotent", spec := "rulingIdempotent", unfollowed := true, recurses := true, apart := false }
def RulingIdempotentSaid : Prop := rulingIdempotentRow.holds Try.pinned (OpenSpec.ofChange rulingIdempotentSpec)

/-- ITS FALSE NEIGHBOUR: 'it returns false'. Refute it at one input. -/
def rulingIdempotentWrong : ChangeSpec := { name := "rulingIdempotent", fn := fun _ => fun
  | [d1, d2] => { results := [.lit (.bool false)], args := [d1, d2] }
  | _ => none }
def RulingIdempotentWrongFalsely : Prop := rulingIdempotentRow.holds Try.pinned (OpenSpec.ofChange rulingIdempotentWrong)

/- THE SECOND FORM. 'bulk': how many values and letters a reading holds, each counted each time it is reached (what is shared counts as often as it is met; a slice's spare places count too). A statement '..UptoSaid' is the law's where the arguments, and the package variables that the reading takes, are together of bulk at most 1048576: NARROWER than '..Said'. Prove '..Said' where nothing that the law and all that it calls make is longer than what came in: it says more and counts as full. Else prove '..UptoSaid'. A law counts once. -/
mutual
def uptoBulk {H : Type} : DataW H → Nat
  | .lit (.string bytes) => bytes.length + 1
  | .lit _ => 1
  | .nil => 1
  | .ptr d => uptoBulk d + 1
  | .slice elems spare => uptoBulkAll elems + uptoBulkAll spare + 1
  | .agg parts => uptoBulkAll parts + 1
  | .iface _ d => uptoBulk d + 1
  | .map entries => uptoBulkEntries entries + 1
  | .held _ => 1
def uptoBulkAll {H : Type} : List (DataW H) → Nat
  | [] => 0
  | d :: r => uptoBulk d + uptoBulkAll r
def uptoBulkEntries {H : Type} : List (Lit × DataW H) → Nat
  | [] => 0
  | x :: r => uptoBulkEntry x + uptoBulkEntries r
def uptoBulkEntry {H : Type} : Lit × DataW H → Nat
  | (.string bytes, d) => bytes.length + uptoBulk d + 1
  | (_, d) => uptoBulk d + 1
 end
def uptoSmall : (H : Type) → List (DataW H) → Bool := fun _ ds => decide (uptoBulkAll ds ≤ 1048576)
def OpenSpec.upto (s : _root_.Go.ChangeSpec) : _root_.Go.OpenSpec := { _root_.Go.OpenSpec.ofChange s with cond := some uptoSmall }

/-- 'guerdonlaw42.RulingStayed', WHERE WHAT IT READS IS OF BULK AT MOST 1048576: true; the input reads as it did. -/
def rulingStayedUptoRow : OpenClaim := { program := "ytfifnmmihekldaa", sum := "5e48a46b3108fb6ffdcac44dff1513a9773732a855f5c1b5aade7d2c500d0a95", func := "guerdon/guerdonlaw42.RulingStayed", spec := "rulingStayed", unfollowed := true, recurses := true, apart := false, narrowed := true }
def RulingStayedUptoSaid : Prop := rulingStayedUptoRow.holds Try.pinned (OpenSpec.upto rulingStayedSpec)

/-- 'guerdonlaw42.RulingStayedMonth', WHERE WHAT IT READS IS OF BULK AT MOST 1048576: true; the input reads as it did. -/
def rulingStayedMonthUptoRow : OpenClaim := { program := "ytfifnmmihekldaa", sum := "5e48a46b3108fb6ffdcac44dff1513a9773732a855f5c1b5aade7d2c500d0a95", func := "guerdon/guerdonlaw42.RulingStayedMonth", spec := "rulingStayedMonth", unfollowed := true, recurses := true, apart := false, narrowed := true }
def RulingStayedMonthUptoSaid : Prop := rulingStayedMonthUptoRow.holds Try.pinned (OpenSpec.upto rulingStayedMonthSpec)

/-- 'guerdonlaw42.RulingApply', WHERE WHAT IT READS IS OF BULK AT MOST 1048576: true; the input reads as it did. -/
def rulingApplyUptoRow : OpenClaim := { program := "ytfifnmmihekldaa", sum := "5e48a46b3108fb6ffdcac44dff1513a9773732a855f5c1b5aade7d2c500d0a95", func := "guerdon/guerdonlaw42.RulingApply", spec := "rulingApply", unfollowed := true, recurses := true, apart := false, narrowed := true }
def RulingApplyUptoSaid : Prop := rulingApplyUptoRow.holds Try.pinned (OpenSpec.upto rulingApplySpec)

/-- 'guerdonlaw42.RulingLatestWins', WHERE WHAT IT READS IS OF BULK AT MOST 1048576: true; the input reads as it did. -/
def rulingLatestWinsUptoRow : OpenClaim := { program := "ytfifnmmihekldaa", sum := "5e48a46b3108fb6ffdcac44dff1513a9773732a855f5c1b5aade7d2c500d0a95", func := "guerdon/guerdonlaw42.RulingLatestWins", spec := "rulingLatestWins", unfollowed := true, recurses := true, apart := false, narrowed := true }
def RulingLatestWinsUptoSaid : Prop := rulingLatestWinsUptoRow.holds Try.pinned (OpenSpec.upto rulingLatestWinsSpec)

/-- 'guerdonlaw42.RulingIdempotent', WHERE WHAT IT READS IS OF BULK AT MOST 1048576: true; the input reads as it did. -/
def rulingIdempotentUptoRow : OpenClaim := { program := "ytfifnmmihekldaa", sum := "5e48a46b3108fb6ffdcac44dff1513a9773732a855f5c1b5aade7d2c500d0a95", func := "guerdon/guerdonlaw42.RulingIdempotent", spec := "rulingIdempotent", unfollowed := true, recurses := true, apart := false, narrowed := true }
def RulingIdempotentUptoSaid : Prop := rulingIdempotentUptoRow.holds Try.pinned (OpenSpec.upto rulingIdempotentSpec)

end Rows
end Go.Proofs.Ytfifnmmihekldaa
