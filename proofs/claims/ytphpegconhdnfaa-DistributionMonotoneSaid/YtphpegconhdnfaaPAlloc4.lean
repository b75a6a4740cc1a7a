import Derived.Test.YtphpegconhdnfaaPAlloc3
set_option maxRecDepth 100000
set_option linter.unusedVariables false
set_option linter.unusedSimpArgs false
namespace Go.Proofs.Ytphpegconhdnfaa
open Go Go.Lift
/-- How often a part gets one more. -/
def more (A S : Int) (W : List Int) (P : List money_partV) (i : Nat) : Nat := ((P.take (A - (qs A S W).sum).toNat).filter (fun p => decide (p.1.toNat = i))).length
section
variable {A S : Int} {W : List Int} {P : List money_partV}
end
section
variable {c : Int} {S : Int} {W : List Int} {P : List money_partV}
end
end Go.Proofs.Ytphpegconhdnfaa
