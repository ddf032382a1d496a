/- Part 11 of the texts of a claim, joined by a program of ours (Mm1). No condition. -/
import Derived.Test.YtaaajjinpppgeaaGreatDoorP4aj
set_option linter.unusedVariables false
set_option linter.unusedSimpArgs false
set_option linter.unusedSectionVars false
namespace Go.Proofs.YtaaajjinpppgeaaGreatDoor
open Go Go.Abs
set_option maxRecDepth 100000
def A1 : List AV := [D1, (.str ⟨#[47, 97]⟩), (.int .i64 (.ofNat 1))]
def R1 : AV := D2
theorem m1 : E TB 8 A1 [] = some (R1, []) := crun_ok tblB_ok (fuel := 5000) (n := 60) (by kernel_rfl)
end Go.Proofs.YtaaajjinpppgeaaGreatDoor
