/- Part 20 of the texts of a claim, joined by a program of ours (Mm14). No condition. -/
import Derived.Test.YtaaajjinpppgeaaGreatDoorP4as
set_option linter.unusedVariables false
set_option linter.unusedSimpArgs false
set_option linter.unusedSectionVars false
namespace Go.Proofs.YtaaajjinpppgeaaGreatDoor
open Go Go.Abs
set_option maxRecDepth 100000
def A14 : List AV := [D22, (.int .i64 (.ofNat 5))]
def R14 : AV := D23
theorem m14 : E TB 51 A14 [] = some (R14, []) := crun_ok tblB_ok (fuel := 5000) (n := 60) (by kernel_rfl)
end Go.Proofs.YtaaajjinpppgeaaGreatDoor
