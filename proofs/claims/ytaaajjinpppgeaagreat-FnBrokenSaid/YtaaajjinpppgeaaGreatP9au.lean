/- Part 21 of the texts of a claim, joined by a program of ours (Mm11). No condition. -/
import Derived.Test.YtaaajjinpppgeaaGreatP9at
set_option linter.unusedVariables false
set_option linter.unusedSimpArgs false
set_option linter.unusedSectionVars false
namespace Go.Proofs.YtaaajjinpppgeaaGreat
open Go Go.Abs
set_option maxRecDepth 100000
def A11 : List AV := [D21, (.int .i64 (.ofNat 1))]
def R11 : AV := D22
theorem m11 : E TB 141 A11 [] = some (R11, []) := crun_ok tblB_ok (fuel := 5000) (n := 60) (by kernel_rfl)
end Go.Proofs.YtaaajjinpppgeaaGreat
