/- Part 19 of the texts of a claim, joined by a program of ours (Mm9). No condition. -/
import Derived.Test.YtaaajjinpppgeaaGreatP9ar
set_option linter.unusedVariables false
set_option linter.unusedSimpArgs false
set_option linter.unusedSectionVars false
namespace Go.Proofs.YtaaajjinpppgeaaGreat
open Go Go.Abs
set_option maxRecDepth 100000
def A9 : List AV := [D17, (.int .i64 (.ofNat 5))]
def R9 : AV := D18
theorem m9 : E TB 141 A9 [] = some (R9, []) := crun_ok tblB_ok (fuel := 5000) (n := 60) (by kernel_rfl)
end Go.Proofs.YtaaajjinpppgeaaGreat
