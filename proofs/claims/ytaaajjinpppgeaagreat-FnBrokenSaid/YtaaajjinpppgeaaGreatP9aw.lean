/- Part 23 of the texts of a claim, joined by a program of ours (Mm15). No condition. -/
import Derived.Test.YtaaajjinpppgeaaGreatP9av
set_option linter.unusedVariables false
set_option linter.unusedSimpArgs false
set_option linter.unusedSectionVars false
namespace Go.Proofs.YtaaajjinpppgeaaGreat
open Go Go.Abs
set_option maxRecDepth 100000
def A15 : List AV := [D26]
def R15 : AV := (.bool true)
theorem m15 : E TB 53 A15 [] = some (R15, []) := crun_ok tblB_ok (fuel := 5000) (n := 60) (by kernel_rfl)
end Go.Proofs.YtaaajjinpppgeaaGreat
