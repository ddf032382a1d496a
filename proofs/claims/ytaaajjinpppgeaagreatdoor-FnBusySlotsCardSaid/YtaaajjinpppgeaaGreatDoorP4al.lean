/- Part 12 of the texts of a claim, joined by a program of ours (Mm2). No condition. -/
import Derived.Test.YtaaajjinpppgeaaGreatDoorP4ak
set_option linter.unusedVariables false
set_option linter.unusedSimpArgs false
set_option linter.unusedSectionVars false
namespace Go.Proofs.YtaaajjinpppgeaaGreatDoor
open Go Go.Abs
set_option maxRecDepth 100000
def A2 : List AV := [D3, (.str ⟨#[47, 98]⟩), (.int .i64 (.ofNat 1))]
def R2 : AV := D4
theorem m2 : E TB 8 A2 [] = some (R2, []) := crun_ok tblB_ok (fuel := 5000) (n := 60) (by kernel_rfl)
end Go.Proofs.YtaaajjinpppgeaaGreatDoor
