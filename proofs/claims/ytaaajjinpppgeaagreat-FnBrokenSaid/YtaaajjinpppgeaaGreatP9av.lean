/- Part 22 of the texts of a claim, joined by a program of ours (Mm12, Mm13). No condition. -/
import Derived.Test.YtaaajjinpppgeaaGreatP9au
set_option linter.unusedVariables false
set_option linter.unusedSimpArgs false
set_option linter.unusedSectionVars false
namespace Go.Proofs.YtaaajjinpppgeaaGreat
open Go Go.Abs
set_option maxRecDepth 100000
def A12 : List AV := [D7]
def R12 : AV := D23
def tbl12 : List (Nat × CF) := (141, .orc (memoG [(A4, R4), (A5, R5), (A6, R6), (A7, R7), (A8, R8), (A9, R9), (A10, R10), (A11, R11)])) :: tblB
theorem tbl12_ok : TblOk TB tbl12 := ⟨memo_ok (fun p hp => by simp only [List.mem_cons, List.not_mem_nil, or_false] at hp; rcases hp with rfl | rfl | rfl | rfl | rfl | rfl | rfl | rfl <;> first | exact m4 | exact m5 | exact m6 | exact m7 | exact m8 | exact m9 | exact m10 | exact m11), tblB_ok⟩
theorem m12 : E TB 50 A12 [] = some (R12, []) := crun_ok tbl12_ok (fuel := 5000) (n := 60) (by kernel_rfl)
end Go.Proofs.YtaaajjinpppgeaaGreat
namespace Go.Proofs.YtaaajjinpppgeaaGreat
open Go Go.Abs
set_option maxRecDepth 100000
def A13 : List AV := [D24]
def R13 : AV := D25
theorem m13 : E TB 51 A13 [] = some (R13, []) := crun_ok tblB_ok (fuel := 5000) (n := 60) (by kernel_rfl)
end Go.Proofs.YtaaajjinpppgeaaGreat
