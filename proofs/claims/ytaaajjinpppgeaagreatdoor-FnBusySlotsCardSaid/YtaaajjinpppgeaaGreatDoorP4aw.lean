/- Part 23 of the texts of a claim, joined by a program of ours (Mm17, Mm18, Mm19, Mm20, Mm21, Mm22, Mm23, Mm24). No condition. -/
import Derived.Test.YtaaajjinpppgeaaGreatDoorP4av
set_option linter.unusedVariables false
set_option linter.unusedSimpArgs false
set_option linter.unusedSectionVars false
namespace Go.Proofs.YtaaajjinpppgeaaGreatDoor
open Go Go.Abs
set_option maxRecDepth 100000
def A17 : List AV := [D22]
def R17 : AV := D28
def tbl17 : List (Nat × CF) := (51, .orc (memoG [(A3, R3), (A4, R4), (A5, R5), (A6, R6), (A7, R7), (A8, R8), (A14, R14), (A15, R15), (A16, R16)])) :: tblB
theorem tbl17_ok : TblOk TB tbl17 := ⟨memo_ok (fun p hp => by simp only [List.mem_cons, List.not_mem_nil, or_false] at hp; rcases hp with rfl | rfl | rfl | rfl | rfl | rfl | rfl | rfl | rfl <;> first | exact m3 | exact m4 | exact m5 | exact m6 | exact m7 | exact m8 | exact m14 | exact m15 | exact m16), tblB_ok⟩
theorem m17 : E TB 10 A17 [] = some (R17, []) := crun_ok tbl17_ok (fuel := 5000) (n := 60) (by kernel_rfl)
end Go.Proofs.YtaaajjinpppgeaaGreatDoor
namespace Go.Proofs.YtaaajjinpppgeaaGreatDoor
open Go Go.Abs
set_option maxRecDepth 100000
def A18 : List AV := [D29]
def R18 : AV := (.bool true)
theorem m18 : E TB 24 A18 [] = some (R18, []) := crun_ok tblB_ok (fuel := 5000) (n := 60) (by kernel_rfl)
end Go.Proofs.YtaaajjinpppgeaaGreatDoor
namespace Go.Proofs.YtaaajjinpppgeaaGreatDoor
open Go Go.Abs
set_option maxRecDepth 100000
def A19 : List AV := [D29, (.str ⟨#[47, 99]⟩), (.int .i64 (.ofNat 1))]
def R19 : AV := D30
def tbl19 : List (Nat × CF) := (24, .orc (memoG [(A10, R10), (A12, R12), (A18, R18)])) :: tblB
theorem tbl19_ok : TblOk TB tbl19 := ⟨memo_ok (fun p hp => by simp only [List.mem_cons, List.not_mem_nil, or_false] at hp; rcases hp with rfl | rfl | rfl <;> first | exact m10 | exact m12 | exact m18), tblB_ok⟩
theorem m19 : E TB 22 A19 [] = some (R19, []) := crun_ok tbl19_ok (fuel := 5000) (n := 60) (by kernel_rfl)
end Go.Proofs.YtaaajjinpppgeaaGreatDoor
namespace Go.Proofs.YtaaajjinpppgeaaGreatDoor
open Go Go.Abs
set_option maxRecDepth 100000
def A20 : List AV := [D31]
def R20 : AV := (.bool true)
theorem m20 : E TB 24 A20 [] = some (R20, []) := crun_ok tblB_ok (fuel := 5000) (n := 60) (by kernel_rfl)
end Go.Proofs.YtaaajjinpppgeaaGreatDoor
namespace Go.Proofs.YtaaajjinpppgeaaGreatDoor
open Go Go.Abs
set_option maxRecDepth 100000
def A21 : List AV := [D32]
def R21 : AV := (.bool true)
theorem m21 : E TB 24 A21 [] = some (R21, []) := crun_ok tblB_ok (fuel := 5000) (n := 60) (by kernel_rfl)
end Go.Proofs.YtaaajjinpppgeaaGreatDoor
namespace Go.Proofs.YtaaajjinpppgeaaGreatDoor
open Go Go.Abs
set_option maxRecDepth 100000
def A22 : List AV := [D18, (.str ⟨#[47, 98]⟩)]
def R22 : AV := D33
def tbl22 : List (Nat × CF) := (24, .orc (memoG [(A10, R10), (A12, R12), (A18, R18), (A20, R20), (A21, R21)])) :: tblB
theorem tbl22_ok : TblOk TB tbl22 := ⟨memo_ok (fun p hp => by simp only [List.mem_cons, List.not_mem_nil, or_false] at hp; rcases hp with rfl | rfl | rfl | rfl | rfl <;> first | exact m10 | exact m12 | exact m18 | exact m20 | exact m21), tblB_ok⟩
theorem m22 : E TB 21 A22 [] = some (R22, []) := crun_ok tbl22_ok (fuel := 5000) (n := 60) (by kernel_rfl)
end Go.Proofs.YtaaajjinpppgeaaGreatDoor
namespace Go.Proofs.YtaaajjinpppgeaaGreatDoor
open Go Go.Abs
set_option maxRecDepth 100000
def A23 : List AV := [D34]
def R23 : AV := (.bool true)
theorem m23 : E TB 24 A23 [] = some (R23, []) := crun_ok tblB_ok (fuel := 5000) (n := 60) (by kernel_rfl)
end Go.Proofs.YtaaajjinpppgeaaGreatDoor
namespace Go.Proofs.YtaaajjinpppgeaaGreatDoor
open Go Go.Abs
set_option maxRecDepth 100000
def A24 : List AV := [D34, (.str ⟨#[47, 99]⟩), (.int .i64 (.ofNat 1))]
def R24 : AV := D35
def tbl24 : List (Nat × CF) := (24, .orc (memoG [(A10, R10), (A12, R12), (A18, R18), (A20, R20), (A21, R21), (A23, R23)])) :: tblB
theorem tbl24_ok : TblOk TB tbl24 := ⟨memo_ok (fun p hp => by simp only [List.mem_cons, List.not_mem_nil, or_false] at hp; rcases hp with rfl | rfl | rfl | rfl | rfl | rfl <;> first | exact m10 | exact m12 | exact m18 | exact m20 | exact m21 | exact m23), tblB_ok⟩
theorem m24 : E TB 22 A24 [] = some (R24, []) := crun_ok tbl24_ok (fuel := 5000) (n := 60) (by kernel_rfl)
end Go.Proofs.YtaaajjinpppgeaaGreatDoor
