/- Part 26 of the texts of a claim, joined by a program of ours (Mm26, Mm27, Mm28, Mm29, Mm30, Mm31, Mm32, Mm33, Mm34, Mm35, Mm36, Mm37, Mm38, Mm39, Mm40, Mm41, Mm42, Mm43, Mm44, Mm45, Mm46, Mm47, Mm48, Mm49, Mm50, Mm51, Mm52, Mm53, Mm54, Mm55, Mm56, Mm57, Mm58, Mm59, Mm60, Mm61, Mm62). No condition. -/
import Derived.Test.YtaaajjinpppgeaaGreatP9ay
set_option linter.unusedVariables false
set_option linter.unusedSimpArgs false
set_option linter.unusedSectionVars false
namespace Go.Proofs.YtaaajjinpppgeaaGreat
open Go Go.Abs
set_option maxRecDepth 100000
def A26 : List AV := [D33]
def R26 : AV := (.bool false)
theorem m26 : E TB 57 A26 [] = some (R26, []) := crun_ok tblB_ok (fuel := 5000) (n := 60) (by kernel_rfl)
end Go.Proofs.YtaaajjinpppgeaaGreat
namespace Go.Proofs.YtaaajjinpppgeaaGreat
open Go Go.Abs
set_option maxRecDepth 100000
def A27 : List AV := [D33]
def R27 : AV := D25
theorem m27 : E TB 100 A27 [] = some (R27, []) := crun_ok tblB_ok (fuel := 5000) (n := 60) (by kernel_rfl)
end Go.Proofs.YtaaajjinpppgeaaGreat
namespace Go.Proofs.YtaaajjinpppgeaaGreat
open Go Go.Abs
set_option maxRecDepth 100000
def A28 : List AV := [D26]
def R28 : AV := D25
theorem m28 : E TB 99 A28 [] = some (R28, []) := crun_ok tblB_ok (fuel := 5000) (n := 60) (by kernel_rfl)
end Go.Proofs.YtaaajjinpppgeaaGreat
namespace Go.Proofs.YtaaajjinpppgeaaGreat
open Go Go.Abs
set_option maxRecDepth 100000
def A29 : List AV := [D26]
def R29 : AV := D34
theorem m29 : E TB 76 A29 [] = some (R29, []) := crun_ok tblB_ok (fuel := 5000) (n := 60) (by kernel_rfl)
end Go.Proofs.YtaaajjinpppgeaaGreat
namespace Go.Proofs.YtaaajjinpppgeaaGreat
open Go Go.Abs
set_option maxRecDepth 100000
def A30 : List AV := [D26, (.int .i64 (.ofNat 2))]
def R30 : AV := (.int .i64 (.ofNat 1))
def tbl30 : List (Nat × CF) := (76, .orc (memoG [(A19, R19), (A29, R29)])) :: tblB
theorem tbl30_ok : TblOk TB tbl30 := ⟨memo_ok (fun p hp => by simp only [List.mem_cons, List.not_mem_nil, or_false] at hp; rcases hp with rfl | rfl <;> first | exact m19 | exact m29), tblB_ok⟩
theorem m30 : E TB 78 A30 [] = some (R30, []) := crun_ok tbl30_ok (fuel := 5000) (n := 60) (by kernel_rfl)
end Go.Proofs.YtaaajjinpppgeaaGreat
namespace Go.Proofs.YtaaajjinpppgeaaGreat
open Go Go.Abs
set_option maxRecDepth 100000
def A31 : List AV := [D26, (.int .i64 (.ofNat 3))]
def R31 : AV := (.int .i64 (.ofNat 1))
def tbl31 : List (Nat × CF) := (76, .orc (memoG [(A19, R19), (A29, R29)])) :: tblB
theorem tbl31_ok : TblOk TB tbl31 := ⟨memo_ok (fun p hp => by simp only [List.mem_cons, List.not_mem_nil, or_false] at hp; rcases hp with rfl | rfl <;> first | exact m19 | exact m29), tblB_ok⟩
theorem m31 : E TB 78 A31 [] = some (R31, []) := crun_ok tbl31_ok (fuel := 5000) (n := 60) (by kernel_rfl)
end Go.Proofs.YtaaajjinpppgeaaGreat
namespace Go.Proofs.YtaaajjinpppgeaaGreat
open Go Go.Abs
set_option maxRecDepth 100000
def A32 : List AV := [D26]
def R32 : AV := (.own 1 [(.int .i64 (.ofNat 1)), (.int .i64 (.ofNat 2))])
def tbl32 : List (Nat × CF) := (76, .orc (memoG [(A19, R19), (A29, R29)])) :: tblB
theorem tbl32_ok : TblOk TB tbl32 := ⟨memo_ok (fun p hp => by simp only [List.mem_cons, List.not_mem_nil, or_false] at hp; rcases hp with rfl | rfl <;> first | exact m19 | exact m29), tblB_ok⟩
theorem m32 : E TB 79 A32 [] = some (R32, []) := crun_ok tbl32_ok (fuel := 5000) (n := 60) (by kernel_rfl)
end Go.Proofs.YtaaajjinpppgeaaGreat
namespace Go.Proofs.YtaaajjinpppgeaaGreat
open Go Go.Abs
set_option maxRecDepth 100000
def A33 : List AV := [D26]
def R33 : AV := D25
def tbl33 : List (Nat × CF) := (76, .orc (memoG [(A19, R19), (A29, R29)])) :: (78, .orc (memoG [(A20, R20), (A30, R30), (A31, R31)])) :: (79, .orc (memoG [(A21, R21), (A32, R32)])) :: tblB
theorem tbl33_ok : TblOk TB tbl33 := ⟨memo_ok (fun p hp => by simp only [List.mem_cons, List.not_mem_nil, or_false] at hp; rcases hp with rfl | rfl <;> first | exact m19 | exact m29), ⟨memo_ok (fun p hp => by simp only [List.mem_cons, List.not_mem_nil, or_false] at hp; rcases hp with rfl | rfl | rfl <;> first | exact m20 | exact m30 | exact m31), ⟨memo_ok (fun p hp => by simp only [List.mem_cons, List.not_mem_nil, or_false] at hp; rcases hp with rfl | rfl <;> first | exact m21 | exact m32), tblB_ok⟩⟩⟩
theorem m33 : E TB 20 A33 [] = some (R33, []) := crun_ok tbl33_ok (fuel := 5000) (n := 60) (by kernel_rfl)
end Go.Proofs.YtaaajjinpppgeaaGreat
namespace Go.Proofs.YtaaajjinpppgeaaGreat
open Go Go.Abs
set_option maxRecDepth 100000
def A34 : List AV := [D33]
def R34 : AV := D25
def tbl34 : List (Nat × CF) := (100, .orc (memoG [(A17, R17), (A27, R27)])) :: (99, .orc (memoG [(A18, R18), (A28, R28)])) :: (20, .orc (memoG [(A22, R22), (A33, R33)])) :: tblB
theorem tbl34_ok : TblOk TB tbl34 := ⟨memo_ok (fun p hp => by simp only [List.mem_cons, List.not_mem_nil, or_false] at hp; rcases hp with rfl | rfl <;> first | exact m17 | exact m27), ⟨memo_ok (fun p hp => by simp only [List.mem_cons, List.not_mem_nil, or_false] at hp; rcases hp with rfl | rfl <;> first | exact m18 | exact m28), ⟨memo_ok (fun p hp => by simp only [List.mem_cons, List.not_mem_nil, or_false] at hp; rcases hp with rfl | rfl <;> first | exact m22 | exact m33), tblB_ok⟩⟩⟩
theorem m34 : E TB 26 A34 [] = some (R34, []) := crun_ok tbl34_ok (fuel := 5000) (n := 60) (by kernel_rfl)
end Go.Proofs.YtaaajjinpppgeaaGreat
namespace Go.Proofs.YtaaajjinpppgeaaGreat
open Go Go.Abs
set_option maxRecDepth 100000
def A35 : List AV := [D35]
def R35 : AV := (.bool false)
theorem m35 : E TB 57 A35 [] = some (R35, []) := crun_ok tblB_ok (fuel := 5000) (n := 60) (by kernel_rfl)
end Go.Proofs.YtaaajjinpppgeaaGreat
namespace Go.Proofs.YtaaajjinpppgeaaGreat
open Go Go.Abs
set_option maxRecDepth 100000
def A36 : List AV := [D35]
def R36 : AV := D36
theorem m36 : E TB 100 A36 [] = some (R36, []) := crun_ok tblB_ok (fuel := 5000) (n := 60) (by kernel_rfl)
end Go.Proofs.YtaaajjinpppgeaaGreat
namespace Go.Proofs.YtaaajjinpppgeaaGreat
open Go Go.Abs
set_option maxRecDepth 100000
def A37 : List AV := [D35]
def R37 : AV := D36
theorem m37 : E TB 99 A37 [] = some (R37, []) := crun_ok tblB_ok (fuel := 5000) (n := 60) (by kernel_rfl)
end Go.Proofs.YtaaajjinpppgeaaGreat
namespace Go.Proofs.YtaaajjinpppgeaaGreat
open Go Go.Abs
set_option maxRecDepth 100000
def A38 : List AV := [D35]
def R38 : AV := D34
theorem m38 : E TB 76 A38 [] = some (R38, []) := crun_ok tblB_ok (fuel := 5000) (n := 60) (by kernel_rfl)
end Go.Proofs.YtaaajjinpppgeaaGreat
namespace Go.Proofs.YtaaajjinpppgeaaGreat
open Go Go.Abs
set_option maxRecDepth 100000
def A39 : List AV := [D35, (.int .i64 (.ofNat 2))]
def R39 : AV := (.int .i64 (.ofNat 1))
def tbl39 : List (Nat × CF) := (76, .orc (memoG [(A19, R19), (A29, R29), (A38, R38)])) :: tblB
theorem tbl39_ok : TblOk TB tbl39 := ⟨memo_ok (fun p hp => by simp only [List.mem_cons, List.not_mem_nil, or_false] at hp; rcases hp with rfl | rfl | rfl <;> first | exact m19 | exact m29 | exact m38), tblB_ok⟩
theorem m39 : E TB 78 A39 [] = some (R39, []) := crun_ok tbl39_ok (fuel := 5000) (n := 60) (by kernel_rfl)
end Go.Proofs.YtaaajjinpppgeaaGreat
namespace Go.Proofs.YtaaajjinpppgeaaGreat
open Go Go.Abs
set_option maxRecDepth 100000
def A40 : List AV := [D35, (.int .i64 (.ofNat 3))]
def R40 : AV := (.int .i64 (.ofNat 1))
def tbl40 : List (Nat × CF) := (76, .orc (memoG [(A19, R19), (A29, R29), (A38, R38)])) :: tblB
theorem tbl40_ok : TblOk TB tbl40 := ⟨memo_ok (fun p hp => by simp only [List.mem_cons, List.not_mem_nil, or_false] at hp; rcases hp with rfl | rfl | rfl <;> first | exact m19 | exact m29 | exact m38), tblB_ok⟩
theorem m40 : E TB 78 A40 [] = some (R40, []) := crun_ok tbl40_ok (fuel := 5000) (n := 60) (by kernel_rfl)
end Go.Proofs.YtaaajjinpppgeaaGreat
namespace Go.Proofs.YtaaajjinpppgeaaGreat
open Go Go.Abs
set_option maxRecDepth 100000
def A41 : List AV := [D35]
def R41 : AV := (.own 1 [(.int .i64 (.ofNat 1)), (.int .i64 (.ofNat 2))])
def tbl41 : List (Nat × CF) := (76, .orc (memoG [(A19, R19), (A29, R29), (A38, R38)])) :: tblB
theorem tbl41_ok : TblOk TB tbl41 := ⟨memo_ok (fun p hp => by simp only [List.mem_cons, List.not_mem_nil, or_false] at hp; rcases hp with rfl | rfl | rfl <;> first | exact m19 | exact m29 | exact m38), tblB_ok⟩
theorem m41 : E TB 79 A41 [] = some (R41, []) := crun_ok tbl41_ok (fuel := 5000) (n := 60) (by kernel_rfl)
end Go.Proofs.YtaaajjinpppgeaaGreat
namespace Go.Proofs.YtaaajjinpppgeaaGreat
open Go Go.Abs
set_option maxRecDepth 100000
def A42 : List AV := [D35]
def R42 : AV := D25
def tbl42 : List (Nat × CF) := (76, .orc (memoG [(A19, R19), (A29, R29), (A38, R38)])) :: (78, .orc (memoG [(A20, R20), (A30, R30), (A31, R31), (A39, R39), (A40, R40)])) :: (79, .orc (memoG [(A21, R21), (A32, R32), (A41, R41)])) :: tblB
theorem tbl42_ok : TblOk TB tbl42 := ⟨memo_ok (fun p hp => by simp only [List.mem_cons, List.not_mem_nil, or_false] at hp; rcases hp with rfl | rfl | rfl <;> first | exact m19 | exact m29 | exact m38), ⟨memo_ok (fun p hp => by simp only [List.mem_cons, List.not_mem_nil, or_false] at hp; rcases hp with rfl | rfl | rfl | rfl | rfl <;> first | exact m20 | exact m30 | exact m31 | exact m39 | exact m40), ⟨memo_ok (fun p hp => by simp only [List.mem_cons, List.not_mem_nil, or_false] at hp; rcases hp with rfl | rfl | rfl <;> first | exact m21 | exact m32 | exact m41), tblB_ok⟩⟩⟩
theorem m42 : E TB 20 A42 [] = some (R42, []) := crun_ok tbl42_ok (fuel := 5000) (n := 60) (by kernel_rfl)
end Go.Proofs.YtaaajjinpppgeaaGreat
namespace Go.Proofs.YtaaajjinpppgeaaGreat
open Go Go.Abs
set_option maxRecDepth 100000
def A43 : List AV := [D35]
def R43 : AV := D25
def tbl43 : List (Nat × CF) := (100, .orc (memoG [(A17, R17), (A27, R27), (A36, R36)])) :: (99, .orc (memoG [(A18, R18), (A28, R28), (A37, R37)])) :: (20, .orc (memoG [(A22, R22), (A33, R33), (A42, R42)])) :: tblB
theorem tbl43_ok : TblOk TB tbl43 := ⟨memo_ok (fun p hp => by simp only [List.mem_cons, List.not_mem_nil, or_false] at hp; rcases hp with rfl | rfl | rfl <;> first | exact m17 | exact m27 | exact m36), ⟨memo_ok (fun p hp => by simp only [List.mem_cons, List.not_mem_nil, or_false] at hp; rcases hp with rfl | rfl | rfl <;> first | exact m18 | exact m28 | exact m37), ⟨memo_ok (fun p hp => by simp only [List.mem_cons, List.not_mem_nil, or_false] at hp; rcases hp with rfl | rfl | rfl <;> first | exact m22 | exact m33 | exact m42), tblB_ok⟩⟩⟩
theorem m43 : E TB 26 A43 [] = some (R43, []) := crun_ok tbl43_ok (fuel := 5000) (n := 60) (by kernel_rfl)
end Go.Proofs.YtaaajjinpppgeaaGreat
namespace Go.Proofs.YtaaajjinpppgeaaGreat
open Go Go.Abs
set_option maxRecDepth 100000
def A44 : List AV := [D37]
def R44 : AV := (.bool false)
theorem m44 : E TB 57 A44 [] = some (R44, []) := crun_ok tblB_ok (fuel := 5000) (n := 60) (by kernel_rfl)
end Go.Proofs.YtaaajjinpppgeaaGreat
namespace Go.Proofs.YtaaajjinpppgeaaGreat
open Go Go.Abs
set_option maxRecDepth 100000
def A45 : List AV := [D37]
def R45 : AV := D38
theorem m45 : E TB 100 A45 [] = some (R45, []) := crun_ok tblB_ok (fuel := 5000) (n := 60) (by kernel_rfl)
end Go.Proofs.YtaaajjinpppgeaaGreat
namespace Go.Proofs.YtaaajjinpppgeaaGreat
open Go Go.Abs
set_option maxRecDepth 100000
def A46 : List AV := [D37]
def R46 : AV := D38
theorem m46 : E TB 99 A46 [] = some (R46, []) := crun_ok tblB_ok (fuel := 5000) (n := 60) (by kernel_rfl)
end Go.Proofs.YtaaajjinpppgeaaGreat
namespace Go.Proofs.YtaaajjinpppgeaaGreat
open Go Go.Abs
set_option maxRecDepth 100000
def A47 : List AV := [D37]
def R47 : AV := D34
theorem m47 : E TB 76 A47 [] = some (R47, []) := crun_ok tblB_ok (fuel := 5000) (n := 60) (by kernel_rfl)
end Go.Proofs.YtaaajjinpppgeaaGreat
namespace Go.Proofs.YtaaajjinpppgeaaGreat
open Go Go.Abs
set_option maxRecDepth 100000
def A48 : List AV := [D37, (.int .i64 (.ofNat 2))]
def R48 : AV := (.int .i64 (.ofNat 1))
def tbl48 : List (Nat × CF) := (76, .orc (memoG [(A19, R19), (A29, R29), (A38, R38), (A47, R47)])) :: tblB
theorem tbl48_ok : TblOk TB tbl48 := ⟨memo_ok (fun p hp => by simp only [List.mem_cons, List.not_mem_nil, or_false] at hp; rcases hp with rfl | rfl | rfl | rfl <;> first | exact m19 | exact m29 | exact m38 | exact m47), tblB_ok⟩
theorem m48 : E TB 78 A48 [] = some (R48, []) := crun_ok tbl48_ok (fuel := 5000) (n := 60) (by kernel_rfl)
end Go.Proofs.YtaaajjinpppgeaaGreat
namespace Go.Proofs.YtaaajjinpppgeaaGreat
open Go Go.Abs
set_option maxRecDepth 100000
def A49 : List AV := [D37, (.int .i64 (.ofNat 3))]
def R49 : AV := (.int .i64 (.ofNat 1))
def tbl49 : List (Nat × CF) := (76, .orc (memoG [(A19, R19), (A29, R29), (A38, R38), (A47, R47)])) :: tblB
theorem tbl49_ok : TblOk TB tbl49 := ⟨memo_ok (fun p hp => by simp only [List.mem_cons, List.not_mem_nil, or_false] at hp; rcases hp with rfl | rfl | rfl | rfl <;> first | exact m19 | exact m29 | exact m38 | exact m47), tblB_ok⟩
theorem m49 : E TB 78 A49 [] = some (R49, []) := crun_ok tbl49_ok (fuel := 5000) (n := 60) (by kernel_rfl)
end Go.Proofs.YtaaajjinpppgeaaGreat
namespace Go.Proofs.YtaaajjinpppgeaaGreat
open Go Go.Abs
set_option maxRecDepth 100000
def A50 : List AV := [D37]
def R50 : AV := (.own 1 [(.int .i64 (.ofNat 1)), (.int .i64 (.ofNat 2))])
def tbl50 : List (Nat × CF) := (76, .orc (memoG [(A19, R19), (A29, R29), (A38, R38), (A47, R47)])) :: tblB
theorem tbl50_ok : TblOk TB tbl50 := ⟨memo_ok (fun p hp => by simp only [List.mem_cons, List.not_mem_nil, or_false] at hp; rcases hp with rfl | rfl | rfl | rfl <;> first | exact m19 | exact m29 | exact m38 | exact m47), tblB_ok⟩
theorem m50 : E TB 79 A50 [] = some (R50, []) := crun_ok tbl50_ok (fuel := 5000) (n := 60) (by kernel_rfl)
end Go.Proofs.YtaaajjinpppgeaaGreat
namespace Go.Proofs.YtaaajjinpppgeaaGreat
open Go Go.Abs
set_option maxRecDepth 100000
def A51 : List AV := [D37]
def R51 : AV := D25
def tbl51 : List (Nat × CF) := (76, .orc (memoG [(A19, R19), (A29, R29), (A38, R38), (A47, R47)])) :: (78, .orc (memoG [(A20, R20), (A30, R30), (A31, R31), (A39, R39), (A40, R40), (A48, R48), (A49, R49)])) :: (79, .orc (memoG [(A21, R21), (A32, R32), (A41, R41), (A50, R50)])) :: tblB
theorem tbl51_ok : TblOk TB tbl51 := ⟨memo_ok (fun p hp => by simp only [List.mem_cons, List.not_mem_nil, or_false] at hp; rcases hp with rfl | rfl | rfl | rfl <;> first | exact m19 | exact m29 | exact m38 | exact m47), ⟨memo_ok (fun p hp => by simp only [List.mem_cons, List.not_mem_nil, or_false] at hp; rcases hp with rfl | rfl | rfl | rfl | rfl | rfl | rfl <;> first | exact m20 | exact m30 | exact m31 | exact m39 | exact m40 | exact m48 | exact m49), ⟨memo_ok (fun p hp => by simp only [List.mem_cons, List.not_mem_nil, or_false] at hp; rcases hp with rfl | rfl | rfl | rfl <;> first | exact m21 | exact m32 | exact m41 | exact m50), tblB_ok⟩⟩⟩
theorem m51 : E TB 20 A51 [] = some (R51, []) := crun_ok tbl51_ok (fuel := 5000) (n := 60) (by kernel_rfl)
end Go.Proofs.YtaaajjinpppgeaaGreat
namespace Go.Proofs.YtaaajjinpppgeaaGreat
open Go Go.Abs
set_option maxRecDepth 100000
def A52 : List AV := [D37]
def R52 : AV := D25
def tbl52 : List (Nat × CF) := (100, .orc (memoG [(A17, R17), (A27, R27), (A36, R36), (A45, R45)])) :: (99, .orc (memoG [(A18, R18), (A28, R28), (A37, R37), (A46, R46)])) :: (20, .orc (memoG [(A22, R22), (A33, R33), (A42, R42), (A51, R51)])) :: tblB
theorem tbl52_ok : TblOk TB tbl52 := ⟨memo_ok (fun p hp => by simp only [List.mem_cons, List.not_mem_nil, or_false] at hp; rcases hp with rfl | rfl | rfl | rfl <;> first | exact m17 | exact m27 | exact m36 | exact m45), ⟨memo_ok (fun p hp => by simp only [List.mem_cons, List.not_mem_nil, or_false] at hp; rcases hp with rfl | rfl | rfl | rfl <;> first | exact m18 | exact m28 | exact m37 | exact m46), ⟨memo_ok (fun p hp => by simp only [List.mem_cons, List.not_mem_nil, or_false] at hp; rcases hp with rfl | rfl | rfl | rfl <;> first | exact m22 | exact m33 | exact m42 | exact m51), tblB_ok⟩⟩⟩
theorem m52 : E TB 26 A52 [] = some (R52, []) := crun_ok tbl52_ok (fuel := 5000) (n := 60) (by kernel_rfl)
end Go.Proofs.YtaaajjinpppgeaaGreat
namespace Go.Proofs.YtaaajjinpppgeaaGreat
open Go Go.Abs
set_option maxRecDepth 100000
def A53 : List AV := [D39]
def R53 : AV := (.bool false)
theorem m53 : E TB 57 A53 [] = some (R53, []) := crun_ok tblB_ok (fuel := 5000) (n := 60) (by kernel_rfl)
end Go.Proofs.YtaaajjinpppgeaaGreat
namespace Go.Proofs.YtaaajjinpppgeaaGreat
open Go Go.Abs
set_option maxRecDepth 100000
def A54 : List AV := [D39]
def R54 : AV := D40
theorem m54 : E TB 100 A54 [] = some (R54, []) := crun_ok tblB_ok (fuel := 5000) (n := 60) (by kernel_rfl)
end Go.Proofs.YtaaajjinpppgeaaGreat
namespace Go.Proofs.YtaaajjinpppgeaaGreat
open Go Go.Abs
set_option maxRecDepth 100000
def A55 : List AV := [D41]
def R55 : AV := D40
theorem m55 : E TB 99 A55 [] = some (R55, []) := crun_ok tblB_ok (fuel := 5000) (n := 60) (by kernel_rfl)
end Go.Proofs.YtaaajjinpppgeaaGreat
namespace Go.Proofs.YtaaajjinpppgeaaGreat
open Go Go.Abs
set_option maxRecDepth 100000
def A56 : List AV := [D41]
def R56 : AV := D34
theorem m56 : E TB 76 A56 [] = some (R56, []) := crun_ok tblB_ok (fuel := 5000) (n := 60) (by kernel_rfl)
end Go.Proofs.YtaaajjinpppgeaaGreat
namespace Go.Proofs.YtaaajjinpppgeaaGreat
open Go Go.Abs
set_option maxRecDepth 100000
def A57 : List AV := [D41, (.int .i64 (.ofNat 2))]
def R57 : AV := (.int .i64 (.ofNat 1))
def tbl57 : List (Nat × CF) := (76, .orc (memoG [(A19, R19), (A29, R29), (A38, R38), (A47, R47), (A56, R56)])) :: tblB
theorem tbl57_ok : TblOk TB tbl57 := ⟨memo_ok (fun p hp => by simp only [List.mem_cons, List.not_mem_nil, or_false] at hp; rcases hp with rfl | rfl | rfl | rfl | rfl <;> first | exact m19 | exact m29 | exact m38 | exact m47 | exact m56), tblB_ok⟩
theorem m57 : E TB 78 A57 [] = some (R57, []) := crun_ok tbl57_ok (fuel := 5000) (n := 60) (by kernel_rfl)
end Go.Proofs.YtaaajjinpppgeaaGreat
namespace Go.Proofs.YtaaajjinpppgeaaGreat
open Go Go.Abs
set_option maxRecDepth 100000
def A58 : List AV := [D41, (.int .i64 (.ofNat 3))]
def R58 : AV := (.int .i64 (.ofNat 1))
def tbl58 : List (Nat × CF) := (76, .orc (memoG [(A19, R19), (A29, R29), (A38, R38), (A47, R47), (A56, R56)])) :: tblB
theorem tbl58_ok : TblOk TB tbl58 := ⟨memo_ok (fun p hp => by simp only [List.mem_cons, List.not_mem_nil, or_false] at hp; rcases hp with rfl | rfl | rfl | rfl | rfl <;> first | exact m19 | exact m29 | exact m38 | exact m47 | exact m56), tblB_ok⟩
theorem m58 : E TB 78 A58 [] = some (R58, []) := crun_ok tbl58_ok (fuel := 5000) (n := 60) (by kernel_rfl)
end Go.Proofs.YtaaajjinpppgeaaGreat
namespace Go.Proofs.YtaaajjinpppgeaaGreat
open Go Go.Abs
set_option maxRecDepth 100000
def A59 : List AV := [D41]
def R59 : AV := (.own 1 [(.int .i64 (.ofNat 1))])
def tbl59 : List (Nat × CF) := (76, .orc (memoG [(A19, R19), (A29, R29), (A38, R38), (A47, R47), (A56, R56)])) :: tblB
theorem tbl59_ok : TblOk TB tbl59 := ⟨memo_ok (fun p hp => by simp only [List.mem_cons, List.not_mem_nil, or_false] at hp; rcases hp with rfl | rfl | rfl | rfl | rfl <;> first | exact m19 | exact m29 | exact m38 | exact m47 | exact m56), tblB_ok⟩
theorem m59 : E TB 79 A59 [] = some (R59, []) := crun_ok tbl59_ok (fuel := 5000) (n := 60) (by kernel_rfl)
end Go.Proofs.YtaaajjinpppgeaaGreat
namespace Go.Proofs.YtaaajjinpppgeaaGreat
open Go Go.Abs
set_option maxRecDepth 100000
def A60 : List AV := [D41]
def R60 : AV := D42
def tbl60 : List (Nat × CF) := (76, .orc (memoG [(A19, R19), (A29, R29), (A38, R38), (A47, R47), (A56, R56)])) :: (78, .orc (memoG [(A20, R20), (A30, R30), (A31, R31), (A39, R39), (A40, R40), (A48, R48), (A49, R49), (A57, R57), (A58, R58)])) :: (79, .orc (memoG [(A21, R21), (A32, R32), (A41, R41), (A50, R50), (A59, R59)])) :: tblB
theorem tbl60_ok : TblOk TB tbl60 := ⟨memo_ok (fun p hp => by simp only [List.mem_cons, List.not_mem_nil, or_false] at hp; rcases hp with rfl | rfl | rfl | rfl | rfl <;> first | exact m19 | exact m29 | exact m38 | exact m47 | exact m56), ⟨memo_ok (fun p hp => by simp only [List.mem_cons, List.not_mem_nil, or_false] at hp; rcases hp with rfl | rfl | rfl | rfl | rfl | rfl | rfl | rfl | rfl <;> first | exact m20 | exact m30 | exact m31 | exact m39 | exact m40 | exact m48 | exact m49 | exact m57 | exact m58), ⟨memo_ok (fun p hp => by simp only [List.mem_cons, List.not_mem_nil, or_false] at hp; rcases hp with rfl | rfl | rfl | rfl | rfl <;> first | exact m21 | exact m32 | exact m41 | exact m50 | exact m59), tblB_ok⟩⟩⟩
theorem m60 : E TB 20 A60 [] = some (R60, []) := crun_ok tbl60_ok (fuel := 5000) (n := 60) (by kernel_rfl)
end Go.Proofs.YtaaajjinpppgeaaGreat
namespace Go.Proofs.YtaaajjinpppgeaaGreat
open Go Go.Abs
set_option maxRecDepth 100000
def A61 : List AV := [D39]
def R61 : AV := D42
def tbl61 : List (Nat × CF) := (100, .orc (memoG [(A17, R17), (A27, R27), (A36, R36), (A45, R45), (A54, R54)])) :: (99, .orc (memoG [(A18, R18), (A28, R28), (A37, R37), (A46, R46), (A55, R55)])) :: (20, .orc (memoG [(A22, R22), (A33, R33), (A42, R42), (A51, R51), (A60, R60)])) :: tblB
theorem tbl61_ok : TblOk TB tbl61 := ⟨memo_ok (fun p hp => by simp only [List.mem_cons, List.not_mem_nil, or_false] at hp; rcases hp with rfl | rfl | rfl | rfl | rfl <;> first | exact m17 | exact m27 | exact m36 | exact m45 | exact m54), ⟨memo_ok (fun p hp => by simp only [List.mem_cons, List.not_mem_nil, or_false] at hp; rcases hp with rfl | rfl | rfl | rfl | rfl <;> first | exact m18 | exact m28 | exact m37 | exact m46 | exact m55), ⟨memo_ok (fun p hp => by simp only [List.mem_cons, List.not_mem_nil, or_false] at hp; rcases hp with rfl | rfl | rfl | rfl | rfl <;> first | exact m22 | exact m33 | exact m42 | exact m51 | exact m60), tblB_ok⟩⟩⟩
theorem m61 : E TB 26 A61 [] = some (R61, []) := crun_ok tbl61_ok (fuel := 5000) (n := 60) (by kernel_rfl)
end Go.Proofs.YtaaajjinpppgeaaGreat
namespace Go.Proofs.YtaaajjinpppgeaaGreat
open Go Go.Abs
set_option maxRecDepth 100000
def A62 : List AV := [D43]
def R62 : AV := (.bool true)
theorem m62 : E TB 57 A62 [] = some (R62, []) := crun_ok tblB_ok (fuel := 5000) (n := 60) (by kernel_rfl)
end Go.Proofs.YtaaajjinpppgeaaGreat
