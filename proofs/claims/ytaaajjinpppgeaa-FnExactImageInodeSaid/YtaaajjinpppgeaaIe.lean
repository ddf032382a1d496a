/- ImageInode: both answers are alike. Own work; no condition. -/
import Derived.Test.YtaaajjinpppgeaaId
import Derived.Test.YtaaajjinpppgeaaKf
set_option linter.unusedVariables false
set_option linter.unusedSimpArgs false
set_option linter.unusedSectionVars false
namespace Go.Proofs.Ytaaajjinpppgeaa
open Go Go.Abs
set_option maxRecDepth 100000
theorem imageIno_sm (x : Mm) (h : x.sm) (i : Int) : (imageIno x i).sm := by
  unfold imageIno
  split
  · split
    · rename_i p hp
      show (x.deps.foldl (imStep i) p.ptrs).length ≤ 1048576
      rw [imFold_len]; exact h.disk.ino p (List.mem_of_getElem? hp)
    · exact (by decide : (2 : Nat) ≤ 1048576)
  · exact (by decide : (2 : Nat) ≤ 1048576)
set_option maxHeartbeats 2000000 in
theorem e7 (x : Mm) (h : x.ok) (i : Int) (hi : -9223372036854775808 ≤ i ∧ i ≤ 9223372036854775807) : E T 7 [mm x, .int .i64 i] [] = some (.bool true, []) := by
  rw [E_eq t7 (Nat.le_of_ble_eq_true rfl)]
  obtain ⟨r, h1, h2, h3, h4⟩ := e43 x 1048576 (by omega) (by omega) h
  have c47 := e47 x x h
  have c45 := fun h => e45 x h
  have c48 := fun h => e48 x h i hi
  have c49 := fun h => e49 x h i hi
  have c51 := fun h => e51 x 1 (by omega) (by omega) h
  have cI := fun h => imageIno_sm x h i
  generalize imageIno x i = I at *
  have c50 := e50 I I
  have c52 := fun h => e52 I 1 (by omega) (by omega) h
  have c53 := fun h => e53 I.kind I.links I.ptrs.length 1 (by omega) (by omega) h
  simp only [mm, mmO, mmR, dskR, mkMm, mkDsk, ino, inoO, List.cons_append, List.nil_append] at h1 c45 c47 c48 c49 c50 c51 ⊢
  simp only [F7, go_sem, seval, bnd_ite, h1]
  by_cases c1 : r < 0
  · rw [if_pos c1]
  rw [if_neg c1]
  have hm := h4 (by omega)
  have hI := cI hm
  have hok : I.ok := by unfold Ino.ok maxLen; unfold Ino.sm at hI; omega
  generalize hM : ((List.range I.ptrs.length).map fun i => (1 : Int) + (i : Nat)) = M at *
  have hml : M.length = I.ptrs.length := by rw [← hM]; simp
  have htk : (List.map iv M).take I.ptrs.length = List.map iv M := List.take_of_length_le (by simp [hml])
  have n1 : ¬ (1 + (coMm x : Int)) < 0 := by omega
  have n2 : ¬ (1 + (I.ptrs.length : Int)) < 0 := by omega
  simp only [go_sem, seval, bnd_ite, c45 hm, c48 hm, c49 hm, c47, c50 hok, c51 hm, c52 hI, c53 hI, mkB_len, mkL_len, hml, htk, n1, n2, decide_true, decide_false, Bool.not_true, Bool.false_eq_true, if_false]
end Go.Proofs.Ytaaajjinpppgeaa
