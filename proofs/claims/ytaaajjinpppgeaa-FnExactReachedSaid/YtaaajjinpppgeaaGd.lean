/- Reached: both answers are alike. Own work; no condition. -/
import Derived.Test.YtaaajjinpppgeaaFz
import Derived.Test.YtaaajjinpppgeaaGc
import Derived.Test.YtaaajjinpppgeaaKe
set_option linter.unusedVariables false
set_option linter.unusedSimpArgs false
set_option linter.unusedSectionVars false
namespace Go.Proofs.Ytaaajjinpppgeaa
open Go Go.Abs
set_option maxRecDepth 100000
set_option maxHeartbeats 2000000 in
theorem e23 (x : Dsk) (h : x.ok) : E T 23 [dsk x] [] = some (.bool true, []) := by
  rw [E_eq t23 (Nat.le_of_ble_eq_true rfl)]
  obtain ⟨r, h1, h2, h3, h4⟩ := e38 x 1048576 (by omega) (by omega) h
  have c40 := fun h => e40 x h
  have c42 := e42 x x h
  have c97 := fun h => e97 x h
  have c98 := fun h => e98 x h
  have c63x := fun h => e63 x 1 (by omega) (by omega) h
  have cl : x.sm → (reachL x).length ≤ 1048576 := fun hs => Nat.le_trans (reachL_len x) hs.inos
  generalize reachL x = R at *
  have c99 := fun k => e99 R R k
  have c100 := fun k => e100 R 1 (by omega) (by omega) k
  have c101 := fun k => e101 R.length 1 (by omega) (by omega) k
  simp only [dsk, dskO, dskR, mkDsk, List.cons_append, List.nil_append] at h1 c40 c42 c97 c98 c63x ⊢
  simp only [F23, go_sem, seval, bnd_ite, h1]
  by_cases c1 : r < 0
  · rw [if_pos c1]
  rw [if_neg c1]
  have hm := h4 (by omega)
  have hR := cl hm
  have hk : R.length ≤ maxLen := by unfold maxLen; omega
  generalize hM : ((List.range R.length).map fun i => (1 : Int) + (i : Nat)) = M at *
  have hml : M.length = R.length := by rw [← hM]; simp
  have htk : (List.map iv M).take R.length = List.map iv M := List.take_of_length_le (by simp [hml])
  have htr : (List.map iv R).take R.length = List.map iv R := List.take_of_length_le (by simp)
  have n1 : ¬ (1 + (coDsk x : Int)) < 0 := by omega
  have n2 : ¬ (1 + (R.length : Int)) < 0 := by omega
  simp only [go_sem, seval, bnd_ite, c40 hm, c42, c97 hm, c98 hm, c99 hk, c63x hm, c100 hR, c101 hR, mkB_len, mkL_len, hml, htk, htr, n1, n2, decide_true, decide_false, Bool.not_true, Bool.false_eq_true, if_false]
end Go.Proofs.Ytaaajjinpppgeaa
