/- MemNew. Own work; no condition. -/
import Derived.Test.YtaaajjinpppgeaaPa
import Derived.Test.YtaaajjinpppgeaaKf
set_option linter.unusedVariables false
set_option linter.unusedSimpArgs false
set_option linter.unusedSectionVars false
namespace Go.Proofs.Ytaaajjinpppgeaa
open Go Go.Abs
set_option maxRecDepth 100000
def memNew (x : Dsk) : Mm := ⟨x, List.replicate 21 false, [], 1⟩
theorem tk_len {α : Type} {f : α → AV} {l : List α} {n : Nat} (h : l.length = n) : (l.map f).take n = l.map f := List.take_of_length_le (by rw [List.length_map, h]; exact Nat.le_refl _)
theorem rep_bv (n : Nat) : List.replicate n (AV.bool false) = (List.replicate n false).map bv := by rw [List.map_replicate]; rfl
theorem memNew_sm {x : Dsk} (h : x.sm) : (memNew x).sm := ⟨h, by show (List.replicate 21 false).length ≤ 1048576; simp, by show (0 : Nat) ≤ 1048576; omega, fun y hy => by cases hy⟩
theorem memNew_ok {x : Dsk} (h : x.ok) : (memNew x).ok := ⟨h, by show (List.replicate 21 false).length ≤ maxLen; unfold maxLen; simp, by show (0 : Nat) ≤ maxLen; unfold maxLen; omega, fun y hy => by cases hy⟩
theorem e61 (x : Dsk) (h : x.sm) : E T 61 [dsk x] [] = some (mmO (memNew x), []) := by
  rw [E_eqW t61 (Nat.le_of_ble_eq_true rfl)]
  have e1 := e158 x h
  unfold dsk dskO at e1
  have t1 : (x.used.map bv).take x.used.length = x.used.map bv := List.take_of_length_le (by simp)
  have t2 : (x.taken.map bv).take x.taken.length = x.taken.map bv := List.take_of_length_le (by simp)
  have t3 : (x.inos.map inoO).take x.inos.length = x.inos.map inoO := List.take_of_length_le (by simp)
  have t4 : (x.blks.map blkO).take x.blks.length = x.blks.map blkO := List.take_of_length_le (by simp)
  simp only [dsk, F61, go_sem, seval, bnd_ite, e1, t1, t2, t3, t4, mmO, memNew, bv]
theorem e62 (x : Dsk) (h : x.sm) : E T 62 [dsk x] [] = some (mmO (memNew x), []) := by
  rw [E_eqW t62 (Nat.le_of_ble_eq_true rfl)]
  have e1 := e159 x h
  unfold dsk dskO at e1
  have t1 : (x.used.map bv).take x.used.length = x.used.map bv := List.take_of_length_le (by simp)
  have t2 : (x.taken.map bv).take x.taken.length = x.taken.map bv := List.take_of_length_le (by simp)
  have t3 : (x.inos.map inoO).take x.inos.length = x.inos.map inoO := List.take_of_length_le (by simp)
  have t4 : (x.blks.map blkO).take x.blks.length = x.blks.map blkO := List.take_of_length_le (by simp)
  simp only [dsk, F62, go_sem, seval, bnd_ite, e1, t1, t2, t3, t4, mmO, memNew, bv]
set_option maxHeartbeats 4000000 in
theorem e10 (x : Dsk) (h : x.ok) : E T 10 [dsk x] [] = some (.bool true, []) := by
  rw [E_eq t10 (Nat.le_of_ble_eq_true rfl)]
  obtain ⟨r, h1, h2, h3, h4⟩ := e38 x 1048576 (by omega) (by omega) h
  have c40 := fun h => e40 x h
  have c42 := e42 x x h
  have c61 := fun h => e61 x h
  have c62 := fun h => e62 x h
  have c63 := fun h => e63 x 1 (by omega) (by omega) h
  have cs := fun h => memNew_sm (x := x) h
  have ck := memNew_ok h
  generalize memNew x = N at *
  have c47 := e47 N N ck
  have c51 := fun h => e51 N 1 (by omega) (by omega) h
  have c64 := fun h => e64 N 1 (by omega) (by omega) h
  simp only [dsk, dskO, dskR, mkDsk, mm, mmO, mmR, mkMm, List.cons_append, List.nil_append] at h1 c40 c42 c61 c62 c63 c47 c51 c64 ⊢
  simp only [F10, go_sem, seval, bnd_ite, h1]
  by_cases c1 : r < 0
  · rw [if_pos c1]
  rw [if_neg c1]
  have hm := h4 (by omega)
  have hs := cs hm
  have n1 : ¬ (1 + (coDsk x : Int)) < 0 := by omega
  have n2 : ¬ (1 + (coMm N : Int)) < 0 := by omega
  simp only [go_sem, seval, bnd_ite, c40 hm, c42, c61 hm, c62 hm, c63 hm, c47, c51 hs, c64 hs, mkB_len, mkL_len, tk_len, n1, n2, decide_true, decide_false, Bool.not_true, Bool.false_eq_true, if_false]
end Go.Proofs.Ytaaajjinpppgeaa
