/- TakeBlock and TakeIno: both answers are alike. Own work; no condition. -/
import Derived.Test.YtaaajjinpppgeaaHb
set_option linter.unusedVariables false
set_option linter.unusedSimpArgs false
set_option linter.unusedSectionVars false
namespace Go.Proofs.Ytaaajjinpppgeaa
open Go Go.Abs
set_option maxRecDepth 100000
theorem takeU_sm {x : Mm} (h : x.sm) : (takeU x).sm := by
  unfold takeU; split
  · exact h
  · exact ⟨⟨by simpa using h.disk.used, by simpa using h.disk.taken, h.disk.inos, h.disk.blks, h.disk.ino, h.disk.blk⟩, by simpa using h.dirty, h.deps, h.dep⟩
theorem takeU_ok {x : Mm} (h : x.ok) : (takeU x).ok := by
  unfold takeU; split
  · exact h
  · exact ⟨⟨by simpa using h.disk.used, by simpa using h.disk.taken, h.disk.inos, h.disk.blks, h.disk.ino, h.disk.blk⟩, by simpa using h.dirty, h.deps, h.dep⟩
set_option maxHeartbeats 4000000 in
theorem e21 (x : Mm) (h : x.ok) : E T 21 [mm x] [] = some (.bool true, []) := by
  rw [E_eq t21 (Nat.le_of_ble_eq_true rfl)]
  obtain ⟨r, h1, h2, h3, h4⟩ := e43 x 1048576 (by omega) (by omega) h
  have c47 := e47 x x h
  have c45 := fun h => e45 x h
  have cA := fun h => e93 x h
  have cB := fun h => e94 x h
  have c51 := fun h => e51 x 1 (by omega) (by omega) h
  have cs := fun h => takeU_sm (x := x) h
  have ck := takeU_ok h
  generalize takeU x = N at *
  generalize ffree x.disk.used = p at *
  have c47n := e47 N N ck
  have c51n := fun h => e51 N 1 (by omega) (by omega) h
  have c64n := fun h => e64 N 1 (by omega) (by omega) h
  simp only [mm, mmO, mmR, dskR, mkMm, mkDsk, List.cons_append, List.nil_append] at h1 c45 c47 c47n cA cB c51 c51n c64n ⊢
  simp only [F21, go_sem, seval, bnd_ite, h1]
  by_cases c1 : r < 0
  · rw [if_pos c1]
  rw [if_neg c1]
  have hm := h4 (by omega)
  have hs := cs hm
  have n1 : ¬ (1 + (coMm x : Int)) < 0 := by omega
  have n2 : ¬ (1 + (coMm N : Int)) < 0 := by omega
  simp only [go_sem, seval, bnd_ite, c45 hm, cA hm, cB hm, c47, c47n, c51 hm, c51n hs, c64n hs, mkB_len, mkL_len, tkO, tkN, n1, n2, decide_true, decide_false, Bool.not_true, Bool.false_eq_true, if_false]
theorem takeI_sm {x : Mm} (h : x.sm) : (takeI x).sm := by
  unfold takeI; split
  · exact h
  · exact ⟨⟨by simpa using h.disk.used, by simpa using h.disk.taken, h.disk.inos, h.disk.blks, h.disk.ino, h.disk.blk⟩, by simpa using h.dirty, h.deps, h.dep⟩
theorem takeI_ok {x : Mm} (h : x.ok) : (takeI x).ok := by
  unfold takeI; split
  · exact h
  · exact ⟨⟨by simpa using h.disk.used, by simpa using h.disk.taken, h.disk.inos, h.disk.blks, h.disk.ino, h.disk.blk⟩, by simpa using h.dirty, h.deps, h.dep⟩
set_option maxHeartbeats 4000000 in
theorem e22 (x : Mm) (h : x.ok) : E T 22 [mm x] [] = some (.bool true, []) := by
  rw [E_eq t22 (Nat.le_of_ble_eq_true rfl)]
  obtain ⟨r, h1, h2, h3, h4⟩ := e43 x 1048576 (by omega) (by omega) h
  have c47 := e47 x x h
  have c45 := fun h => e45 x h
  have cA := fun h => e95 x h
  have cB := fun h => e96 x h
  have c51 := fun h => e51 x 1 (by omega) (by omega) h
  have cs := fun h => takeI_sm (x := x) h
  have ck := takeI_ok h
  generalize takeI x = N at *
  generalize ffree x.disk.taken = p at *
  have c47n := e47 N N ck
  have c51n := fun h => e51 N 1 (by omega) (by omega) h
  have c64n := fun h => e64 N 1 (by omega) (by omega) h
  simp only [mm, mmO, mmR, dskR, mkMm, mkDsk, List.cons_append, List.nil_append] at h1 c45 c47 c47n cA cB c51 c51n c64n ⊢
  simp only [F22, go_sem, seval, bnd_ite, h1]
  by_cases c1 : r < 0
  · rw [if_pos c1]
  rw [if_neg c1]
  have hm := h4 (by omega)
  have hs := cs hm
  have n1 : ¬ (1 + (coMm x : Int)) < 0 := by omega
  have n2 : ¬ (1 + (coMm N : Int)) < 0 := by omega
  simp only [go_sem, seval, bnd_ite, c45 hm, cA hm, cB hm, c47, c47n, c51 hm, c51n hs, c64n hs, mkB_len, mkL_len, tkO, tkN, n1, n2, decide_true, decide_false, Bool.not_true, Bool.false_eq_true, if_false]
end Go.Proofs.Ytaaajjinpppgeaa
