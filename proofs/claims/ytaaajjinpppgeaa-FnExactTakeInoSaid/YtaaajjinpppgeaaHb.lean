/- TakeBlock and TakeIno. Own work; no condition. -/
import Derived.Test.YtaaajjinpppgeaaHa
import Derived.Test.YtaaajjinpppgeaaKf
set_option linter.unusedVariables false
set_option linter.unusedSimpArgs false
set_option linter.unusedSectionVars false
namespace Go.Proofs.Ytaaajjinpppgeaa
open Go Go.Abs
set_option maxRecDepth 100000
theorem ffree_le (l : List Bool) : ffree l = 0 ∨ (1 ≤ ffree l ∧ ffree l ≤ (l.length : Int)) := by
  unfold ffree
  cases hf : l.findIdx? (fun b => !b) with
  | none => exact .inl rfl
  | some i =>
    right
    have := (List.findIdx?_eq_some_iff_getElem.1 hf).1
    simp only; omega
def takeU (x : Mm) : Mm := if ffree x.disk.used = 0 then x else { x with disk := { x.disk with used := x.disk.used.set (ffree x.disk.used - 1).toNat true }, dirty := x.dirty.set 0 true }
def takeI (x : Mm) : Mm := if ffree x.disk.taken = 0 then x else { x with disk := { x.disk with taken := x.disk.taken.set (ffree x.disk.taken - 1).toNat true }, dirty := x.dirty.set 0 true }
theorem x189 (a b : AV) (mem : Mem) : E T 189 [a, b] mem = bnd (X T mem.length F189.body ⟨enumA 0 [a, b], mem⟩) (finE mem.length F189.results) := E_eq t189 (Nat.le_of_ble_eq_true rfl)
theorem x190 (a b : AV) (mem : Mem) : E T 190 [a, b] mem = bnd (X T mem.length F190.body ⟨enumA 0 [a, b], mem⟩) (finE mem.length F190.results) := E_eq t190 (Nat.le_of_ble_eq_true rfl)
theorem x245 (a b : AV) (mem : Mem) : E T 245 [a, b] mem = bnd (X T mem.length F245.body ⟨enumA 0 [a, b], mem⟩) (finE mem.length F245.results) := E_eq t245 (Nat.le_of_ble_eq_true rfl)
theorem setv (l : List Bool) (k : Nat) : (l.map bv).set k (.bool true) = (l.set k true).map bv := by rw [List.map_set]; rfl
theorem tkO {α : Type} {f : α → AV} {l : List α} : (l.map f).take l.length = l.map f := List.take_of_length_le (by simp)
theorem tkN {α : Type} {f : α → AV} {l : List α} {n : Nat} (h : l.length = n) : (l.map f).take n = l.map f := List.take_of_length_le (by rw [List.length_map, h]; exact Nat.le_refl _)
theorem e93 (x : Mm) (h : x.sm) : E T 93 [mm x] [] = some (.tup [mmO (takeU x), .int .i64 (ffree x.disk.used)], []) := by
  rw [E_eq t93 (Nat.le_of_ble_eq_true rfl)]
  have e1 := e183 x h
  have e2 := e188 x.disk.used h.disk.used
  have hl := h.disk.used
  have hd := h.dirty
  unfold mm mmO at e1
  unfold takeU
  rcases ffree_le x.disk.used with h0 | ⟨h1, h2⟩
  · rw [if_pos h0]
    rw [h0] at e2 ⊢
    simp only [mm, mmO, F93, go_sem, seval, bnd_ite, e1, e2, tkO, decide_true, if_true]
    first | done | rfl
  · rw [if_neg (by omega)]
    generalize ffree x.disk.used = p at *
    have c0 : decide (p = 0) = false := decide_eq_false (by omega)
    have c1 : 0 ≤ p - 1 := by omega
    have c2 : p - 1 < (x.disk.used.length : Int) := by omega
    have c3 : (p - 1).toNat < x.disk.used.length := by omega
    have w2 := w_i64 (p - 1) (by omega)
    obtain ⟨u, hu⟩ := get_at c3
    have gu : (x.disk.used.map bv).getD (p - 1).toNat .undef = .bool u := gD_map hu
    have sl : (x.disk.used.set (p - 1).toNat true).length = x.disk.used.length := by simp
    have tk2 : ((x.disk.used.set (p - 1).toNat true).map bv).take x.disk.used.length = (x.disk.used.set (p - 1).toNat true).map bv := List.take_of_length_le (by simp)
    have tk3 : ((x.dirty.set 0 true).map bv).take x.dirty.length = (x.dirty.set 0 true).map bv := List.take_of_length_le (by simp)
    by_cases cd : 0 < x.dirty.length
    · have cd1 : (0 : Int) < (x.dirty.length : Int) := by omega
      obtain ⟨v, hv⟩ := get_at cd
      have gv : (x.dirty.map bv).getD 0 .undef = .bool v := gD_map hv
      simp only [mm, mmO, F93, x189, F189, go_sem, seval, bnd_ite, e1, e2, c0, c1, c2, c3, w2, gu, gv, cd, cd1, setv, sl, tkO, tk2, tk3, decide_true, if_true, Bool.false_eq_true, if_false]
      first | done | rfl
    · have cd1 : ¬ (0 : Int) < (x.dirty.length : Int) := by omega
      have cn : x.dirty = [] := List.length_eq_zero_iff.1 (by omega)
      have sd : x.dirty.set 0 true = x.dirty := by rw [cn]; rfl
      rw [sd]
      simp only [mm, mmO, F93, x189, F189, go_sem, seval, bnd_ite, e1, e2, c0, c1, c2, c3, w2, gu, cd, cd1, setv, sl, tkO, tk2, decide_true, decide_false, if_true, Bool.false_eq_true, if_false]
      first | done | rfl
theorem e94 (x : Mm) (h : x.sm) : E T 94 [mm x] [] = some (.tup [mmO (takeU x), .int .i64 (ffree x.disk.used)], []) := by
  rw [E_eq t94 (Nat.le_of_ble_eq_true rfl)]
  have e1 := e185 x h
  have e2 := e244 x.disk.used h.disk.used
  have hl := h.disk.used
  have hd := h.dirty
  unfold mm mmO at e1
  unfold takeU
  rcases ffree_le x.disk.used with h0 | ⟨h1, h2⟩
  · rw [if_pos h0]
    rw [h0] at e2 ⊢
    simp only [mm, mmO, F94, x190, F190, go_sem, seval, bnd_ite, e1, e2, tkO, Int.lt_irrefl, decide_false, Bool.false_eq_true, if_false]
    first | done | rfl
  · rw [if_neg (by omega)]
    generalize ffree x.disk.used = p at *
    have c0 : 0 < p := by omega
    have c1 : 0 ≤ p - 1 := by omega
    have c2 : p - 1 < (x.disk.used.length : Int) := by omega
    have c3 : (p - 1).toNat < x.disk.used.length := by omega
    have w2 := w_i64 (p - 1) (by omega)
    have w3 := w_i64 ((x.dirty.length : Int) - 1) (by omega)
    have e3 := e117i 0 0 ((x.dirty.length : Int) - 1)
    obtain ⟨u, hu⟩ := get_at c3
    have gu : (x.disk.used.map bv).getD (p - 1).toNat .undef = .bool u := gD_map hu
    have sl : (x.disk.used.set (p - 1).toNat true).length = x.disk.used.length := by simp
    have tk2 : ((x.disk.used.set (p - 1).toNat true).map bv).take x.disk.used.length = (x.disk.used.set (p - 1).toNat true).map bv := List.take_of_length_le (by simp)
    have tk3 : ((x.dirty.set 0 true).map bv).take x.dirty.length = (x.dirty.set 0 true).map bv := List.take_of_length_le (by simp)
    by_cases cd : 0 < x.dirty.length
    · have cd1 : (0 : Int) < (x.dirty.length : Int) := by omega
      have ci : inside 0 0 ((x.dirty.length : Int) - 1) = true := by simp only [inside, Bool.and_eq_true, decide_eq_true_eq]; omega
      rw [ci] at e3
      obtain ⟨v, hv⟩ := get_at cd
      have gv : (x.dirty.map bv).getD 0 .undef = .bool v := gD_map hv
      simp only [mm, mmO, F94, x190, F190, x245, F245, go_sem, seval, bnd_ite, e1, e2, e3, c0, c1, c2, c3, w2, w3, gu, gv, cd, cd1, setv, sl, tkO, tk2, tk3, decide_true, if_true, Bool.false_eq_true, if_false]
      first | done | rfl
    · have ci : inside 0 0 ((x.dirty.length : Int) - 1) = false := by simp only [inside]; simp; omega
      rw [ci] at e3
      have cn : x.dirty = [] := List.length_eq_zero_iff.1 (by omega)
      have sd : x.dirty.set 0 true = x.dirty := by rw [cn]; rfl
      rw [sd]
      simp only [mm, mmO, F94, x190, F190, x245, F245, go_sem, seval, bnd_ite, e1, e2, e3, c0, c1, c2, c3, w2, w3, gu, cd, setv, sl, tkO, tk2, decide_true, decide_false, if_true, Bool.false_eq_true, if_false]
      first | done | rfl
theorem e95 (x : Mm) (h : x.sm) : E T 95 [mm x] [] = some (.tup [mmO (takeI x), .int .i64 (ffree x.disk.taken)], []) := by
  rw [E_eq t95 (Nat.le_of_ble_eq_true rfl)]
  have e1 := e183 x h
  have e2 := e188 x.disk.taken h.disk.taken
  have hl := h.disk.taken
  have hd := h.dirty
  unfold mm mmO at e1
  unfold takeI
  rcases ffree_le x.disk.taken with h0 | ⟨h1, h2⟩
  · rw [if_pos h0]
    rw [h0] at e2 ⊢
    simp only [mm, mmO, F95, go_sem, seval, bnd_ite, e1, e2, tkO, decide_true, if_true]
    first | done | rfl
  · rw [if_neg (by omega)]
    generalize ffree x.disk.taken = p at *
    have c0 : decide (p = 0) = false := decide_eq_false (by omega)
    have c1 : 0 ≤ p - 1 := by omega
    have c2 : p - 1 < (x.disk.taken.length : Int) := by omega
    have c3 : (p - 1).toNat < x.disk.taken.length := by omega
    have w2 := w_i64 (p - 1) (by omega)
    obtain ⟨u, hu⟩ := get_at c3
    have gu : (x.disk.taken.map bv).getD (p - 1).toNat .undef = .bool u := gD_map hu
    have sl : (x.disk.taken.set (p - 1).toNat true).length = x.disk.taken.length := by simp
    have tk2 : ((x.disk.taken.set (p - 1).toNat true).map bv).take x.disk.taken.length = (x.disk.taken.set (p - 1).toNat true).map bv := List.take_of_length_le (by simp)
    have tk3 : ((x.dirty.set 0 true).map bv).take x.dirty.length = (x.dirty.set 0 true).map bv := List.take_of_length_le (by simp)
    by_cases cd : 0 < x.dirty.length
    · have cd1 : (0 : Int) < (x.dirty.length : Int) := by omega
      obtain ⟨v, hv⟩ := get_at cd
      have gv : (x.dirty.map bv).getD 0 .undef = .bool v := gD_map hv
      simp only [mm, mmO, F95, x189, F189, go_sem, seval, bnd_ite, e1, e2, c0, c1, c2, c3, w2, gu, gv, cd, cd1, setv, sl, tkO, tk2, tk3, decide_true, if_true, Bool.false_eq_true, if_false]
      first | done | rfl
    · have cd1 : ¬ (0 : Int) < (x.dirty.length : Int) := by omega
      have cn : x.dirty = [] := List.length_eq_zero_iff.1 (by omega)
      have sd : x.dirty.set 0 true = x.dirty := by rw [cn]; rfl
      rw [sd]
      simp only [mm, mmO, F95, x189, F189, go_sem, seval, bnd_ite, e1, e2, c0, c1, c2, c3, w2, gu, cd, cd1, setv, sl, tkO, tk2, decide_true, decide_false, if_true, Bool.false_eq_true, if_false]
      first | done | rfl
theorem e96 (x : Mm) (h : x.sm) : E T 96 [mm x] [] = some (.tup [mmO (takeI x), .int .i64 (ffree x.disk.taken)], []) := by
  rw [E_eq t96 (Nat.le_of_ble_eq_true rfl)]
  have e1 := e185 x h
  have e2 := e244 x.disk.taken h.disk.taken
  have hl := h.disk.taken
  have hd := h.dirty
  unfold mm mmO at e1
  unfold takeI
  rcases ffree_le x.disk.taken with h0 | ⟨h1, h2⟩
  · rw [if_pos h0]
    rw [h0] at e2 ⊢
    simp only [mm, mmO, F96, x190, F190, go_sem, seval, bnd_ite, e1, e2, tkO, Int.lt_irrefl, decide_false, Bool.false_eq_true, if_false]
    first | done | rfl
  · rw [if_neg (by omega)]
    generalize ffree x.disk.taken = p at *
    have c0 : 0 < p := by omega
    have c1 : 0 ≤ p - 1 := by omega
    have c2 : p - 1 < (x.disk.taken.length : Int) := by omega
    have c3 : (p - 1).toNat < x.disk.taken.length := by omega
    have w2 := w_i64 (p - 1) (by omega)
    have w3 := w_i64 ((x.dirty.length : Int) - 1) (by omega)
    have e3 := e117i 0 0 ((x.dirty.length : Int) - 1)
    obtain ⟨u, hu⟩ := get_at c3
    have gu : (x.disk.taken.map bv).getD (p - 1).toNat .undef = .bool u := gD_map hu
    have sl : (x.disk.taken.set (p - 1).toNat true).length = x.disk.taken.length := by simp
    have tk2 : ((x.disk.taken.set (p - 1).toNat true).map bv).take x.disk.taken.length = (x.disk.taken.set (p - 1).toNat true).map bv := List.take_of_length_le (by simp)
    have tk3 : ((x.dirty.set 0 true).map bv).take x.dirty.length = (x.dirty.set 0 true).map bv := List.take_of_length_le (by simp)
    by_cases cd : 0 < x.dirty.length
    · have cd1 : (0 : Int) < (x.dirty.length : Int) := by omega
      have ci : inside 0 0 ((x.dirty.length : Int) - 1) = true := by simp only [inside, Bool.and_eq_true, decide_eq_true_eq]; omega
      rw [ci] at e3
      obtain ⟨v, hv⟩ := get_at cd
      have gv : (x.dirty.map bv).getD 0 .undef = .bool v := gD_map hv
      simp only [mm, mmO, F96, x190, F190, x245, F245, go_sem, seval, bnd_ite, e1, e2, e3, c0, c1, c2, c3, w2, w3, gu, gv, cd, cd1, setv, sl, tkO, tk2, tk3, decide_true, if_true, Bool.false_eq_true, if_false]
      first | done | rfl
    · have ci : inside 0 0 ((x.dirty.length : Int) - 1) = false := by simp only [inside]; simp; omega
      rw [ci] at e3
      have cn : x.dirty = [] := List.length_eq_zero_iff.1 (by omega)
      have sd : x.dirty.set 0 true = x.dirty := by rw [cn]; rfl
      rw [sd]
      simp only [mm, mmO, F96, x190, F190, x245, F245, go_sem, seval, bnd_ite, e1, e2, e3, c0, c1, c2, c3, w2, w3, gu, cd, setv, sl, tkO, tk2, decide_true, decide_false, if_true, Bool.false_eq_true, if_false]
      first | done | rfl
end Go.Proofs.Ytaaajjinpppgeaa
