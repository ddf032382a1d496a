/- Short: inodes with fewer links than names. Own work; no condition. -/
import Derived.Test.YtaaajjinpppgeaaGe
set_option linter.unusedVariables false
set_option linter.unusedSimpArgs false
set_option linter.unusedSectionVars false
namespace Go.Proofs.Ytaaajjinpppgeaa
open Go Go.Abs
set_option maxRecDepth 100000
noncomputable def isShort (x : Dsk) (i : Int) : Bool := !decide (i = 1) && decide ((inoOf x i).links < linksOf x i)
noncomputable def short (x : Dsk) : Int := (reachL x).foldl (cnt (isShort x)) 0
theorem e82 (x : Dsk) (h : x.sm) (ht : tot x ≤ 1048576) : E T 82 [dsk x] [] = some (.int .i64 (short x), []) := by
  rw [E_eq t82 (Nat.le_of_ble_eq_true rfl)]
  have e1 := e98 x h
  have hb := h.inos
  have hRl := reachL_len x
  unfold short
  generalize reachL x = R at *
  refine (XL_each (T := T) (b := 0) (hd := H82_3) (x := L82_3) R (cnt (isShort x)) (fun k n => ⟨[(1, .ptr 0 0 0), (3, .int .i64 n), (7, .sl 1 0 R.length), (8, .int .i64 R.length), (9, .int .i64 (k : Nat))], [some (4, [dskC x]), some (1, R.map iv)]⟩) (fun k n => 0 ≤ n ∧ n ≤ k)
    (fun n r => r.1 = .exit 0 ∧ lookA r.2.env 3 = .int .i64 n) ?step ?last 0 (by omega)).elim ?main
  case step =>
    intro k n p hp hk hI
    refine ⟨?_, by unfold cnt; split <;> omega⟩
    have k1 : (k : Int) < (R.length : Int) := by omega
    have gp : (R.map iv).getD k .undef = .int .i64 p := gD_map hp
    have hw := w_i64 ((k : Int) + 1) (by omega)
    have hw2 := w_i64 (n + 1) (by omega)
    have e2 := e176u x h p
    have e3 := e78 x h ht p
    unfold dsk at e2 e3
    rw [show ino (inoOf x p) = .agg [.int .i64 (inoOf x p).kind, .int .i64 (inoOf x p).links, .ro 1 ((inoOf x p).ptrs.map iv)] from rfl] at e2
    unfold cnt isShort dskC
    cases hc : decide (p = 1) with
    | true =>
      simp only [XG, L82_3, h82_3, go_sem, seval, bnd_ite, k1, hk, gp, hc, hw, hw2, Int.natCast_nonneg, decide_true, if_true, Bool.not_true, Bool.false_and, Bool.false_eq_true, if_false]
      first | done | rfl
    | false =>
      cases hz : decide ((inoOf x p).links < linksOf x p) with
      | true =>
        simp only [XG, L82_3, h82_3, go_sem, seval, bnd_ite, k1, hk, gp, hc, e2, e3, hz, hw, hw2, Int.natCast_nonneg, decide_true, if_true, Bool.not_false, Bool.and_self]
        first | done | rfl
      | false =>
        simp only [XG, L82_3, h82_3, go_sem, seval, bnd_ite, k1, hk, gp, hc, e2, e3, hz, hw, hw2, Int.natCast_nonneg, decide_true, if_true, Bool.not_false, Bool.and_false, Bool.false_eq_true, if_false]
        first | done | rfl
  case last =>
    intro n hI
    unfold dskC
    simp only [XG, L82_3, h82_3, go_sem, seval, bnd_ite, Int.lt_irrefl, decide_false]
    exact .mk (by simp) ⟨rfl, rfl⟩
  case main =>
  rintro ⟨y, e, m⟩ ⟨q1, qx, q2⟩
  simp only at qx q2; subst qx
  have hs0 : ((0 : Nat) : Int) = 0 := rfl
  rw [hs0] at q1
  unfold dskC at q1
  simp only [dsk] at e1 ⊢
  simp only [F82, h82_3, go_sem, seval, bnd_ite, e1, q1, q2]
theorem e81 (x : Dsk) (h : x.sm) (ht : tot x ≤ 1048576) : E T 81 [dsk x] [] = some (.int .i64 (short x), []) := by
  rw [E_eq t81 (Nat.le_of_ble_eq_true rfl)]
  have e1 := e97 x h
  have hb := h.inos
  have hRl := reachL_len x
  have hRi : ∀ p ∈ reachL x, inside p 1 x.inos.length = true := fun p hp => by
    have := (mem_reachL.1 hp).1
    simp only [inside, Bool.and_eq_true, decide_eq_true_eq]; exact this
  unfold short
  generalize reachL x = R at *
  refine (XL_each (T := T) (b := 0) (hd := H81_4) (x := L81_4) R (cnt (isShort x)) (fun k n => ⟨[(1, .ptr 0 0 0), (3, .int .i64 n), (4, .sl 1 0 R.length), (5, .int .i64 (k : Nat))], [some (4, [dskC x]), some (1, R.map iv)]⟩) (fun k n => 0 ≤ n ∧ n ≤ k)
    (fun n r => r.1 = .exit 0 ∧ lookA r.2.env 3 = .int .i64 n) ?step ?last 0 (by omega)).elim ?main
  case step =>
    intro k n p hp hk hI
    refine ⟨?_, by unfold cnt; split <;> omega⟩
    have k1 : (k : Int) < (R.length : Int) := by omega
    have gp : (R.map iv).getD k .undef = .int .i64 p := gD_map hp
    have hw := w_i64 ((k : Int) + 1) (by omega)
    have hw2 := w_i64 (n + 1) (by omega)
    have hc0 := hRi p (List.mem_of_getElem? hp)
    have hpi := inoOf_mem hc0
    have gi : (x.inos.map ino).getD (p - 1).toNat .undef = .agg [.int .i64 (inoOf x p).kind, .int .i64 (inoOf x p).links, .ro 1 ((inoOf x p).ptrs.map iv)] := gD_map hpi
    simp only [inside, Bool.and_eq_true, decide_eq_true_eq] at hc0
    have b1 : 0 ≤ p - 1 := by omega
    have b2 : p - 1 < (x.inos.length : Int) := by omega
    have b3 : (p - 1).toNat < x.inos.length := by omega
    have w2 := w_i64 (p - 1) (by omega)
    have e3 := e77 x h ht p
    unfold dsk at e3
    unfold cnt isShort dskC
    cases hc : decide (p = 1) with
    | true =>
      simp only [XG, L81_4, h81_4, go_sem, seval, bnd_ite, k1, hk, gp, hc, hw, hw2, Int.natCast_nonneg, decide_true, if_true, Bool.not_true, Bool.false_and, Bool.false_eq_true, if_false]
      first | done | rfl
    | false =>
      cases hz : decide ((inoOf x p).links < linksOf x p) with
      | true =>
        simp only [XG, L81_4, h81_4, go_sem, seval, bnd_ite, k1, hk, gp, hc, gi, b1, b2, b3, w2, e3, hz, hw, hw2, Int.natCast_nonneg, decide_true, if_true, Bool.not_false, Bool.and_self]
        first | done | rfl
      | false =>
        simp only [XG, L81_4, h81_4, go_sem, seval, bnd_ite, k1, hk, gp, hc, gi, b1, b2, b3, w2, e3, hz, hw, hw2, Int.natCast_nonneg, decide_true, if_true, Bool.not_false, Bool.and_false, Bool.false_eq_true, if_false]
        first | done | rfl
  case last =>
    intro n hI
    unfold dskC
    simp only [XG, L81_4, h81_4, go_sem, seval, bnd_ite, Int.lt_irrefl, decide_false]
    exact .mk (by simp) ⟨rfl, rfl⟩
  case main =>
  rintro ⟨y, e, m⟩ ⟨q1, qx, q2⟩
  simp only at qx q2; subst qx
  have hs0 : ((0 : Nat) : Int) = 0 := rfl
  rw [hs0] at q1
  unfold dskC at q1
  simp only [dsk] at e1 ⊢
  simp only [F81, h81_4, go_sem, seval, bnd_ite, e1, q1, q2]
end Go.Proofs.Ytaaajjinpppgeaa
