/- Dangling: names of nothing. Own work; no condition. -/
import Derived.Test.YtaaajjinpppgeaaGe
set_option linter.unusedVariables false
set_option linter.unusedSimpArgs false
set_option linter.unusedSectionVars false
namespace Go.Proofs.Ytaaajjinpppgeaa
open Go Go.Abs
set_option maxRecDepth 100000
def dang (x : Dsk) (s : Slt) : Bool := inside s.ino 1 x.inos.length && decide ((inoOf x s.ino).kind = 0)
noncomputable def dangling (x : Dsk) : Int := (slotsR x).foldl (cnt (dang x)) 0
theorem lp76 (x : Dsk) (h : x.sm) (S : List Slt) (hS : S.length ≤ 1099511627776) :
    ∃ r, XL T 0 H76_3 L76_3 ⟨[(1, .ptr 0 0 0), (3, .int .i64 0), (9, .sl 1 0 S.length), (10, .int .i64 S.length), (11, .int .i64 0)], [some (4, [dskC x]), some (2, S.map slt)]⟩ = some r ∧
      r.1 = .exit 0 ∧ lookA r.2.env 3 = .int .i64 (S.foldl (cnt (dang x)) 0) := by
  have hN := h.inos
  refine XL_each S (cnt (dang x)) (fun k n => ⟨[(1, .ptr 0 0 0), (3, .int .i64 n), (9, .sl 1 0 S.length), (10, .int .i64 S.length), (11, .int .i64 (k : Nat))], [some (4, [dskC x]), some (2, S.map slt)]⟩) (fun k n => 0 ≤ n ∧ n ≤ k)
    (fun n r => r.1 = .exit 0 ∧ lookA r.2.env 3 = .int .i64 n) ?step ?last 0 (by omega)
  case step =>
    intro k n s hs hk hI
    refine ⟨?_, by unfold cnt; split <;> omega⟩
    have k1 : (k : Int) < (S.length : Int) := by omega
    have gs : (S.map slt).getD k .undef = .agg [.str s.name, .int .i64 s.ino] := gD_map hs
    have hw := w_i64 ((k : Int) + 1) (by omega)
    have hw2 := w_i64 (n + 1) (by omega)
    have e1 := e176u x h s.ino
    unfold dsk at e1
    rw [show ino (inoOf x s.ino) = .agg [.int .i64 (inoOf x s.ino).kind, .int .i64 (inoOf x s.ino).links, .ro 1 ((inoOf x s.ino).ptrs.map iv)] from rfl] at e1
    unfold cnt dang dskC
    cases hc : inside s.ino 1 x.inos.length with
    | false =>
      simp only [XG, L76_3, h76_3, go_sem, seval, bnd_ite, k1, hk, gs, e117i, hc, hw, hw2, Int.natCast_nonneg, decide_true, if_true, Bool.false_and, Bool.false_eq_true, if_false]
      first | done | rfl
    | true =>
      cases hz : decide ((inoOf x s.ino).kind = 0) with
      | true =>
        simp only [XG, L76_3, h76_3, go_sem, seval, bnd_ite, k1, hk, gs, e117i, hc, e1, hz, hw, hw2, Int.natCast_nonneg, decide_true, if_true, Bool.and_self]
        first | done | rfl
      | false =>
        simp only [XG, L76_3, h76_3, go_sem, seval, bnd_ite, k1, hk, gs, e117i, hc, e1, hz, hw, hw2, Int.natCast_nonneg, decide_true, if_true, Bool.and_false, Bool.false_eq_true, if_false]
        first | done | rfl
  case last =>
    intro n hI
    unfold dskC
    simp only [XG, L76_3, h76_3, go_sem, seval, bnd_ite, Int.lt_irrefl, decide_false]
    exact .mk (by simp) ⟨rfl, rfl⟩
theorem e76 (x : Dsk) (h : x.sm) (ht : tot x ≤ 1048576) : E T 76 [dsk x] [] = some (.int .i64 (dangling x), []) := by
  rw [E_eq t76 (Nat.le_of_ble_eq_true rfl)]
  have e1 := e98 x h
  have e2 := e179r x h ht
  have hS := slotsR_len h ht
  unfold dangling
  generalize slotsR x = S at *
  generalize reachL x = R at *
  obtain ⟨⟨y, e, m⟩, q1, qx, q2⟩ := lp76 x h S hS
  simp only at qx q2; subst qx
  unfold dskC at q1
  simp only [dsk] at e1 e2 ⊢
  simp only [F76, h76_3, go_sem, seval, bnd_ite, e1, e2, q1, q2]
theorem in75 (x : Dsk) (h : x.sm) (k : Nat) (R : List Int) (S : List Slt) (hS : S.length ≤ 1099511627776) (n0 : Int) (hn : 0 ≤ n0 ∧ n0 ≤ 4611686018427387904) :
    ∃ r, XL T 0 H75_8 L75_8 ⟨[(1, .ptr 0 0 0), (3, .int .i64 n0), (4, .sl 1 0 R.length), (5, .int .i64 k), (6, .sl 2 0 S.length), (7, .int .i64 0)], [some (4, [dskC x]), some (1, R.map iv), some (2, S.map slt)]⟩ = some r ∧
      r.1 = .exit 2 ∧ lookA r.2.env 1 = .ptr 0 0 0 ∧ lookA r.2.env 3 = .int .i64 (S.foldl (cnt (dang x)) n0) ∧ lookA r.2.env 4 = .sl 1 0 R.length ∧ lookA r.2.env 5 = .int .i64 k ∧ r.2.mem = [some (4, [dskC x]), some (1, R.map iv), some (2, S.map slt)] := by
  have hN := h.inos
  refine XL_each S (cnt (dang x)) (fun j n => ⟨[(1, .ptr 0 0 0), (3, .int .i64 n), (4, .sl 1 0 R.length), (5, .int .i64 k), (6, .sl 2 0 S.length), (7, .int .i64 (j : Nat))], [some (4, [dskC x]), some (1, R.map iv), some (2, S.map slt)]⟩) (fun k n => 0 ≤ n ∧ n ≤ n0 + k)
    (fun n r => r.1 = .exit 2 ∧ lookA r.2.env 1 = .ptr 0 0 0 ∧ lookA r.2.env 3 = .int .i64 n ∧ lookA r.2.env 4 = .sl 1 0 R.length ∧ lookA r.2.env 5 = .int .i64 k ∧ r.2.mem = [some (4, [dskC x]), some (1, R.map iv), some (2, S.map slt)]) ?step ?last n0 (by omega)
  case step =>
    intro j n s hs hk hI
    refine ⟨?_, by unfold cnt; split <;> omega⟩
    have k1 : (j : Int) < (S.length : Int) := by omega
    have gs : (S.map slt).getD j .undef = .agg [.str s.name, .int .i64 s.ino] := gD_map hs
    have hw := w_i64 ((j : Int) + 1) (by omega)
    have hw2 := w_i64 (n + 1) (by omega)
    unfold cnt dang dskC
    cases hc : inside s.ino 1 x.inos.length with
    | false =>
      simp only [XG, L75_8, h75_8, go_sem, seval, bnd_ite, k1, hk, gs, e116i, hc, hw, hw2, Int.natCast_nonneg, decide_true, if_true, Bool.false_and, Bool.false_eq_true, if_false]
      first | done | rfl
    | true =>
      have hp := inoOf_mem hc
      have gp : (x.inos.map ino).getD (s.ino - 1).toNat .undef = .agg [.int .i64 (inoOf x s.ino).kind, .int .i64 (inoOf x s.ino).links, .ro 1 ((inoOf x s.ino).ptrs.map iv)] := gD_map hp
      have hc' := hc
      simp only [inside, Bool.and_eq_true, decide_eq_true_eq] at hc'
      have b1 : 0 ≤ s.ino - 1 := by omega
      have b2 : s.ino - 1 < (x.inos.length : Int) := by omega
      have b3 : (s.ino - 1).toNat < x.inos.length := by omega
      have w2 := w_i64 (s.ino - 1) (by omega)
      cases hz : decide ((inoOf x s.ino).kind = 0) with
      | true =>
        simp only [XG, L75_8, h75_8, go_sem, seval, bnd_ite, k1, hk, gs, e116i, hc, gp, b1, b2, b3, w2, hz, hw, hw2, Int.natCast_nonneg, decide_true, if_true, Bool.and_self]
        first | done | rfl
      | false =>
        simp only [XG, L75_8, h75_8, go_sem, seval, bnd_ite, k1, hk, gs, e116i, hc, gp, b1, b2, b3, w2, hz, hw, hw2, Int.natCast_nonneg, decide_true, if_true, Bool.and_false, Bool.false_eq_true, if_false]
        first | done | rfl
  case last =>
    intro n hI
    unfold dskC
    simp only [XG, L75_8, h75_8, go_sem, seval, bnd_ite, Int.lt_irrefl, decide_false]
    exact .mk (by simp) ⟨rfl, rfl, rfl, rfl, rfl, rfl⟩
theorem e75 (x : Dsk) (h : x.sm) (ht : tot x ≤ 1048576) : E T 75 [dsk x] [] = some (.int .i64 (dangling x), []) := by
  rw [E_eq t75 (Nat.le_of_ble_eq_true rfl)]
  have e1 := e97 x h
  have hb := h.inos
  have hRl := reachL_len x
  have hRm : ∀ p ∈ reachL x, E T 178 [dsk x, .int .i64 p] [] = some (.own 2 ((slotsAt x p).map slt), []) := fun p hp => e178r x h hp
  unfold dangling slotsR
  rw [cnt_flat]
  generalize reachL x = R at *
  refine (XL_each (T := T) (b := 0) (hd := H75_4) (x := L75_4) R (fun n p => (slotsAt x p).foldl (cnt (dang x)) n) (fun j n => ⟨[(1, .ptr 0 0 0), (3, .int .i64 n), (4, .sl 1 0 R.length), (5, .int .i64 (j : Nat))], [some (4, [dskC x]), some (1, R.map iv)]⟩) (fun k n => 0 ≤ n ∧ n ≤ k * 1099511627776)
    (fun n r => r.1 = .exit 0 ∧ lookA r.2.env 3 = .int .i64 n) ?step ?last 0 (by omega)).elim ?main
  case step =>
    intro k n p hp hk hI
    have hsl := slot_len h p
    have hcl := cnt_le (dang x) (slotsAt x p) n
    refine ⟨?_, by omega⟩
    have k1 : (k : Int) < (R.length : Int) := by omega
    have gp : (R.map iv).getD k .undef = .int .i64 p := gD_map hp
    have hw := w_i64 ((k : Int) + 1) (by omega)
    have e2 := hRm p (List.mem_of_getElem? hp)
    generalize slotsAt x p = S at *
    obtain ⟨⟨y, e, m⟩, q1, qx, q2, q3, q4, q5, qm⟩ := in75 x h k R S hsl n (by omega)
    simp only at qx q2 q3 q4 q5 qm; subst qx; subst qm
    simp only [dsk] at e2
    unfold dskC at q1
    unfold dskC
    simp only [XG, L75_4, h75_4, h75_8, go_sem, seval, bnd_ite, k1, hk, gp, hw, e2, q1, q2, q3, q4, q5, Int.natCast_nonneg, decide_true, if_true]
    first | done | rfl
  case last =>
    intro n hI
    unfold dskC
    simp only [XG, L75_4, h75_4, go_sem, seval, bnd_ite, Int.lt_irrefl, decide_false]
    exact .mk (by simp) ⟨rfl, rfl⟩
  case main =>
  rintro ⟨y, e, m⟩ ⟨q1, qx, q2⟩
  simp only at qx q2; subst qx
  have hs0 : ((0 : Nat) : Int) = 0 := rfl
  rw [hs0] at q1
  unfold dskC at q1
  simp only [dsk] at e1 ⊢
  simp only [F75, h75_4, go_sem, seval, bnd_ite, e1, q1, q2]
end Go.Proofs.Ytaaajjinpppgeaa
