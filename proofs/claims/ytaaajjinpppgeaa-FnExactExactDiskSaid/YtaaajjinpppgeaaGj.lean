/- WrongKind: blocks of another kind than their inode. Own work; no condition. -/
import Derived.Test.YtaaajjinpppgeaaGi
set_option linter.unusedVariables false
set_option linter.unusedSimpArgs false
set_option linter.unusedSectionVars false
namespace Go.Proofs.Ytaaajjinpppgeaa
open Go Go.Abs
set_option maxRecDepth 100000
def wrong (x : Dsk) (i p : Int) : Bool := inside p 1 x.blks.length && ((blkOf x p).dir != decide ((inoOf x i).kind = 2))
noncomputable def wrongs (x : Dsk) : Int := (reachL x).foldl (fun n i => (inoOf x i).ptrs.foldl (cnt (wrong x i)) n) 0
theorem wrong_had (x : Dsk) (i n : Int) : (hadOf x i).foldl (cnt (wrong x i)) n = (inoOf x i).ptrs.foldl (cnt (wrong x i)) n :=
  cnt_filter _ _ (fun a ha => by unfold wrong inside at ha; unfold pos; simp only [Bool.and_eq_true, decide_eq_true_eq] at ha ⊢; omega) _ _
theorem in79 (x : Dsk) (h : x.sm) (k : Nat) (R : List Int) (i : Int) (n0 : Int) (hn : 0 ≤ n0 ∧ n0 ≤ 4611686018427387904) :
    ∃ r, XL T 0 H79_8 L79_8 ⟨[(1, .ptr 0 0 0), (3, .int .i64 n0), (4, .sl 1 0 R.length), (5, .int .i64 k), (6, .ptr 2 0 0), (7, .int .i64 0)], [some (4, [dskC x]), some (1, R.map iv), some (3, [.agg [.int .i64 (inoOf x i).kind, .int .i64 (inoOf x i).links, .ro 1 ((inoOf x i).ptrs.map iv)]])]⟩ = some r ∧
      r.1 = .exit 2 ∧ lookA r.2.env 1 = .ptr 0 0 0 ∧ lookA r.2.env 3 = .int .i64 ((inoOf x i).ptrs.foldl (cnt (wrong x i)) n0) ∧ lookA r.2.env 4 = .sl 1 0 R.length ∧ lookA r.2.env 5 = .int .i64 k ∧ r.2.mem = [some (4, [dskC x]), some (1, R.map iv), some (3, [.agg [.int .i64 (inoOf x i).kind, .int .i64 (inoOf x i).links, .ro 1 ((inoOf x i).ptrs.map iv)]])] := by
  have hp := inoOf_sm h i
  unfold Ino.sm at hp
  have hwr : ∀ p, wrong x i p = (inside p 1 x.blks.length && ((blkOf x p).dir != decide ((inoOf x i).kind = 2))) := fun _ => rfl
  generalize wrong x i = Wr at *
  generalize inoOf x i = I at *
  refine XL_each I.ptrs (cnt Wr) (fun j n => ⟨[(1, .ptr 0 0 0), (3, .int .i64 n), (4, .sl 1 0 R.length), (5, .int .i64 k), (6, .ptr 2 0 0), (7, .int .i64 (j : Nat))], [some (4, [dskC x]), some (1, R.map iv), some (3, [.agg [.int .i64 I.kind, .int .i64 I.links, .ro 1 (I.ptrs.map iv)]])]⟩) (fun k n => 0 ≤ n ∧ n ≤ n0 + k)
    (fun n r => r.1 = .exit 2 ∧ lookA r.2.env 1 = .ptr 0 0 0 ∧ lookA r.2.env 3 = .int .i64 n ∧ lookA r.2.env 4 = .sl 1 0 R.length ∧ lookA r.2.env 5 = .int .i64 k ∧ r.2.mem = [some (4, [dskC x]), some (1, R.map iv), some (3, [.agg [.int .i64 I.kind, .int .i64 I.links, .ro 1 (I.ptrs.map iv)]])]) ?step ?last n0 (by omega)
  case step =>
    intro j n q hq hk hI
    refine ⟨?_, by unfold cnt; split <;> omega⟩
    have k1 : (j : Int) < (I.ptrs.length : Int) := by omega
    have gq : (I.ptrs.map iv).getD j .undef = .int .i64 q := gD_map hq
    have hw := w_i64 ((j : Int) + 1) (by omega)
    have hw2 := w_i64 (n + 1) (by omega)
    have e1 := e165u x h q
    unfold dsk at e1
    rw [show blk (blkOf x q) = .agg [.bool (blkOf x q).dir, .ro 2 ((blkOf x q).slots.map slt), .str (blkOf x q).text] from rfl] at e1
    unfold cnt
    rw [hwr]
    unfold dskC
    cases hc : inside q 1 x.blks.length with
    | false =>
      rw [hc] at e1
      simp only [XG, L79_8, h79_8, go_sem, seval, bnd_ite, k1, hk, gq, e1, hw, hw2, Int.natCast_nonneg, decide_true, if_true, Bool.false_and, Bool.false_eq_true, if_false]
      first | done | rfl
    | true =>
      rw [hc] at e1
      cases hz : decide (I.kind = 2) <;> cases hd : (blkOf x q).dir <;> rw [hd] at e1 <;>
        simp only [XG, L79_8, h79_8, go_sem, seval, bnd_ite, k1, hk, gq, e1, hz, hw, hw2, Int.natCast_nonneg, decide_true, if_true, Bool.true_and, bne_self_eq_false, Bool.false_eq_true, if_false, Bool.bne_true, Bool.bne_false, Bool.not_false, Bool.not_true, Bool.true_bne, Bool.false_bne] <;>
        first | done | rfl
  case last =>
    intro n hI
    unfold dskC
    simp only [XG, L79_8, h79_8, go_sem, seval, bnd_ite, Int.lt_irrefl, decide_false]
    exact .mk (by simp) ⟨rfl, rfl, rfl, rfl, rfl, rfl⟩
theorem e79 (x : Dsk) (h : x.sm) (ht : tot x ≤ 1048576) : E T 79 [dsk x] [] = some (.int .i64 (wrongs x), []) := by
  rw [E_eq t79 (Nat.le_of_ble_eq_true rfl)]
  have e1 := e97 x h
  have hb := h.inos
  have hRl := reachL_len x
  have hRi : ∀ p ∈ reachL x, inside p 1 x.inos.length = true := fun p hp => by
    have := (mem_reachL.1 hp).1
    simp only [inside, Bool.and_eq_true, decide_eq_true_eq]; exact this
  unfold wrongs
  generalize reachL x = R at *
  refine (XL_each (T := T) (b := 0) (hd := H79_4) (x := L79_4) R (fun n i => (inoOf x i).ptrs.foldl (cnt (wrong x i)) n) (fun k n => ⟨[(1, .ptr 0 0 0), (3, .int .i64 n), (4, .sl 1 0 R.length), (5, .int .i64 (k : Nat))], [some (4, [dskC x]), some (1, R.map iv)]⟩) (fun k n => 0 ≤ n ∧ n ≤ k * 1048577)
    (fun n r => r.1 = .exit 0 ∧ lookA r.2.env 3 = .int .i64 n) ?step ?last 0 (by omega)).elim ?main
  case step =>
    intro k n p hp hk hI
    have hcl := cnt_le (wrong x p) (inoOf x p).ptrs n
    have hsm := inoOf_sm h p
    refine ⟨?_, by unfold Ino.sm at hsm; omega⟩
    have k1 : (k : Int) < (R.length : Int) := by omega
    have gp : (R.map iv).getD k .undef = .int .i64 p := gD_map hp
    have hw := w_i64 ((k : Int) + 1) (by omega)
    have hc0 := hRi p (List.mem_of_getElem? hp)
    have hpi := inoOf_mem hc0
    have gi : (x.inos.map ino).getD (p - 1).toNat .undef = .agg [.int .i64 (inoOf x p).kind, .int .i64 (inoOf x p).links, .ro 1 ((inoOf x p).ptrs.map iv)] := gD_map hpi
    simp only [inside, Bool.and_eq_true, decide_eq_true_eq] at hc0
    have b1 : 0 ≤ p - 1 := by omega
    have b2 : p - 1 < (x.inos.length : Int) := by omega
    have b3 : (p - 1).toNat < x.inos.length := by omega
    have w2 := w_i64 (p - 1) (by omega)
    obtain ⟨⟨y, e, m⟩, q1, qx, q2, q3, q4, q5, qm⟩ := in79 x h k R p n (by omega)
    simp only at qx q2 q3 q4 q5 qm; subst qx; subst qm
    unfold dskC at q1
    unfold dskC
    simp only [XG, L79_4, h79_4, h79_8, go_sem, seval, bnd_ite, k1, hk, gp, gi, b1, b2, b3, w2, hw, q1, q2, q3, q4, q5, Int.natCast_nonneg, decide_true, if_true]
    first | done | rfl
  case last =>
    intro n hI
    unfold dskC
    simp only [XG, L79_4, h79_4, go_sem, seval, bnd_ite, Int.lt_irrefl, decide_false]
    exact .mk (by simp) ⟨rfl, rfl⟩
  case main =>
  rintro ⟨y, e, m⟩ ⟨q1, qx, q2⟩
  simp only at qx q2; subst qx
  have hs0 : ((0 : Nat) : Int) = 0 := rfl
  rw [hs0] at q1
  unfold dskC at q1
  simp only [dsk] at e1 ⊢
  simp only [F79, h79_4, go_sem, seval, bnd_ite, e1, q1, q2]
theorem in80 (x : Dsk) (h : x.sm) (k : Nat) (R H : List Int) (hH : H.length ≤ 1048576) (hpos : ∀ p ∈ H, 0 < p) (i : Int) (n0 : Int) (hn : 0 ≤ n0 ∧ n0 ≤ 4611686018427387904) :
    ∃ r, XL T 0 H80_7 L80_7 ⟨[(1, .ptr 0 0 0), (3, .int .i64 n0), (5, .int .i64 i), (9, .sl 1 0 R.length), (10, .int .i64 R.length), (11, .int .i64 k), (18, .sl 2 0 H.length), (19, .int .i64 H.length), (20, .int .i64 0)], [some (4, [dskC x]), some (1, R.map iv), some (1, H.map iv)]⟩ = some r ∧
      r.1 = .exit 2 ∧ lookA r.2.env 1 = .ptr 0 0 0 ∧ lookA r.2.env 3 = .int .i64 (H.foldl (cnt (wrong x i)) n0) ∧ lookA r.2.env 9 = .sl 1 0 R.length ∧ lookA r.2.env 10 = .int .i64 R.length ∧ lookA r.2.env 11 = .int .i64 k ∧ r.2.mem = [some (4, [dskC x]), some (1, R.map iv), some (1, H.map iv)] := by
  refine XL_each H (cnt (wrong x i)) (fun j n => ⟨[(1, .ptr 0 0 0), (3, .int .i64 n), (5, .int .i64 i), (9, .sl 1 0 R.length), (10, .int .i64 R.length), (11, .int .i64 k), (18, .sl 2 0 H.length), (19, .int .i64 H.length), (20, .int .i64 (j : Nat))], [some (4, [dskC x]), some (1, R.map iv), some (1, H.map iv)]⟩) (fun k n => 0 ≤ n ∧ n ≤ n0 + k)
    (fun n r => r.1 = .exit 2 ∧ lookA r.2.env 1 = .ptr 0 0 0 ∧ lookA r.2.env 3 = .int .i64 n ∧ lookA r.2.env 9 = .sl 1 0 R.length ∧ lookA r.2.env 10 = .int .i64 R.length ∧ lookA r.2.env 11 = .int .i64 k ∧ r.2.mem = [some (4, [dskC x]), some (1, R.map iv), some (1, H.map iv)]) ?step ?last n0 (by omega)
  case step =>
    intro j n q hq hk hI
    refine ⟨?_, by unfold cnt; split <;> omega⟩
    have k1 : (j : Int) < (H.length : Int) := by omega
    have gq : (H.map iv).getD j .undef = .int .i64 q := gD_map hq
    have hw := w_i64 ((j : Int) + 1) (by omega)
    have hw2 := w_i64 (n + 1) (by omega)
    have hq0 := hpos q (List.mem_of_getElem? hq)
    have e1 := e149u x h q
    have e2 := e176u x h i
    unfold dsk at e1 e2
    rw [show blk (blkOf x q) = .agg [.bool (blkOf x q).dir, .ro 2 ((blkOf x q).slots.map slt), .str (blkOf x q).text] from rfl] at e1
    rw [show ino (inoOf x i) = .agg [.int .i64 (inoOf x i).kind, .int .i64 (inoOf x i).links, .ro 1 ((inoOf x i).ptrs.map iv)] from rfl] at e2
    unfold cnt wrong dskC
    by_cases c : q ≤ (x.blks.length : Int)
    · have hc : inside q 1 x.blks.length = true := by simp only [inside, Bool.and_eq_true, decide_eq_true_eq]; omega
      rw [hc]
      cases hz : decide ((inoOf x i).kind = 2) <;> cases hd : (blkOf x q).dir <;> rw [hd] at e1 <;>
        simp only [XG, L80_7, h80_7, go_sem, seval, bnd_ite, k1, hk, gq, e1, e2, c, hz, hw, hw2, Int.natCast_nonneg, decide_true, if_true, Bool.true_and, bne_self_eq_false, Bool.false_eq_true, if_false, Bool.bne_true, Bool.bne_false, Bool.not_false, Bool.not_true, Bool.true_bne, Bool.false_bne] <;>
        first | done | rfl
    · have hc : inside q 1 x.blks.length = false := by simp only [inside]; simp; omega
      rw [hc]
      simp only [XG, L80_7, h80_7, go_sem, seval, bnd_ite, k1, hk, gq, c, hw, hw2, Int.natCast_nonneg, decide_true, decide_false, if_true, Bool.false_and, Bool.false_eq_true, if_false]
      first | done | rfl
  case last =>
    intro n hI
    unfold dskC
    simp only [XG, L80_7, h80_7, go_sem, seval, bnd_ite, Int.lt_irrefl, decide_false]
    exact .mk (by simp) ⟨rfl, rfl, rfl, rfl, rfl, rfl, rfl⟩
theorem e80 (x : Dsk) (h : x.sm) (ht : tot x ≤ 1048576) : E T 80 [dsk x] [] = some (.int .i64 (wrongs x), []) := by
  rw [E_eq t80 (Nat.le_of_ble_eq_true rfl)]
  have e1 := e98 x h
  have hb := h.inos
  have hRl := reachL_len x
  unfold wrongs
  generalize reachL x = R at *
  refine (XL_each (T := T) (b := 0) (hd := H80_3) (x := L80_3) R (fun n i => (inoOf x i).ptrs.foldl (cnt (wrong x i)) n) (fun k n => ⟨[(1, .ptr 0 0 0), (3, .int .i64 n), (9, .sl 1 0 R.length), (10, .int .i64 R.length), (11, .int .i64 (k : Nat))], [some (4, [dskC x]), some (1, R.map iv)]⟩) (fun k n => 0 ≤ n ∧ n ≤ k * 1048577)
    (fun n r => r.1 = .exit 0 ∧ lookA r.2.env 3 = .int .i64 n) ?step ?last 0 (by omega)).elim ?main
  case step =>
    intro k n p hp hk hI
    have hcl := cnt_le (wrong x p) (inoOf x p).ptrs n
    have hsm := inoOf_sm h p
    refine ⟨?_, by unfold Ino.sm at hsm; omega⟩
    have k1 : (k : Int) < (R.length : Int) := by omega
    have gp : (R.map iv).getD k .undef = .int .i64 p := gD_map hp
    have hw := w_i64 ((k : Int) + 1) (by omega)
    have e2 : E T 180 [dsk x, .ro 1 [.int .i64 p]] [] = some (.own 1 ((hadOf x p).map iv), []) := by
      have := e180 x h [p] (by simp) (ptrs_one h p)
      rwa [List.flatMap_cons, List.flatMap_nil, List.append_nil] at this
    have hHl : (hadOf x p).length ≤ 1048576 := by
      have := hadOf_len x p
      unfold ptrsN at this; unfold Ino.sm at hsm; omega
    have hpos : ∀ a ∈ hadOf x p, 0 < a := fun a ha => by
      unfold hadOf pos at ha
      rw [List.mem_filter, decide_eq_true_eq] at ha
      exact ha.2
    rw [← wrong_had]
    generalize hadOf x p = H at *
    obtain ⟨⟨y, e, m⟩, q1, qx, q2, q3, q4, q5, q6, qm⟩ := in80 x h k R H hHl hpos p n (by omega)
    simp only at qx q2 q3 q4 q5 q6 qm; subst qx; subst qm
    simp only [dsk] at e2
    unfold dskC at q1
    unfold dskC
    simp only [XG, L80_3, h80_3, h80_7, go_sem, seval, bnd_ite, k1, hk, gp, e2, hw, q1, q2, q3, q4, q5, q6, Int.natCast_nonneg, decide_true, if_true]
    first | done | rfl
  case last =>
    intro n hI
    unfold dskC
    simp only [XG, L80_3, h80_3, go_sem, seval, bnd_ite, Int.lt_irrefl, decide_false]
    exact .mk (by simp) ⟨rfl, rfl⟩
  case main =>
  rintro ⟨y, e, m⟩ ⟨q1, qx, q2⟩
  simp only at qx q2; subst qx
  have hs0 : ((0 : Nat) : Int) = 0 := rfl
  rw [hs0] at q1
  unfold dskC at q1
  simp only [dsk] at e1 ⊢
  simp only [F80, h80_3, go_sem, seval, bnd_ite, e1, q1, q2]
end Go.Proofs.Ytaaajjinpppgeaa
