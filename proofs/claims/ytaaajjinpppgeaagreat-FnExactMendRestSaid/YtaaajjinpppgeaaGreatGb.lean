/- What is reached, by the program. Own work; no condition. -/
import Derived.Test.YtaaajjinpppgeaaGreatLc
set_option linter.unusedVariables false
set_option linter.unusedSimpArgs false
set_option linter.unusedSectionVars false
namespace Go.Proofs.YtaaajjinpppgeaaGreat
open Go Go.Abs
set_option maxRecDepth 100000
theorem sort191 (zs : List Int) (h : zs.length < 4611686018427387904) : E T 184 [.sl 0 0 zs.length] [some (1, zs.map iv)] = some (.tup [], [some (1, (sortI zs).map iv)]) := by
  rw [E_orc t184 rfl]
  unfold iv
  simp only [sortO, intsOf_map, h, and_self, if_true]
theorem bfsStep_len (x : Dsk) (L : List Int) (s : Slt) : (bfsStep x L s).length ≤ L.length + 1 := by unfold bfsStep; split <;> simp
theorem in98 (x : Dsk) (h : x.sm) (k : Nat) (l : List Slt) (hl : l.length ≤ 1099511627776) (L : List Int) (hL : L.length ≤ 1048576) :
    ∃ r, XL T 0 H85_8 L85_8 ⟨[(1, .ptr 0 0 0), (3, .sl 1 0 L.length), (4, .int .i64 k), (27, .sl 2 0 l.length), (28, .int .i64 l.length), (29, .int .i64 0)], [some (4, [dskC x]), some (1, L.map iv), some (2, l.map slt)]⟩ = some r ∧
      r.1 = .exit 2 ∧ lookA r.2.env 1 = .ptr 0 0 0 ∧ lookA r.2.env 3 = .sl 1 0 (l.foldl (bfsStep x) L).length ∧ lookA r.2.env 4 = .int .i64 k ∧ r.2.mem = [some (4, [dskC x]), some (1, (l.foldl (bfsStep x) L).map iv), some (2, l.map slt)] := by
  refine XL_each l (bfsStep x) (fun j M => ⟨[(1, .ptr 0 0 0), (3, .sl 1 0 M.length), (4, .int .i64 k), (27, .sl 2 0 l.length), (28, .int .i64 l.length), (29, .int .i64 (j : Nat))], [some (4, [dskC x]), some (1, M.map iv), some (2, l.map slt)]⟩) (fun j M => M.length ≤ L.length + j)
    (fun M r => r.1 = .exit 2 ∧ lookA r.2.env 1 = .ptr 0 0 0 ∧ lookA r.2.env 3 = .sl 1 0 M.length ∧ lookA r.2.env 4 = .int .i64 k ∧ r.2.mem = [some (4, [dskC x]), some (1, M.map iv), some (2, l.map slt)]) ?step ?last L (by omega)
  case step =>
    intro j M s hs hj hM
    refine ⟨?_, by have := bfsStep_len x M s; omega⟩
    have j1 : (j : Int) < (l.length : Int) := by omega
    have gs : (l.map slt).getD j .undef = .agg [.str s.name, .int .i64 s.ino] := gD_map hs
    have e1 := e143u x h s.ino
    unfold dsk at e1
    rw [show ino (inoOf x s.ino) = .agg [.int .i64 (inoOf x s.ino).kind, .int .i64 (inoOf x s.ino).links, .ro 1 ((inoOf x s.ino).ptrs.map iv)] from rfl] at e1
    have e2 := e86 M s.ino (by unfold maxLen; omega)
    have hap : (M.length + 1) * 8 ≤ 140737488355328 := by omega
    have tk : (M.map iv).take M.length = M.map iv := List.take_of_length_le (by simp)
    have hw := w_i64 ((j : Int) + 1) (by omega)
    have hgd : good x s.ino = !decide ((inoOf x s.ino).kind = 0) := rfl
    unfold dskC bfsStep
    cases hg : decide ((inoOf x s.ino).kind = 0) with
    | true =>
      rw [if_neg (by rw [hgd, hg]; simp)]
      simp only [XG, L85_8, h85_8, go_sem, seval, bnd_ite, j1, hj, gs, e1, hg, hw, tk, Int.natCast_nonneg, decide_true, Bool.not_true, Bool.false_eq_true, if_false, if_true]
      first | done | rfl
    | false =>
      by_cases hm : s.ino ∈ M
      · rw [if_neg (by simp [hm])]
        have hm : decide (s.ino ∈ M) = true := by simpa using hm
        simp only [XG, L85_8, h85_8, go_sem, seval, bnd_ite, j1, hj, gs, e1, e2, hg, hm, hw, tk, Int.natCast_nonneg, decide_true, Bool.not_true, Bool.not_false, Bool.false_eq_true, if_false, if_true]
        first | done | rfl
      · rw [if_pos ⟨by rw [hgd, hg]; rfl, hm⟩]
        have hm : decide (s.ino ∈ M) = false := by simpa using hm
        simp only [XG, L85_8, h85_8, go_sem, seval, bnd_ite, j1, hj, gs, e1, e2, hg, hm, hw, tk, hap, Int.natCast_nonneg, decide_true, Bool.not_true, Bool.not_false, if_true, List.map_append, List.map_cons, List.map_nil, List.length_append]
        first | done | rfl
  case last =>
    intro M hM
    unfold dskC
    simp only [XG, L85_8, h85_8, go_sem, seval, bnd_ite, Int.lt_irrefl, decide_false]
    exact .mk (by simp) ⟨rfl, rfl, rfl, rfl, rfl⟩
theorem slot_len {x : Dsk} (h : x.sm) (i : Int) : (slotsAt x i).length ≤ 1099511627776 := by
  have h1 := slotsAt_len h i
  have h2 := inoOf_sm h i
  unfold Ino.sm at h2
  unfold ptrsN at h1
  omega
theorem lp98 (x : Dsk) (h : x.sm) (hn : 0 < x.inos.length) :
    ∃ r, XL T 0 H85_5 L85_5 ⟨[(1, .ptr 0 0 0), (3, .sl 1 0 1), (4, .int .i64 0)], [some (4, [dskC x]), some (1, [.int .i64 1])]⟩ = some r ∧
      r.1 ≠ .normal ∧ r.1 = .exit 0 ∧ ∃ L : List Int, L.length ≤ x.inos.length ∧ sortI L = reachL x ∧ lookA r.2.env 3 = .sl 1 0 L.length ∧ r.2.mem = [some (4, [dskC x]), some (1, L.map iv)] := by
  have hN := h.inos
  refine XL_inv (fun k L => ⟨[(1, .ptr 0 0 0), (3, .sl 1 0 L.length), (4, .int .i64 (k : Nat))], [some (4, [dskC x]), some (1, L.map iv)]⟩) (fun k L => BInv x k L) x.inos.length
    (fun r => r.1 = .exit 0 ∧ ∃ L : List Int, L.length ≤ x.inos.length ∧ sortI L = reachL x ∧ lookA r.2.env 3 = .sl 1 0 L.length ∧ r.2.mem = [some (4, [dskC x]), some (1, L.map iv)]) ?step ?last 0 [1] (by omega) (.start x)
  case step =>
    intro k L hk hI
    have hlen := hI.len hn
    by_cases hc : k < L.length
    · left
      obtain ⟨i, hi⟩ := get_at hc
      refine ⟨_, ?_, hI.step hi⟩
      have k1 : (k : Int) < (L.length : Int) := by omega
      have k2 : (k : Int) ≤ (k : Int) + 1 := by omega
      have k3 : (k : Int) + 1 ≤ (L.length : Int) := by omega
      have k4 : (0 : Int) ≤ (k : Int) + 1 := by omega
      have hw := w_i64 ((k : Int) + 1) (by omega)
      have e1 := e183 x h [i] (by simp) (ptrs_one h i)
      rw [List.flatMap_cons, List.flatMap_nil, List.append_nil] at e1
      have hsl := slot_len h i
      generalize hS : slotsAt x i = S at *
      obtain ⟨⟨y, e, m⟩, q1, qx, q2, q3, q4, qm⟩ := in98 x h k S hsl L (by omega)
      simp only at qx q2 q3 q4 qm; subst qx; subst qm
      unfold dsk at e1
      unfold dskC at q1
      unfold dskC
      have hdr : ((L.map iv).drop k).take 1 = [.int .i64 i] := by
        rw [← List.map_drop, ← List.map_take, List.drop_eq_getElem_cons hc]
        have : L[k] = i := by rw [List.getElem?_eq_getElem hc] at hi; injection hi
        rw [this]; rfl
      have kk : ((k : Int) + 1).toNat = k + 1 := by omega
      have k6 : k + 1 - k = 1 := by omega
      have k7 : k + 1 ≤ L.length := by omega
      have e1 : E T 183 [.agg [.ro 1 (x.used.map bv), .ro 1 (x.taken.map bv), .ro 3 (x.inos.map ino), .ro 3 (x.blks.map blk)], .ro 1 [.int .i64 i]] [] = some (.own 2 (S.map slt), []) := e1
      simp only [XG, L85_5, h85_5, h85_8, go_sem, seval, bnd_ite, k1, k2, k3, k4, k6, k7, kk, hw, hdr, e1, q1, q2, q3, q4, Int.natCast_nonneg, decide_true, if_true]
      first | done | rfl
    · right
      have k1 : ¬ (k : Int) < (L.length : Int) := by omega
      unfold dskC
      simp only [XG, L85_5, h85_5, go_sem, seval, bnd_ite, k1, decide_false]
      exact .mk (by simp) ⟨rfl, L, hlen, hI.stop hn (by omega), rfl, rfl⟩
  case last =>
    intro L hI
    have hlen := hI.len hn
    have k1 : ¬ (x.inos.length : Int) < (L.length : Int) := by omega
    unfold dskC
    simp only [XG, L85_5, h85_5, go_sem, seval, bnd_ite, k1, decide_false]
    exact .mk (by simp) ⟨rfl, L, hlen, hI.stop hn hlen, rfl, rfl⟩
theorem e85 (x : Dsk) (h : x.sm) : E T 85 [dsk x] [] = some (.own 1 ((reachL x).map iv), []) := by
  rw [E_eqW t85 (Nat.le_of_ble_eq_true rfl)]
  have hN := h.inos
  by_cases hn : 0 < x.inos.length
  · obtain ⟨⟨y, e, m⟩, h1, _, hx, L, hl, hs, h2, hm⟩ := lp98 x h hn
    simp only at hx h2 hm; subst hx; subst hm
    unfold dskC at h1
    have e1 := sort191 L (by omega)
    rw [hs] at e1
    have rl : (reachL x).length = L.length := by rw [← hs, sortI_len]
    have c1 : (0 : Int) < (x.inos.length : Int) := by omega
    have tk : ((reachL x).map iv).take L.length = (reachL x).map iv := List.take_of_length_le (by simp; omega)
    have tl : L.length ≤ (reachL x).length := by omega
    simp only [dsk, F85, h85_5, dskC, go_sem, seval, bnd_ite, c1, h1, h2, e1, tk, tl, if_true]
    first | done | rfl
  · have h0 : x.inos.length = 0 := by omega
    have hr : reachL x = [] := List.length_eq_zero_iff.1 (by have := reachL_len x; omega)
    have c1 : ¬ (0 : Int) < (x.inos.length : Int) := by omega
    have lp : XL T 0 H85_5 L85_5 ⟨[(1, .ptr 0 0 0), (3, .sl 1 0 0), (4, .int .i64 0)], [some (4, [dskC x]), some (1, [])]⟩ = some (.exit 0, ⟨[(18, .bool false), (17, .int .i64 0), (16, .sl 1 0 0), (15, .int .i64 0), (1, .ptr 0 0 0), (3, .sl 1 0 0), (4, .int .i64 0)], [some (4, [dskC x]), some (1, [])]⟩) := by
      refine XL_out ?_ (by simp)
      unfold dskC
      simp only [XG, L85_5, h85_5, go_sem, seval, bnd_ite, Int.lt_irrefl, decide_false]
    unfold dskC at lp
    have e1 := sort191 [] (by decide)
    have : sortI [] = [] := by simp [sortI]
    simp only [this, List.map_nil, List.length_nil] at e1
    rw [hr]
    simp only [dsk, F85, h85_5, dskC, go_sem, seval, bnd_ite, c1, lp, e1]
end Go.Proofs.YtaaajjinpppgeaaGreat
