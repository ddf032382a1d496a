/- What is reached, by the reference. Own work; no condition. -/
import Derived.Test.YtaaajjinpppgeaaGreatGb
set_option linter.unusedVariables false
set_option linter.unusedSimpArgs false
set_option linter.unusedSectionVars false
namespace Go.Proofs.YtaaajjinpppgeaaGreat
open Go Go.Abs
set_option maxRecDepth 100000
theorem hasStep_len (x : Dsk) (h : List Bool) (s : Slt) : (hasStep x h s).length = h.length := (hasStep_le x h s).1.symm
theorem in97c (x : Dsk) (hx : x.sm) (r : Nat) (i : Nat) (hi : i < x.inos.length) (h : List Bool) (hl : h.length = x.inos.length) :
    ∃ q, XL T 0 H76_13 L76_13 ⟨[(1, .ptr 0 0 0), (3, .sl 1 0 x.inos.length), (4, .int .i64 r), (5, .int .i64 ((i : Int) + 1)), (6, .sl 2 0 (slotsAt x ((i : Int) + 1)).length), (7, .int .i64 0)], [some (4, [dskC x]), some (1, h.map bv), some (2, (slotsAt x ((i : Int) + 1)).map slt)]⟩ = some q ∧
      q.1 = .exit 4 ∧ lookA q.2.env 1 = .ptr 0 0 0 ∧ lookA q.2.env 3 = .sl 1 0 x.inos.length ∧ lookA q.2.env 4 = .int .i64 r ∧ lookA q.2.env 5 = .int .i64 ((i : Int) + 1) ∧ q.2.mem = [some (4, [dskC x]), some (1, (hasIno x h i).map bv), some (2, (slotsAt x ((i : Int) + 1)).map slt)] := by
  have hN := hx.inos
  have w1 := w_i64 (i : Int) (by omega)
  have a1 : (i : Int) + 1 - 1 = i := by omega
  have hi0 : (i : Int) < (x.inos.length : Int) := by omega
  have hsl := slot_len hx ((i : Int) + 1)
  unfold hasIno
  obtain ⟨b, hb⟩ := get_at (show i < h.length by omega)
  have gb : h.getD i false = b := getD_at hb
  have gv : (h.map bv).getD i .undef = .bool b := gD_map hb
  rw [gb]
  generalize slotsAt x ((i : Int) + 1) = S at *
  cases b with
  | false =>
    have e : (if false = true then S.foldl (hasStep x) h else h) = h := rfl
    rw [e]
    have key : Stops (XG T 0 H76_13 L76_13 ⟨[(1, .ptr 0 0 0), (3, .sl 1 0 x.inos.length), (4, .int .i64 r), (5, .int .i64 ((i : Int) + 1)), (6, .sl 2 0 S.length), (7, .int .i64 0)], [some (4, [dskC x]), some (1, h.map bv), some (2, S.map slt)]⟩)
        (fun q => q.1 = .exit 4 ∧ lookA q.2.env 1 = .ptr 0 0 0 ∧ lookA q.2.env 3 = .sl 1 0 x.inos.length ∧ lookA q.2.env 4 = .int .i64 r ∧ lookA q.2.env 5 = .int .i64 ((i : Int) + 1) ∧ q.2.mem = [some (4, [dskC x]), some (1, h.map bv), some (2, S.map slt)]) := by
      unfold dskC
      by_cases h0 : 0 < (S.length : Int)
      · simp only [XG, L76_13, h76_13, go_sem, seval, bnd_ite, h0, w1, a1, hl, hi, hi0, gv, Int.natCast_nonneg, decide_true, if_true]
        exact .mk (by simp) ⟨rfl, rfl, rfl, rfl, rfl, rfl⟩
      · simp only [XG, L76_13, h76_13, go_sem, seval, bnd_ite, h0, decide_false]
        exact .mk (by simp) ⟨rfl, rfl, rfl, rfl, rfl, rfl⟩
    obtain ⟨q, h1, h2, h3⟩ := key
    exact ⟨q, XL_out h1 h2, h3⟩
  | true =>
    rw [if_pos rfl]
    refine XL_each S (hasStep x) (fun k h => ⟨[(1, .ptr 0 0 0), (3, .sl 1 0 x.inos.length), (4, .int .i64 r), (5, .int .i64 ((i : Int) + 1)), (6, .sl 2 0 S.length), (7, .int .i64 (k : Nat))], [some (4, [dskC x]), some (1, h.map bv), some (2, S.map slt)]⟩) (fun k h => h.length = x.inos.length ∧ h.getD i false = true)
      (fun h q => q.1 = .exit 4 ∧ lookA q.2.env 1 = .ptr 0 0 0 ∧ lookA q.2.env 3 = .sl 1 0 x.inos.length ∧ lookA q.2.env 4 = .int .i64 r ∧ lookA q.2.env 5 = .int .i64 ((i : Int) + 1) ∧ q.2.mem = [some (4, [dskC x]), some (1, h.map bv), some (2, S.map slt)]) ?step ?last h ⟨hl, gb⟩
    case step =>
      clear hb gb gv hl
      rintro k h s hs hk ⟨hl, hg⟩
      refine ⟨?_, by rw [hasStep_len]; exact hl, (hasStep_le x h s).2 i hg⟩
      obtain ⟨b, hb⟩ := get_at (show i < h.length by omega)
      have gv : (h.map bv).getD i .undef = .bool true := by
        rw [getD_at hb] at hg; rw [hg] at hb; exact gD_map hb
      have k1 : (k : Int) < (S.length : Int) := by omega
      have gs : (S.map slt).getD k .undef = .agg [.str s.name, .int .i64 s.ino] := gD_map hs
      have hw := w_i64 ((k : Int) + 1) (by omega)
      have hgd : good x s.ino = !decide ((inoOf x s.ino).kind = 0) := rfl
      unfold hasStep dskC
      cases hc : inside s.ino 1 x.inos.length with
      | false =>
        have hng : ¬ good x s.ino = true := fun h => by rw [good_in h] at hc; cases hc
        rw [if_neg hng]
        simp only [XG, L76_13, h76_13, go_sem, seval, bnd_ite, k1, hk, gs, w1, a1, hl, hi, hi0, gv, hw, e108i, hc, Int.natCast_nonneg, decide_true, if_true]
        first | done | rfl
      | true =>
        have hp := inoOf_mem hc
        have gp : (x.inos.map ino).getD (s.ino - 1).toNat .undef = .agg [.int .i64 (inoOf x s.ino).kind, .int .i64 (inoOf x s.ino).links, .ro 1 ((inoOf x s.ino).ptrs.map iv)] := gD_map hp
        have hc' := hc
        simp only [inside, Bool.and_eq_true, decide_eq_true_eq] at hc'
        have b1 : 0 ≤ s.ino - 1 := by omega
        have b2 : s.ino - 1 < (x.inos.length : Int) := by omega
        have b3 : (s.ino - 1).toNat < x.inos.length := by omega
        have w2 := w_i64 (s.ino - 1) (by omega)
        rw [hgd]
        cases hz : decide ((inoOf x s.ino).kind = 0) with
        | true =>
          simp only [XG, L76_13, h76_13, go_sem, seval, bnd_ite, k1, hk, gs, w1, w2, a1, hl, hi, hi0, gv, gp, b1, b2, b3, hz, hw, e108i, hc, Int.natCast_nonneg, decide_true, if_true, Bool.not_true, Bool.false_eq_true, if_false]
          first | done | rfl
        | false =>
          obtain ⟨bt, hbt⟩ := get_at (show (s.ino - 1).toNat < h.length by omega)
          have gvt : (h.map bv).getD (s.ino - 1).toNat .undef = .bool bt := gD_map hbt
          have hset : (h.map bv).set (s.ino - 1).toNat (.bool true) = (h.set (s.ino - 1).toNat true).map bv := by rw [List.map_set]; rfl
          simp only [XG, L76_13, h76_13, go_sem, seval, bnd_ite, k1, hk, gs, w1, w2, a1, hl, hi, hi0, gv, gp, b1, b2, b3, hz, hw, e108i, hc, gvt, hset, Int.natCast_nonneg, decide_true, if_true, Bool.not_false]
          first | done | rfl
    case last =>
      rintro h ⟨hl, hg⟩
      unfold dskC
      simp only [XG, L76_13, h76_13, go_sem, seval, bnd_ite, Int.lt_irrefl, decide_false]
      exact .mk (by simp) ⟨rfl, rfl, rfl, rfl, rfl, rfl⟩
theorem hasIno_len (x : Dsk) (h : List Bool) (i : Nat) : (hasIno x h i).length = h.length := (hasIno_le x h i).1.symm
theorem hasRound_len (x : Dsk) (h : List Bool) : (hasRound x h).length = h.length := (hasRound_le x h).1.symm
theorem rangeAt {n i p : Nat} (h : (List.range n)[i]? = some p) : p = i ∧ i < n := by
  rw [List.getElem?_eq_some_iff] at h
  obtain ⟨h1, h2⟩ := h
  simp at h1 h2; exact ⟨h2.symm, h1⟩
theorem in97b (x : Dsk) (hx : x.sm) (r : Nat) (h : List Bool) (hl : h.length = x.inos.length) :
    ∃ q, XL T 0 H76_9 L76_9 ⟨[(1, .ptr 0 0 0), (3, .sl 1 0 x.inos.length), (4, .int .i64 r), (5, .int .i64 1)], [some (4, [dskC x]), some (1, h.map bv)]⟩ = some q ∧
      q.1 = .exit 2 ∧ lookA q.2.env 1 = .ptr 0 0 0 ∧ lookA q.2.env 3 = .sl 1 0 x.inos.length ∧ lookA q.2.env 4 = .int .i64 r ∧ q.2.mem = [some (4, [dskC x]), some (1, (hasRound x h).map bv)] := by
  have hN := hx.inos
  unfold hasRound
  refine XL_each (List.range x.inos.length) (hasIno x) (fun i h => ⟨[(1, .ptr 0 0 0), (3, .sl 1 0 x.inos.length), (4, .int .i64 r), (5, .int .i64 ((i : Int) + 1))], [some (4, [dskC x]), some (1, h.map bv)]⟩) (fun k h => h.length = x.inos.length)
      (fun h q => q.1 = .exit 2 ∧ lookA q.2.env 1 = .ptr 0 0 0 ∧ lookA q.2.env 3 = .sl 1 0 x.inos.length ∧ lookA q.2.env 4 = .int .i64 r ∧ q.2.mem = [some (4, [dskC x]), some (1, h.map bv)]) ?step ?last h hl
  case step =>
    intro i h p hp hi hl
    obtain ⟨rfl, hi⟩ := rangeAt hp
    refine ⟨?_, by rw [hasIno_len]; exact hl⟩
    have k1 : (p : Int) + 1 ≤ (x.inos.length : Int) := by omega
    have hw := w_i64 ((p : Int) + 1 + 1) (by omega)
    have e1 := e175 x hx ((p : Int) + 1) (by omega)
    obtain ⟨⟨y, e, m⟩, q1, qx, q2, q3, q4, q5, qm⟩ := in97c x hx r p hi h hl
    simp only at qx q2 q3 q4 q5 qm; subst qx; subst qm
    unfold dsk at e1
    unfold dskC at q1
    unfold dskC
    simp only [XG, L76_9, h76_9, h76_13, go_sem, seval, bnd_ite, k1, hw, e1, q1, q2, q3, q4, q5, Int.natCast_nonneg, decide_true]
    first | done | rfl
  case last =>
    intro h hl
    have k1 : ¬ (x.inos.length : Int) + 1 ≤ (x.inos.length : Int) := by omega
    unfold dskC
    simp only [XG, L76_9, h76_9, go_sem, seval, bnd_ite, List.length_range, k1, decide_false]
    exact .mk (by simp) ⟨rfl, rfl, rfl, rfl, rfl⟩
theorem lp97 (x : Dsk) (hx : x.sm) :
    ∃ q, XL T 0 H76_6 L76_6 ⟨[(1, .ptr 0 0 0), (3, .sl 1 0 x.inos.length), (4, .int .i64 0)], [some (4, [dskC x]), some (1, (has0 x).map bv)]⟩ = some q ∧
      q.1 = .exit 0 ∧ lookA q.2.env 3 = .sl 1 0 x.inos.length ∧ q.2.mem = [some (4, [dskC x]), some (1, (hasF x).map bv)] := by
  have hN := hx.inos
  have hf : hasF x = (List.range x.inos.length).foldl (fun h _ => hasRound x h) (has0 x) := (hasN_fold x _ _).symm
  rw [hf]
  refine XL_each (List.range x.inos.length) (fun h _ => hasRound x h) (fun i h => ⟨[(1, .ptr 0 0 0), (3, .sl 1 0 x.inos.length), (4, .int .i64 (i : Nat))], [some (4, [dskC x]), some (1, h.map bv)]⟩) (fun k h => h.length = x.inos.length)
      (fun h q => q.1 = .exit 0 ∧ lookA q.2.env 3 = .sl 1 0 x.inos.length ∧ q.2.mem = [some (4, [dskC x]), some (1, h.map bv)]) ?step ?last (has0 x) (by simp [has0])
  case step =>
    intro i h p hp hi hl
    obtain ⟨rfl, hi⟩ := rangeAt hp
    refine ⟨?_, by rw [hasRound_len]; exact hl⟩
    have k1 : (p : Int) < (x.inos.length : Int) := by omega
    have hw := w_i64 ((p : Int) + 1) (by omega)
    obtain ⟨⟨y, e, m⟩, q1, qx, q2, q3, q4, qm⟩ := in97b x hx p h hl
    simp only at qx q2 q3 q4 qm; subst qx; subst qm
    unfold dskC at q1
    unfold dskC
    simp only [XG, L76_6, h76_6, h76_9, go_sem, seval, bnd_ite, k1, hw, q1, q2, q3, q4, Int.natCast_nonneg, decide_true]
    first | done | rfl
  case last =>
    intro h hl
    unfold dskC
    simp only [XG, L76_6, h76_6, go_sem, seval, bnd_ite, List.length_range, Int.lt_irrefl, decide_false]
    exact .mk (by simp) ⟨rfl, rfl, rfl⟩
theorem lq97 (x : Dsk) (hx : x.sm) :
    ∃ q, XL T 0 H76_23 L76_23 ⟨[(3, .sl 0 0 x.inos.length), (9, .sl 1 0 0), (10, .int .i64 0)], [some (1, (hasF x).map bv), some (1, [])]⟩ = some q ∧
      q.1 = .exit 6 ∧ ∃ L : List Int, L = (List.range x.inos.length).foldl (outStep (hasF x)) [] ∧ lookA q.2.env 9 = .sl 1 0 L.length ∧ q.2.mem = [some (1, (hasF x).map bv), some (1, L.map iv)] := by
  have hN := hx.inos
  have hF := hasF_len x
  refine (XL_each (T := T) (b := 0) (hd := H76_23) (x := L76_23) (List.range x.inos.length) (outStep (hasF x)) (fun i L => ⟨[(3, .sl 0 0 x.inos.length), (9, .sl 1 0 L.length), (10, .int .i64 (i : Nat))], [some (1, (hasF x).map bv), some (1, L.map iv)]⟩) (fun k L => L.length ≤ k)
      (fun L q => q.1 = .exit 6 ∧ lookA q.2.env 9 = .sl 1 0 L.length ∧ q.2.mem = [some (1, (hasF x).map bv), some (1, L.map iv)]) ?step ?last [] (by simp)).elim fun q ⟨h1, h2, h3, h4⟩ => ⟨q, h1, h2, _, rfl, h3, h4⟩
  case step =>
    intro i L p hp hi hL
    obtain ⟨rfl, hi⟩ := rangeAt hp
    refine ⟨?_, by unfold outStep; split <;> (try simp only [List.length_append, List.length_cons, List.length_nil]) <;> omega⟩
    have k1 : (p : Int) < (x.inos.length : Int) := by omega
    have hw := w_i64 ((p : Int) + 1) (by omega)
    obtain ⟨b, hb⟩ := get_at (show p < (hasF x).length by omega)
    have gv : ((hasF x).map bv).getD p .undef = .bool b := gD_map hb
    have hap : (L.length + 1) * 8 ≤ 140737488355328 := by omega
    have tk : (L.map iv).take L.length = L.map iv := List.take_of_length_le (by simp)
    unfold outStep
    rw [getD_at hb]
    cases b with
    | true =>
      simp only [XG, L76_23, h76_23, go_sem, seval, bnd_ite, k1, hw, hF, hi, gv, hap, tk, Int.natCast_nonneg, decide_true, if_true, List.map_append, List.map_cons, List.map_nil, List.length_append]
      first | done | rfl
    | false =>
      simp only [XG, L76_23, h76_23, go_sem, seval, bnd_ite, k1, hw, hF, hi, gv, Int.natCast_nonneg, decide_true, if_true, Bool.false_eq_true, if_false]
      first | done | rfl
  case last =>
    intro L hL
    simp only [XG, L76_23, h76_23, go_sem, seval, bnd_ite, List.length_range, Int.lt_irrefl, decide_false]
    exact .mk (by simp) ⟨rfl, rfl, rfl⟩
theorem e76 (x : Dsk) (hx : x.sm) : E T 76 [dsk x] [] = some (.own 1 ((reachL x).map iv), []) := by
  rw [E_eqW t76 (Nat.le_of_ble_eq_true rfl)]
  have hN := hx.inos
  have hmk : 1 * (x.inos.length : Int) ≤ 140737488355328 := by omega
  have hmk2 : (x.inos.length : Int) ≤ 9223372036854775807 := by omega
  by_cases hn : 0 < x.inos.length
  · obtain ⟨⟨y, e, m⟩, h1, hx1, h2, hm⟩ := lp97 x hx
    obtain ⟨⟨y', e', m'⟩, g1, gx1, L, gL, g2, gm⟩ := lq97 x hx
    simp only at hx1 h2 hm gx1 g2 gm; subst hx1; subst hm; subst gx1; subst gm
    rw [out_reach hn] at gL
    subst gL
    unfold dskC at h1
    have c1 : ¬ (x.inos.length : Int) = 0 := by omega
    have c2 : (0 : Int) < (x.inos.length : Int) := by omega
    have tk : ((reachL x).map iv).take (reachL x).length = (reachL x).map iv := List.take_of_length_le (by simp)
    have hh : (List.replicate x.inos.length (AV.bool false)).set 0 (.bool true) = (has0 x).map bv := by unfold has0; rw [List.map_set, List.map_replicate]; rfl
    have gv0 : (List.replicate x.inos.length (AV.bool false)).getD 0 .undef = .bool false := by rw [List.getD_eq_getElem?_getD, List.getElem?_replicate, if_pos hn]; rfl
    simp only [dsk, F76, h76_6, h76_23, dskC, go_sem, seval, bnd_ite, c1, c2, hn, hmk, hmk2, gv0, Int.natCast_nonneg, hh, h1, h2, g1, g2, tk, if_true, decide_false]
  · have h0 : x.inos.length = 0 := by omega
    have hr : reachL x = [] := List.length_eq_zero_iff.1 (by have := reachL_len x; omega)
    have c1 : (x.inos.length : Int) = 0 := by omega
    rw [hr]
    simp only [dsk, F76, go_sem, seval, bnd_ite, c1, h0, hmk, hmk2, Int.natCast_nonneg, decide_true, if_true]
end Go.Proofs.YtaaajjinpppgeaaGreat
