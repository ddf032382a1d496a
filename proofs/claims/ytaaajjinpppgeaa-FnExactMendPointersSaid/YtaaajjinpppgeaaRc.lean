/- MendPointers: the reference's inner loop. Own work; no condition. -/
import Derived.Test.YtaaajjinpppgeaaRb
set_option linter.unusedVariables false
set_option linter.unusedSimpArgs false
set_option linter.unusedSectionVars false
namespace Go.Proofs.Ytaaajjinpppgeaa
open Go Go.Abs
set_option maxRecDepth 100000
theorem e165 (x : Dsk) (i : Int) (hl : x.blks.length ≤ 1048576) (hc : inside i 1 x.blks.length = true) (p : Blk) (hp : x.blks[(i - 1).toNat]? = some p) : E T 165 [dsk x, .int .i64 i] [] = some (.tup [blk p, .bool true], []) := by
  rw [E_eqW t165 (Nat.le_of_ble_eq_true rfl)]
  have hc' := hc
  simp only [inside, Bool.and_eq_true, decide_eq_true_eq] at hc'
  have gp : (x.blks.map blk).getD (i - 1).toNat .undef = .agg [.bool p.dir, .ro 2 (p.slots.map slt), .str p.text] := gD_map hp
  have b1 : 0 ≤ i - 1 := by omega
  have b2 : i - 1 < (x.blks.length : Int) := by omega
  simp only [dsk, F165, go_sem, seval, bnd_ite, e116i, hc, gp, b1, b2, w_i64 (i - 1) (by omega), blk]
theorem e165n (x : Dsk) (i : Int) (hc : inside i 1 x.blks.length = false) : E T 165 [dsk x, .int .i64 i] [] = some (.tup [.agg [.bool false, .ro 2 [], .str ⟨#[]⟩], .bool false], []) := by
  rw [E_eqW t165 (Nat.le_of_ble_eq_true rfl)]
  simp only [dsk, F165, go_sem, seval, bnd_ite, e116i, hc]
def mp65 (x : Dsk) (Q : List Ino) (i : Nat) (k l : Int) (n : Nat) (st : List Int × List Int) : Mem :=
  [some (4, [.agg [.nil, .nil, .nil, .nil]]), some (4, [.agg [.own 1 (x.used.map bv), .own 1 (x.taken.map bv), .sl 4 0 8, .own 3 (x.blks.map blkO)]]), some (1, st.2.map iv),
    some (3, [.agg [.int .i64 k, .int .i64 l, .sl 5 0 n]]), some (3, (Q.map inoO).set i (.agg [.int .i64 k, .int .i64 l, .sl 5 0 n])), some (1, st.1.map iv)]
theorem in65b (x : Dsk) (hx : DskOk x) (Q : List Ino) (hQl : Q.length = 8) (i : Nat) (hi : i < 8) (k l : Int) (hk : k ≠ 0) (q0 : List Int) (hq : q0.length = 2) (hp : ∀ p ∈ q0, 0 ≤ p ∧ p ≤ 16) (had : List Int) (hh : had.length ≤ 1000) :
    ∃ r, XL T 0 H65_12 L65_12 ⟨[(2, .ptr 0 0 0), (3, .ptr 1 0 0), (4, .sl 2 0 had.length), (5, .int .i64 i), (6, .ptr 3 0 0), (7, .int .i64 0)], mp65 x Q i k l 2 (q0, had)⟩ = some r ∧
      r.1 = .exit 2 ∧ lookA r.2.env 2 = .ptr 0 0 0 ∧ lookA r.2.env 3 = .ptr 1 0 0 ∧ lookA r.2.env 4 = .sl 2 0 (q0.zipIdx.foldl (mpStep x k) (q0, had)).2.length ∧ lookA r.2.env 5 = .int .i64 i ∧
        r.2.mem = mp65 x Q i k l 2 (q0.zipIdx.foldl (mpStep x k) (q0, had)) := by
  refine XL_each q0.zipIdx (mpStep x k) (fun j st => ⟨[(2, .ptr 0 0 0), (3, .ptr 1 0 0), (4, .sl 2 0 st.2.length), (5, .int .i64 i), (6, .ptr 3 0 0), (7, .int .i64 (j : Nat))], mp65 x Q i k l 2 st⟩) (fun j st => MpI q0 had.length j st)
    (fun st r => r.1 = .exit 2 ∧ lookA r.2.env 2 = .ptr 0 0 0 ∧ lookA r.2.env 3 = .ptr 1 0 0 ∧ lookA r.2.env 4 = .sl 2 0 st.2.length ∧ lookA r.2.env 5 = .int .i64 i ∧ r.2.mem = mp65 x Q i k l 2 st) ?step ?last (q0, had) ⟨rfl, fun _ _ => rfl, by show had.length ≤ _; omega⟩
  case step =>
    rintro j st ⟨p, jj⟩ he hj hI
    obtain ⟨hpj, hjj⟩ := zip_at he
    simp only at hpj hjj; subst hjj
    refine ⟨?_, mpStep_inv hI⟩
    rw [List.length_zipIdx, hq] at hj
    obtain ⟨h1, h2, h3⟩ := hI
    obtain ⟨q, hd⟩ := st
    simp only at h1 h2 h3
    have j1 : (jj : Int) < 2 := by omega
    have j2 : jj < 2 := hj
    have i1 : (i : Int) < 8 := by omega
    have g1 : (q.map iv).getD jj .undef = .int .i64 p := gD_map ((h2 jj (Nat.le_refl _)).trans hpj)
    have hpr := hp p (List.mem_of_getElem? hpj)
    have hw := w_i64 ((jj : Int) + 1) (by omega)
    have hk : decide (k = 0) = false := by simpa using hk
    have sq : (Q.map inoO).set i (.agg [.int .i64 k, .int .i64 l, .own 1 (q.map iv)]) = (Q.set i ⟨k, l, q⟩).map inoO := set_map' (f := inoO) (x := (⟨k, l, q⟩ : Ino))
    have tq : (q.map iv).take 2 = q.map iv := List.take_of_length_le (by rw [List.length_map]; omega)
    have t8 : ∀ L : List AV, L.length = 8 → L.take 8 = L := fun L h => List.take_of_length_le (by omega)
    have tb : (x.blks.map blkO).take x.blks.length = x.blks.map blkO := List.take_of_length_le (by simp)
    have tu : (x.used.map bv).take x.used.length = x.used.map bv := List.take_of_length_le (by simp)
    have tt : (x.taken.map bv).take x.taken.length = x.taken.map bv := List.take_of_length_le (by simp)
    have hsl : ((Q.set i ⟨k, l, q⟩).map inoO).length = 8 := by simp [hQl]
    have n2 := hx.blks
    unfold mp65
    unfold mpStep
    by_cases c0 : p = 0
    · subst c0
      rw [if_pos rfl]
      have e1 := e165n ⟨x.used, x.taken, Q.set i ⟨k, l, q⟩, x.blks⟩ 0 (by simp [inside])
      unfold dsk at e1
      simp only [XG, L65_12, h65_12, go_sem, seval, bnd_ite, is_set, ite_self, j1, j2, i1, hi, hQl, h1, hq, g1, hw, hk, sq, tq, t8 _ hsl, tb, tu, tt, e1, Int.natCast_nonneg, decide_true, Bool.not_false, if_true]
      rfl
    have hp0 : 0 < p := by omega
    obtain ⟨b, hb⟩ := get_at (show (p - 1).toNat < x.blks.length by omega)
    have e1 := e165 ⟨x.used, x.taken, Q.set i ⟨k, l, q⟩, x.blks⟩ p (by show x.blks.length ≤ _; omega) (by simp [inside]; omega) b hb
    unfold dsk at e1
    rw [show blk b = .agg [.bool b.dir, .ro 2 (b.slots.map slt), .str b.text] from rfl] at e1
    have e2 := e126 hd p (by unfold maxLen; omega)
    have hap : (hd.length + 1) * 8 ≤ 140737488355328 := by omega
    have tk : (hd.map iv).take hd.length = hd.map iv := List.take_of_length_le (by simp)
    rw [if_neg c0, blkAt_eq hb]
    by_cases c1 : (!(b.dir == decide (k = 2)) || decide (p ∈ hd)) = true
    · rw [if_pos c1]
      have sm : (q.map iv).set jj (.int .i64 0) = (q.set jj 0).map iv := set_map' (f := iv) (x := (0 : Int))
      simp only [XG, L65_12, h65_12, go_sem, seval, bnd_ite, is_set, ite_self, j1, j2, i1, hi, hQl, h1, hq, g1, hw, hk, sq, tq, t8 _ hsl, tb, tu, tt, e1, e2, c1, sm, gD_set, Int.natCast_nonneg, decide_true, decide_false, Bool.not_false, Bool.not_true, Bool.false_eq_true, if_true, if_false]
      rfl
    · rw [if_neg c1]
      have c1 : (!(b.dir == decide (k = 2)) || decide (p ∈ hd)) = false := Bool.eq_false_iff.2 c1
      simp only [XG, L65_12, h65_12, go_sem, seval, bnd_ite, is_set, ite_self, j1, j2, i1, hi, hQl, h1, hq, g1, hw, hk, sq, tq, t8 _ hsl, tb, tu, tt, e1, e2, c1, hap, tk, gD_set, Int.natCast_nonneg, decide_true, decide_false, Bool.not_false, Bool.not_true, Bool.false_eq_true, if_true, if_false]
      simp only [List.map_append, List.map_cons, List.map_nil, List.length_append]
      rfl
  case last =>
    intro st hI
    rw [List.length_zipIdx, hq]
    unfold mp65
    have j1 : ¬ ((2 : Nat) : Int) < 2 := by omega
    simp only [XG, L65_12, h65_12, go_sem, seval, bnd_ite, j1, decide_false, Bool.false_and]
    exact .mk (by simp) ⟨rfl, rfl, rfl, rfl, rfl, rfl⟩
theorem in65z (x : Dsk) (Q : List Ino) (i : Nat) (l : Int) (q0 : List Int) (hq : q0.length = 2) (had : List Int) :
    ∃ r, XL T 0 H65_12 L65_12 ⟨[(2, .ptr 0 0 0), (3, .ptr 1 0 0), (4, .sl 2 0 had.length), (5, .int .i64 i), (6, .ptr 3 0 0), (7, .int .i64 0)], mp65 x Q i 0 l 2 (q0, had)⟩ = some r ∧
      r.1 = .exit 2 ∧ lookA r.2.env 2 = .ptr 0 0 0 ∧ lookA r.2.env 3 = .ptr 1 0 0 ∧ lookA r.2.env 4 = .sl 2 0 had.length ∧ lookA r.2.env 5 = .int .i64 i ∧ r.2.mem = mp65 x Q i 0 l 2 (q0, had) := by
  have key : Stops (XG T 0 H65_12 L65_12 ⟨[(2, .ptr 0 0 0), (3, .ptr 1 0 0), (4, .sl 2 0 had.length), (5, .int .i64 i), (6, .ptr 3 0 0), (7, .int .i64 0)], mp65 x Q i 0 l 2 (q0, had)⟩)
      (fun r => r.1 = .exit 2 ∧ lookA r.2.env 2 = .ptr 0 0 0 ∧ lookA r.2.env 3 = .ptr 1 0 0 ∧ lookA r.2.env 4 = .sl 2 0 had.length ∧ lookA r.2.env 5 = .int .i64 i ∧ r.2.mem = mp65 x Q i 0 l 2 (q0, had)) := by
    unfold mp65
    simp only [XG, L65_12, h65_12, go_sem, seval, bnd_ite, decide_true, Bool.not_true, Bool.and_false, Bool.false_eq_true, if_false]
    exact .mk (by simp) ⟨rfl, rfl, rfl, rfl, rfl, rfl⟩
  obtain ⟨r, h1, h2, h3⟩ := key
  exact ⟨r, XL_out h1 h2, h3⟩
def mo65 (x : Dsk) (st : List Ino × List Int) : Mem :=
  [some (4, [.agg [.nil, .nil, .nil, .nil]]), some (4, [.agg [.own 1 (x.used.map bv), .own 1 (x.taken.map bv), .sl 3 0 8, .own 3 (x.blks.map blkO)]]), some (1, st.2.map iv), some (3, st.1.map inoO)]
theorem in65a (x : Dsk) (hx : DskOk x) (l0 : List Ino) (hl : l0.length = 8) (hp : ptrsOk l0) :
    ∃ r, XL T 0 H65_8 L65_8 ⟨[(2, .ptr 0 0 0), (3, .ptr 1 0 0), (4, .sl 2 0 0), (5, .int .i64 0)], mo65 x (l0, [])⟩ = some r ∧
      r.1 = .exit 0 ∧ lookA r.2.env 2 = .ptr 0 0 0 ∧ lookA r.2.env 3 = .ptr 1 0 0 ∧ r.2.mem = mo65 x (l0.zipIdx.foldl (mpOut x) (l0, [])) := by
  refine XL_each l0.zipIdx (mpOut x) (fun i st => ⟨[(2, .ptr 0 0 0), (3, .ptr 1 0 0), (4, .sl 2 0 st.2.length), (5, .int .i64 (i : Nat))], mo65 x st⟩) (fun i st => MoI l0 i st)
    (fun st r => r.1 = .exit 0 ∧ lookA r.2.env 2 = .ptr 0 0 0 ∧ lookA r.2.env 3 = .ptr 1 0 0 ∧ r.2.mem = mo65 x st) ?step ?last (l0, []) ⟨rfl, fun _ _ => rfl, by show (0 : Nat) ≤ _; omega⟩
  case step =>
    rintro i st ⟨p, ii⟩ he hi hI
    obtain ⟨hpi, hii⟩ := zip_at he
    simp only at hpi hii; subst hii
    have hpp := hp p (List.mem_of_getElem? hpi)
    refine ⟨?_, mpOut_inv hpp.1 hI⟩
    rw [List.length_zipIdx, hl] at hi
    obtain ⟨h1, h2, h3⟩ := hI
    obtain ⟨Q, had⟩ := st
    simp only at h1 h2 h3
    have i1 : (ii : Int) < 8 := by omega
    have hQ := (h2 ii (Nat.le_refl _)).trans hpi
    have g1 : (Q.map inoO).getD ii .undef = .agg [.int .i64 p.kind, .int .i64 p.links, .own 1 (p.ptrs.map iv)] := gD_map hQ
    have i2 : ii < Q.length := by omega
    have hQl : Q.length = 8 := by omega
    have hw := w_i64 ((ii : Int) + 1) (by omega)
    unfold mo65
    unfold mpOut
    have sq : ∀ q : List Int, (Q.map inoO).set ii (.agg [.int .i64 p.kind, .int .i64 p.links, .own 1 (q.map iv)]) = (Q.set ii ⟨p.kind, p.links, q⟩).map inoO := fun q => set_map' (f := inoO) (x := (⟨p.kind, p.links, q⟩ : Ino))
    by_cases c0 : p.kind = 0
    · have s0 := sq p.ptrs
      rw [show (⟨p.kind, p.links, p.ptrs⟩ : Ino) = p from rfl, set_self hQ] at s0
      obtain ⟨⟨y, e, m⟩, k1, kx, k2, k3, k4, k5, km⟩ := in65z x Q ii p.links p.ptrs hpp.1 had
      simp only at kx k2 k3 k4 k5 km; subst kx; subst km
      unfold mp65 at k1
      rw [if_pos c0]
      rw [c0] at g1 s0
      simp only [XG, L65_8, h65_8, h65_12, mp65, go_sem, seval, bnd_ite, is_set, ite_self, Int.add_zero, gD_set, List.set_set, tk_len, i1, i2, hi, hQl, g1, hw, hpp.1, k1, k2, k3, k4, k5, s0, Int.natCast_nonneg, decide_true, if_true]
      first | done | rfl
    · rw [if_neg c0]
      obtain ⟨⟨y, e, m⟩, k1, kx, k2, k3, k4, k5, km⟩ := in65b x hx Q hQl ii hi p.kind p.links c0 p.ptrs hpp.1 hpp.2 had (by omega)
      simp only at kx k2 k3 k4 k5 km; subst kx; subst km
      have hf := (mpFold (x := x) (k := p.kind) (q0 := p.ptrs) (had := had)).len
      generalize hF : p.ptrs.zipIdx.foldl (mpStep x p.kind) (p.ptrs, had) = F at *
      obtain ⟨q, hd⟩ := F
      have hq2 : q.length = 2 := by rw [hpp.1] at hf; exact hf
      unfold mp65 at k1
      simp only [XG, L65_8, h65_8, h65_12, mp65, go_sem, seval, bnd_ite, is_set, ite_self, Int.add_zero, gD_set, List.set_set, tk_len, i1, i2, hi, hQl, g1, hw, hpp.1, hq2, k1, k2, k3, k4, k5, sq, Int.natCast_nonneg, decide_true, if_true]
      first | done | rfl
  case last =>
    intro st hI
    rw [List.length_zipIdx, hl]
    have h1 := hI.len
    unfold mo65
    have j1 : ¬ ((8 : Nat) : Int) < 8 := by omega
    simp only [XG, L65_8, h65_8, go_sem, seval, bnd_ite, j1, decide_false]
    exact .mk (by simp) ⟨rfl, rfl, rfl, rfl⟩
set_option maxHeartbeats 1000000 in
theorem e65 (x : Dsk) (hk : x.ok) (h : x.sm) : E T 65 [dsk x] [] = some (dskO (if dskOk x then mendPtrs x else x), []) := by
  rw [E_eq t65 (Nat.le_of_ble_eq_true rfl)]
  have e1 := e158 x h
  have e2 := e153 x hk
  have t1 : (x.used.map bv).take x.used.length = x.used.map bv := List.take_of_length_le (by simp)
  have t2 : (x.taken.map bv).take x.taken.length = x.taken.map bv := List.take_of_length_le (by simp)
  have t3 : (x.inos.map inoO).take x.inos.length = x.inos.map inoO := List.take_of_length_le (by simp)
  have t4 : (x.blks.map blkO).take x.blks.length = x.blks.map blkO := List.take_of_length_le (by simp)
  unfold dsk dskO at e1
  unfold dsk at e2
  cases hd : dskOk x with
  | false =>
    simp only [dsk, F65, go_sem, seval, bnd_ite, e1, e2, hd, t1, t2, t3, t4, dskO, Bool.not_false, if_true, Bool.false_eq_true, if_false]
  | true =>
  rw [if_pos rfl]
  have hx := dskOk_iff.1 hd
  have n1 := hx.inos
  obtain ⟨⟨y, e, m⟩, k1, kx, k2, k3, km⟩ := in65a x hx (mendIn x) ((mendIn_len x).trans n1) (mendIn_ptrs hx)
  simp only at kx k2 k3 km; subst kx; subst km
  have hfl := mendFold_len x (mendIn x) (mendIn x, []) (mendIn x).zipIdx
  have hml := (mendIn_len x).trans n1
  unfold mendPtrs
  unfold mo65 at k1
  generalize hF : (mendIn x).zipIdx.foldl (mpOut x) (mendIn x, []) = F at *
  obtain ⟨Q, had⟩ := F
  have hQ : Q.length = 8 := hfl.trans hml
  have tq : (Q.map inoO).take 8 = Q.map inoO := List.take_of_length_le (by simp [hQ])
  obtain ⟨p, hp⟩ := get_at (show 0 < x.inos.length by omega)
  have gp : (x.inos.map ino).getD 0 .undef = .agg [.int .i64 p.kind, .int .i64 p.links, .ro 1 (p.ptrs.map iv)] := gD_map hp
  have gpo : (x.inos.map inoO).getD 0 .undef = .agg [.int .i64 p.kind, .int .i64 p.links, .own 1 (p.ptrs.map iv)] := gD_map hp
  have g0 : x.inos.getD 0 ino0 = p := getD_at hp
  by_cases c : p.kind = 2
  · have hm : mendIn x = x.inos := by unfold mendIn; rw [g0, if_pos c]
    rw [hm] at k1
    simp only [List.map_nil] at k1
    have c : decide (p.kind = 2) = true := by simpa using c
    simp only [dsk, F65, mo65, h65_8, go_sem, seval, bnd_ite, e1, e2, hd, n1, t1, t2, t3, t4, gp, c, k1, k2, k3, dskO, tq, hQ, Bool.not_true, Bool.false_eq_true, if_false, List.map_nil, List.length_nil]
    done
  · have hm : mendIn x = x.inos.set 0 ⟨2, 1, [0, 0]⟩ := by unfold mendIn; rw [g0, if_neg c]
    rw [hm] at k1
    simp only [List.map_nil] at k1
    have c : decide (p.kind = 2) = false := by simpa using c
    have e3 := e141k 2
    have sq : (x.inos.map inoO).set 0 (.agg [.int .i64 2, .int .i64 1, .own 1 [.int .i64 0, .int .i64 0]]) = (x.inos.set 0 ⟨2, 1, [0, 0]⟩).map inoO := set_map' (f := inoO) (x := (⟨2, 1, [0, 0]⟩ : Ino))
    simp only [dsk, F65, mo65, h65_8, go_sem, seval, bnd_ite, e1, e2, e3, hd, n1, t1, t2, t3, t4, gp, gpo, c, sq, k1, k2, k3, dskO, tq, hQ, is_set, ite_self, gD_set, List.set_set, Bool.not_true, Bool.not_false, Bool.false_eq_true, if_false, if_true, List.map_nil, List.length_nil]
    done
end Go.Proofs.Ytaaajjinpppgeaa
