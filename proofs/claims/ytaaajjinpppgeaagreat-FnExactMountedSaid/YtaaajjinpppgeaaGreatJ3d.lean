/- Part 4 of the texts of a claim, joined by a program of ours (JZb, Fn, Xa). No condition. -/
import Derived.Test.YtaaajjinpppgeaaGreatJ3c
import Derived.Test.YtaaajjinpppgeaaGreatA4
set_option linter.unusedVariables false
set_option linter.unusedSimpArgs false
set_option linter.unusedSectionVars false
/- The last part of the texts of a claim, joined by a program of ours; at its end stands the row: the law returns true for every input, and leaves it as it was. No condition. -/
set_option linter.unusedVariables false
set_option linter.unusedSimpArgs false
set_option linter.unusedSectionVars false
/- Copies of disks. Own work; no condition. -/
set_option linter.unusedVariables false
set_option linter.unusedSimpArgs false
set_option linter.unusedSectionVars false
namespace Go.Proofs.YtaaajjinpppgeaaGreat
open Go Go.Abs
set_option maxRecDepth 100000
theorem e203 (l : List Bool) (hl : l.length ≤ 1048576) : E T 203 [.ro 1 (l.map bv)] [] = some (.own 1 (l.map bv), []) := by
  rw [E_eqW t203 (Nat.le_of_ble_eq_true rfl)]
  cases l with
  | nil => simp only [F203, go_sem, seval, bnd_ite]
  | cons x xs =>
    have h : (xs.length + 1) * 1 ≤ 140737488355328 := by simp only [List.length_cons] at hl; omega
    simp only [F203, bv, go_sem, seval, bnd_ite, h]
theorem e179 (a b : List Bool) (ha : a.length ≤ 1048576) (hb : b.length ≤ 1048576) : E T 179 [.agg [.ro 1 (a.map bv), .ro 1 (b.map bv)]] [] = some (.agg [.own 1 (a.map bv), .own 1 (b.map bv)], []) := by
  rw [E_eqW t179 (Nat.le_of_ble_eq_true rfl)]
  have e1 := e203 a ha
  have e2 := e203 b hb
  have t1 : (a.map bv).take a.length = a.map bv := List.take_of_length_le (by simp)
  have t2 : (b.map bv).take b.length = b.map bv := List.take_of_length_le (by simp)
  simp only [F179, go_sem, seval, bnd_ite, e1, e2, t1, t2]
theorem e171 (a b : List Bool) (ha : a.length ≤ 1048576) (hb : b.length ≤ 1048576) : E T 171 [.agg [.ro 1 (a.map bv), .ro 1 (b.map bv)]] [] = some (.agg [.own 1 (a.map bv), .own 1 (b.map bv)], []) := by
  rw [E_eqW t171 (Nat.le_of_ble_eq_true rfl)]
  cases a with
  | nil =>
    cases b with
    | nil => simp only [F171, go_sem, seval, bnd_ite]
    | cons y ys =>
      have h : (ys.length + 1) * 1 ≤ 140737488355328 := by simp only [List.length_cons] at hb; omega
      simp only [F171, bv, go_sem, seval, bnd_ite, h]
  | cons x xs =>
    have h1 : (xs.length + 1) * 1 ≤ 140737488355328 := by simp only [List.length_cons] at ha; omega
    cases b with
    | nil => simp only [F171, bv, go_sem, seval, bnd_ite, h1]
    | cons y ys =>
      have h : (ys.length + 1) * 1 ≤ 140737488355328 := by simp only [List.length_cons] at hb; omega
      simp only [F171, bv, go_sem, seval, bnd_ite, h, h1]
theorem take_map {α : Type} {f : α → AV} {l : List α} {i : Nat} {p : α} (hp : l[i]? = some p) : (l.take i).map f ++ [f p] = (l.take (i + 1)).map f := by rw [take_snoc hp, List.map_append]; rfl
theorem takes_len {α : Type} {f : α → AV} {l : List α} {i : Nat} (hi : i ≤ l.length) : ((l.take i).map f).length = i := by rw [List.length_map, List.length_take]; omega
theorem snoc_facts {α : Type} {f : α → AV} (hc : ∀ x, coolX (f x) = true) {l : List α} {i : Nat} {p : α} (hp : l[i]? = some p) :
    ∃ M, (l.take i).map f = M ∧ M.length = i ∧ (∀ g, mapIdL g M = M) ∧ (∀ u, idsL u M = []) ∧ M.take i = M ∧ M ++ [f p] = (l.take (i + 1)).map f := by
  have hi := (List.getElem?_eq_some_iff.1 hp).1
  have hl : ((l.take i).map f).length = i := takes_len (Nat.le_of_lt hi)
  exact ⟨_, rfl, hl, fun g => mi_map g f _ hc, fun u => is_map u f _ hc, List.take_of_length_le (by omega), take_map hp⟩
def cpBox (x : Dsk) : AV := .agg [.ro 1 (x.used.map bv), .ro 1 (x.taken.map bv), .ro 3 (x.inos.map ino), .ro 3 (x.blks.map blk)]
theorem in159a (x : Dsk) (h : x.sm) : ∃ r, XL T 0 H83_3 L83_3 ⟨[(1, .ptr 0 0 0), (2, .ptr 1 0 0), (3, .ptr 2 0 0), (13, .ro 3 (x.inos.map ino)), (14, .int .i64 x.inos.length), (15, .int .i64 0)],
      [some (4, [cpBox x]), some (4, [.agg [.nil, .nil, .nil, .nil]]), some (4, [.agg [.own 1 (x.used.map bv), .own 1 (x.taken.map bv), .sl 3 0 0, .nil]]), some (3, [])]⟩ = some r ∧
    (r.1 = .exit 0 ∧ lookA r.2.env 1 = .ptr 0 0 0 ∧ lookA r.2.env 2 = .ptr 1 0 0 ∧ lookA r.2.env 3 = .ptr 2 0 0 ∧
      r.2.mem = [some (4, [cpBox x]), some (4, [.agg [.nil, .nil, .nil, .nil]]), some (4, [.agg [.own 1 (x.used.map bv), .own 1 (x.taken.map bv), .sl 3 0 x.inos.length, .nil]]), some (3, x.inos.map inoO)]) := by
  have hl := h.inos
  refine XL_each x.inos (fun (_ : Unit) _ => ()) (fun i _ => ⟨[(1, .ptr 0 0 0), (2, .ptr 1 0 0), (3, .ptr 2 0 0), (13, .ro 3 (x.inos.map ino)), (14, .int .i64 x.inos.length), (15, .int .i64 (i : Nat))],
      [some (4, [cpBox x]), some (4, [.agg [.nil, .nil, .nil, .nil]]), some (4, [.agg [.own 1 (x.used.map bv), .own 1 (x.taken.map bv), .sl 3 0 i, .nil]]), some (3, (x.inos.take i).map inoO)]⟩) (fun _ _ => True)
    (fun _ r => r.1 = .exit 0 ∧ lookA r.2.env 1 = .ptr 0 0 0 ∧ lookA r.2.env 2 = .ptr 1 0 0 ∧ lookA r.2.env 3 = .ptr 2 0 0 ∧
      r.2.mem = [some (4, [cpBox x]), some (4, [.agg [.nil, .nil, .nil, .nil]]), some (4, [.agg [.own 1 (x.used.map bv), .own 1 (x.taken.map bv), .sl 3 0 x.inos.length, .nil]]), some (3, x.inos.map inoO)]) ?step ?last () trivial
  case step =>
    intro i _ p hp hi _
    refine ⟨?_, trivial⟩
    have hi1 : (i : Int) < (x.inos.length : Int) := by omega
    have gp : (x.inos.map ino).getD i .undef = .agg [.int .i64 p.kind, .int .i64 p.links, .ro 1 (p.ptrs.map iv)] := gD_map hp
    have e1 := e106 p (h.ino p (List.mem_of_getElem? hp))
    unfold ino inoO at e1
    obtain ⟨M, hM, ml, mi, ms, mt, ma⟩ := snoc_facts inoO_cool hp
    unfold inoO at ma
    have htk : (List.map iv p.ptrs).take p.ptrs.length = List.map iv p.ptrs := List.take_of_length_le (by simp)
    have hap : (i + 1) * 40 ≤ 140737488355328 := by omega
    unfold cpBox
    simp only [hM]
    simp only [XG, L83_3, h83_3, go_sem, seval, bnd_ite, hi1, gp, e1, htk, ml, mi, ms, mt, ma, hap, Int.natCast_nonneg, w_i64 ((i : Int) + 1) (by omega)]
    rfl
  case last =>
    intro _ _
    unfold cpBox
    simp only [XG, L83_3, h83_3, go_sem, seval, bnd_ite, Int.lt_irrefl, decide_false]
    exact .mk (by simp) ⟨rfl, rfl, rfl, rfl, rfl⟩
theorem in159b (x : Dsk) (h : x.sm) : ∃ r, XL T 0 H83_9 L83_9 ⟨[(2, .ptr 0 0 0), (3, .ptr 1 0 0), (28, .ro 3 (x.blks.map blk)), (29, .int .i64 x.blks.length), (30, .int .i64 0)],
      [some (4, [.agg [.nil, .nil, .nil, .nil]]), some (4, [.agg [.own 1 (x.used.map bv), .own 1 (x.taken.map bv), .own 3 (x.inos.map inoO), .sl 2 0 0]]), some (3, [])]⟩ = some r ∧
    (r.1 = .exit 2 ∧ lookA r.2.env 2 = .ptr 0 0 0 ∧ lookA r.2.env 3 = .ptr 1 0 0 ∧
      r.2.mem = [some (4, [.agg [.nil, .nil, .nil, .nil]]), some (4, [.agg [.own 1 (x.used.map bv), .own 1 (x.taken.map bv), .own 3 (x.inos.map inoO), .sl 2 0 x.blks.length]]), some (3, x.blks.map blkO)]) := by
  have hl := h.blks
  refine XL_each x.blks (fun (_ : Unit) _ => ()) (fun i _ => ⟨[(2, .ptr 0 0 0), (3, .ptr 1 0 0), (28, .ro 3 (x.blks.map blk)), (29, .int .i64 x.blks.length), (30, .int .i64 (i : Nat))],
      [some (4, [.agg [.nil, .nil, .nil, .nil]]), some (4, [.agg [.own 1 (x.used.map bv), .own 1 (x.taken.map bv), .own 3 (x.inos.map inoO), .sl 2 0 i]]), some (3, (x.blks.take i).map blkO)]⟩) (fun _ _ => True)
    (fun _ r => r.1 = .exit 2 ∧ lookA r.2.env 2 = .ptr 0 0 0 ∧ lookA r.2.env 3 = .ptr 1 0 0 ∧
      r.2.mem = [some (4, [.agg [.nil, .nil, .nil, .nil]]), some (4, [.agg [.own 1 (x.used.map bv), .own 1 (x.taken.map bv), .own 3 (x.inos.map inoO), .sl 2 0 x.blks.length]]), some (3, x.blks.map blkO)]) ?step ?last () trivial
  case step =>
    intro i _ p hp hi _
    refine ⟨?_, trivial⟩
    have hi1 : (i : Int) < (x.blks.length : Int) := by omega
    have gp : (x.blks.map blk).getD i .undef = .agg [.bool p.dir, .ro 2 (p.slots.map slt), .str p.text] := gD_map hp
    have e1 := e110 p (h.blk p (List.mem_of_getElem? hp))
    unfold blk blkO at e1
    obtain ⟨M, hM, ml, mi, ms, mt, ma⟩ := snoc_facts blkO_cool hp
    unfold blkO at ma
    have htk : (List.map slt p.slots).take p.slots.length = List.map slt p.slots := List.take_of_length_le (by simp)
    have hap : (i + 1) * 48 ≤ 140737488355328 := by omega
    simp only [hM]
    simp only [XG, L83_9, h83_9, go_sem, seval, bnd_ite, hi1, gp, e1, htk, ml, mi, ms, mt, ma, hap, Int.natCast_nonneg, w_i64 ((i : Int) + 1) (by omega)]
    rfl
  case last =>
    intro _ _
    simp only [XG, L83_9, h83_9, go_sem, seval, bnd_ite, Int.lt_irrefl, decide_false]
    exact .mk (by simp) ⟨rfl, rfl, rfl, rfl⟩
theorem e83 (x : Dsk) (h : x.sm) : E T 83 [dsk x] [] = some (dskO x, []) := by
  rw [E_eq t83 (Nat.le_of_ble_eq_true rfl)]
  have e1 := e179 x.used x.taken h.used h.taken
  obtain ⟨⟨y, e, m⟩, k1, kx, k2, k3, k4, km⟩ := in159a x h
  simp only at kx k2 k3 k4 km; subst kx; subst km
  obtain ⟨⟨y, e', m⟩, l1, lx, l2, l3, lm⟩ := in159b x h
  simp only at lx l2 l3 lm; subst lx; subst lm
  unfold cpBox at k1
  have t1 : (x.used.map bv).take x.used.length = x.used.map bv := List.take_of_length_le (by simp)
  have t2 : (x.taken.map bv).take x.taken.length = x.taken.map bv := List.take_of_length_le (by simp)
  have t3 : (x.inos.map inoO).take x.inos.length = x.inos.map inoO := List.take_of_length_le (by simp)
  have t4 : (x.blks.map blkO).take x.blks.length = x.blks.map blkO := List.take_of_length_le (by simp)
  simp only [dsk, F83, cpBox, h83_3, h83_9, go_sem, seval, bnd_ite, e1, k1, k2, k3, k4, l1, l2, l3, dskO, t1, t2, t3, t4]
theorem in158a (x : Dsk) (h : x.sm) : ∃ r, XL T 0 H74_3 L74_3 ⟨[(1, .ptr 0 0 0), (2, .ptr 1 0 0), (3, .ptr 2 0 0), (4, .int .i64 0)],
      [some (4, [cpBox x]), some (4, [.agg [.nil, .nil, .nil, .nil]]), some (4, [.agg [.own 1 (x.used.map bv), .own 1 (x.taken.map bv), .sl 3 0 0, .nil]]), some (3, [])]⟩ = some r ∧
    (r.1 = .exit 0 ∧ lookA r.2.env 1 = .ptr 0 0 0 ∧ lookA r.2.env 2 = .ptr 1 0 0 ∧ lookA r.2.env 3 = .ptr 2 0 0 ∧
      r.2.mem = [some (4, [cpBox x]), some (4, [.agg [.nil, .nil, .nil, .nil]]), some (4, [.agg [.own 1 (x.used.map bv), .own 1 (x.taken.map bv), .sl 3 0 x.inos.length, .nil]]), some (3, x.inos.map inoO)]) := by
  have hl := h.inos
  refine XL_each x.inos (fun (_ : Unit) _ => ()) (fun i _ => ⟨[(1, .ptr 0 0 0), (2, .ptr 1 0 0), (3, .ptr 2 0 0), (4, .int .i64 (i : Nat))],
      [some (4, [cpBox x]), some (4, [.agg [.nil, .nil, .nil, .nil]]), some (4, [.agg [.own 1 (x.used.map bv), .own 1 (x.taken.map bv), .sl 3 0 i, .nil]]), some (3, (x.inos.take i).map inoO)]⟩) (fun _ _ => True)
    (fun _ r => r.1 = .exit 0 ∧ lookA r.2.env 1 = .ptr 0 0 0 ∧ lookA r.2.env 2 = .ptr 1 0 0 ∧ lookA r.2.env 3 = .ptr 2 0 0 ∧
      r.2.mem = [some (4, [cpBox x]), some (4, [.agg [.nil, .nil, .nil, .nil]]), some (4, [.agg [.own 1 (x.used.map bv), .own 1 (x.taken.map bv), .sl 3 0 x.inos.length, .nil]]), some (3, x.inos.map inoO)]) ?step ?last () trivial
  case step =>
    intro i _ p hp hi _
    refine ⟨?_, trivial⟩
    have hi1 : (i : Int) < (x.inos.length : Int) := by omega
    have gp : (x.inos.map ino).getD i .undef = .agg [.int .i64 p.kind, .int .i64 p.links, .ro 1 (p.ptrs.map iv)] := gD_map hp
    have e1 := e109 p (h.ino p (List.mem_of_getElem? hp))
    unfold ino inoO at e1
    obtain ⟨M, hM, ml, mi, ms, mt, ma⟩ := snoc_facts inoO_cool hp
    unfold inoO at ma
    have htk : (List.map iv p.ptrs).take p.ptrs.length = List.map iv p.ptrs := List.take_of_length_le (by simp)
    have hap : (i + 1) * 40 ≤ 140737488355328 := by omega
    unfold cpBox
    simp only [hM]
    simp only [XG, L74_3, h74_3, go_sem, seval, bnd_ite, hi1, gp, e1, htk, ml, mi, ms, mt, ma, hap, Int.natCast_nonneg, w_i64 ((i : Int) + 1) (by omega)]
    rfl
  case last =>
    intro _ _
    unfold cpBox
    simp only [XG, L74_3, h74_3, go_sem, seval, bnd_ite, Int.lt_irrefl, decide_false]
    exact .mk (by simp) ⟨rfl, rfl, rfl, rfl, rfl⟩
theorem in158b (x : Dsk) (h : x.sm) : ∃ r, XL T 0 H74_8 L74_8 ⟨[(1, .ptr 0 0 0), (2, .ptr 1 0 0), (3, .ptr 2 0 0), (5, .int .i64 0)],
      [some (4, [cpBox x]), some (4, [.agg [.nil, .nil, .nil, .nil]]), some (4, [.agg [.own 1 (x.used.map bv), .own 1 (x.taken.map bv), .own 3 (x.inos.map inoO), .sl 3 0 0]]), some (3, [])]⟩ = some r ∧
    (r.1 = .exit 2 ∧ lookA r.2.env 2 = .ptr 1 0 0 ∧ lookA r.2.env 3 = .ptr 2 0 0 ∧
      r.2.mem = [some (4, [cpBox x]), some (4, [.agg [.nil, .nil, .nil, .nil]]), some (4, [.agg [.own 1 (x.used.map bv), .own 1 (x.taken.map bv), .own 3 (x.inos.map inoO), .sl 3 0 x.blks.length]]), some (3, x.blks.map blkO)]) := by
  have hl := h.blks
  refine XL_each x.blks (fun (_ : Unit) _ => ()) (fun i _ => ⟨[(1, .ptr 0 0 0), (2, .ptr 1 0 0), (3, .ptr 2 0 0), (5, .int .i64 (i : Nat))],
      [some (4, [cpBox x]), some (4, [.agg [.nil, .nil, .nil, .nil]]), some (4, [.agg [.own 1 (x.used.map bv), .own 1 (x.taken.map bv), .own 3 (x.inos.map inoO), .sl 3 0 i]]), some (3, (x.blks.take i).map blkO)]⟩) (fun _ _ => True)
    (fun _ r => r.1 = .exit 2 ∧ lookA r.2.env 2 = .ptr 1 0 0 ∧ lookA r.2.env 3 = .ptr 2 0 0 ∧
      r.2.mem = [some (4, [cpBox x]), some (4, [.agg [.nil, .nil, .nil, .nil]]), some (4, [.agg [.own 1 (x.used.map bv), .own 1 (x.taken.map bv), .own 3 (x.inos.map inoO), .sl 3 0 x.blks.length]]), some (3, x.blks.map blkO)]) ?step ?last () trivial
  case step =>
    intro i _ p hp hi _
    refine ⟨?_, trivial⟩
    have hi1 : (i : Int) < (x.blks.length : Int) := by omega
    have gp : (x.blks.map blk).getD i .undef = .agg [.bool p.dir, .ro 2 (p.slots.map slt), .str p.text] := gD_map hp
    have e1 := e112 p (h.blk p (List.mem_of_getElem? hp))
    unfold blk blkO at e1
    obtain ⟨M, hM, ml, mi, ms, mt, ma⟩ := snoc_facts blkO_cool hp
    unfold blkO at ma
    have htk : (List.map slt p.slots).take p.slots.length = List.map slt p.slots := List.take_of_length_le (by simp)
    have hap : (i + 1) * 48 ≤ 140737488355328 := by omega
    unfold cpBox
    simp only [hM]
    simp only [XG, L74_8, h74_8, go_sem, seval, bnd_ite, hi1, gp, e1, htk, ml, mi, ms, mt, ma, hap, Int.natCast_nonneg, w_i64 ((i : Int) + 1) (by omega)]
    rfl
  case last =>
    intro _ _
    unfold cpBox
    simp only [XG, L74_8, h74_8, go_sem, seval, bnd_ite, Int.lt_irrefl, decide_false]
    exact .mk (by simp) ⟨rfl, rfl, rfl, rfl⟩
theorem e74 (x : Dsk) (h : x.sm) : E T 74 [dsk x] [] = some (dskO x, []) := by
  rw [E_eq t74 (Nat.le_of_ble_eq_true rfl)]
  have e1 := e171 x.used x.taken h.used h.taken
  obtain ⟨⟨y, e, m⟩, k1, kx, k2, k3, k4, km⟩ := in158a x h
  simp only at kx k2 k3 k4 km; subst kx; subst km
  obtain ⟨⟨y, e', m⟩, l1, lx, l2, l3, lm⟩ := in158b x h
  simp only at lx l2 l3 lm; subst lx; subst lm
  unfold cpBox at k1 l1
  have t1 : (x.used.map bv).take x.used.length = x.used.map bv := List.take_of_length_le (by simp)
  have t2 : (x.taken.map bv).take x.taken.length = x.taken.map bv := List.take_of_length_le (by simp)
  have t3 : (x.inos.map inoO).take x.inos.length = x.inos.map inoO := List.take_of_length_le (by simp)
  have t4 : (x.blks.map blkO).take x.blks.length = x.blks.map blkO := List.take_of_length_le (by simp)
  simp only [dsk, F74, cpBox, h74_3, h74_8, go_sem, seval, bnd_ite, e1, k1, k2, k3, k4, l1, l2, l3, dskO, t1, t2, t3, t4]
end Go.Proofs.YtaaajjinpppgeaaGreat

/- Marking dependencies and memories. Own work; no condition. -/
set_option linter.unusedVariables false
set_option linter.unusedSimpArgs false
set_option linter.unusedSectionVars false
namespace Go.Proofs.YtaaajjinpppgeaaGreat
open Go Go.Abs
set_option maxRecDepth 100000
noncomputable def mkDp (k : Int) (x : Dp) : Dp := ⟨k, k + 1, k + 1 + 1, k + 1 + 1 + 1, k + 1 + 1 + 1 + 1, k + 1 + 1 + 1 + 1 + 1, mtext (k + 1 + 1 + 1 + 1 + 1 + 1), mb (k + 1 + 1 + 1 + 1 + 1 + 1 + 1), mb (k + 1 + 1 + 1 + 1 + 1 + 1 + 1 + 1), k + 1 + 1 + 1 + 1 + 1 + 1 + 1 + 1 + 1, (List.range x.blocks.length).map fun i => k + 1 + 1 + 1 + 1 + 1 + 1 + 1 + 1 + 1 + 1 + (i : Nat)⟩
def coDp (x : Dp) : Nat := 10 + x.blocks.length
theorem costDp {l : List Dp} (hl : l.length ≤ 1048576) (hs : ∀ x ∈ l, x.sm) (i : Nat) : costL coDp (l.take i) ≤ 1099522113536 := by
  have h1 := costL_le (cost := coDp) (C := 1048586) (l := l.take i) (fun x hx => by have := hs x (List.mem_of_mem_take hx); unfold Dp.sm at this; unfold coDp; omega)
  have h2 : (l.take i).length ≤ l.length := by simp; omega
  have h3 : (l.take i).length * 1048586 ≤ 1048576 * 1048586 := Nat.mul_le_mul_right _ (by omega)
  omega
set_option maxHeartbeats 1000000 in
theorem e164 (l : List Dp) (k : Int) (h0 : 0 ≤ k) (hk : k ≤ 1125899906842624) (hl : l.length ≤ 1048576) (hs : ∀ x ∈ l, x.sm) :
    E T 164 [.sl 0 0 l.length, .int .i64 k] [some (11, l.map dpO)] = some (.int .i64 (k + costL coDp l), [some (11, (mkL mkDp coDp k l).map dpO)]) := by
  rw [E_eq t164 (Nat.le_of_ble_eq_true rfl)]
  simp only [F164, h164_2, go_sem, seval, bnd_ite]
  refine (XL_inv (T := T) (b := 1) (hd := H164_2) (x := L164_2) (β := Unit) (fun i _ => ⟨[(0, .sl 0 0 l.length), (1, .int .i64 (k + (costL coDp (l.take i) : Nat))), (5, .int .i64 (i : Nat))], [some (11, (mkP mkDp coDp k l i).map dpO)]⟩)
    (fun i _ => True) l.length (fun r => r.1 = .exit 0 ∧ r.2.mem = [some (11, (mkL mkDp coDp k l).map dpO)] ∧ lookA r.2.env 1 = .int .i64 (k + (costL coDp l : Nat))) ?step ?last 0 () (by omega) trivial).elim ?main
  case step =>
    intro i _ hi _
    obtain ⟨p, hp⟩ := get_at hi
    have hi1 : (i : Int) < (l.length : Int) := by omega
    have hci := costDp hl hs i
    have hps := hs p (List.mem_of_getElem? hp)
    unfold Dp.sm at hps
    left
    refine ⟨(), ?_, trivial⟩
    have ms := mkP_set (st := mkDp) (cost := coDp) (k := k) hp
    have cs := costL_succ (cost := coDp) hp
    have gx : ((mkP mkDp coDp k l i).map dpO).getD i .undef = .agg [.int .i64 p.id, .int .i64 p.kind, .int .i64 p.ino, .int .i64 p.ptr, .int .i64 p.block, .int .i64 p.slot, .str p.name, .bool p.bits, .bool p.other, .int .i64 p.after, .own 1 (p.blocks.map iv)] := gD_map (mkP_get hp)
    generalize hR : mkP mkDp coDp k l i = R at *
    have hml : R.length = l.length := by rw [← hR]; exact mkP_len
    have hmi : i < (R.map dpO).length := by rw [List.length_map, hml]; exact hi
    generalize hK : k + (costL coDp (l.take i) : Int) = K at *
    have e1 := e189 p.blocks (K + 1 + 1 + 1 + 1 + 1 + 1 + 1 + 1 + 1 + 1) (by omega) (by omega) hps
    have e4 := e162 (K + 1 + 1 + 1 + 1 + 1 + 1) (by omega) (by omega)
    have sm : (R.map dpO).set i (.agg [.int .i64 K, .int .i64 (K + 1), .int .i64 (K + 1 + 1), .int .i64 (K + 1 + 1 + 1), .int .i64 (K + 1 + 1 + 1 + 1), .int .i64 (K + 1 + 1 + 1 + 1 + 1), .str (mtext (K + 1 + 1 + 1 + 1 + 1 + 1)), .bool (mb (K + 1 + 1 + 1 + 1 + 1 + 1 + 1)), .bool (mb (K + 1 + 1 + 1 + 1 + 1 + 1 + 1 + 1)), .int .i64 (K + 1 + 1 + 1 + 1 + 1 + 1 + 1 + 1 + 1), .own 1 (((List.range p.blocks.length).map fun i => K + 1 + 1 + 1 + 1 + 1 + 1 + 1 + 1 + 1 + 1 + (i : Nat)).map iv)]) = (mkP mkDp coDp k l (i + 1)).map dpO := by rw [← ms]; exact set_map (f := dpO) (x := mkDp K p)
    have e2 : k + ((costL coDp (l.take (i + 1)) : Nat) : Int) = K + 1 + 1 + 1 + 1 + 1 + 1 + 1 + 1 + 1 + 1 + (p.blocks.length : Int) := by rw [cs, coDp]; omega
    have it : ((i : Int) + 0).toNat = i := by omega
    generalize hM : ((List.range p.blocks.length).map fun i => K + 1 + 1 + 1 + 1 + 1 + 1 + 1 + 1 + 1 + 1 + (i : Nat)) = M at *
    have hmk : M.length = p.blocks.length := by rw [← hM]; simp
    have htk : (List.map iv M).take p.blocks.length = List.map iv M := List.take_of_length_le (by simp [hmk])
    unfold mb at sm
    simp only [XG, L164_2, h164_2, it, go_sem, seval, bnd_ite, hi1, hml, hi, gx, getD_set hmi, List.set_set, Int.natCast_nonneg, w_i64 ((i : Int) + 1) (by omega), w_i64 (K + 1) (by omega), w_i64 (K + 1 + 1) (by omega), w_i64 (K + 1 + 1 + 1) (by omega), w_i64 (K + 1 + 1 + 1 + 1) (by omega), w_i64 (K + 1 + 1 + 1 + 1 + 1) (by omega), w_i64 (K + 1 + 1 + 1 + 1 + 1 + 1) (by omega), w_i64 (K + 1 + 1 + 1 + 1 + 1 + 1 + 1) (by omega), w_i64 (K + 1 + 1 + 1 + 1 + 1 + 1 + 1 + 1) (by omega), w_i64 (K + 1 + 1 + 1 + 1 + 1 + 1 + 1 + 1 + 1) (by omega), w_i64 (K + 1 + 1 + 1 + 1 + 1 + 1 + 1 + 1 + 1 + 1) (by omega), e1, e4, is_set, dpO_is, hmk, htk, sm]
    rw [e2]; rfl
  case last =>
    intro _ _
    have hml : (mkP mkDp coDp k l l.length).length = l.length := mkP_len
    simp only [XG, L164_2, h164_2, go_sem, seval, bnd_ite, hml, Int.lt_irrefl, decide_false]
    exact .mk (by simp) ⟨rfl, by rw [mkP_all], rfl⟩
  case main =>
  rintro ⟨x, e, m⟩ ⟨h1, h2, h3, h4, h5⟩
  have h0' : ((0 : Nat) : Int) = 0 := rfl
  simp only [mkP_0, List.take_zero, costL, h0', Int.add_zero] at h1
  simp only at h3 h4 h5; subst h3; subst h4
  simp only [h1, go_sem, seval, h5]
set_option maxHeartbeats 1000000 in
theorem e166 (l : List Dp) (k : Int) (h0 : 0 ≤ k) (hk : k ≤ 1125899906842624) (hl : l.length ≤ 1048576) (hs : ∀ x ∈ l, x.sm) :
    E T 166 [.ro 11 ((mkL mkDp coDp k l).map dp), .int .i64 k] [] = some (.int .i64 (k + costL coDp l), []) := by
  rw [E_eq t166 (Nat.le_of_ble_eq_true rfl)]
  simp only [F166, h166_2, go_sem, seval, bnd_ite]
  generalize hL : mkL mkDp coDp k l = L
  have hln : L.length = l.length := by rw [← hL]; exact mkL_len
  refine (XL_inv (T := T) (b := 0) (hd := H166_2) (x := L166_2) (β := Unit) (fun i _ => ⟨[(0, .ro 11 (L.map dp)), (1, .int .i64 (k + (costL coDp (l.take i) : Nat))), (5, .int .i64 (i : Nat))], []⟩)
    (fun i _ => True) l.length (fun r => r.1 = .exit 0 ∧ lookA r.2.env 1 = .int .i64 (k + (costL coDp l : Nat))) ?step ?last 0 () (by omega) trivial).elim ?main
  case step =>
    intro i _ hi _
    obtain ⟨p, hp⟩ := get_at hi
    have hi1 : (i : Int) < (l.length : Int) := by omega
    have hci := costDp hl hs i
    have hps := hs p (List.mem_of_getElem? hp)
    unfold Dp.sm at hps
    left
    refine ⟨(), ?_, trivial⟩
    have cs := costL_succ (cost := coDp) hp
    have hat : L[i]? = some (mkDp (k + costL coDp (l.take i)) p) := by rw [← hL]; exact mkL_at hp
    generalize hK : k + (costL coDp (l.take i) : Int) = K at *
    have gx : (L.map dp).getD i .undef = .agg [.int .i64 K, .int .i64 (K + 1), .int .i64 (K + 1 + 1), .int .i64 (K + 1 + 1 + 1), .int .i64 (K + 1 + 1 + 1 + 1), .int .i64 (K + 1 + 1 + 1 + 1 + 1), .str (mtext (K + 1 + 1 + 1 + 1 + 1 + 1)), .bool (mb (K + 1 + 1 + 1 + 1 + 1 + 1 + 1)), .bool (mb (K + 1 + 1 + 1 + 1 + 1 + 1 + 1 + 1)), .int .i64 (K + 1 + 1 + 1 + 1 + 1 + 1 + 1 + 1 + 1), .ro 1 (((List.range p.blocks.length).map fun i => K + 1 + 1 + 1 + 1 + 1 + 1 + 1 + 1 + 1 + 1 + (i : Nat)).map iv)] := gD_map hat
    have e1 := e191 p.blocks.length (K + 1 + 1 + 1 + 1 + 1 + 1 + 1 + 1 + 1 + 1) (by omega) (by omega) hps
    have e4 := e162 (K + 1 + 1 + 1 + 1 + 1 + 1) (by omega) (by omega)
    have e2 : k + ((costL coDp (l.take (i + 1)) : Nat) : Int) = K + 1 + 1 + 1 + 1 + 1 + 1 + 1 + 1 + 1 + 1 + (p.blocks.length : Int) := by rw [cs, coDp]; omega
    have e3 : ¬ K + 1 + 1 + 1 + 1 + 1 + 1 + 1 + 1 + 1 + 1 + (p.blocks.length : Int) < 0 := by omega
    generalize hM : ((List.range p.blocks.length).map fun i => K + 1 + 1 + 1 + 1 + 1 + 1 + 1 + 1 + 1 + 1 + (i : Nat)) = M at *
    unfold mb at gx
    simp only [XG, L166_2, h166_2, go_sem, seval, bnd_ite, hi1, hln, hi, gx, e1, e3, e4, bdec, bne_dec, decide_true, decide_false, Bool.not_true, Bool.false_eq_true, if_false, Int.natCast_nonneg, w_i64 ((i : Int) + 1) (by omega), w_i64 (K + 1) (by omega), w_i64 (K + 1 + 1) (by omega), w_i64 (K + 1 + 1 + 1) (by omega), w_i64 (K + 1 + 1 + 1 + 1) (by omega), w_i64 (K + 1 + 1 + 1 + 1 + 1) (by omega), w_i64 (K + 1 + 1 + 1 + 1 + 1 + 1) (by omega), w_i64 (K + 1 + 1 + 1 + 1 + 1 + 1 + 1) (by omega), w_i64 (K + 1 + 1 + 1 + 1 + 1 + 1 + 1 + 1) (by omega), w_i64 (K + 1 + 1 + 1 + 1 + 1 + 1 + 1 + 1 + 1) (by omega), w_i64 (K + 1 + 1 + 1 + 1 + 1 + 1 + 1 + 1 + 1 + 1) (by omega)]
    rw [e2]; rfl
  case last =>
    intro _ _
    simp only [XG, L166_2, h166_2, go_sem, seval, bnd_ite, hln, Int.lt_irrefl, decide_false]
    exact .mk (by simp) ⟨rfl, rfl⟩
  case main =>
  rintro ⟨x, e, m⟩ ⟨h1, h2, h3, h4⟩
  have hs : ((0 : Nat) : Int) = 0 := rfl
  simp only [List.take_zero, costL, hs, Int.add_zero] at h1
  simp only at h3 h4; subst h3
  simp only [h1, go_sem, seval, h4]
def coMm (x : Mm) : Nat := coDsk x.disk + x.dirty.length + costL coDp x.deps
noncomputable def mkMm (k : Int) (x : Mm) : Mm := ⟨mkDsk k x.disk, mkB (k + coDsk x.disk) x.dirty.length, mkL mkDp coDp (k + coDsk x.disk + x.dirty.length) x.deps, x.next⟩
/-- The rows of a memory's own memory. -/
def mmR (x : Mm) : Mem := dskR x.disk ++ [some (1, x.dirty.map bv), some (11, x.deps.map dpO)]
theorem coDsk_le' {x : Dsk} (h : x.sm) : coDsk x ≤ 4398046511104 := by
  obtain ⟨c1, c2⟩ := coDsk_le h
  have u1 := h.used
  have u2 := h.taken
  unfold coDsk; omega
theorem e68 (x : Mm) (k : Int) (h0 : 0 ≤ k) (hk : k ≤ 281474976710656) (h : x.sm) :
    E T 68 [.agg [.sl 0 0 x.disk.used.length, .sl 1 0 x.disk.taken.length, .sl 2 0 x.disk.inos.length, .sl 3 0 x.disk.blks.length, .sl 4 0 x.dirty.length, .sl 5 0 x.deps.length, .int .i64 x.next], .int .i64 k] (mmR x) = some (.int .i64 (k + coMm x), mmR (mkMm k x)) := by
  rw [E_eq t68 (Nat.le_of_ble_eq_true rfl)]
  have c1 := coDsk_le' h.disk
  have c2 := costDp h.deps h.dep x.deps.length
  rw [List.take_length] at c2
  have u1 := h.dirty
  have e1 := e24 x.disk k h0 (by omega) h.disk
  have e2 := e163' x.dirty (k + coDsk x.disk) (by omega) (by omega) h.dirty
  have e3 := e164 x.deps (k + coDsk x.disk + x.dirty.length) (by omega) (by omega) h.deps h.dep
  have e4 : k + (coMm x : Int) = k + coDsk x.disk + x.dirty.length + costL coDp x.deps := by unfold coMm; omega
  simp only [mmR, dskR, List.cons_append, List.nil_append] at e1 ⊢
  simp only [mkMm, F68, go_sem, seval, bnd_ite, e1, e2, e3, e4, mkDsk, mkB_len, mkL_len]
theorem e69 (x : Mm) (k : Int) (h0 : 0 ≤ k) (hk : k ≤ 281474976710656) (h : x.sm) : E T 69 [mm (mkMm k x), .int .i64 k] [] = some (.int .i64 (k + coMm x), []) := by
  rw [E_eq t69 (Nat.le_of_ble_eq_true rfl)]
  have c1 := coDsk_le' h.disk
  have c2 := costDp h.deps h.dep x.deps.length
  rw [List.take_length] at c2
  have u1 := h.dirty
  have e1 := e25 x.disk k h0 (by omega) h.disk
  have e2 := e165' x.dirty.length (k + coDsk x.disk) (by omega) (by omega) h.dirty
  have e3 := e166 x.deps (k + coDsk x.disk + x.dirty.length) (by omega) (by omega) h.deps h.dep
  have e4 : k + (coMm x : Int) = k + coDsk x.disk + x.dirty.length + costL coDp x.deps := by unfold coMm; omega
  have n1 : ¬ k + (coDsk x.disk : Int) < 0 := by omega
  have n2 : ¬ k + (coDsk x.disk : Int) + x.dirty.length < 0 := by omega
  have n3 : ¬ k + (coDsk x.disk : Int) + x.dirty.length + costL coDp x.deps < 0 := by omega
  unfold dsk at e1
  simp only [mm, mkMm, F69, go_sem, seval, bnd_ite, e1, e2, e3, e4, n1, n2, n3, if_false]
end Go.Proofs.YtaaajjinpppgeaaGreat

/- MemNew. Own work; no condition. -/
set_option linter.unusedVariables false
set_option linter.unusedSimpArgs false
set_option linter.unusedSectionVars false
namespace Go.Proofs.YtaaajjinpppgeaaGreat
open Go Go.Abs
set_option maxRecDepth 100000
def memNew (x : Dsk) : Mm := ⟨x, List.replicate 21 false, [], 1⟩
theorem tk_len {α : Type} {f : α → AV} {l : List α} {n : Nat} (h : l.length = n) : (l.map f).take n = l.map f := List.take_of_length_le (by rw [List.length_map, h]; exact Nat.le_refl _)
theorem e60 (x : Dsk) (h : x.sm) : E T 60 [dsk x] [] = some (mmO (memNew x), []) := by
  rw [E_eqW t60 (Nat.le_of_ble_eq_true rfl)]
  have e1 := e74 x h
  unfold dsk dskO at e1
  have t1 : (x.used.map bv).take x.used.length = x.used.map bv := List.take_of_length_le (by simp)
  have t2 : (x.taken.map bv).take x.taken.length = x.taken.map bv := List.take_of_length_le (by simp)
  have t3 : (x.inos.map inoO).take x.inos.length = x.inos.map inoO := List.take_of_length_le (by simp)
  have t4 : (x.blks.map blkO).take x.blks.length = x.blks.map blkO := List.take_of_length_le (by simp)
  simp only [dsk, F60, go_sem, seval, bnd_ite, e1, t1, t2, t3, t4, mmO, memNew, bv]
theorem e63 (x : Dsk) (h : x.sm) : E T 63 [dsk x] [] = some (mmO (memNew x), []) := by
  rw [E_eqW t63 (Nat.le_of_ble_eq_true rfl)]
  have e1 := e83 x h
  unfold dsk dskO at e1
  have t1 : (x.used.map bv).take x.used.length = x.used.map bv := List.take_of_length_le (by simp)
  have t2 : (x.taken.map bv).take x.taken.length = x.taken.map bv := List.take_of_length_le (by simp)
  have t3 : (x.inos.map inoO).take x.inos.length = x.inos.map inoO := List.take_of_length_le (by simp)
  have t4 : (x.blks.map blkO).take x.blks.length = x.blks.map blkO := List.take_of_length_le (by simp)
  simp only [dsk, F63, go_sem, seval, bnd_ite, e1, t1, t2, t3, t4, mmO, memNew, bv]
end Go.Proofs.YtaaajjinpppgeaaGreat

/- MendPointers: what it does, and the program's inner loop. Own work; no condition. -/
set_option linter.unusedVariables false
set_option linter.unusedSimpArgs false
set_option linter.unusedSectionVars false
namespace Go.Proofs.YtaaajjinpppgeaaGreat
open Go Go.Abs
set_option maxRecDepth 100000
end Go.Proofs.YtaaajjinpppgeaaGreat

/- The texts of bytes, inodes and bits. Own work; no condition. -/
set_option linter.unusedVariables false
set_option linter.unusedSimpArgs false
set_option linter.unusedSectionVars false
namespace Go.Proofs.YtaaajjinpppgeaaGreat
open Go Go.Abs
set_option maxRecDepth 100000
def ub (n : Int) : AV := .int .u8 (IntKind.u8.wrap n)
def toB (n : Int) : UInt8 := UInt8.ofNat (IntKind.u8.wrap n).toNat
def byteT (ns : List Int) : ByteArray := ⟨(ns.map toB).toArray⟩
theorem ub_cool (n : Int) : coolX (ub n) = true := rfl
theorem ub_no (n : Int) : (ub n).cells.all noOwnC = true := rfl
theorem ub_mi (g : Bool → Nat → Nat → Nat → AV) (l : List Int) : mapIdL g (l.map ub) = l.map ub := mi_map g ub l ub_cool
theorem ub_is (u : Bool → Nat → Nat → Nat → List Nat) (l : List Int) : idsL u (l.map ub) = [] := is_map u ub l ub_cool
attribute [go_sem] ub_mi ub_is
theorem bytesOf_ub (ns : List Int) : bytesOf (ns.map ub) = some (ns.map toB) := by
  induction ns with
  | nil => rfl
  | cons n ns ih => rw [List.map_cons, List.map_cons]; unfold ub; rw [by_c]; unfold ub at ih; rw [ih]; rfl
theorem byteT_size (a : List Int) : (byteT a).size = a.length := by simp [byteT, ByteArray.size]
theorem e157 (ns : List Int) (hn : ns.length ≤ 1048576) : E T 157 [.ro 1 (ns.map iv)] [] = some (.str (byteT ns), []) := by
  rw [E_eq t157 (Nat.le_of_ble_eq_true rfl)]
  refine (XL_each (T := T) (b := 0) (hd := H157_3) (x := L157_3) ns (fun (_ : Unit) _ => ()) (fun i _ => ⟨[(3, .sl 0 0 i), (7, .ro 1 (ns.map iv)), (8, .int .i64 ns.length), (9, .int .i64 (i : Nat))], [some (1, (ns.take i).map ub)]⟩) (fun _ _ => True)
    (fun _ r => r.1 = .exit 0 ∧ lookA r.2.env 3 = .sl 0 0 ns.length ∧ r.2.mem = [some (1, ns.map ub)]) ?step ?last () trivial).elim ?main
  case step =>
    intro i _ d hd hi _
    refine ⟨?_, trivial⟩
    have k1 : (i : Int) < (ns.length : Int) := by omega
    have gd : (ns.map iv).getD i .undef = .int .i64 d := gD_map hd
    obtain ⟨M, hM, ml, mi, ms, mt, ma⟩ := snoc_facts ub_cool hd
    have hap : (i + 1) * 1 ≤ 140737488355328 := by omega
    have hw := w_i64 ((i : Int) + 1) (by omega)
    have ma : M ++ [AV.int .u8 (IntKind.u8.wrap d)] = (ns.take (i + 1)).map ub := ma
    have hmin : min (i + 1) ns.length = i + 1 := by omega
    simp only [hM]
    simp only [XG, L157_3, h157_3, go_sem, seval, bnd_ite, k1, gd, ml, mi, ms, mt, ma, hap, hw, hmin, Int.natCast_nonneg]
    first | done | rfl
  case last =>
    intro _ _
    simp only [XG, L157_3, h157_3, go_sem, seval, bnd_ite, Int.lt_irrefl, decide_false]
    exact .mk (by simp) ⟨rfl, rfl, by simp⟩
  case main =>
  have hs0 : ((0 : Nat) : Int) = 0 := rfl
  rintro ⟨y, e, m⟩ ⟨k1, kx, k2, km⟩
  simp only at kx k2 km; subst kx; subst km
  simp only [hs0, List.take_zero, List.map_nil] at k1
  have tk : (ns.map ub).take ns.length = ns.map ub := List.take_of_length_le (by simp)
  have hno : (ns.map ub).all (fun x => x.cells.all noOwnC) = true := no_map ub ns ub_no
  have hb := bytesOf_ub ns
  simp only [F157, h157_3, go_sem, seval, bnd_ite, k1, k2, tk, hno, hb]
  rfl
/-- One byte is the length of a short text. -/
theorem e255 (n : Int) (h : 0 ≤ n ∧ n ≤ 127) : E T 255 [.int .i64 n] [] = some (.str (byteT [n]), []) := by
  rw [E_eq t255 (Nat.le_of_ble_eq_true rfl)]
  have c : decide (n > 127) = false := decide_eq_false (by omega)
  have key : XL T 0 H255_2 L255_2 ⟨[(0, .int .i64 n), (3, .sl 0 0 0)], [some (1, [])]⟩ = some (.exit 0, ⟨[(6, .bool false), (5, .int .i64 n), (0, .int .i64 n), (3, .sl 0 0 0)], [some (1, [])]⟩) := by
    refine XL_out ?_ (by simp)
    simp only [XG, L255_2, h255_2, go_sem, seval, bnd_ite, c, Bool.false_eq_true, if_false]
  simp only [F255, h255_2, go_sem, seval, bnd_ite, key]
  rfl
theorem e285 (n : Int) (h : 0 ≤ n ∧ n ≤ 127) : E T 285 [.int .i64 n] [] = some (.tup [.str (byteT [n]), .bool true], []) := by
  rw [E_eq t285 (Nat.le_of_ble_eq_true rfl)]
  have c : decide (n > 127) = false := decide_eq_false (by omega)
  have c2 : inside n 0 1000000000 = true := by simp [inside]; omega
  have key : XL T 0 H285_4 L285_4 ⟨[(0, .int .i64 n), (4, .sl 0 0 0)], [some (1, [])]⟩ = some (.exit 0, ⟨[(10, .bool false), (9, .int .i64 n), (0, .int .i64 n), (4, .sl 0 0 0)], [some (1, [])]⟩) := by
    refine XL_out ?_ (by simp)
    simp only [XG, L285_4, h285_4, go_sem, seval, bnd_ite, c, Bool.false_eq_true, if_false]
  simp only [F285, h285_4, go_sem, seval, bnd_ite, e105i, c2, key, Bool.not_true, Bool.false_eq_true, if_false]
  rfl
theorem e259 (s : ByteArray) (h : s.size ≤ 127) : E T 259 [.str s] [] = some (.tup [.str (byteT [(s.size : Int)] ++ s), .bool true], []) := by
  rw [E_eq t259 (Nat.le_of_ble_eq_true rfl)]
  have c : decide ((s.size : Int) > 20000) = false := decide_eq_false (by omega)
  have e1 := e285 s.size (by omega)
  have hs := byteT_size [(s.size : Int)]
  have hb : (((byteT [(s.size : Int)]).size + s.size : Nat) : Int) ≤ 9223372036854775807 := by rw [hs]; simp; omega
  simp only [F259, go_sem, seval, bnd_ite, c, e1, hb, Bool.false_eq_true, if_false, if_true]
end Go.Proofs.YtaaajjinpppgeaaGreat

/- The texts of bits and blocks. Own work; no condition. -/
set_option linter.unusedVariables false
set_option linter.unusedSimpArgs false
set_option linter.unusedSectionVars false
namespace Go.Proofs.YtaaajjinpppgeaaGreat
open Go Go.Abs
set_option maxRecDepth 100000
end Go.Proofs.YtaaajjinpppgeaaGreat

/- The texts of blocks and of units. Own work; no condition. -/
set_option linter.unusedVariables false
set_option linter.unusedSimpArgs false
set_option linter.unusedSectionVars false
namespace Go.Proofs.YtaaajjinpppgeaaGreat
open Go Go.Abs
set_option maxRecDepth 100000
def slotT (s : Slt) : ByteArray := byteT [s.ino] ++ (byteT [(s.name.size : Int)] ++ s.name)
def slotsT (l : List Slt) : ByteArray := l.foldl (fun acc s => acc ++ slotT s) ⟨#[100]⟩
def blkT (x : Blk) : ByteArray := if x.dir then slotsT x.slots else ⟨#[116]⟩ ++ x.text
theorem slotOk_size {l : List Slt} {i : Nat} {s : Slt} (h : slotOk l i s = true) : s.name.size ≤ 6 := by
  unfold slotOk bare nameOk inside at h
  simp only [Bool.or_eq_true, Bool.and_eq_true, decide_eq_true_eq] at h
  rcases h with h | h
  · rw [h.1]; decide
  · omega
theorem one_byte (n : Int) : (⟨[UInt8.ofNat (IntKind.u8.wrap n).toNat].toArray⟩ : ByteArray) = byteT [n] := rfl
theorem e223 (x : Blk) (hk : x.ok) : E T 223 [blk x] [] = some (.tup [.str (if blkOk x then blkT x else ⟨#[]⟩), .bool (blkOk x)], []) := by
  rw [E_eq t223 (Nat.le_of_ble_eq_true rfl)]
  have e1 := e174 x hk
  cases hx : blkOk x with
  | false =>
    rw [hx] at e1
    unfold blk at e1
    simp only [blk, F223, go_sem, seval, bnd_ite, e1, Bool.not_false, if_true, Bool.false_eq_true, if_false]
  | true =>
    rw [hx] at e1
    unfold blk at e1
    cases hd : x.dir with
    | false =>
      rw [hd] at e1
      obtain ⟨_, h2⟩ := blkOk_txt hx hd
      unfold blkT
      simp only [blk, hd, F223, go_sem, seval, bnd_ite, e1, Bool.not_true, Bool.not_false, if_true, Bool.false_eq_true, if_false]
      rw [if_pos (by show (((1 : Nat) + x.text.size : Nat) : Int) ≤ _; omega)]
    | true =>
      rw [hd] at e1
      obtain ⟨h1, h2, h3⟩ := blkOk_dir hx hd
      obtain ⟨⟨y, e, m⟩, q1, qx, q2⟩ := XL_each (T := T) (b := 0) (hd := H223_7) (x := L223_7) x.slots (fun acc s => acc ++ slotT s) (fun i acc => ⟨[(1, .ptr 0 0 0), (4, .str acc), (5, .int .i64 (i : Nat))], [some (3, [.agg [.bool true, .ro 2 (x.slots.map slt), .str x.text]])]⟩)
        (fun i acc => acc.size ≤ 1 + 8 * i) (fun acc r => r.1 = .exit 0 ∧ lookA r.2.env 4 = .str acc) (by
          intro i acc s hs hi hI
          have hn := slotOk_size (h3 i s hs)
          have z1 := byteT_size [s.ino]
          have z2 := byteT_size [(s.name.size : Int)]
          simp only [List.length_cons, List.length_nil] at z1 z2
          refine ⟨?_, by unfold slotT; rw [ByteArray.size_append, ByteArray.size_append, ByteArray.size_append, z1, z2]; omega⟩
          have k1 : (i : Int) < 4 := by omega
          have gs : (x.slots.map slt).getD i .undef = .agg [.str s.name, .int .i64 s.ino] := gD_map hs
          have hw := w_i64 ((i : Int) + 1) (by omega)
          have e2 := e255 (s.name.size : Int) (by omega)
          have b1 : ((acc.size + (byteT [s.ino]).size : Nat) : Int) ≤ 9223372036854775807 := by omega
          have b2 : (((acc ++ byteT [s.ino]).size + (byteT [(s.name.size : Int)]).size : Nat) : Int) ≤ 9223372036854775807 := by rw [ByteArray.size_append]; omega
          have b3 : (((acc ++ byteT [s.ino] ++ byteT [(s.name.size : Int)]).size + s.name.size : Nat) : Int) ≤ 9223372036854775807 := by rw [ByteArray.size_append, ByteArray.size_append]; omega
          have k2 : (i : Int) < (x.slots.length : Int) := by omega
          simp only [XG, L223_7, h223_7, go_sem, seval, bnd_ite, k1, k2, gs, hw, e2, one_byte, Int.natCast_nonneg]
          rw [if_pos (by omega), if_pos (by omega), if_pos (by omega)]
          unfold slotT
          rw [ByteArray.append_assoc, ByteArray.append_assoc]; rfl) (by
          intro acc hI
          have k1 : ¬ ((x.slots.length : Nat) : Int) < 4 := by omega
          simp only [XG, L223_7, h223_7, go_sem, seval, bnd_ite, k1, decide_false, Bool.false_eq_true, if_false]
          exact .mk (by simp) ⟨rfl, rfl⟩) ⟨#[100]⟩ (by show (1 : Nat) ≤ _; omega)
      simp only at qx q2; subst qx
      have hs0 : ((0 : Nat) : Int) = 0 := rfl
      simp only [hs0] at q1
      unfold blkT slotsT
      simp only [blk, hd, F223, h223_7, go_sem, seval, bnd_ite, e1, q1, q2, Bool.not_true, Bool.not_false, if_true, Bool.false_eq_true, if_false]
theorem e229 (x : Blk) (hk : x.ok) : E T 229 [blk x] [] = some (.tup [.str (if blkOk x then blkT x else ⟨#[]⟩), .bool (blkOk x)], []) := by
  rw [E_eq t229 (Nat.le_of_ble_eq_true rfl)]
  have e1 := e181 x hk
  cases hx : blkOk x with
  | false =>
    rw [hx] at e1
    unfold blk at e1
    simp only [blk, F229, go_sem, seval, bnd_ite, e1, Bool.not_false, if_true, Bool.false_eq_true, if_false]
  | true =>
    rw [hx] at e1
    unfold blk at e1
    cases hd : x.dir with
    | false =>
      rw [hd] at e1
      obtain ⟨_, h2⟩ := blkOk_txt hx hd
      unfold blkT
      simp only [blk, hd, F229, go_sem, seval, bnd_ite, e1, Bool.not_true, Bool.not_false, if_true, Bool.false_eq_true, if_false]
      rw [if_pos (by show (((1 : Nat) + x.text.size : Nat) : Int) ≤ _; omega)]
    | true =>
      rw [hd] at e1
      obtain ⟨h1, h2, h3⟩ := blkOk_dir hx hd
      obtain ⟨⟨y, e, m⟩, q1, qx, q2⟩ := XL_each (T := T) (b := 0) (hd := H229_7) (x := L229_7) x.slots (fun acc s => acc ++ slotT s) (fun i acc => ⟨[(4, .str acc), (19, .ro 2 (x.slots.map slt)), (20, .int .i64 x.slots.length), (21, .int .i64 (i : Nat))], []⟩)
        (fun i acc => acc.size ≤ 1 + 8 * i) (fun acc r => r.1 = .exit 0 ∧ lookA r.2.env 4 = .str acc) (by
          intro i acc s hs hi hI
          have hn := slotOk_size (h3 i s hs)
          have z1 := byteT_size [s.ino]
          have z2 := byteT_size [(s.name.size : Int)]
          simp only [List.length_cons, List.length_nil] at z1 z2
          refine ⟨?_, by unfold slotT; rw [ByteArray.size_append, ByteArray.size_append, ByteArray.size_append, z1, z2]; omega⟩
          have gs : (x.slots.map slt).getD i .undef = .agg [.str s.name, .int .i64 s.ino] := gD_map hs
          have hw := w_i64 ((i : Int) + 1) (by omega)
          have e2 := e259 s.name (by omega)
          have e3 := e157 [s.ino] (by simp)
          simp only [List.map_cons, List.map_nil, iv] at e3
          have b1 : (((byteT [s.ino]).size + (byteT [(s.name.size : Int)] ++ s.name).size : Nat) : Int) ≤ 9223372036854775807 := by rw [ByteArray.size_append]; omega
          have b2 : ((acc.size + (byteT [s.ino] ++ (byteT [(s.name.size : Int)] ++ s.name)).size : Nat) : Int) ≤ 9223372036854775807 := by rw [ByteArray.size_append, ByteArray.size_append]; omega
          have k2 : (i : Int) < (x.slots.length : Int) := by omega
          simp only [XG, L229_7, h229_7, go_sem, seval, bnd_ite, k2, gs, hw, e2, e3, Int.natCast_nonneg]
          rw [if_pos (by omega), if_pos (by omega)]; rfl) (by
          intro acc hI
          simp only [XG, L229_7, h229_7, go_sem, seval, bnd_ite, Int.lt_irrefl, decide_false, Bool.false_eq_true, if_false]
          exact .mk (by simp) ⟨rfl, rfl⟩) ⟨#[100]⟩ (by show (1 : Nat) ≤ _; omega)
      simp only at qx q2; subst qx
      have hs0 : ((0 : Nat) : Int) = 0 := rfl
      simp only [hs0] at q1
      unfold blkT slotsT
      simp only [blk, hd, F229, h229_7, go_sem, seval, bnd_ite, e1, q1, q2, Bool.not_true, Bool.not_false, if_true, Bool.false_eq_true, if_false]
end Go.Proofs.YtaaajjinpppgeaaGreat

/- The text of a unit. Own work; no condition. -/
set_option linter.unusedVariables false
set_option linter.unusedSimpArgs false
set_option linter.unusedSectionVars false
namespace Go.Proofs.YtaaajjinpppgeaaGreat
open Go Go.Abs
set_option maxRecDepth 100000
end Go.Proofs.YtaaajjinpppgeaaGreat

/- Devices and file systems: counting, copying, comparing. Own work; no condition. -/
set_option linter.unusedVariables false
set_option linter.unusedSimpArgs false
set_option linter.unusedSectionVars false
namespace Go.Proofs.YtaaajjinpppgeaaGreat
open Go Go.Abs
set_option maxRecDepth 100000
def sv (s : ByteArray) : AV := .str s

theorem sv_cool (x : ByteArray) : coolX (sv x) = true := rfl
theorem sv_len (x : ByteArray) : (sv x).cells.length = 1 := rfl
theorem sv_mi (g : Bool → Nat → Nat → Nat → AV) (l : List ByteArray) : mapIdL g (l.map sv) = l.map sv := mi_map g sv l sv_cool
theorem sv_is (u : Bool → Nat → Nat → Nat → List Nat) (l : List ByteArray) : idsL u (l.map sv) = [] := is_map u sv l sv_cool
theorem sv_coR (l : List ByteArray) : coolR 1 (l.map sv) = true := coR_map 1 sv l sv_len sv_cool
theorem sv_ice (x : ByteArray) : ice (sv x) = sv x := rfl
theorem sv_ic (l : List ByteArray) : iceL (l.map sv) = l.map sv := by rw [ice_m]; exact List.map_congr_left fun x _ => sv_ice x
theorem sv_rf (x : ByteArray) : (sv x).roFree = true := rfl
theorem sv_rfL (l : List ByteArray) : roFreeL (l.map sv) = true := rf_map sv l sv_rf
theorem sv_no (x : ByteArray) : (sv x).cells.all noOwnC = true := rfl
theorem sv_noL (l : List ByteArray) : (l.map sv).all (fun x => x.cells.all noOwnC) = true := no_map sv l sv_no
attribute [go_sem] sv_mi sv_is sv_coR sv_ic sv_ice sv_rfL sv_noL

theorem e58 (l : List ByteArray) (n : Int) (h0 : 0 ≤ n) (hn : n ≤ 1048576) (hl : l.length ≤ maxLen) (hk : ∀ x ∈ l, x.size ≤ maxLen) :
    ∃ r : Int, E T 58 [.ro 1 (l.map sv), .int .i64 n] [] = some (.int .i64 r, []) ∧ -1 ≤ r ∧ r ≤ n ∧ (0 ≤ r → l.length ≤ 1048576) := by
  rw [E_eq t58 (Nat.le_of_ble_eq_true rfl)]
  simp only [F58, h58_5, go_sem, seval, bnd_ite]
  unfold maxLen at hl
  rw [w_i64 (n - (l.length : Int)) (by omega)]
  by_cases c1 : n - (l.length : Int) < 0
  · rw [if_pos c1]; exact ⟨_, rfl, by omega, by omega, fun h => by omega⟩
  rw [if_neg c1]
  refine (XL_inv (T := T) (b := 0) (hd := H58_5) (x := L58_5) (β := Int) (fun i r => ⟨[(0, .ro 1 (l.map sv)), (1, .int .i64 r), (5, .int .i64 (i : Nat))], []⟩)
    (fun i r => 0 ≤ r ∧ r ≤ n) l.length (fun r => (r.1 = .exit 0 ∧ ∃ v : Int, lookA r.2.env 1 = .int .i64 v ∧ 0 ≤ v ∧ v ≤ n) ∨ (r.1 = .ret ∧ lookA r.2.env 4 = .int .i64 (-1))) ?step ?last 0 (n - (l.length : Int)) (by omega) ⟨by omega, by omega⟩).elim ?main
  case step =>
    intro i r hi ⟨hI0, hI1⟩
    obtain ⟨p, hp⟩ := get_at hi
    have hi1 : (i : Int) < (l.length : Int) := by omega
    have hs := hk p (List.mem_of_getElem? hp)
    unfold maxLen at hs
    simp only [XG, L58_5, h58_5, go_sem, seval, bnd_ite, hi1, gD_map hp, sv, Int.natCast_nonneg, w_i64 ((i : Int) + 1) (by omega), w_i64 (r - (p.size : Int)) (by omega)]
    by_cases c : r - (p.size : Int) < 0
    · right; rw [if_pos c]
      exact .mk (by simp) (.inr ⟨rfl, rfl⟩)
    · left; rw [if_neg c]
      exact ⟨r - (p.size : Int), by simp, by omega, by omega⟩
  case last =>
    intro r ⟨hI0, hI1⟩
    simp only [XG, L58_5, h58_5, go_sem, seval, bnd_ite, Int.lt_irrefl, decide_false]
    exact .mk (by simp) (.inl ⟨rfl, r, rfl, hI0, hI1⟩)
  case main =>
  rintro ⟨x, st⟩ ⟨h1, h2, h3⟩
  have hs : (0 : Int) = ((0 : Nat) : Int) := rfl
  rw [hs] at *
  simp only [h1]
  obtain ⟨e, m⟩ := st
  rcases h3 with ⟨hx, v, h4, h5, h6⟩ | ⟨hx, h4⟩
  · simp only at hx h4; subst hx
    simp only [go_sem, seval, h4]
    exact ⟨v, rfl, by omega, by omega, fun _ => by omega⟩
  · simp only at hx h4; subst hx
    simp only [go_sem, seval, h4]
    exact ⟨-1, rfl, by omega, by omega, fun h => by omega⟩
theorem e61 (l : List ByteArray) (hl : l.length ≤ 1048576) : E T 61 [.ro 1 (l.map sv)] [] = some (.own 1 (l.map sv), []) := by
  rw [E_eq t61 (Nat.le_of_ble_eq_true rfl)]
  simp only [F61, h61_3, go_sem, seval, bnd_ite]
  rw [if_pos ⟨by omega, by omega, by omega⟩]
  have key := XL_fold (T := T) (b := 0) (hd := H61_3) (x := L61_3) l (fun (_ : Unit) _ => ()) (fun i _ => ⟨[(0, .ro 1 (l.map sv)), (3, .sl 0 0 l.length), (4, .int .i64 (i : Nat))], [some (1, fill sv (.str ⟨#[]⟩) l i)]⟩)
    (r := (.exit 0, ⟨[(11, .bool false), (10, .int .i64 l.length), (9, .ro 1 (l.map sv)), (8, .int .i64 l.length), (0, .ro 1 (l.map sv)), (3, .sl 0 0 l.length), (4, .int .i64 l.length)], [some (1, l.map sv)]⟩)) ?step () ?last
  case step =>
    intro i _ p hp hi
    have hi1 : (i : Int) < (l.length : Int) := by omega
    have fs : (fill sv (.str ⟨#[]⟩) l i).set i (.str p) = _ := fill_set (f := sv) (z := .str ⟨#[]⟩) hp
    simp only [XG, L61_3, h61_3, go_sem, seval, bnd_ite, hi1, gD_map hp, sv, Int.natCast_nonneg, w_i64 ((i : Int) + 1) (by omega), fill_len (Nat.le_of_lt hi), fill_get hi, hi,
      fill_mi _ sv_cool (z := .str ⟨#[]⟩) rfl, fill_is _ sv_cool (z := .str ⟨#[]⟩) rfl, is_set]
    rw [fs]; rfl
  case last =>
    refine XL_out ?_ (by simp)
    simp only [XG, L61_3, h61_3, go_sem, seval, bnd_ite, Int.lt_irrefl, decide_false, fill_all]
  have hir : ∀ u n, idsL u (List.replicate n (.str ⟨#[]⟩ : AV)) = [] := fun u n => is_rep u n _ rfl
  have e0 : ((0 : Nat) : Int) = 0 := rfl
  rw [fill_0, e0] at key
  simp only [key, hir]
  simp only [go_sem, seval, tk_map, Nat.le_refl]

theorem e66 (xs ys : List ByteArray) (ha : xs.length ≤ maxLen) : E T 66 [.ro 1 (xs.map sv), .ro 1 (ys.map sv)] [] = some (.bool (decide (xs = ys)), []) := by
  rw [E_eq t66 (Nat.le_of_ble_eq_true rfl)]
  simp only [F66, h66_4, go_sem, seval, bnd_ite]
  unfold maxLen at ha
  by_cases hl : xs.length = ys.length
  case neg =>
    have : xs ≠ ys := fun e => hl (by rw [e])
    simp [this, show ¬ (xs.length : Int) = ys.length by omega]
  refine (XL_inv (T := T) (b := 0) (hd := H66_4) (x := L66_4) (β := Unit) (fun i _ => ⟨[(0, .ro 1 (xs.map sv)), (1, .ro 1 (ys.map sv)), (5, .int .i64 (i : Nat))], []⟩)
    (fun i _ => xs.take i = ys.take i) xs.length (fun r => (r.1 = .exit 0 ∧ xs = ys) ∨ (r.1 = .ret ∧ lookA r.2.env 4 = .bool false ∧ xs ≠ ys)) ?step ?last 0 () (by omega) rfl).elim ?main
  case step =>
    intro i _ hi hI
    obtain ⟨p, hp⟩ := get_at hi
    obtain ⟨q, hq⟩ := get_at (show i < ys.length by omega)
    have hi1 : (i : Int) < (xs.length : Int) := by omega
    have hi2 : (i : Int) < (ys.length : Int) := by omega
    simp only [XG, L66_4, h66_4, go_sem, seval, bnd_ite, hi1, hi2, gD_map hp, gD_map hq, sv, bdec, bne_dec, Int.natCast_nonneg, w_i64 ((i : Int) + 1) (by omega)]
    by_cases he : p = q
    · left
      subst he
      exact ⟨(), by simp, by rw [take_eq_snoc hp hq]; exact ⟨hI, rfl⟩⟩
    · right
      have hne : xs ≠ ys := fun e => he (by rw [e] at hp; rw [hp] at hq; exact Option.some.inj hq)
      simp only [he, decide_false, Bool.not_false, if_true]
      exact .mk (by simp) (.inr ⟨rfl, rfl, hne⟩)
  case last =>
    intro _ hI
    have e : xs = ys := by rw [List.take_length] at hI; rw [hI, hl, List.take_length]
    simp only [XG, L66_4, h66_4, go_sem, seval, bnd_ite, Int.lt_irrefl, decide_false]
    exact .mk (by simp) (.inl ⟨rfl, e⟩)
  case main =>
  rintro ⟨x, st⟩ ⟨h1, h2, h3⟩
  have hs : (0 : Int) = ((0 : Nat) : Int) := rfl
  simp only [hl, decide_true, Bool.not_true, Bool.false_eq_true, if_false]
  rw [hs, h1]
  obtain ⟨e, m⟩ := st
  rcases h3 with ⟨hx, h4⟩ | ⟨hx, h4, h5⟩
  · simp only at hx; subst hx; subst h4
    simp only [go_sem, seval]; simp
  · simp only at hx h4; subst hx
    simp only [go_sem, seval, h4]; simp [h5]
end Go.Proofs.YtaaajjinpppgeaaGreat

/- Devices and file systems: what is right; FsOk. Own work; no condition. -/
set_option linter.unusedVariables false
set_option linter.unusedSimpArgs false
set_option linter.unusedSectionVars false
namespace Go.Proofs.YtaaajjinpppgeaaGreat
open Go Go.Abs
set_option maxRecDepth 100000
def dvc (l : List ByteArray) : AV := .agg [.ro 1 (l.map sv)]
def dvcO (l : List ByteArray) : AV := .agg [.own 1 (l.map sv)]
def dvcSm (l : List ByteArray) : Prop := l.length ≤ 1048576
def dvcOk' (l : List ByteArray) : Prop := l.length ≤ maxLen ∧ ∀ x ∈ l, x.size ≤ maxLen
theorem e10 (l : List ByteArray) (n : Int) (h0 : 0 ≤ n) (hn : n ≤ 1048576) (hl : dvcOk' l) : ∃ r : Int, E T 10 [dvc l, .int .i64 n] [] = some (.int .i64 r, []) ∧ -1 ≤ r ∧ r ≤ n ∧ (0 ≤ r → dvcSm l) := by
  rw [E_eq t10 (Nat.le_of_ble_eq_true rfl)]
  obtain ⟨r, h1, h2, h3, h4⟩ := e58 l n h0 hn hl.1 hl.2
  simp only [dvc, F10, go_sem, seval, bnd_ite, h1]
  by_cases c1 : r < 0
  · rw [if_pos c1]; exact ⟨_, rfl, by omega, by omega, fun h => by omega⟩
  rw [if_neg c1]; exact ⟨_, rfl, by omega, by omega, fun h => h4 (by omega)⟩
theorem e12 (l : List ByteArray) (h : dvcSm l) : E T 12 [dvc l] [] = some (dvcO l, []) := by
  rw [E_eq t12 (Nat.le_of_ble_eq_true rfl)]
  have e1 := e61 l h
  simp only [dvc, dvcO, F12, go_sem, seval, bnd_ite, e1, tk_len]
theorem e15 (a b : List ByteArray) (h : dvcOk' a) : E T 15 [dvc a, dvc b] [] = some (.bool (decide (a = b)), []) := by
  rw [E_eq t15 (Nat.le_of_ble_eq_true rfl)]
  have e1 := e66 a b h.1
  simp only [dvc, F15, go_sem, seval, bnd_ite, e1]
  by_cases h : a = b <;> simp [h]
def shortS (s : ByteArray) : Bool := decide (s.size ≤ 60)
def dvcOk (l : List ByteArray) : Bool := l.all shortS && decide (l.length = 21)
theorem e41 (l : List ByteArray) (hl : l.length ≤ maxLen) : E T 41 [dvc l] [] = some (.bool (dvcOk l), []) := by
  rw [E_eq t41 (Nat.le_of_ble_eq_true rfl)]
  unfold maxLen at hl
  refine (XL_all (T := T) (b := 0) (hd := H41_2) (x := L41_2) l shortS (fun i => ⟨[(1, .ptr 0 0 0), (3, .int .i64 (i : Nat))], [some (1, [.agg [.ro 1 (l.map sv)]])]⟩)
    (fun r => r.1 = .exit 0 ∧ lookA r.2.env 1 = .ptr 0 0 0 ∧ r.2.mem = [some (1, [.agg [.ro 1 (l.map sv)]])]) (fun r => r.1 = .ret ∧ lookA r.2.env 2 = .bool false) ?step ?hit ?last).elim ?main
  case step =>
    intro i p hp hi hP _
    have hi1 : (i : Int) < (l.length : Int) := by omega
    have gp : (l.map sv).getD i .undef = .str p := gD_map hp
    simp only [shortS, decide_eq_true_eq] at hP
    have hf : ¬ (60 : Int) < (p.size : Int) := by omega
    simp only [XG, L41_2, h41_2, go_sem, seval, bnd_ite, hi1, gp, hf, Int.natCast_nonneg, w_i64 ((i : Int) + 1) (by omega), decide_false, Bool.false_eq_true, if_false]
    first | done | rfl
  case hit =>
    intro i p hp hi hP _
    have hi1 : (i : Int) < (l.length : Int) := by omega
    have gp : (l.map sv).getD i .undef = .str p := gD_map hp
    simp only [shortS, decide_eq_false_iff_not] at hP
    have hf : (60 : Int) < (p.size : Int) := by omega
    simp only [XG, L41_2, h41_2, go_sem, seval, bnd_ite, hi1, gp, hf, Int.natCast_nonneg, w_i64 ((i : Int) + 1) (by omega), decide_true, if_true]
    exact .mk (by simp) ⟨rfl, rfl⟩
  case last =>
    intro _
    simp only [XG, L41_2, h41_2, go_sem, seval, bnd_ite, Int.lt_irrefl, decide_false]
    exact .mk (by simp) ⟨rfl, rfl, rfl⟩
  case main =>
  rintro ⟨y, e, m⟩ ⟨k1, k2⟩
  have hs : ((0 : Nat) : Int) = 0 := rfl
  simp only [hs] at k1
  unfold dvcOk
  have hc : decide ((l.length : Int) = 21) = decide (l.length = 21) := by congr 1; apply propext; omega
  rcases k2 with ⟨h, k2, k3⟩ | ⟨h, k2, k3⟩ <;> simp only at k2 k3 <;> subst k2
  · obtain ⟨k3, rfl⟩ := k3
    simp only [dvc, F41, h41_2, go_sem, seval, bnd_ite, k1, k3, h, hc, Bool.true_and]
  · simp only [dvc, F41, h41_2, go_sem, seval, bnd_ite, k1, k3, h, Bool.false_and]
theorem e40 (l : List ByteArray) (hl : l.length ≤ maxLen) : E T 40 [dvc l] [] = some (.bool (dvcOk l), []) := by
  rw [E_eq t40 (Nat.le_of_ble_eq_true rfl)]
  unfold maxLen at hl
  refine (XL_all (T := T) (b := 0) (hd := H40_2) (x := L40_2) l shortS (fun i => ⟨[(1, .ptr 0 0 0), (6, .ro 1 (l.map sv)), (7, .int .i64 l.length), (8, .int .i64 (i : Nat))], [some (1, [.agg [.ro 1 (l.map sv)]])]⟩)
    (fun r => r.1 = .exit 0 ∧ lookA r.2.env 1 = .ptr 0 0 0 ∧ r.2.mem = [some (1, [.agg [.ro 1 (l.map sv)]])]) (fun r => r.1 = .ret ∧ lookA r.2.env 2 = .bool false) ?step ?hit ?last).elim ?main
  case step =>
    intro i p hp hi hP _
    have hi1 : (i : Int) < (l.length : Int) := by omega
    have gp : (l.map sv).getD i .undef = .str p := gD_map hp
    simp only [shortS, decide_eq_true_eq] at hP
    have hf : ¬ (60 : Int) < (p.size : Int) := by omega
    simp only [XG, L40_2, h40_2, go_sem, seval, bnd_ite, hi1, gp, hf, Int.natCast_nonneg, w_i64 ((i : Int) + 1) (by omega), decide_false, Bool.false_eq_true, if_false]
    first | done | rfl
  case hit =>
    intro i p hp hi hP _
    have hi1 : (i : Int) < (l.length : Int) := by omega
    have gp : (l.map sv).getD i .undef = .str p := gD_map hp
    simp only [shortS, decide_eq_false_iff_not] at hP
    have hf : (60 : Int) < (p.size : Int) := by omega
    simp only [XG, L40_2, h40_2, go_sem, seval, bnd_ite, hi1, gp, hf, Int.natCast_nonneg, w_i64 ((i : Int) + 1) (by omega), decide_true, if_true]
    exact .mk (by simp) ⟨rfl, rfl⟩
  case last =>
    intro _
    simp only [XG, L40_2, h40_2, go_sem, seval, bnd_ite, Int.lt_irrefl, decide_false]
    exact .mk (by simp) ⟨rfl, rfl, rfl⟩
  case main =>
  rintro ⟨y, e, m⟩ ⟨k1, k2⟩
  have hs : ((0 : Nat) : Int) = 0 := rfl
  simp only [hs] at k1
  unfold dvcOk
  have hc : decide ((l.length : Int) = 21) = decide (l.length = 21) := by congr 1; apply propext; omega
  rcases k2 with ⟨h, k2, k3⟩ | ⟨h, k2, k3⟩ <;> simp only at k2 k3 <;> subst k2
  · obtain ⟨k3, rfl⟩ := k3
    simp only [dvc, F40, h40_2, go_sem, seval, bnd_ite, k1, k3, h, hc, Bool.true_and]
  · simp only [dvc, F40, h40_2, go_sem, seval, bnd_ite, k1, k3, h, Bool.false_and]

structure Fsy where
  mem : Mm
  units : List ByteArray
  deriving DecidableEq
def fsy (x : Fsy) : AV := .agg [.ro 1 (x.mem.disk.used.map bv), .ro 1 (x.mem.disk.taken.map bv), .ro 3 (x.mem.disk.inos.map ino), .ro 3 (x.mem.disk.blks.map blk), .ro 1 (x.mem.dirty.map bv), .ro 11 (x.mem.deps.map dp), .int .i64 x.mem.next, .ro 1 (x.units.map sv)]
structure Fsy.ok (x : Fsy) : Prop where
  mem : x.mem.ok
  dev : dvcOk' x.units
structure Fsy.sm (x : Fsy) : Prop where
  mem : x.mem.sm
  dev : dvcSm x.units
theorem e14 (x y : Fsy) (h : x.ok) : E T 14 [fsy x, fsy y] [] = some (.bool (decide (x = y)), []) := by
  rw [E_eq t14 (Nat.le_of_ble_eq_true rfl)]
  have e1 := e65 x.mem y.mem h.mem
  have e2 := e15 x.units y.units h.dev
  unfold mm at e1
  unfold dvc at e2
  simp only [fsy, F14, go_sem, seval, bnd_ite, e1, e2]
  cases x with | mk a b =>
  cases y with | mk c d =>
  by_cases h1 : a = c <;> by_cases h2 : b = d <;> simp_all
end Go.Proofs.YtaaajjinpppgeaaGreat

/- Devices of disks; file systems: marks. Own work; no condition. -/
set_option linter.unusedVariables false
set_option linter.unusedSimpArgs false
set_option linter.unusedSectionVars false
namespace Go.Proofs.YtaaajjinpppgeaaGreat
open Go Go.Abs
set_option maxRecDepth 100000
/-! ### Marks of texts -/
noncomputable def mkT (k : Int) (n : Nat) : List ByteArray := (List.range n).map fun i => mtext (k + (i : Nat))
theorem e67 (l : List ByteArray) (k : Int) (h0 : 0 ≤ k) (hk : k ≤ 281474976710656) (hl : l.length ≤ 1048576) :
    E T 67 [.sl 0 0 l.length, .int .i64 k] [some (1, l.map sv)] = some (.int .i64 (k + l.length), [some (1, (mkT k l.length).map sv)]) := by
  rw [E_eq t67 (Nat.le_of_ble_eq_true rfl)]
  unfold mkT
  simp only [F67, h67_2, go_sem, seval, bnd_ite]
  refine (XL_inv (T := T) (b := 1) (hd := H67_2) (x := L67_2) (β := Unit) (fun i _ => ⟨[(0, .sl 0 0 l.length), (1, .int .i64 (k + (i : Nat))), (5, .int .i64 (i : Nat))], [some (1, (marks (fun i => mtext (k + (i : Nat))) l i).map sv)]⟩)
    (fun i _ => True) l.length (fun r => r.1 = .exit 0 ∧ r.2.mem = [some (1, (marks (fun i => mtext (k + (i : Nat))) l l.length).map sv)] ∧ lookA r.2.env 1 = .int .i64 (k + l.length)) ?step ?last 0 () (by omega) trivial).elim ?main
  case step =>
    intro i _ hi _
    obtain ⟨p, hp⟩ := get_at hi
    have hi1 : (i : Int) < (l.length : Int) := by omega
    left
    refine ⟨(), ?_, trivial⟩
    have ms := marks_set (f := fun i => mtext (k + (i : Nat))) hi
    have e1 := e162 (k + (i : Nat)) (by omega) (by omega)
    have sm : ∀ m : List ByteArray, (m.map sv).set i (AV.str (mtext (k + (i : Nat)))) = (m.set i (mtext (k + (i : Nat)))).map sv := fun m => set_map (f := sv)
    have hml : (marks (fun i => mtext (k + (i : Nat))) l i).length = l.length := marks_len (by omega)
    have gx : ((marks (fun i => mtext (k + (i : Nat))) l i).map sv).getD i .undef = AV.str p := gD_map (marks_get hp)
    simp only [XG, L67_2, h67_2, go_sem, seval, bnd_ite, hi1, hml, hi, gx, e1, Int.natCast_nonneg, w_i64 ((i : Int) + 1) (by omega), w_i64 (k + (i : Int) + 1) (by omega), sm, ms]
    rw [Int.add_assoc]; rfl
  case last =>
    intro _ _
    have hml : (marks (fun i => mtext (k + (i : Nat))) l l.length).length = l.length := marks_len (by omega)
    simp only [XG, L67_2, h67_2, go_sem, seval, bnd_ite, hml, Int.lt_irrefl, decide_false]
    exact .mk (by simp) ⟨rfl, rfl, rfl⟩
  case main =>
  rintro ⟨x, e, m⟩ ⟨h1, h2, h3, h4, h5⟩
  have hs : ((0 : Nat) : Int) = 0 := rfl
  rw [marks_0, hs, Int.add_zero] at h1
  simp only at h3 h4 h5; subst h3; subst h4
  simp only [h1, go_sem, seval, h5, marks_all]
theorem e167 (n : Nat) (k : Int) (h0 : 0 ≤ k) (hk : k ≤ 281474976710656) (hl : n ≤ 1048576) :
    E T 167 [.ro 1 ((mkT k n).map sv), .int .i64 k] [] = some (.int .i64 (k + n), []) := by
  rw [E_eq t167 (Nat.le_of_ble_eq_true rfl)]
  unfold mkT
  simp only [F167, h167_2, go_sem, seval, bnd_ite]
  generalize hL : ((List.range n).map fun i => mtext (k + (i : Nat))) = L
  have hln : L.length = n := by rw [← hL]; simp
  refine (XL_inv (T := T) (b := 0) (hd := H167_2) (x := L167_2) (β := Unit) (fun i _ => ⟨[(0, .ro 1 (L.map sv)), (1, .int .i64 (k + (i : Nat))), (5, .int .i64 (i : Nat))], []⟩)
    (fun i _ => True) n (fun r => r.1 = .exit 0 ∧ lookA r.2.env 1 = .int .i64 (k + n)) ?step ?last 0 () (by omega) trivial).elim ?main
  case step =>
    intro i _ hi _
    have hi1 : (i : Int) < (n : Int) := by omega
    have hat : L[i]? = some (mtext (k + (i : Nat))) := by rw [← hL]; exact range_at _ hi
    have e1 := e162 (k + (i : Nat)) (by omega) (by omega)
    left
    refine ⟨(), ?_, trivial⟩
    simp only [XG, L167_2, h167_2, go_sem, seval, bnd_ite, hln, hi1, hi, gD_map hat, sv, e1, decide_true, Bool.not_true, Bool.false_eq_true, if_false, Int.natCast_nonneg, w_i64 ((i : Int) + 1) (by omega), w_i64 (k + (i : Int) + 1) (by omega)]
    rw [Int.add_assoc]; rfl
  case last =>
    intro _ _
    simp only [XG, L167_2, h167_2, go_sem, seval, bnd_ite, hln, Int.lt_irrefl, decide_false]
    exact .mk (by simp) ⟨rfl, rfl⟩
  case main =>
  rintro ⟨x, e, m⟩ ⟨h1, h2, h3, h4⟩
  have hs : ((0 : Nat) : Int) = 0 := rfl
  rw [hs, Int.add_zero] at h1
  simp only at h3 h4; subst h3
  simp only [h1, go_sem, seval, h4]
theorem e16 (l : List ByteArray) (k : Int) (h0 : 0 ≤ k) (hk : k ≤ 281474976710656) (hl : l.length ≤ 1048576) :
    E T 16 [.agg [.sl 0 0 l.length], .int .i64 k] [some (1, l.map sv)] = some (.int .i64 (k + l.length), [some (1, (mkT k l.length).map sv)]) := by
  rw [E_eq t16 (Nat.le_of_ble_eq_true rfl)]
  have e1 := e67 l k h0 hk hl
  simp only [F16, go_sem, seval, bnd_ite, e1]
theorem e70 (n : Nat) (k : Int) (h0 : 0 ≤ k) (hk : k ≤ 281474976710656) (hl : n ≤ 1048576) :
    E T 70 [.agg [.ro 1 ((mkT k n).map sv)], .int .i64 k] [] = some (.int .i64 (k + n), []) := by
  rw [E_eq t70 (Nat.le_of_ble_eq_true rfl)]
  have e1 := e167 n k h0 hk hl
  have n1 : ¬ (k + (n : Int)) < 0 := by omega
  simp only [F70, go_sem, seval, bnd_ite, e1, n1, if_false]
def coFs (x : Fsy) : Nat := coMm x.mem + x.units.length
noncomputable def mkFs (k : Int) (x : Fsy) : Fsy := ⟨mkMm k x.mem, mkT (k + coMm x.mem) x.units.length⟩
theorem coMm_le {x : Mm} (h : x.sm) : (coMm x : Int) ≤ 140737488355328 := by
  have c1 := coDsk_le' h.disk
  have c2 := costDp h.deps h.dep x.deps.length
  rw [List.take_length] at c2
  have u1 := h.dirty
  unfold coMm; omega
/-- The rows of a file system's own memory. -/
def fsR (x : Fsy) : Mem := mmR x.mem ++ [some (1, x.units.map sv)]
theorem e17 (x : Fsy) (k : Int) (h0 : 0 ≤ k) (hk : k ≤ 1048576) (h : x.sm) :
    E T 17 [.agg [.sl 0 0 x.mem.disk.used.length, .sl 1 0 x.mem.disk.taken.length, .sl 2 0 x.mem.disk.inos.length, .sl 3 0 x.mem.disk.blks.length, .sl 4 0 x.mem.dirty.length, .sl 5 0 x.mem.deps.length, .int .i64 x.mem.next, .sl 6 0 x.units.length], .int .i64 k] (fsR x) =
      some (.int .i64 (k + coFs x), fsR (mkFs k x)) := by
  rw [E_eq t17 (Nat.le_of_ble_eq_true rfl)]
  have c1 := coMm_le h.mem
  have hd := h.dev
  unfold dvcSm at hd
  have e1 := e68 x.mem k h0 (by omega) h.mem
  have e2 := e16 x.units (k + coMm x.mem) (by omega) (by omega) hd
  have e3 : k + (coFs x : Int) = k + coMm x.mem + x.units.length := by unfold coFs; omega
  simp only [fsR, mmR, dskR, mkMm, mkDsk, List.cons_append, List.nil_append] at e1 ⊢
  simp only [mkFs, mkMm, mkDsk, F17, go_sem, seval, bnd_ite, e1, e2, e3, mkB_len, mkL_len]
theorem e18 (x : Fsy) (k : Int) (h0 : 0 ≤ k) (hk : k ≤ 1048576) (h : x.sm) : E T 18 [fsy (mkFs k x), .int .i64 k] [] = some (.int .i64 (k + coFs x), []) := by
  rw [E_eq t18 (Nat.le_of_ble_eq_true rfl)]
  have c1 := coMm_le h.mem
  have hd := h.dev
  unfold dvcSm at hd
  have e1 := e69 x.mem k h0 (by omega) h.mem
  have e2 := e70 x.units.length (k + coMm x.mem) (by omega) (by omega) hd
  have e3 : k + (coFs x : Int) = k + coMm x.mem + x.units.length := by unfold coFs; omega
  have n1 : ¬ (k + (coMm x.mem : Int)) < 0 := by omega
  have n2 : ¬ (k + (coMm x.mem : Int) + x.units.length) < 0 := by omega
  unfold mm at e1
  simp only [fsy, mkFs, F18, go_sem, seval, bnd_ite, e1, e2, e3, n1, n2, if_false]
end Go.Proofs.YtaaajjinpppgeaaGreat

/- New disks, their devices, and new file systems: both answers are alike. Own work; no condition. -/
set_option linter.unusedVariables false
set_option linter.unusedSimpArgs false
set_option linter.unusedSectionVars false
namespace Go.Proofs.YtaaajjinpppgeaaGreat
open Go Go.Abs
set_option maxRecDepth 100000
def inoN (k : Int) : Ino := ⟨k, if k = 0 then 0 else 1, [0, 0]⟩
def dskNew : Dsk := ⟨[false, false, false, false, false, false, false, false, false, false, false, false, false, false, false, false],
  [true, false, false, false, false, false, false, false], inoN 2 :: List.replicate 7 (inoN 0), List.replicate 16 blk0⟩
theorem e152 : E T 152 [] [] = some (.agg [.own 1 (dskNew.used.map bv), .own 1 (dskNew.taken.map bv)], []) := by
  rw [E_eq t152 (Nat.le_of_ble_eq_true rfl)]
  simp only [F152, dskNew, bv, go_sem, seval, bnd_ite]
end Go.Proofs.YtaaajjinpppgeaaGreat

/- Devices of disks, and new file systems: both answers are alike. Own work; no condition. -/
set_option linter.unusedVariables false
set_option linter.unusedSimpArgs false
set_option linter.unusedSectionVars false
namespace Go.Proofs.YtaaajjinpppgeaaGreat
open Go Go.Abs
set_option maxRecDepth 100000
end Go.Proofs.YtaaajjinpppgeaaGreat

/- ImageUnit: the reference's side; both answers are alike. Own work; no condition. -/
set_option linter.unusedVariables false
set_option linter.unusedSimpArgs false
set_option linter.unusedSectionVars false
namespace Go.Proofs.YtaaajjinpppgeaaGreat
open Go Go.Abs
set_option maxRecDepth 100000
end Go.Proofs.YtaaajjinpppgeaaGreat

/- The shapes of devices and file systems. Own work; no condition. -/
set_option linter.unusedVariables false
set_option linter.unusedSimpArgs false
set_option linter.unusedSectionVars false
namespace Go.Proofs.YtaaajjinpppgeaaGreat
open Go Go.Abs
set_option maxRecDepth 100000
def shV : Shp := .struct [.slice 1 .str]
theorem isSv (cs : List AV) (h : Is .str cs) : ∃ x : ByteArray, Shp.str.elem cs = sv x ∧ x.size ≤ maxLen := by
  cases h; exact ⟨_, rfl, by assumption⟩
theorem isVc (cs : List AV) (h : Is shV cs) : ∃ x : List ByteArray, .agg cs = dvc x ∧ dvcOk' x := by
  cases h with | struct h =>
  cases h with | cons h1 h =>
  cases h
  obtain ⟨a, rfl, a1, a2⟩ := isSl isSv h1
  exact ⟨a, rfl, a1, a2⟩
theorem isV {av : AV} (h : IsA shV av) : ∃ x : List ByteArray, av = dvc x ∧ dvcOk' x := by
  obtain ⟨cs, h, rfl⟩ := h
  exact isVc cs h
end Go.Proofs.YtaaajjinpppgeaaGreat

namespace Go.Proofs.YtaaajjinpppgeaaGreat
end Go.Proofs.YtaaajjinpppgeaaGreat

/- The code of some functions, as the evaluator reads it (printed by a program of ours), checked against the program. Own work; no condition. -/
set_option linter.unusedVariables false
set_option linter.unusedSimpArgs false
set_option linter.unusedSectionVars false
namespace Go.Proofs.YtaaajjinpppgeaaGreat
open Go Go.Abs
set_option maxRecDepth 100000
def H156_8 : List Vw := [.tidy [7, 8] [(7, none), (8, none)]]
theorem h156_8 (b : Nat) (s : St) : vwL b H156_8 s = vwL b [.tidy [7, 8] [(7, none), (8, none)]] s := rfl
def L156_8 : EC := (.seq (.seq (.region [(.op .mv [(.tmp 8)] (some 34) true), (.op .mv [(.tmp 7)] (some 35) true), (.op .len [(.tmp 35)] (some 36) true), (.op (.bin .lss) [(.tmp 34), (.tmp 36)] (some 37) true)] false) (.cond (.tmp 37) .skip (.exit 0))) (.block 1 (.region [(.op .mv [(.tmp 8)] (some 38) false), (.op .mv [(.tmp 7)] (some 39) false), (.op .mv [(.tmp 8)] (some 40) false), (.op (.slice 1 true false) [(.tmp 39), (.tmp 40)] (some 41) false), (.op .mv [(.tmp 7)] (some 42) false), (.op .mv [(.tmp 8)] (some 43) false), (.op (.slice 1 false true) [(.tmp 42), (.tmp 43)] (some 44) false), (.op .copy [(.tmp 41), (.tmp 44)] (some 45) true), (.op (.bin .add) [(.tmp 38), (.tmp 45)] (some 46) true), (.op .mv [(.tmp 46)] (some 8) true)] true)))
-- slices.Repeat[[]bool,bool]
def F156 : EF := ⟨(.seq (.region [(.op .mv [(.const .nil)] (some 4) true)] false) (.seq (.seq (.region [(.op .mv [(.tmp 1)] (some 9) true), (.op (.bin .lss) [(.tmp 9), (.const (.int .i64 0))] (some 10) true)] false) (.cond (.tmp 10) (.region [(.op .never [] (some 11) true), (.op .never [] none true)] false) .skip)) (.seq (.region [(.op .mv [(.tmp 0)] (some 13) true), (.op .len [(.tmp 13)] (some 14) true), (.op (.conv .u64) [(.tmp 14)] (some 15) true), (.op .mv [(.tmp 1)] (some 16) true), (.op (.conv .u64) [(.tmp 16)] (some 17) true), (.pc (.const (.fn 225 [])) [(.tmp 15), (.tmp 17)] (some 18) true), (.op .mv [(.tmp 18)] (some 12) true), (.op (.ext 0) [(.tmp 12)] (some 19) true), (.op (.ext 1) [(.tmp 12)] (some 20) true), (.op .mv [(.tmp 19)] (some 5) true), (.op .mv [(.tmp 20)] (some 6) true)] false) (.seq (.seq (.region [(.op .mv [(.tmp 5)] (some 21) true), (.op (.bin .gtr) [(.tmp 21), (.const (.int .u64 0))] (some 22) true), (.op .mv [(.tmp 22)] (some 23) true), (.grp 23 false [(.op .mv [(.tmp 6)] (some 24) true), (.op (.bin .gtr) [(.tmp 24), (.const (.int .u64 9223372036854775807))] (some 25) true)] 25 26 true)] false) (.cond (.tmp 26) (.region [(.op .never [] (some 27) true), (.op .never [] none true)] false) .skip)) (.seq (.region [(.op .mv [(.tmp 6)] (some 28) true), (.op (.conv .i64) [(.tmp 28)] (some 29) true), (.op (.mkslice 1 1 (.bool false)) [(.tmp 29), (.tmp 29)] (some 30) true), (.op .mv [(.tmp 30)] (some 7) true)] false) (.seq (.region [(.op .mv [(.tmp 7)] (some 31) true), (.op .mv [(.tmp 0)] (some 32) true), (.op .copy [(.tmp 31), (.tmp 32)] (some 33) true), (.op .mv [(.tmp 33)] (some 8) true)] false) (.seq (.block 0 (.loop H156_8 L156_8)) (.seq (.region [(.op .mv [(.tmp 7)] (some 47) true), (.op .mv [(.tmp 47)] (some 4) true)] false) .ret)))))))), [(.tmp 4)], 48, .one, none⟩
theorem t156 : T 156 = some F156 := tab Tryz.func156 (by kernel_rfl) rfl
-- impl.copyDevice
def F64 : EF := ⟨(.seq (.region [(.op (.box 1) [(.tmp 0)] (some 1) true), (.op (.alloc (.agg [.nil])) [] (some 2) true)] false) (.seq (.region [(.op (.bslice 1 0 (.str ⟨#[]⟩) []) [] (some 3) true), (.op (.faddr 0) [(.tmp 1)] (some 4) true), (.op .load1 [(.tmp 4)] (some 5) true), (.op (.append 1 16) [(.tmp 3), (.tmp 5)] (some 6) true), (.op (.build [.nil] [(0, 1)]) [(.tmp 6)] (some 7) true), (.op (.storeN 1) [(.tmp 2), (.tmp 7)] none true)] false) .ret)), [(.cell 2 (.loadN 1))], 8, .one, none⟩
theorem t64 : T 64 = some F64 := tab Tryz.func64 (by kernel_rfl) rfl
-- spec.ReadInode
def F153 : EF := ⟨(.seq (.region [(.op (.alloc (.agg [(.int .i64 0), (.int .i64 0), .nil])) [] (some 2) true), (.op .mv [(.const (.bool false))] (some 3) true)] false) (.seq (.seq (.region [(.op .mv [(.tmp 0)] (some 5) true), (.op .lenStr [(.tmp 5)] (some 6) true), (.op (.bin .neq) [(.tmp 6), (.const (.int .i64 4))] (some 7) true)] false) (.cond (.tmp 7) (.seq (.region [(.op (.build [(.int .i64 0), (.int .i64 0), .nil] []) [] (some 8) true), (.op (.storeN 3) [(.tmp 2), (.tmp 8)] none true), (.op .mv [(.const (.bool false))] (some 3) true)] false) .ret) .skip)) (.seq (.region [(.op .mv [(.tmp 0)] (some 9) false), (.op .idxStr [(.tmp 9), (.const (.int .i64 0))] (some 10) false), (.op (.conv .i64) [(.tmp 10)] (some 11) false), (.op .mv [(.tmp 0)] (some 12) false), (.op .idxStr [(.tmp 12), (.const (.int .i64 1))] (some 13) false), (.op (.conv .i64) [(.tmp 13)] (some 14) false), (.op .mv [(.tmp 0)] (some 15) false), (.op .idxStr [(.tmp 15), (.const (.int .i64 2))] (some 16) false), (.op (.conv .i64) [(.tmp 16)] (some 17) false), (.op .mv [(.tmp 0)] (some 18) false), (.op .idxStr [(.tmp 18), (.const (.int .i64 3))] (some 19) false), (.op (.conv .i64) [(.tmp 19)] (some 20) false), (.op (.bslice 1 2 (.int .i64 0) [0, 1]) [(.tmp 17), (.tmp 20)] (some 21) false), (.op (.build [(.int .i64 0), (.int .i64 0), .nil] [(0, 1), (1, 1), (2, 1)]) [(.tmp 11), (.tmp 14), (.tmp 21)] (some 22) false), (.op (.alloc (.agg [(.int .i64 0), (.int .i64 0), .nil])) [] (some 4) false), (.op (.storeN 3) [(.tmp 4), (.tmp 22)] none true)] true) (.seq (.seq (.region [(.op (.loadN 3) [(.tmp 4)] (some 23) true), (.pc (.const (.fn 173 [])) [(.tmp 23)] (some 24) true), (.op .not [(.tmp 24)] (some 25) true)] false) (.cond (.tmp 25) (.seq (.region [(.op (.build [(.int .i64 0), (.int .i64 0), .nil] []) [] (some 26) true), (.op (.storeN 3) [(.tmp 2), (.tmp 26)] none true), (.op .mv [(.const (.bool false))] (some 3) true)] false) .ret) .skip)) (.seq (.region [(.op (.loadN 3) [(.tmp 4)] (some 27) true), (.op (.storeN 3) [(.tmp 2), (.tmp 27)] none true), (.op .mv [(.const (.bool true))] (some 3) true)] false) .ret))))), [(.cell 2 (.loadN 3)), (.tmp 3)], 28, (.agg [(.agg [.one, .one, .row 1 .one]), .one]), none⟩
theorem t153 : T 153 = some F153 := tab Tryz.func153 (by kernel_rfl) rfl
-- spec.ReadShort
def F222 : EF := ⟨(.seq (.region [(.op .mv [(.const (.str ⟨#[]⟩))] (some 4) true), (.op .mv [(.const (.int .i64 0))] (some 5) true), (.op .mv [(.const (.bool false))] (some 6) true)] false) (.seq (.region [(.op .mv [(.tmp 0)] (some 11) true), (.op .mv [(.tmp 1)] (some 12) true), (.pc (.const (.fn 254 [])) [(.tmp 11), (.tmp 12)] (some 13) true), (.op .mv [(.tmp 13)] (some 10) true), (.op (.ext 0) [(.tmp 10)] (some 14) true), (.op (.ext 1) [(.tmp 10)] (some 15) true), (.op (.ext 2) [(.tmp 10)] (some 16) true), (.op .mv [(.tmp 14)] (some 7) true), (.op .mv [(.tmp 15)] (some 8) true), (.op .mv [(.tmp 16)] (some 9) true)] false) (.seq (.seq (.region [(.op .mv [(.tmp 9)] (some 17) true), (.op .not [(.tmp 17)] (some 18) true), (.op .mv [(.tmp 18)] (some 19) true), (.grp 19 false [(.op .mv [(.tmp 7)] (some 20) true), (.op (.bin .gtr) [(.tmp 20), (.const (.int .i64 20000))] (some 21) true)] 21 22 true), (.op .mv [(.tmp 22)] (some 23) true), (.grp 23 false [(.op .mv [(.tmp 7)] (some 24) true), (.op .mv [(.tmp 0)] (some 25) true), (.op .lenStr [(.tmp 25)] (some 26) true), (.op .mv [(.tmp 8)] (some 27) true), (.op (.bin .sub) [(.tmp 26), (.tmp 27)] (some 28) true), (.op (.bin .gtr) [(.tmp 24), (.tmp 28)] (some 29) true)] 29 30 true)] false) (.cond (.tmp 30) (.seq (.region [(.op .mv [(.const (.str ⟨#[]⟩))] (some 4) true), (.op .mv [(.const (.int .i64 0))] (some 5) true), (.op .mv [(.const (.bool false))] (some 6) true)] false) .ret) .skip)) (.seq (.region [(.op .mv [(.tmp 0)] (some 31) true), (.op .mv [(.tmp 8)] (some 32) true), (.op .mv [(.tmp 8)] (some 33) true), (.op .mv [(.tmp 7)] (some 34) true), (.op (.bin .add) [(.tmp 33), (.tmp 34)] (some 35) true), (.op (.sliceStr true true) [(.tmp 31), (.tmp 32), (.tmp 35)] (some 36) true), (.op .mv [(.tmp 8)] (some 37) true), (.op .mv [(.tmp 7)] (some 38) true), (.op (.bin .add) [(.tmp 37), (.tmp 38)] (some 39) true), (.op .mv [(.tmp 36)] (some 4) true), (.op .mv [(.tmp 39)] (some 5) true), (.op .mv [(.const (.bool true))] (some 6) true)] false) .ret)))), [(.tmp 4), (.tmp 5), (.tmp 6)], 40, .one, none⟩
theorem t222 : T 222 = some F222 := tab Tryz.func222 (by kernel_rfl) rfl
def H224_3 : List Vw := [.lay 3 1, .tidy [0, 3, 6] [(0, none), (3, none), (6, none)]]
theorem h224_3 (b : Nat) (s : St) : vwL b H224_3 s = vwL b [.lay 3 1, .tidy [0, 3, 6] [(0, none), (3, none), (6, none)]] s := rfl
def L224_3 : EC := (.seq (.region [(.op (.bin .lss) [(.tmp 6), (.const (.int .i64 8))] (some 7) true)] false) (.seq (.cond (.tmp 7) .skip (.exit 0)) (.seq (.block 1 (.seq (.region [(.op .mv [(.tmp 6)] (some 8) true), (.op .mv [(.tmp 8)] (some 4) true)] false) (.region [(.op .mv [(.tmp 3)] (some 9) true), (.op .mv [(.tmp 0)] (some 10) true), (.op .mv [(.tmp 4)] (some 11) true), (.op (.bin .shr) [(.tmp 10), (.tmp 11)] (some 12) true), (.op (.bin .and) [(.tmp 12), (.const (.int .u8 1))] (some 13) true), (.op (.bin .eql) [(.tmp 13), (.const (.int .u8 1))] (some 14) true), (.op (.bslice 1 1 (.bool false) [0]) [(.tmp 14)] (some 15) true), (.op (.append 1 1) [(.tmp 9), (.tmp 15)] (some 16) true), (.op .mv [(.tmp 16)] (some 3) true)] false))) (.region [(.op (.bin .add) [(.tmp 6), (.const (.int .i64 1))] (some 17) true), (.op .mv [(.tmp 17)] (some 6) true)] false))))
-- impl.unpacked
def F224 : EF := ⟨(.seq (.region [(.op .mv [(.const .nil)] (some 2) true)] false) (.seq (.region [(.op (.bslice 1 0 (.bool false) []) [] (some 5) true), (.op .mv [(.tmp 5)] (some 3) true)] false) (.seq (.seq (.region [(.op .mv [(.const (.int .i64 0))] (some 6) true)] false) (.block 0 (.loop H224_3 L224_3))) (.seq (.region [(.op .mv [(.tmp 3)] (some 18) true), (.op .mv [(.tmp 18)] (some 2) true)] false) .ret)))), [(.tmp 2)], 19, .one, none⟩
theorem t224 : T 224 = some F224 := tab Tryz.func224 (by kernel_rfl) rfl
-- math/bits.Mul
def F225 : EF := ⟨(.seq (.region [(.op .mv [(.const (.int .u64 0))] (some 4) true), (.op .mv [(.const (.int .u64 0))] (some 5) true)] false) (.seq (.cond (.const (.bool false)) (.seq (.region [(.op .mv [(.tmp 0)] (some 11) true), (.op (.conv .u32) [(.tmp 11)] (some 12) true), (.op .mv [(.tmp 1)] (some 13) true), (.op (.conv .u32) [(.tmp 13)] (some 14) true), (.pc (.const (.fn 256 [])) [(.tmp 12), (.tmp 14)] (some 15) true), (.op .mv [(.tmp 15)] (some 10) true), (.op (.ext 0) [(.tmp 10)] (some 16) true), (.op (.ext 1) [(.tmp 10)] (some 17) true), (.op .mv [(.tmp 16)] (some 6) true), (.op .mv [(.tmp 17)] (some 7) true)] false) (.seq (.region [(.op .mv [(.tmp 6)] (some 18) true), (.op (.conv .u64) [(.tmp 18)] (some 19) true), (.op .mv [(.tmp 7)] (some 20) true), (.op (.conv .u64) [(.tmp 20)] (some 21) true), (.op .mv [(.tmp 19)] (some 4) true), (.op .mv [(.tmp 21)] (some 5) true)] false) .ret)) .skip) (.seq (.region [(.op .mv [(.tmp 0)] (some 23) true), (.op .mv [(.tmp 1)] (some 24) true), (.pc (.const (.fn 257 [])) [(.tmp 23), (.tmp 24)] (some 25) true), (.op .mv [(.tmp 25)] (some 22) true), (.op (.ext 0) [(.tmp 22)] (some 26) true), (.op (.ext 1) [(.tmp 22)] (some 27) true), (.op .mv [(.tmp 26)] (some 8) true), (.op .mv [(.tmp 27)] (some 9) true)] false) (.seq (.region [(.op .mv [(.tmp 8)] (some 28) true), (.op .mv [(.tmp 9)] (some 29) true), (.op .mv [(.tmp 28)] (some 4) true), (.op .mv [(.tmp 29)] (some 5) true)] false) .ret)))), [(.tmp 4), (.tmp 5)], 30, .one, none⟩
theorem t225 : T 225 = some F225 := tab Tryz.func225 (by kernel_rfl) rfl
def H226_5 : List Vw := [.opn 4 none none 2 1, .tidy [0, 2, 4, 17] [(0, none), (2, none), (4, none), (17, none), (4, some 2)]]
theorem h226_5 (b : Nat) (s : St) : vwL b H226_5 s = vwL b [.opn 4 none none 2 1, .tidy [0, 2, 4, 17] [(0, none), (2, none), (4, none), (17, none), (4, some 2)]] s := rfl
def L226_5 : EC := (.seq (.region [(.op (.bin .lss) [(.tmp 17), (.const (.int .i64 2))] (some 18) true)] false) (.seq (.cond (.tmp 18) .skip (.exit 0)) (.seq (.block 1 (.seq (.region [(.op .mv [(.tmp 17)] (some 19) true), (.op .mv [(.tmp 19)] (some 5) true)] false) (.region [(.op (.faddr 2) [(.tmp 4)] (some 20) false), (.op .load1 [(.tmp 20)] (some 21) false), (.op .mv [(.tmp 0)] (some 22) false), (.op .mv [(.tmp 5)] (some 23) false), (.op (.bin .add) [(.const (.int .i64 2)), (.tmp 23)] (some 24) false), (.op .idxStr [(.tmp 22), (.tmp 24)] (some 25) false), (.op (.conv .i64) [(.tmp 25)] (some 26) false), (.op (.bslice 1 1 (.int .i64 0) [0]) [(.tmp 26)] (some 27) false), (.op (.append 1 8) [(.tmp 21), (.tmp 27)] (some 28) true), (.op (.faddr 2) [(.tmp 4)] (some 29) true), (.op .store1 [(.tmp 29), (.tmp 28)] none true)] true))) (.region [(.op (.bin .add) [(.tmp 17), (.const (.int .i64 1))] (some 30) true), (.op .mv [(.tmp 30)] (some 17) true)] false))))
-- impl.ReadInode
def F226 : EF := ⟨(.seq (.region [(.op (.alloc (.agg [(.int .i64 0), (.int .i64 0), .nil])) [] (some 2) true), (.op .mv [(.const (.bool false))] (some 3) true)] false) (.seq (.seq (.region [(.op .mv [(.tmp 0)] (some 6) true), (.op .lenStr [(.tmp 6)] (some 7) true), (.op (.bin .neq) [(.tmp 7), (.const (.int .i64 4))] (some 8) true)] false) (.cond (.tmp 8) (.seq (.region [(.op (.build [(.int .i64 0), (.int .i64 0), .nil] []) [] (some 9) true), (.op (.storeN 3) [(.tmp 2), (.tmp 9)] none true), (.op .mv [(.const (.bool false))] (some 3) true)] false) .ret) .skip)) (.seq (.region [(.op .mv [(.tmp 0)] (some 10) false), (.op .idxStr [(.tmp 10), (.const (.int .i64 0))] (some 11) false), (.op (.conv .i64) [(.tmp 11)] (some 12) false), (.op .mv [(.tmp 0)] (some 13) false), (.op .idxStr [(.tmp 13), (.const (.int .i64 1))] (some 14) false), (.op (.conv .i64) [(.tmp 14)] (some 15) false), (.op (.build [(.int .i64 0), (.int .i64 0), .nil] [(0, 1), (1, 1)]) [(.tmp 12), (.tmp 15)] (some 16) false), (.op (.alloc (.agg [(.int .i64 0), (.int .i64 0), .nil])) [] (some 4) false), (.op (.storeN 3) [(.tmp 4), (.tmp 16)] none true)] true) (.seq (.seq (.region [(.op .mv [(.const (.int .i64 0))] (some 17) true)] false) (.block 0 (.loop H226_5 L226_5))) (.seq (.seq (.region [(.op (.loadN 3) [(.tmp 4)] (some 31) true), (.pc (.const (.fn 180 [])) [(.tmp 31)] (some 32) true), (.op .not [(.tmp 32)] (some 33) true)] false) (.cond (.tmp 33) (.seq (.region [(.op (.build [(.int .i64 0), (.int .i64 0), .nil] []) [] (some 34) true), (.op (.storeN 3) [(.tmp 2), (.tmp 34)] none true), (.op .mv [(.const (.bool false))] (some 3) true)] false) .ret) .skip)) (.seq (.region [(.op (.loadN 3) [(.tmp 4)] (some 35) true), (.op (.storeN 3) [(.tmp 2), (.tmp 35)] none true), (.op .mv [(.const (.bool true))] (some 3) true)] false) .ret)))))), [(.cell 2 (.loadN 3)), (.tmp 3)], 36, (.agg [(.agg [.one, .one, .row 1 .one]), .one]), none⟩
theorem t226 : T 226 = some F226 := tab Tryz.func226 (by kernel_rfl) rfl
-- impl.DirNew
def F227 : EF := ⟨(.seq (.region [(.op (.alloc (.agg [(.bool false), .nil, (.str ⟨#[]⟩)])) [] (some 0) true)] false) (.seq (.region [(.op (.mkslice 2 24 (.agg [(.str ⟨#[]⟩), (.int .i64 0)])) [(.const (.int .i64 4)), (.const (.int .i64 4))] (some 1) true), (.op (.build [(.bool false), .nil, (.str ⟨#[]⟩)] [(0, 1), (1, 1)]) [(.const (.bool true)), (.tmp 1)] (some 2) true), (.op (.storeN 3) [(.tmp 0), (.tmp 2)] none true)] false) .ret)), [(.cell 0 (.loadN 3))], 3, .one, none⟩
theorem t227 : T 227 = some F227 := tab Tryz.func227 (by kernel_rfl) rfl
-- impl.ReadShort
def F228 : EF := ⟨(.seq (.region [(.op .mv [(.const (.str ⟨#[]⟩))] (some 4) true), (.op .mv [(.const (.int .i64 0))] (some 5) true), (.op .mv [(.const (.bool false))] (some 6) true)] false) (.seq (.region [(.op .mv [(.tmp 0)] (some 11) true), (.op .mv [(.tmp 1)] (some 12) true), (.pc (.const (.fn 258 [])) [(.tmp 11), (.tmp 12)] (some 13) true), (.op .mv [(.tmp 13)] (some 10) true), (.op (.ext 0) [(.tmp 10)] (some 14) true), (.op (.ext 1) [(.tmp 10)] (some 15) true), (.op (.ext 2) [(.tmp 10)] (some 16) true), (.op .mv [(.tmp 14)] (some 7) true), (.op .mv [(.tmp 15)] (some 8) true), (.op .mv [(.tmp 16)] (some 9) true)] false) (.seq (.seq (.region [(.op .mv [(.tmp 9)] (some 17) true), (.op .not [(.tmp 17)] (some 18) true), (.op .mv [(.tmp 18)] (some 19) true), (.grp 19 false [(.op .mv [(.tmp 7)] (some 20) true), (.op (.bin .gtr) [(.tmp 20), (.const (.int .i64 20000))] (some 21) true)] 21 22 true), (.op .mv [(.tmp 22)] (some 23) true), (.grp 23 false [(.op .mv [(.tmp 7)] (some 24) true), (.op .mv [(.tmp 0)] (some 25) true), (.op .lenStr [(.tmp 25)] (some 26) true), (.op .mv [(.tmp 8)] (some 27) true), (.op (.bin .sub) [(.tmp 26), (.tmp 27)] (some 28) true), (.op (.bin .gtr) [(.tmp 24), (.tmp 28)] (some 29) true)] 29 30 true)] false) (.cond (.tmp 30) (.seq (.region [(.op .mv [(.const (.str ⟨#[]⟩))] (some 4) true), (.op .mv [(.const (.int .i64 0))] (some 5) true), (.op .mv [(.const (.bool false))] (some 6) true)] false) .ret) .skip)) (.seq (.region [(.op .mv [(.tmp 0)] (some 31) true), (.op .mv [(.tmp 8)] (some 32) true), (.op .mv [(.tmp 8)] (some 33) true), (.op .mv [(.tmp 7)] (some 34) true), (.op (.bin .add) [(.tmp 33), (.tmp 34)] (some 35) true), (.op (.sliceStr true true) [(.tmp 31), (.tmp 32), (.tmp 35)] (some 36) true), (.op .mv [(.tmp 8)] (some 37) true), (.op .mv [(.tmp 7)] (some 38) true), (.op (.bin .add) [(.tmp 37), (.tmp 38)] (some 39) true), (.op .mv [(.tmp 36)] (some 4) true), (.op .mv [(.tmp 39)] (some 5) true), (.op .mv [(.const (.bool true))] (some 6) true)] false) .ret)))), [(.tmp 4), (.tmp 5), (.tmp 6)], 40, .one, none⟩
theorem t228 : T 228 = some F228 := tab Tryz.func228 (by kernel_rfl) rfl
def H254_6 : List Vw := [.tidy [0, 1, 7, 8, 9] [(0, none), (1, none), (7, none), (8, none), (9, none)]]
theorem h254_6 (b : Nat) (s : St) : vwL b H254_6 s = vwL b [.tidy [0, 1, 7, 8, 9] [(0, none), (1, none), (7, none), (8, none), (9, none)]] s := rfl
def L254_6 : EC := (.seq (.seq (.region [(.op .mv [(.tmp 9)] (some 16) true), (.op .mv [(.tmp 0)] (some 17) true), (.op .lenStr [(.tmp 17)] (some 18) true), (.op (.bin .lss) [(.tmp 16), (.tmp 18)] (some 19) true), (.op .mv [(.tmp 19)] (some 20) true), (.grp 20 true [(.op .mv [(.tmp 9)] (some 21) true), (.op .mv [(.tmp 1)] (some 22) true), (.op (.bin .add) [(.tmp 22), (.const (.int .i64 5))] (some 23) true), (.op (.bin .lss) [(.tmp 21), (.tmp 23)] (some 24) true)] 24 25 true)] false) (.cond (.tmp 25) .skip (.exit 0))) (.seq (.block 1 (.seq (.region [(.op .mv [(.tmp 7)] (some 28) true), (.op .mv [(.tmp 0)] (some 29) true), (.op .mv [(.tmp 9)] (some 30) true), (.op .idxStr [(.tmp 29), (.tmp 30)] (some 31) true), (.op (.conv .i64) [(.tmp 31)] (some 32) true), (.op (.bin .rem) [(.tmp 32), (.const (.int .i64 128))] (some 33) true), (.op .mv [(.tmp 8)] (some 34) true), (.op (.bin .mul) [(.tmp 33), (.tmp 34)] (some 35) true), (.op (.bin .add) [(.tmp 28), (.tmp 35)] (some 36) true), (.op .mv [(.tmp 36)] (some 7) true)] false) (.seq (.region [(.op .mv [(.tmp 8)] (some 37) true), (.op (.bin .mul) [(.tmp 37), (.const (.int .i64 128))] (some 38) true), (.op .mv [(.tmp 38)] (some 8) true)] false) (.seq (.region [(.op .mv [(.tmp 0)] (some 39) true), (.op .mv [(.tmp 9)] (some 40) true), (.op .idxStr [(.tmp 39), (.tmp 40)] (some 41) true), (.op (.bin .lss) [(.tmp 41), (.const (.int .u8 128))] (some 42) true)] false) (.cond (.tmp 42) (.seq (.seq (.region [(.op .mv [(.tmp 7)] (some 43) true), (.op (.bin .gtr) [(.tmp 43), (.const (.int .i64 1000000000))] (some 44) true), (.op .mv [(.tmp 44)] (some 45) true), (.grp 45 false [(.op .mv [(.tmp 7)] (some 46) true), (.pc (.const (.fn 255 [])) [(.tmp 46)] (some 47) true), (.op .mv [(.tmp 0)] (some 48) false), (.op .mv [(.tmp 1)] (some 49) false), (.op .mv [(.tmp 9)] (some 50) false), (.op (.bin .add) [(.tmp 50), (.const (.int .i64 1))] (some 51) false), (.op (.sliceStr true true) [(.tmp 48), (.tmp 49), (.tmp 51)] (some 52) false), (.op (.bin .neq) [(.tmp 47), (.tmp 52)] (some 53) true)] 53 54 true)] true) (.cond (.tmp 54) (.seq (.region [(.op .mv [(.const (.int .i64 0))] (some 4) true), (.op .mv [(.const (.int .i64 0))] (some 5) true), (.op .mv [(.const (.bool false))] (some 6) true)] false) .ret) .skip)) (.seq (.region [(.op .mv [(.tmp 7)] (some 55) true), (.op .mv [(.tmp 9)] (some 56) true), (.op (.bin .add) [(.tmp 56), (.const (.int .i64 1))] (some 57) true), (.op .mv [(.tmp 55)] (some 4) true), (.op .mv [(.tmp 57)] (some 5) true), (.op .mv [(.const (.bool true))] (some 6) true)] false) .ret)) .skip))))) (.region [(.op .mv [(.tmp 9)] (some 26) true), (.op (.bin .add) [(.tmp 26), (.const (.int .i64 1))] (some 27) true), (.op .mv [(.tmp 27)] (some 9) true)] false)))
-- spec.ReadVar
def F254 : EF := ⟨(.seq (.region [(.op .mv [(.const (.int .i64 0))] (some 4) true), (.op .mv [(.const (.int .i64 0))] (some 5) true), (.op .mv [(.const (.bool false))] (some 6) true)] false) (.seq (.seq (.region [(.op .mv [(.tmp 1)] (some 10) true), (.op .mv [(.tmp 0)] (some 11) true), (.op .lenStr [(.tmp 11)] (some 12) true), (.pc (.const (.fn 108 [])) [(.tmp 10), (.const (.int .i64 0)), (.tmp 12)] (some 13) true), (.op .not [(.tmp 13)] (some 14) true)] false) (.cond (.tmp 14) (.seq (.region [(.op .mv [(.const (.int .i64 0))] (some 4) true), (.op .mv [(.const (.int .i64 0))] (some 5) true), (.op .mv [(.const (.bool false))] (some 6) true)] false) .ret) .skip)) (.seq (.region [(.op .mv [(.const (.int .i64 0))] (some 7) true)] false) (.seq (.region [(.op .mv [(.const (.int .i64 1))] (some 8) true)] false) (.seq (.seq (.region [(.op .mv [(.tmp 1)] (some 15) true), (.op .mv [(.tmp 15)] (some 9) true)] false) (.block 0 (.loop H254_6 L254_6))) (.seq (.region [(.op .mv [(.const (.int .i64 0))] (some 4) true), (.op .mv [(.const (.int .i64 0))] (some 5) true), (.op .mv [(.const (.bool false))] (some 6) true)] false) .ret)))))), [(.tmp 4), (.tmp 5), (.tmp 6)], 58, .one, none⟩
theorem t254 : T 254 = some F254 := tab Tryz.func254 (by kernel_rfl) rfl
-- math/bits.Mul32
-- math/bits.Mul64
def F257 : EF := ⟨(.seq (.region [(.op .mv [(.const (.int .u64 0))] (some 4) true), (.op .mv [(.const (.int .u64 0))] (some 5) true)] false) (.seq (.region [(.op .mv [(.tmp 0)] (some 14) true), (.op (.bin .and) [(.tmp 14), (.const (.int .u64 4294967295))] (some 15) true), (.op .mv [(.tmp 15)] (some 6) true)] false) (.seq (.region [(.op .mv [(.tmp 0)] (some 16) true), (.op (.bin .shr) [(.tmp 16), (.const (.int .u64 32))] (some 17) true), (.op .mv [(.tmp 17)] (some 7) true)] false) (.seq (.region [(.op .mv [(.tmp 1)] (some 18) true), (.op (.bin .and) [(.tmp 18), (.const (.int .u64 4294967295))] (some 19) true), (.op .mv [(.tmp 19)] (some 8) true)] false) (.seq (.region [(.op .mv [(.tmp 1)] (some 20) true), (.op (.bin .shr) [(.tmp 20), (.const (.int .u64 32))] (some 21) true), (.op .mv [(.tmp 21)] (some 9) true)] false) (.seq (.region [(.op .mv [(.tmp 6)] (some 22) true), (.op .mv [(.tmp 8)] (some 23) true), (.op (.bin .mul) [(.tmp 22), (.tmp 23)] (some 24) true), (.op .mv [(.tmp 24)] (some 10) true)] false) (.seq (.region [(.op .mv [(.tmp 7)] (some 25) true), (.op .mv [(.tmp 8)] (some 26) true), (.op (.bin .mul) [(.tmp 25), (.tmp 26)] (some 27) true), (.op .mv [(.tmp 10)] (some 28) true), (.op (.bin .shr) [(.tmp 28), (.const (.int .u64 32))] (some 29) true), (.op (.bin .add) [(.tmp 27), (.tmp 29)] (some 30) true), (.op .mv [(.tmp 30)] (some 11) true)] false) (.seq (.region [(.op .mv [(.tmp 11)] (some 31) true), (.op (.bin .and) [(.tmp 31), (.const (.int .u64 4294967295))] (some 32) true), (.op .mv [(.tmp 32)] (some 12) true)] false) (.seq (.region [(.op .mv [(.tmp 11)] (some 33) true), (.op (.bin .shr) [(.tmp 33), (.const (.int .u64 32))] (some 34) true), (.op .mv [(.tmp 34)] (some 13) true)] false) (.seq (.region [(.op .mv [(.tmp 12)] (some 35) true), (.op .mv [(.tmp 6)] (some 36) true), (.op .mv [(.tmp 9)] (some 37) true), (.op (.bin .mul) [(.tmp 36), (.tmp 37)] (some 38) true), (.op (.bin .add) [(.tmp 35), (.tmp 38)] (some 39) true), (.op .mv [(.tmp 39)] (some 12) true)] false) (.seq (.region [(.op .mv [(.tmp 7)] (some 40) true), (.op .mv [(.tmp 9)] (some 41) true), (.op (.bin .mul) [(.tmp 40), (.tmp 41)] (some 42) true), (.op .mv [(.tmp 13)] (some 43) true), (.op (.bin .add) [(.tmp 42), (.tmp 43)] (some 44) true), (.op .mv [(.tmp 12)] (some 45) true), (.op (.bin .shr) [(.tmp 45), (.const (.int .u64 32))] (some 46) true), (.op (.bin .add) [(.tmp 44), (.tmp 46)] (some 47) true), (.op .mv [(.tmp 47)] (some 4) true)] false) (.seq (.region [(.op .mv [(.tmp 0)] (some 48) true), (.op .mv [(.tmp 1)] (some 49) true), (.op (.bin .mul) [(.tmp 48), (.tmp 49)] (some 50) true), (.op .mv [(.tmp 50)] (some 5) true)] false) .ret)))))))))))), [(.tmp 4), (.tmp 5)], 51, .one, none⟩
theorem t257 : T 257 = some F257 := tab Tryz.func257 (by kernel_rfl) rfl
def H258_5 : List Vw := [.tidy [0, 1, 7, 8] [(0, none), (1, none), (7, none), (8, none)]]
theorem h258_5 (b : Nat) (s : St) : vwL b H258_5 s = vwL b [.tidy [0, 1, 7, 8] [(0, none), (1, none), (7, none), (8, none)]] s := rfl
def L258_5 : EC := (.seq (.seq (.region [(.op .mv [(.tmp 8)] (some 15) true), (.op (.bin .lss) [(.tmp 15), (.const (.int .i64 5))] (some 16) true), (.op .mv [(.tmp 16)] (some 17) true), (.grp 17 true [(.op .mv [(.tmp 1)] (some 18) true), (.op .mv [(.tmp 8)] (some 19) true), (.op (.bin .add) [(.tmp 18), (.tmp 19)] (some 20) true), (.op .mv [(.tmp 0)] (some 21) true), (.op .lenStr [(.tmp 21)] (some 22) true), (.op (.bin .lss) [(.tmp 20), (.tmp 22)] (some 23) true)] 23 24 true)] false) (.cond (.tmp 24) .skip (.exit 0))) (.seq (.block 1 (.seq (.region [(.op .mv [(.tmp 0)] (some 27) true), (.op .mv [(.tmp 1)] (some 28) true), (.op .mv [(.tmp 8)] (some 29) true), (.op (.bin .add) [(.tmp 28), (.tmp 29)] (some 30) true), (.op .idxStr [(.tmp 27), (.tmp 30)] (some 31) true), (.op (.conv .i64) [(.tmp 31)] (some 32) true), (.op .mv [(.tmp 32)] (some 9) true)] false) (.seq (.region [(.op .mv [(.tmp 7)] (some 33) true), (.op .mv [(.tmp 9)] (some 34) true), (.op (.bin .rem) [(.tmp 34), (.const (.int .i64 128))] (some 35) true), (.op .mv [(.tmp 8)] (some 36) true), (.op (.bin .mul) [(.const (.int .i64 7)), (.tmp 36)] (some 37) true), (.op (.bin .shl) [(.tmp 35), (.tmp 37)] (some 38) true), (.op (.bin .add) [(.tmp 33), (.tmp 38)] (some 39) true), (.op .mv [(.tmp 39)] (some 7) true)] false) (.seq (.seq (.region [(.op .mv [(.tmp 9)] (some 40) true), (.op (.bin .gtr) [(.tmp 40), (.const (.int .i64 127))] (some 41) true)] false) (.cond (.tmp 41) (.exit 1) .skip)) (.seq (.seq (.region [(.op .mv [(.tmp 8)] (some 42) true), (.op (.bin .gtr) [(.tmp 42), (.const (.int .i64 0))] (some 43) true), (.op .mv [(.tmp 43)] (some 44) true), (.grp 44 true [(.op .mv [(.tmp 9)] (some 45) true), (.op (.bin .eql) [(.tmp 45), (.const (.int .i64 0))] (some 46) true)] 46 47 true), (.op .mv [(.tmp 47)] (some 48) true), (.grp 48 false [(.op .mv [(.tmp 7)] (some 49) true), (.op (.bin .gtr) [(.tmp 49), (.const (.int .i64 1000000000))] (some 50) true)] 50 51 true)] false) (.cond (.tmp 51) (.seq (.region [(.op .mv [(.const (.int .i64 0))] (some 4) true), (.op .mv [(.const (.int .i64 0))] (some 5) true), (.op .mv [(.const (.bool false))] (some 6) true)] false) .ret) .skip)) (.seq (.region [(.op .mv [(.tmp 7)] (some 52) true), (.op .mv [(.tmp 1)] (some 53) true), (.op .mv [(.tmp 8)] (some 54) true), (.op (.bin .add) [(.tmp 53), (.tmp 54)] (some 55) true), (.op (.bin .add) [(.tmp 55), (.const (.int .i64 1))] (some 56) true), (.op .mv [(.tmp 52)] (some 4) true), (.op .mv [(.tmp 56)] (some 5) true), (.op .mv [(.const (.bool true))] (some 6) true)] false) .ret)))))) (.region [(.op .mv [(.tmp 8)] (some 25) true), (.op (.bin .add) [(.tmp 25), (.const (.int .i64 1))] (some 26) true), (.op .mv [(.tmp 26)] (some 8) true)] false)))
-- impl.ReadVar
def F258 : EF := ⟨(.seq (.region [(.op .mv [(.const (.int .i64 0))] (some 4) true), (.op .mv [(.const (.int .i64 0))] (some 5) true), (.op .mv [(.const (.bool false))] (some 6) true)] false) (.seq (.seq (.region [(.op .mv [(.tmp 1)] (some 10) true), (.op .mv [(.tmp 0)] (some 11) true), (.op .lenStr [(.tmp 11)] (some 12) true), (.pc (.const (.fn 105 [])) [(.tmp 10), (.const (.int .i64 0)), (.tmp 12)] (some 13) true), (.op .not [(.tmp 13)] (some 14) true)] false) (.cond (.tmp 14) (.seq (.region [(.op .mv [(.const (.int .i64 0))] (some 4) true), (.op .mv [(.const (.int .i64 0))] (some 5) true), (.op .mv [(.const (.bool false))] (some 6) true)] false) .ret) .skip)) (.seq (.region [(.op .mv [(.const (.int .i64 0))] (some 7) true)] false) (.seq (.seq (.region [(.op .mv [(.const (.int .i64 0))] (some 8) true)] false) (.block 0 (.loop H258_5 L258_5))) (.seq (.region [(.op .mv [(.const (.int .i64 0))] (some 4) true), (.op .mv [(.const (.int .i64 0))] (some 5) true), (.op .mv [(.const (.bool false))] (some 6) true)] false) .ret))))), [(.tmp 4), (.tmp 5), (.tmp 6)], 57, .one, none⟩
theorem t258 : T 258 = some F258 := tab Tryz.func258 (by kernel_rfl) rfl
-- impl.inodeOf
def F158 : EF := ⟨(.seq (.region [(.op (.alloc (.agg [(.int .i64 0), (.int .i64 0), .nil])) [] (some 2) true)] false) (.seq (.region [(.op .mv [(.tmp 0)] (some 6) true), (.pc (.const (.fn 226 [])) [(.tmp 6)] (some 7) true), (.op .mv [(.tmp 7)] (some 5) true), (.op (.ext 0) [(.tmp 5)] (some 8) true), (.op (.ext 1) [(.tmp 5)] (some 9) true), (.op (.alloc (.agg [(.int .i64 0), (.int .i64 0), .nil])) [] (some 3) true), (.op (.storeN 3) [(.tmp 3), (.tmp 8)] none true), (.op .mv [(.tmp 9)] (some 4) true)] false) (.seq (.seq (.region [(.op .mv [(.tmp 4)] (some 10) true), (.op .not [(.tmp 10)] (some 11) true)] false) (.cond (.tmp 11) (.seq (.region [(.pc (.const (.fn 87 [])) [(.const (.int .i64 0))] (some 12) true), (.op (.storeN 3) [(.tmp 2), (.tmp 12)] none true)] false) .ret) .skip)) (.seq (.region [(.op (.loadN 3) [(.tmp 3)] (some 13) true), (.op (.storeN 3) [(.tmp 2), (.tmp 13)] none true)] false) .ret)))), [(.cell 2 (.loadN 3))], 14, (.agg [.one, .one, .row 1 .one]), none⟩
theorem t158 : T 158 = some F158 := tab Tryz.func158 (by kernel_rfl) rfl
def H151_9 : List Vw := [.opn 4 none none 0 1, .opn 4 none none 1 1, .tidy [0, 2, 4, 5, 6, 7] [(0, none), (2, none), (4, none), (5, none), (6, none), (7, none), (4, some 0), (4, some 1)]]
theorem h151_9 (b : Nat) (s : St) : vwL b H151_9 s = vwL b [.opn 4 none none 0 1, .opn 4 none none 1 1, .tidy [0, 2, 4, 5, 6, 7] [(0, none), (2, none), (4, none), (5, none), (6, none), (7, none), (4, some 0), (4, some 1)]] s := rfl
def L151_9 : EC := (.seq (.seq (.region [(.op .mv [(.tmp 7)] (some 22) true), (.op .mv [(.tmp 5)] (some 23) true), (.op (.bin .rem) [(.tmp 23), (.const (.int .i64 8))] (some 24) true), (.op (.bin .lss) [(.tmp 22), (.tmp 24)] (some 25) true)] false) (.cond (.tmp 25) .skip (.exit 2))) (.seq (.block 3 (.region [(.op .mv [(.tmp 6)] (some 28) true), (.op (.bin .quo) [(.tmp 28), (.const (.int .i64 2))] (some 29) true), (.op .mv [(.tmp 29)] (some 6) true)] false)) (.region [(.op .mv [(.tmp 7)] (some 26) true), (.op (.bin .add) [(.tmp 26), (.const (.int .i64 1))] (some 27) true), (.op .mv [(.tmp 27)] (some 7) true)] false)))
def H151_5 : List Vw := [.opn 4 none none 0 1, .opn 4 none none 1 1, .tidy [0, 2, 4, 5] [(0, none), (2, none), (4, none), (5, none), (4, some 0), (4, some 1)]]
theorem h151_5 (b : Nat) (s : St) : vwL b H151_5 s = vwL b [.opn 4 none none 0 1, .opn 4 none none 1 1, .tidy [0, 2, 4, 5] [(0, none), (2, none), (4, none), (5, none), (4, some 0), (4, some 1)]] s := rfl
def L151_5 : EC := (.seq (.seq (.region [(.op .mv [(.tmp 5)] (some 13) true), (.op (.bin .lss) [(.tmp 13), (.const (.int .i64 24))] (some 14) true)] false) (.cond (.tmp 14) .skip (.exit 0))) (.seq (.block 1 (.seq (.region [(.op .mv [(.tmp 0)] (some 17) true), (.op .mv [(.tmp 5)] (some 18) true), (.op (.bin .quo) [(.tmp 18), (.const (.int .i64 8))] (some 19) true), (.op .idxStr [(.tmp 17), (.tmp 19)] (some 20) true), (.op (.conv .i64) [(.tmp 20)] (some 21) true), (.op .mv [(.tmp 21)] (some 6) true)] false) (.seq (.seq (.region [(.op .mv [(.const (.int .i64 0))] (some 7) true)] false) (.block 2 (.loop H151_9 L151_9))) (.seq (.region [(.op .mv [(.tmp 5)] (some 30) true), (.op (.bin .lss) [(.tmp 30), (.const (.int .i64 16))] (some 31) true)] false) (.cond (.tmp 31) (.region [(.op (.faddr 0) [(.tmp 4)] (some 32) true), (.op .load1 [(.tmp 32)] (some 33) true), (.op .mv [(.tmp 6)] (some 34) true), (.op (.bin .rem) [(.tmp 34), (.const (.int .i64 2))] (some 35) true), (.op (.bin .eql) [(.tmp 35), (.const (.int .i64 1))] (some 36) true), (.op (.bslice 1 1 (.bool false) [0]) [(.tmp 36)] (some 37) true), (.op (.append 1 1) [(.tmp 33), (.tmp 37)] (some 38) true), (.op (.faddr 0) [(.tmp 4)] (some 39) true), (.op .store1 [(.tmp 39), (.tmp 38)] none true)] false) (.region [(.op (.faddr 1) [(.tmp 4)] (some 40) true), (.op .load1 [(.tmp 40)] (some 41) true), (.op .mv [(.tmp 6)] (some 42) true), (.op (.bin .rem) [(.tmp 42), (.const (.int .i64 2))] (some 43) true), (.op (.bin .eql) [(.tmp 43), (.const (.int .i64 1))] (some 44) true), (.op (.bslice 1 1 (.bool false) [0]) [(.tmp 44)] (some 45) true), (.op (.append 1 1) [(.tmp 41), (.tmp 45)] (some 46) true), (.op (.faddr 1) [(.tmp 4)] (some 47) true), (.op .store1 [(.tmp 47), (.tmp 46)] none true)] false)))))) (.region [(.op .mv [(.tmp 5)] (some 15) true), (.op (.bin .add) [(.tmp 15), (.const (.int .i64 1))] (some 16) true), (.op .mv [(.tmp 16)] (some 5) true)] false)))
-- spec.ReadBits
def F151 : EF := ⟨(.seq (.region [(.op (.alloc (.agg [.nil, .nil])) [] (some 2) true), (.op .mv [(.const (.bool false))] (some 3) true)] false) (.seq (.seq (.region [(.op .mv [(.tmp 0)] (some 8) true), (.op .lenStr [(.tmp 8)] (some 9) true), (.op (.bin .neq) [(.tmp 9), (.const (.int .i64 3))] (some 10) true)] false) (.cond (.tmp 10) (.seq (.region [(.op (.build [.nil, .nil] []) [] (some 11) true), (.op (.storeN 2) [(.tmp 2), (.tmp 11)] none true), (.op .mv [(.const (.bool false))] (some 3) true)] false) .ret) .skip)) (.seq (.region [(.op (.build [.nil, .nil] []) [] (some 12) true), (.op (.alloc (.agg [.nil, .nil])) [] (some 4) true), (.op (.storeN 2) [(.tmp 4), (.tmp 12)] none true)] false) (.seq (.seq (.region [(.op .mv [(.const (.int .i64 0))] (some 5) true)] false) (.block 0 (.loop H151_5 L151_5))) (.seq (.region [(.op (.loadN 2) [(.tmp 4)] (some 48) true), (.op (.storeN 2) [(.tmp 2), (.tmp 48)] none true), (.op .mv [(.const (.bool true))] (some 3) true)] false) .ret))))), [(.cell 2 (.loadN 2)), (.tmp 3)], 49, (.agg [(.agg [.row 1 .one, .row 1 .one]), .one]), none⟩
theorem t151 : T 151 = some F151 := tab Tryz.func151 (by kernel_rfl) rfl
-- impl.ReadBits
def F155 : EF := ⟨(.seq (.region [(.op (.alloc (.agg [.nil, .nil])) [] (some 2) true), (.op .mv [(.const (.bool false))] (some 3) true)] false) (.seq (.seq (.region [(.op .mv [(.tmp 0)] (some 4) true), (.op .lenStr [(.tmp 4)] (some 5) true), (.op (.bin .neq) [(.tmp 5), (.const (.int .i64 3))] (some 6) true)] false) (.cond (.tmp 6) (.seq (.region [(.op (.build [.nil, .nil] []) [] (some 7) true), (.op (.storeN 2) [(.tmp 2), (.tmp 7)] none true), (.op .mv [(.const (.bool false))] (some 3) true)] false) .ret) .skip)) (.seq (.region [(.op .mv [(.tmp 0)] (some 8) true), (.op .idxStr [(.tmp 8), (.const (.int .i64 0))] (some 9) true), (.pc (.const (.fn 224 [])) [(.tmp 9)] (some 10) true), (.op .mv [(.tmp 0)] (some 11) false), (.op .idxStr [(.tmp 11), (.const (.int .i64 1))] (some 12) false), (.pc (.const (.fn 224 [])) [(.tmp 12)] (some 13) true), (.op (.append 1 1) [(.tmp 10), (.tmp 13)] (some 14) true), (.op .mv [(.tmp 0)] (some 15) false), (.op .idxStr [(.tmp 15), (.const (.int .i64 2))] (some 16) false), (.pc (.const (.fn 224 [])) [(.tmp 16)] (some 17) true), (.op (.build [.nil, .nil] [(0, 1), (1, 1)]) [(.tmp 14), (.tmp 17)] (some 18) true), (.op (.storeN 2) [(.tmp 2), (.tmp 18)] none true), (.op .mv [(.const (.bool true))] (some 3) true)] true) .ret))), [(.cell 2 (.loadN 2)), (.tmp 3)], 19, (.agg [(.agg [.row 1 .one, .row 1 .one]), .one]), none⟩
theorem t155 : T 155 = some F155 := tab Tryz.func155 (by kernel_rfl) rfl
def H154_8 : List Vw := [.opn 4 none none 1 2, .tidy [0, 2, 4, 5, 6] [(0, none), (2, none), (4, none), (5, none), (6, none), (4, some 1)]]
theorem h154_8 (b : Nat) (s : St) : vwL b H154_8 s = vwL b [.opn 4 none none 1 2, .tidy [0, 2, 4, 5, 6] [(0, none), (2, none), (4, none), (5, none), (6, none), (4, some 1)]] s := rfl
def L154_8 : EC := (.seq (.seq (.region [(.op .mv [(.tmp 6)] (some 22) true), (.op (.bin .lss) [(.tmp 22), (.const (.int .i64 4))] (some 23) true), (.op .mv [(.tmp 23)] (some 24) true), (.grp 24 true [(.op .mv [(.tmp 5)] (some 25) true), (.op .mv [(.tmp 0)] (some 26) true), (.op .lenStr [(.tmp 26)] (some 27) true), (.op (.bin .lss) [(.tmp 25), (.tmp 27)] (some 28) true)] 28 29 true)] false) (.cond (.tmp 29) .skip (.exit 0))) (.seq (.block 1 (.seq (.region [(.op .mv [(.tmp 0)] (some 33) true), (.op .mv [(.tmp 5)] (some 34) true), (.op (.bin .add) [(.tmp 34), (.const (.int .i64 1))] (some 35) true), (.pc (.const (.fn 222 [])) [(.tmp 33), (.tmp 35)] (some 36) true), (.op .mv [(.tmp 36)] (some 32) true), (.op (.ext 0) [(.tmp 32)] (some 37) true), (.op (.ext 1) [(.tmp 32)] (some 38) true), (.op (.ext 2) [(.tmp 32)] (some 39) true), (.op .mv [(.tmp 37)] (some 7) true), (.op .mv [(.tmp 38)] (some 8) true), (.op .mv [(.tmp 39)] (some 9) true)] false) (.seq (.seq (.region [(.op .mv [(.tmp 9)] (some 40) true), (.op .not [(.tmp 40)] (some 41) true)] false) (.cond (.tmp 41) (.seq (.region [(.op (.build [(.bool false), .nil, (.str ⟨#[]⟩)] []) [] (some 42) true), (.op (.storeN 3) [(.tmp 2), (.tmp 42)] none true), (.op .mv [(.const (.bool false))] (some 3) true)] false) .ret) .skip)) (.seq (.region [(.op (.faddr 1) [(.tmp 4)] (some 43) false), (.op .load1 [(.tmp 43)] (some 44) false), (.op .mv [(.tmp 7)] (some 45) false), (.op .mv [(.tmp 0)] (some 46) false), (.op .mv [(.tmp 5)] (some 47) false), (.op .idxStr [(.tmp 46), (.tmp 47)] (some 48) false), (.op (.conv .i64) [(.tmp 48)] (some 49) false), (.op (.build [(.str ⟨#[]⟩), (.int .i64 0)] [(0, 1), (1, 1)]) [(.tmp 45), (.tmp 49)] (some 50) false), (.op (.bslice 2 1 (.agg [(.str ⟨#[]⟩), (.int .i64 0)]) [0]) [(.tmp 50)] (some 51) false), (.op (.append 2 24) [(.tmp 44), (.tmp 51)] (some 52) true), (.op (.faddr 1) [(.tmp 4)] (some 53) true), (.op .store1 [(.tmp 53), (.tmp 52)] none true)] true) (.region [(.op .mv [(.tmp 8)] (some 54) true), (.op .mv [(.tmp 54)] (some 5) true)] false))))) (.region [(.op .mv [(.tmp 6)] (some 30) true), (.op (.bin .add) [(.tmp 30), (.const (.int .i64 1))] (some 31) true), (.op .mv [(.tmp 31)] (some 6) true)] false)))
-- spec.ReadBlock
def F154 : EF := ⟨(.seq (.region [(.op (.alloc (.agg [(.bool false), .nil, (.str ⟨#[]⟩)])) [] (some 2) true), (.op .mv [(.const (.bool false))] (some 3) true)] false) (.seq (.seq (.region [(.op .mv [(.tmp 0)] (some 12) true), (.op (.bin .eql) [(.tmp 12), (.const (.str ⟨#[]⟩))] (some 13) true)] false) (.cond (.tmp 13) (.seq (.region [(.op (.build [(.bool false), .nil, (.str ⟨#[]⟩)] []) [] (some 14) true), (.op (.storeN 3) [(.tmp 2), (.tmp 14)] none true), (.op .mv [(.const (.bool false))] (some 3) true)] false) .ret) .skip)) (.seq (.region [(.op .mv [(.tmp 0)] (some 15) true), (.op (.sliceStr true false) [(.tmp 15), (.const (.int .i64 1))] (some 16) true), (.op (.build [(.bool false), .nil, (.str ⟨#[]⟩)] [(2, 1)]) [(.tmp 16)] (some 17) true), (.op (.alloc (.agg [(.bool false), .nil, (.str ⟨#[]⟩)])) [] (some 4) true), (.op (.storeN 3) [(.tmp 4), (.tmp 17)] none true)] false) (.seq (.seq (.region [(.op .mv [(.tmp 0)] (some 18) true), (.op .idxStr [(.tmp 18), (.const (.int .i64 0))] (some 19) true), (.op (.bin .eql) [(.tmp 19), (.const (.int .u8 100))] (some 20) true)] false) (.cond (.tmp 20) (.seq (.region [(.op (.build [(.bool false), .nil, (.str ⟨#[]⟩)] [(0, 1)]) [(.const (.bool true))] (some 21) true), (.op (.storeN 3) [(.tmp 4), (.tmp 21)] none true)] false) (.seq (.region [(.op .mv [(.const (.int .i64 1))] (some 5) true)] false) (.seq (.region [(.op .mv [(.const (.int .i64 0))] (some 6) true)] false) (.block 0 (.loop H154_8 L154_8))))) .skip)) (.seq (.view [.opn 4 none none 1 2] (.region [(.op (.loadN 3) [(.tmp 4)] (some 56) true), (.pc (.const (.fn 223 [])) [(.tmp 56)] (some 57) true), (.op .mv [(.tmp 57)] (some 55) true), (.op (.ext 0) [(.tmp 55)] (some 58) true), (.op (.ext 1) [(.tmp 55)] (some 59) true), (.op .mv [(.tmp 58)] (some 10) true), (.op .mv [(.tmp 59)] (some 11) true)] false)) (.seq (.seq (.region [(.op .mv [(.tmp 11)] (some 60) true), (.op .not [(.tmp 60)] (some 61) true), (.op .mv [(.tmp 61)] (some 62) true), (.grp 62 false [(.op .mv [(.tmp 10)] (some 63) true), (.op .mv [(.tmp 0)] (some 64) true), (.op (.bin .neq) [(.tmp 63), (.tmp 64)] (some 65) true)] 65 66 true)] false) (.cond (.tmp 66) (.seq (.region [(.op (.build [(.bool false), .nil, (.str ⟨#[]⟩)] []) [] (some 67) true), (.op (.storeN 3) [(.tmp 2), (.tmp 67)] none true), (.op .mv [(.const (.bool false))] (some 3) true)] false) .ret) .skip)) (.seq (.region [(.op (.loadN 3) [(.tmp 4)] (some 68) true), (.op (.storeN 3) [(.tmp 2), (.tmp 68)] none true), (.op .mv [(.const (.bool true))] (some 3) true)] false) .ret))))))), [(.cell 2 (.loadN 3)), (.tmp 3)], 69, (.agg [(.agg [.one, .row 2 .one, .one]), .one]), none⟩
theorem t154 : T 154 = some F154 := tab Tryz.func154 (by kernel_rfl) rfl
def H159_8 : List Vw := [.opn 4 none none 1 2, .tidy [0, 2, 4, 5, 24, 25] [(0, none), (2, none), (4, none), (5, none), (24, none), (25, none), (4, some 1)]]
theorem h159_8 (b : Nat) (s : St) : vwL b H159_8 s = vwL b [.opn 4 none none 1 2, .tidy [0, 2, 4, 5, 24, 25] [(0, none), (2, none), (4, none), (5, none), (24, none), (25, none), (4, some 1)]] s := rfl
def L159_8 : EC := (.seq (.region [(.op (.bin .lss) [(.tmp 25), (.tmp 24)] (some 26) true)] false) (.seq (.cond (.tmp 26) .skip (.exit 0)) (.seq (.block 1 (.seq (.region [(.op .mv [(.tmp 25)] (some 27) true), (.op .mv [(.tmp 27)] (some 6) true)] false) (.seq (.region [(.op .mv [(.tmp 0)] (some 29) true), (.op .mv [(.tmp 5)] (some 30) true), (.op (.bin .add) [(.tmp 30), (.const (.int .i64 1))] (some 31) true), (.pc (.const (.fn 228 [])) [(.tmp 29), (.tmp 31)] (some 32) true), (.op .mv [(.tmp 32)] (some 28) true), (.op (.ext 0) [(.tmp 28)] (some 33) true), (.op (.ext 1) [(.tmp 28)] (some 34) true), (.op (.ext 2) [(.tmp 28)] (some 35) true), (.op .mv [(.tmp 33)] (some 7) true), (.op .mv [(.tmp 34)] (some 8) true), (.op .mv [(.tmp 35)] (some 9) true)] false) (.seq (.seq (.region [(.op .mv [(.tmp 9)] (some 36) true), (.op .not [(.tmp 36)] (some 37) true)] false) (.cond (.tmp 37) (.seq (.region [(.op (.build [(.bool false), .nil, (.str ⟨#[]⟩)] []) [] (some 38) true), (.op (.storeN 3) [(.tmp 2), (.tmp 38)] none true), (.op .mv [(.const (.bool false))] (some 3) true)] false) .ret) .skip)) (.seq (.region [(.op (.faddr 1) [(.tmp 4)] (some 39) false), (.op .load1 [(.tmp 39)] (some 40) false), (.op .mv [(.tmp 6)] (some 41) false), (.op .mv [(.tmp 7)] (some 42) false), (.op .mv [(.tmp 0)] (some 43) false), (.op .mv [(.tmp 5)] (some 44) false), (.op .idxStr [(.tmp 43), (.tmp 44)] (some 45) false), (.op (.conv .i64) [(.tmp 45)] (some 46) false), (.op (.build [(.str ⟨#[]⟩), (.int .i64 0)] [(0, 1), (1, 1)]) [(.tmp 42), (.tmp 46)] (some 47) false), (.op (.iaddr 2) [(.tmp 40), (.tmp 41)] (some 48) true), (.op (.storeN 2) [(.tmp 48), (.tmp 47)] none true)] true) (.region [(.op .mv [(.tmp 8)] (some 49) true), (.op .mv [(.tmp 49)] (some 5) true)] false)))))) (.region [(.op (.bin .add) [(.tmp 25), (.const (.int .i64 1))] (some 50) true), (.op .mv [(.tmp 50)] (some 25) true)] false))))
-- impl.ReadBlock
def F159 : EF := ⟨(.seq (.region [(.op (.alloc (.agg [(.bool false), .nil, (.str ⟨#[]⟩)])) [] (some 2) true), (.op .mv [(.const (.bool false))] (some 3) true)] false) (.seq (.seq (.region [(.op .mv [(.tmp 0)] (some 12) true), (.op (.bin .eql) [(.tmp 12), (.const (.str ⟨#[]⟩))] (some 13) true)] false) (.cond (.tmp 13) (.seq (.region [(.op (.build [(.bool false), .nil, (.str ⟨#[]⟩)] []) [] (some 14) true), (.op (.storeN 3) [(.tmp 2), (.tmp 14)] none true), (.op .mv [(.const (.bool false))] (some 3) true)] false) .ret) .skip)) (.seq (.region [(.op .mv [(.tmp 0)] (some 15) true), (.op (.sliceStr true false) [(.tmp 15), (.const (.int .i64 1))] (some 16) true), (.op (.build [(.bool false), .nil, (.str ⟨#[]⟩)] [(2, 1)]) [(.tmp 16)] (some 17) true), (.op (.alloc (.agg [(.bool false), .nil, (.str ⟨#[]⟩)])) [] (some 4) true), (.op (.storeN 3) [(.tmp 4), (.tmp 17)] none true)] false) (.seq (.seq (.region [(.op .mv [(.tmp 0)] (some 18) true), (.op .idxStr [(.tmp 18), (.const (.int .i64 0))] (some 19) true), (.op (.bin .eql) [(.tmp 19), (.const (.int .u8 100))] (some 20) true)] false) (.cond (.tmp 20) (.seq (.region [(.pc (.const (.fn 227 [])) [] (some 21) true), (.op (.storeN 3) [(.tmp 4), (.tmp 21)] none true)] false) (.seq (.region [(.op .mv [(.const (.int .i64 1))] (some 5) true)] false) (.seq (.view [.opn 4 none none 1 2] (.region [(.op (.faddr 1) [(.tmp 4)] (some 22) true), (.op .load1 [(.tmp 22)] (some 23) true), (.op .len [(.tmp 23)] (some 24) true), (.op .mv [(.const (.int .i64 0))] (some 25) true)] false)) (.block 0 (.loop H159_8 L159_8))))) .skip)) (.seq (.view [.opn 4 none none 1 2] (.region [(.op (.loadN 3) [(.tmp 4)] (some 52) true), (.pc (.const (.fn 229 [])) [(.tmp 52)] (some 53) true), (.op .mv [(.tmp 53)] (some 51) true), (.op (.ext 0) [(.tmp 51)] (some 54) true), (.op (.ext 1) [(.tmp 51)] (some 55) true), (.op .mv [(.tmp 54)] (some 10) true), (.op .mv [(.tmp 55)] (some 11) true)] false)) (.seq (.seq (.region [(.op .mv [(.tmp 11)] (some 56) true), (.op .not [(.tmp 56)] (some 57) true), (.op .mv [(.tmp 57)] (some 58) true), (.grp 58 false [(.op .mv [(.tmp 10)] (some 59) true), (.op .mv [(.tmp 0)] (some 60) true), (.op (.bin .neq) [(.tmp 59), (.tmp 60)] (some 61) true)] 61 62 true)] false) (.cond (.tmp 62) (.seq (.region [(.op (.build [(.bool false), .nil, (.str ⟨#[]⟩)] []) [] (some 63) true), (.op (.storeN 3) [(.tmp 2), (.tmp 63)] none true), (.op .mv [(.const (.bool false))] (some 3) true)] false) .ret) .skip)) (.seq (.region [(.op (.loadN 3) [(.tmp 4)] (some 64) true), (.op (.storeN 3) [(.tmp 2), (.tmp 64)] none true), (.op .mv [(.const (.bool true))] (some 3) true)] false) .ret))))))), [(.cell 2 (.loadN 3)), (.tmp 3)], 65, (.agg [(.agg [.one, .row 2 .one, .one]), .one]), none⟩
theorem t159 : T 159 = some F159 := tab Tryz.func159 (by kernel_rfl) rfl
end Go.Proofs.YtaaajjinpppgeaaGreat

/- Numbers in texts: the plain law. Own work; no condition. -/
set_option linter.unusedVariables false
set_option linter.unusedSimpArgs false
set_option linter.unusedSectionVars false
namespace Go.Proofs.YtaaajjinpppgeaaGreat
open Go Go.Abs
set_option maxRecDepth 100000
/-- The figures of a number, all but the last; and the last. -/
def varI (n : Nat) : List Nat := if h : n > 127 then (n % 128 + 128) :: varI (n / 128) else []
termination_by n
decreasing_by omega
def varF (n : Nat) : Nat := if h : n > 127 then varF (n / 128) else n
termination_by n
decreasing_by omega
def varL (n : Nat) : List Nat := varI n ++ [varF n]
theorem varI_hi {n : Nat} (h : n > 127) : varI n = (n % 128 + 128) :: varI (n / 128) := by rw [varI, dif_pos h]
theorem varI_lo {n : Nat} (h : ¬ n > 127) : varI n = [] := by rw [varI, dif_neg h]
theorem varF_hi {n : Nat} (h : n > 127) : varF n = varF (n / 128) := by rw [varF, dif_pos h]
theorem varF_lo {n : Nat} (h : ¬ n > 127) : varF n = n := by rw [varF, dif_neg h]
theorem varL_hi {n : Nat} (h : n > 127) : varL n = (n % 128 + 128) :: varL (n / 128) := by
  unfold varL; rw [varI_hi h, varF_hi h]; rfl
theorem varL_lo {n : Nat} (h : ¬ n > 127) : varL n = [n] := by
  unfold varL; rw [varI_lo h, varF_lo h]; rfl
/-- The number that figures tell, each above 127 but for the last. -/
def val : List Nat → Nat
  | [] => 0
  | b :: r => b % 128 + 128 * val r
theorem val_cons (b : Nat) (r : List Nat) : val (b :: r) = b % 128 + 128 * val r := rfl
theorem val_app (a : List Nat) (c : Nat) : val (a ++ [c]) = val a + c % 128 * 128 ^ a.length := by
  induction a with
  | nil => simp [val]
  | cons b a ih =>
    rw [List.cons_append, val_cons, val_cons, ih, List.length_cons, Nat.pow_succ, Nat.mul_add, Nat.add_assoc]
    congr 2
    rw [Nat.mul_comm 128, Nat.mul_assoc]
theorem val_lt (a : List Nat) : val a < 128 ^ a.length := by
  induction a with
  | nil => simp [val]
  | cons b a ih =>
    rw [val_cons, List.length_cons, Nat.pow_succ]
    have := Nat.mod_lt b (show 128 > 0 by omega)
    omega
theorem var_pre (m : Nat) (hm : m ≥ 1) : ∀ a : List Nat, (∀ b ∈ a, 128 ≤ b ∧ b < 256) → varL (val a + m * 128 ^ a.length) = a ++ varL m
  | [], _ => by simp [val]
  | b :: a, h => by
    have ih := var_pre m hm a (fun x hx => h x (List.mem_cons_of_mem _ hx))
    obtain ⟨h1, h2⟩ := h b (List.mem_cons_self ..)
    have e : val (b :: a) + m * 128 ^ (b :: a).length = (b - 128) + 128 * (val a + m * 128 ^ a.length) := by
      rw [val_cons, List.length_cons, Nat.pow_succ, Nat.mul_add]
      have e1 : b % 128 = b - 128 := by omega
      have e2 : m * (128 ^ a.length * 128) = 128 * (m * 128 ^ a.length) := by rw [← Nat.mul_assoc, Nat.mul_comm 128]
      rw [e1, e2]; omega
    have hp : 0 < 128 ^ a.length := Nat.pow_pos (by omega)
    have h3 : val a + m * 128 ^ a.length ≥ 1 := by have := Nat.mul_le_mul hm (Nat.le_refl (128 ^ a.length)); omega
    rw [e, varL_hi (by omega)]
    have d1 : (b - 128 + 128 * (val a + m * 128 ^ a.length)) / 128 = val a + m * 128 ^ a.length := by omega
    have d2 : (b - 128 + 128 * (val a + m * 128 ^ a.length)) % 128 + 128 = b := by omega
    rw [d1, d2, ih]; rfl
theorem varL_len : ∀ (j n : Nat), n < 128 ^ (j + 1) → (varL n).length ≤ j + 1
  | 0, n, h => by rw [varL_lo (by omega)]; simp
  | j + 1, n, h => by
    by_cases hn : n > 127
    · rw [varL_hi hn, List.length_cons]
      have : n / 128 < 128 ^ (j + 1) := by rw [Nat.pow_succ] at h; omega
      have := varL_len j (n / 128) this
      omega
    · rw [varL_lo hn]; simp
theorem varL_lt (n : Nat) : ∀ b ∈ varL n, b < 256 := by
  by_cases h : n > 127
  · rw [varL_hi h]
    intro b hb
    rcases List.mem_cons.1 hb with rfl | hb
    · omega
    · exact varL_lt (n / 128) b hb
  · rw [varL_lo h]
    intro b hb
    rw [List.mem_singleton.1 hb]; omega
termination_by n
decreasing_by omega
/-- A number's figures are those that were read, but for a last one of nothing behind others. -/
theorem var_same (a : List Nat) (c : Nat) (h : ∀ b ∈ a, 128 ≤ b ∧ b < 256) (hc : c < 128) : (varL (val a + c * 128 ^ a.length) = a ++ [c]) ↔ ¬ (a.length > 0 ∧ c = 0) := by
  by_cases h0 : c = 0
  · subst h0
    constructor
    · rintro he ⟨h1, _⟩
      have hl := congrArg List.length he
      rw [List.length_append, List.length_singleton, Nat.zero_mul, Nat.add_zero] at hl
      have := varL_len (a.length - 1) (val a) (by rw [Nat.sub_add_cancel h1]; exact val_lt a)
      omega
    · intro h1
      have : a = [] := by
        match a, h1 with
        | [], _ => rfl
        | _ :: _, h1 => exact absurd ⟨by simp, rfl⟩ h1
      subst this
      rw [varL_lo (by simp [val])]; simp [val]
  · constructor
    · rintro _ ⟨_, h1⟩; exact h0 h1
    · intro _
      rw [var_pre c (by omega) a h, varL_lo (by omega)]
/-- What is read of the figures of a text from a place on: the number and the place behind. -/
def rvGo (l : List UInt8) (a : Nat) : Nat → Nat → Nat → Option (Nat × Nat)
  | 0, _, _ => none
  | f + 1, i, n =>
    if a + i < l.length then
      if (l.getD (a + i) 0).toNat > 127 then rvGo l a f (i + 1) (n + (l.getD (a + i) 0).toNat % 128 * 128 ^ i)
      else if (i > 0 ∧ (l.getD (a + i) 0).toNat = 0) ∨ n + (l.getD (a + i) 0).toNat % 128 * 128 ^ i > 1000000000 then none else some (n + (l.getD (a + i) 0).toNat % 128 * 128 ^ i, a + i + 1)
    else none
def rv (l : List UInt8) (a : Int) : Option (Nat × Nat) := if 0 ≤ a ∧ a ≤ l.length then rvGo l a.toNat 5 0 0 else none
theorem rvGo_lt (l : List UInt8) (a : Nat) : ∀ f i n x, rvGo l a f i n = some x → x.2 ≤ l.length ∧ x.1 ≤ 1000000000 ∧ a + i < x.2
  | 0, _, _, _, h => by cases h
  | f + 1, i, n, x, h => by
    unfold rvGo at h
    split at h
    · split at h
      · have := rvGo_lt l a f (i + 1) _ x h; omega
      · split at h
        · cases h
        · cases h; simp only; omega
    · cases h
theorem rv_lt {l : List UInt8} {a : Int} {x : Nat × Nat} (h : rv l a = some x) : x.2 ≤ l.length ∧ x.1 ≤ 1000000000 ∧ a < x.2 ∧ 0 ≤ a := by
  unfold rv at h
  split at h
  · have := rvGo_lt l a.toNat 5 0 0 x h; omega
  · cases h
/-- A short text at a place of a text. -/
def rs (s : ByteArray) (a : Int) : Option (ByteArray × Nat) :=
  match rv s.data.toList a with
  | some (n, b) => if n > 20000 ∨ n > s.size - b then none else some (s.extract b (b + n), b + n)
  | none => none
end Go.Proofs.YtaaajjinpppgeaaGreat

