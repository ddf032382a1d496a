/- Copies of disks. Own work; no condition. -/
import Derived.Test.YtaaajjinpppgeaaGreatFv
import Derived.Test.YtaaajjinpppgeaaGreatJa
import Derived.Test.YtaaajjinpppgeaaGreatLp
set_option linter.unusedVariables false
set_option linter.unusedSimpArgs false
set_option linter.unusedSectionVars false
namespace Go.Proofs.YtaaajjinpppgeaaGreat
open Go Go.Abs
set_option maxRecDepth 100000
theorem e203 (l : List Bool) (hl : l.length ≤ 1048576) : E T 203 [.ro 1 (l.map bv)] [] = some (.own 1 (l.map bv), []) := by
  rw [E_eqW t203 (Nat.le_of_ble_eq_true rfl)]
  cases l with
  | nil => simp only [F203, go_sem, seval, bnd_ite]
  | cons x xs =>
    have h : (xs.length + 1) * 1 ≤ 140737488355328 := by simp only [List.length_cons] at hl; omega
    simp only [F203, bv, go_sem, seval, bnd_ite, h]
theorem e179 (a b : List Bool) (ha : a.length ≤ 1048576) (hb : b.length ≤ 1048576) : E T 179 [.agg [.ro 1 (a.map bv), .ro 1 (b.map bv)]] [] = some (.agg [.own 1 (a.map bv), .own 1 (b.map bv)], []) := by
  rw [E_eqW t179 (Nat.le_of_ble_eq_true rfl)]
  have e1 := e203 a ha
  have e2 := e203 b hb
  have t1 : (a.map bv).take a.length = a.map bv := List.take_of_length_le (by simp)
  have t2 : (b.map bv).take b.length = b.map bv := List.take_of_length_le (by simp)
  simp only [F179, go_sem, seval, bnd_ite, e1, e2, t1, t2]
theorem e171 (a b : List Bool) (ha : a.length ≤ 1048576) (hb : b.length ≤ 1048576) : E T 171 [.agg [.ro 1 (a.map bv), .ro 1 (b.map bv)]] [] = some (.agg [.own 1 (a.map bv), .own 1 (b.map bv)], []) := by
  rw [E_eqW t171 (Nat.le_of_ble_eq_true rfl)]
  cases a with
  | nil =>
    cases b with
    | nil => simp only [F171, go_sem, seval, bnd_ite]
    | cons y ys =>
      have h : (ys.length + 1) * 1 ≤ 140737488355328 := by simp only [List.length_cons] at hb; omega
      simp only [F171, bv, go_sem, seval, bnd_ite, h]
  | cons x xs =>
    have h1 : (xs.length + 1) * 1 ≤ 140737488355328 := by simp only [List.length_cons] at ha; omega
    cases b with
    | nil => simp only [F171, bv, go_sem, seval, bnd_ite, h1]
    | cons y ys =>
      have h : (ys.length + 1) * 1 ≤ 140737488355328 := by simp only [List.length_cons] at hb; omega
      simp only [F171, bv, go_sem, seval, bnd_ite, h, h1]
theorem take_map {α : Type} {f : α → AV} {l : List α} {i : Nat} {p : α} (hp : l[i]? = some p) : (l.take i).map f ++ [f p] = (l.take (i + 1)).map f := by rw [take_snoc hp, List.map_append]; rfl
theorem takes_len {α : Type} {f : α → AV} {l : List α} {i : Nat} (hi : i ≤ l.length) : ((l.take i).map f).length = i := by rw [List.length_map, List.length_take]; omega
theorem snoc_facts {α : Type} {f : α → AV} (hc : ∀ x, coolX (f x) = true) {l : List α} {i : Nat} {p : α} (hp : l[i]? = some p) :
    ∃ M, (l.take i).map f = M ∧ M.length = i ∧ (∀ g, mapIdL g M = M) ∧ (∀ u, idsL u M = []) ∧ M.take i = M ∧ M ++ [f p] = (l.take (i + 1)).map f := by
  have hi := (List.getElem?_eq_some_iff.1 hp).1
  have hl : ((l.take i).map f).length = i := takes_len (Nat.le_of_lt hi)
  exact ⟨_, rfl, hl, fun g => mi_map g f _ hc, fun u => is_map u f _ hc, List.take_of_length_le (by omega), take_map hp⟩
def cpBox (x : Dsk) : AV := .agg [.ro 1 (x.used.map bv), .ro 1 (x.taken.map bv), .ro 3 (x.inos.map ino), .ro 3 (x.blks.map blk)]
theorem in159a (x : Dsk) (h : x.sm) : ∃ r, XL T 0 H83_3 L83_3 ⟨[(1, .ptr 0 0 0), (2, .ptr 1 0 0), (3, .ptr 2 0 0), (13, .ro 3 (x.inos.map ino)), (14, .int .i64 x.inos.length), (15, .int .i64 0)],
      [some (4, [cpBox x]), some (4, [.agg [.nil, .nil, .nil, .nil]]), some (4, [.agg [.own 1 (x.used.map bv), .own 1 (x.taken.map bv), .sl 3 0 0, .nil]]), some (3, [])]⟩ = some r ∧
    (r.1 = .exit 0 ∧ lookA r.2.env 1 = .ptr 0 0 0 ∧ lookA r.2.env 2 = .ptr 1 0 0 ∧ lookA r.2.env 3 = .ptr 2 0 0 ∧
      r.2.mem = [some (4, [cpBox x]), some (4, [.agg [.nil, .nil, .nil, .nil]]), some (4, [.agg [.own 1 (x.used.map bv), .own 1 (x.taken.map bv), .sl 3 0 x.inos.length, .nil]]), some (3, x.inos.map inoO)]) := by
  have hl := h.inos
  refine XL_each x.inos (fun (_ : Unit) _ => ()) (fun i _ => ⟨[(1, .ptr 0 0 0), (2, .ptr 1 0 0), (3, .ptr 2 0 0), (13, .ro 3 (x.inos.map ino)), (14, .int .i64 x.inos.length), (15, .int .i64 (i : Nat))],
      [some (4, [cpBox x]), some (4, [.agg [.nil, .nil, .nil, .nil]]), some (4, [.agg [.own 1 (x.used.map bv), .own 1 (x.taken.map bv), .sl 3 0 i, .nil]]), some (3, (x.inos.take i).map inoO)]⟩) (fun _ _ => True)
    (fun _ r => r.1 = .exit 0 ∧ lookA r.2.env 1 = .ptr 0 0 0 ∧ lookA r.2.env 2 = .ptr 1 0 0 ∧ lookA r.2.env 3 = .ptr 2 0 0 ∧
      r.2.mem = [some (4, [cpBox x]), some (4, [.agg [.nil, .nil, .nil, .nil]]), some (4, [.agg [.own 1 (x.used.map bv), .own 1 (x.taken.map bv), .sl 3 0 x.inos.length, .nil]]), some (3, x.inos.map inoO)]) ?step ?last () trivial
  case step =>
    intro i _ p hp hi _
    refine ⟨?_, trivial⟩
    have hi1 : (i : Int) < (x.inos.length : Int) := by omega
    have gp : (x.inos.map ino).getD i .undef = .agg [.int .i64 p.kind, .int .i64 p.links, .ro 1 (p.ptrs.map iv)] := gD_map hp
    have e1 := e106 p (h.ino p (List.mem_of_getElem? hp))
    unfold ino inoO at e1
    obtain ⟨M, hM, ml, mi, ms, mt, ma⟩ := snoc_facts inoO_cool hp
    unfold inoO at ma
    have htk : (List.map iv p.ptrs).take p.ptrs.length = List.map iv p.ptrs := List.take_of_length_le (by simp)
    have hap : (i + 1) * 40 ≤ 140737488355328 := by omega
    unfold cpBox
    simp only [hM]
    simp only [XG, L83_3, h83_3, go_sem, seval, bnd_ite, hi1, gp, e1, htk, ml, mi, ms, mt, ma, hap, Int.natCast_nonneg, w_i64 ((i : Int) + 1) (by omega)]
    rfl
  case last =>
    intro _ _
    unfold cpBox
    simp only [XG, L83_3, h83_3, go_sem, seval, bnd_ite, Int.lt_irrefl, decide_false]
    exact .mk (by simp) ⟨rfl, rfl, rfl, rfl, rfl⟩
theorem in159b (x : Dsk) (h : x.sm) : ∃ r, XL T 0 H83_9 L83_9 ⟨[(2, .ptr 0 0 0), (3, .ptr 1 0 0), (28, .ro 3 (x.blks.map blk)), (29, .int .i64 x.blks.length), (30, .int .i64 0)],
      [some (4, [.agg [.nil, .nil, .nil, .nil]]), some (4, [.agg [.own 1 (x.used.map bv), .own 1 (x.taken.map bv), .own 3 (x.inos.map inoO), .sl 2 0 0]]), some (3, [])]⟩ = some r ∧
    (r.1 = .exit 2 ∧ lookA r.2.env 2 = .ptr 0 0 0 ∧ lookA r.2.env 3 = .ptr 1 0 0 ∧
      r.2.mem = [some (4, [.agg [.nil, .nil, .nil, .nil]]), some (4, [.agg [.own 1 (x.used.map bv), .own 1 (x.taken.map bv), .own 3 (x.inos.map inoO), .sl 2 0 x.blks.length]]), some (3, x.blks.map blkO)]) := by
  have hl := h.blks
  refine XL_each x.blks (fun (_ : Unit) _ => ()) (fun i _ => ⟨[(2, .ptr 0 0 0), (3, .ptr 1 0 0), (28, .ro 3 (x.blks.map blk)), (29, .int .i64 x.blks.length), (30, .int .i64 (i : Nat))],
      [some (4, [.agg [.nil, .nil, .nil, .nil]]), some (4, [.agg [.own 1 (x.used.map bv), .own 1 (x.taken.map bv), .own 3 (x.inos.map inoO), .sl 2 0 i]]), some (3, (x.blks.take i).map blkO)]⟩) (fun _ _ => True)
    (fun _ r => r.1 = .exit 2 ∧ lookA r.2.env 2 = .ptr 0 0 0 ∧ lookA r.2.env 3 = .ptr 1 0 0 ∧
      r.2.mem = [some (4, [.agg [.nil, .nil, .nil, .nil]]), some (4, [.agg [.own 1 (x.used.map bv), .own 1 (x.taken.map bv), .own 3 (x.inos.map inoO), .sl 2 0 x.blks.length]]), some (3, x.blks.map blkO)]) ?step ?last () trivial
  case step =>
    intro i _ p hp hi _
    refine ⟨?_, trivial⟩
    have hi1 : (i : Int) < (x.blks.length : Int) := by omega
    have gp : (x.blks.map blk).getD i .undef = .agg [.bool p.dir, .ro 2 (p.slots.map slt), .str p.text] := gD_map hp
    have e1 := e110 p (h.blk p (List.mem_of_getElem? hp))
    unfold blk blkO at e1
    obtain ⟨M, hM, ml, mi, ms, mt, ma⟩ := snoc_facts blkO_cool hp
    unfold blkO at ma
    have htk : (List.map slt p.slots).take p.slots.length = List.map slt p.slots := List.take_of_length_le (by simp)
    have hap : (i + 1) * 48 ≤ 140737488355328 := by omega
    simp only [hM]
    simp only [XG, L83_9, h83_9, go_sem, seval, bnd_ite, hi1, gp, e1, htk, ml, mi, ms, mt, ma, hap, Int.natCast_nonneg, w_i64 ((i : Int) + 1) (by omega)]
    rfl
  case last =>
    intro _ _
    simp only [XG, L83_9, h83_9, go_sem, seval, bnd_ite, Int.lt_irrefl, decide_false]
    exact .mk (by simp) ⟨rfl, rfl, rfl, rfl⟩
theorem e83 (x : Dsk) (h : x.sm) : E T 83 [dsk x] [] = some (dskO x, []) := by
  rw [E_eq t83 (Nat.le_of_ble_eq_true rfl)]
  have e1 := e179 x.used x.taken h.used h.taken
  obtain ⟨⟨y, e, m⟩, k1, kx, k2, k3, k4, km⟩ := in159a x h
  simp only at kx k2 k3 k4 km; subst kx; subst km
  obtain ⟨⟨y, e', m⟩, l1, lx, l2, l3, lm⟩ := in159b x h
  simp only at lx l2 l3 lm; subst lx; subst lm
  unfold cpBox at k1
  have t1 : (x.used.map bv).take x.used.length = x.used.map bv := List.take_of_length_le (by simp)
  have t2 : (x.taken.map bv).take x.taken.length = x.taken.map bv := List.take_of_length_le (by simp)
  have t3 : (x.inos.map inoO).take x.inos.length = x.inos.map inoO := List.take_of_length_le (by simp)
  have t4 : (x.blks.map blkO).take x.blks.length = x.blks.map blkO := List.take_of_length_le (by simp)
  simp only [dsk, F83, cpBox, h83_3, h83_9, go_sem, seval, bnd_ite, e1, k1, k2, k3, k4, l1, l2, l3, dskO, t1, t2, t3, t4]
theorem in158a (x : Dsk) (h : x.sm) : ∃ r, XL T 0 H74_3 L74_3 ⟨[(1, .ptr 0 0 0), (2, .ptr 1 0 0), (3, .ptr 2 0 0), (4, .int .i64 0)],
      [some (4, [cpBox x]), some (4, [.agg [.nil, .nil, .nil, .nil]]), some (4, [.agg [.own 1 (x.used.map bv), .own 1 (x.taken.map bv), .sl 3 0 0, .nil]]), some (3, [])]⟩ = some r ∧
    (r.1 = .exit 0 ∧ lookA r.2.env 1 = .ptr 0 0 0 ∧ lookA r.2.env 2 = .ptr 1 0 0 ∧ lookA r.2.env 3 = .ptr 2 0 0 ∧
      r.2.mem = [some (4, [cpBox x]), some (4, [.agg [.nil, .nil, .nil, .nil]]), some (4, [.agg [.own 1 (x.used.map bv), .own 1 (x.taken.map bv), .sl 3 0 x.inos.length, .nil]]), some (3, x.inos.map inoO)]) := by
  have hl := h.inos
  refine XL_each x.inos (fun (_ : Unit) _ => ()) (fun i _ => ⟨[(1, .ptr 0 0 0), (2, .ptr 1 0 0), (3, .ptr 2 0 0), (4, .int .i64 (i : Nat))],
      [some (4, [cpBox x]), some (4, [.agg [.nil, .nil, .nil, .nil]]), some (4, [.agg [.own 1 (x.used.map bv), .own 1 (x.taken.map bv), .sl 3 0 i, .nil]]), some (3, (x.inos.take i).map inoO)]⟩) (fun _ _ => True)
    (fun _ r => r.1 = .exit 0 ∧ lookA r.2.env 1 = .ptr 0 0 0 ∧ lookA r.2.env 2 = .ptr 1 0 0 ∧ lookA r.2.env 3 = .ptr 2 0 0 ∧
      r.2.mem = [some (4, [cpBox x]), some (4, [.agg [.nil, .nil, .nil, .nil]]), some (4, [.agg [.own 1 (x.used.map bv), .own 1 (x.taken.map bv), .sl 3 0 x.inos.length, .nil]]), some (3, x.inos.map inoO)]) ?step ?last () trivial
  case step =>
    intro i _ p hp hi _
    refine ⟨?_, trivial⟩
    have hi1 : (i : Int) < (x.inos.length : Int) := by omega
    have gp : (x.inos.map ino).getD i .undef = .agg [.int .i64 p.kind, .int .i64 p.links, .ro 1 (p.ptrs.map iv)] := gD_map hp
    have e1 := e109 p (h.ino p (List.mem_of_getElem? hp))
    unfold ino inoO at e1
    obtain ⟨M, hM, ml, mi, ms, mt, ma⟩ := snoc_facts inoO_cool hp
    unfold inoO at ma
    have htk : (List.map iv p.ptrs).take p.ptrs.length = List.map iv p.ptrs := List.take_of_length_le (by simp)
    have hap : (i + 1) * 40 ≤ 140737488355328 := by omega
    unfold cpBox
    simp only [hM]
    simp only [XG, L74_3, h74_3, go_sem, seval, bnd_ite, hi1, gp, e1, htk, ml, mi, ms, mt, ma, hap, Int.natCast_nonneg, w_i64 ((i : Int) + 1) (by omega)]
    rfl
  case last =>
    intro _ _
    unfold cpBox
    simp only [XG, L74_3, h74_3, go_sem, seval, bnd_ite, Int.lt_irrefl, decide_false]
    exact .mk (by simp) ⟨rfl, rfl, rfl, rfl, rfl⟩
theorem in158b (x : Dsk) (h : x.sm) : ∃ r, XL T 0 H74_8 L74_8 ⟨[(1, .ptr 0 0 0), (2, .ptr 1 0 0), (3, .ptr 2 0 0), (5, .int .i64 0)],
      [some (4, [cpBox x]), some (4, [.agg [.nil, .nil, .nil, .nil]]), some (4, [.agg [.own 1 (x.used.map bv), .own 1 (x.taken.map bv), .own 3 (x.inos.map inoO), .sl 3 0 0]]), some (3, [])]⟩ = some r ∧
    (r.1 = .exit 2 ∧ lookA r.2.env 2 = .ptr 1 0 0 ∧ lookA r.2.env 3 = .ptr 2 0 0 ∧
      r.2.mem = [some (4, [cpBox x]), some (4, [.agg [.nil, .nil, .nil, .nil]]), some (4, [.agg [.own 1 (x.used.map bv), .own 1 (x.taken.map bv), .own 3 (x.inos.map inoO), .sl 3 0 x.blks.length]]), some (3, x.blks.map blkO)]) := by
  have hl := h.blks
  refine XL_each x.blks (fun (_ : Unit) _ => ()) (fun i _ => ⟨[(1, .ptr 0 0 0), (2, .ptr 1 0 0), (3, .ptr 2 0 0), (5, .int .i64 (i : Nat))],
      [some (4, [cpBox x]), some (4, [.agg [.nil, .nil, .nil, .nil]]), some (4, [.agg [.own 1 (x.used.map bv), .own 1 (x.taken.map bv), .own 3 (x.inos.map inoO), .sl 3 0 i]]), some (3, (x.blks.take i).map blkO)]⟩) (fun _ _ => True)
    (fun _ r => r.1 = .exit 2 ∧ lookA r.2.env 2 = .ptr 1 0 0 ∧ lookA r.2.env 3 = .ptr 2 0 0 ∧
      r.2.mem = [some (4, [cpBox x]), some (4, [.agg [.nil, .nil, .nil, .nil]]), some (4, [.agg [.own 1 (x.used.map bv), .own 1 (x.taken.map bv), .own 3 (x.inos.map inoO), .sl 3 0 x.blks.length]]), some (3, x.blks.map blkO)]) ?step ?last () trivial
  case step =>
    intro i _ p hp hi _
    refine ⟨?_, trivial⟩
    have hi1 : (i : Int) < (x.blks.length : Int) := by omega
    have gp : (x.blks.map blk).getD i .undef = .agg [.bool p.dir, .ro 2 (p.slots.map slt), .str p.text] := gD_map hp
    have e1 := e112 p (h.blk p (List.mem_of_getElem? hp))
    unfold blk blkO at e1
    obtain ⟨M, hM, ml, mi, ms, mt, ma⟩ := snoc_facts blkO_cool hp
    unfold blkO at ma
    have htk : (List.map slt p.slots).take p.slots.length = List.map slt p.slots := List.take_of_length_le (by simp)
    have hap : (i + 1) * 48 ≤ 140737488355328 := by omega
    unfold cpBox
    simp only [hM]
    simp only [XG, L74_8, h74_8, go_sem, seval, bnd_ite, hi1, gp, e1, htk, ml, mi, ms, mt, ma, hap, Int.natCast_nonneg, w_i64 ((i : Int) + 1) (by omega)]
    rfl
  case last =>
    intro _ _
    unfold cpBox
    simp only [XG, L74_8, h74_8, go_sem, seval, bnd_ite, Int.lt_irrefl, decide_false]
    exact .mk (by simp) ⟨rfl, rfl, rfl, rfl⟩
theorem e74 (x : Dsk) (h : x.sm) : E T 74 [dsk x] [] = some (dskO x, []) := by
  rw [E_eq t74 (Nat.le_of_ble_eq_true rfl)]
  have e1 := e171 x.used x.taken h.used h.taken
  obtain ⟨⟨y, e, m⟩, k1, kx, k2, k3, k4, km⟩ := in158a x h
  simp only at kx k2 k3 k4 km; subst kx; subst km
  obtain ⟨⟨y, e', m⟩, l1, lx, l2, l3, lm⟩ := in158b x h
  simp only at lx l2 l3 lm; subst lx; subst lm
  unfold cpBox at k1 l1
  have t1 : (x.used.map bv).take x.used.length = x.used.map bv := List.take_of_length_le (by simp)
  have t2 : (x.taken.map bv).take x.taken.length = x.taken.map bv := List.take_of_length_le (by simp)
  have t3 : (x.inos.map inoO).take x.inos.length = x.inos.map inoO := List.take_of_length_le (by simp)
  have t4 : (x.blks.map blkO).take x.blks.length = x.blks.map blkO := List.take_of_length_le (by simp)
  simp only [dsk, F74, cpBox, h74_3, h74_8, go_sem, seval, bnd_ite, e1, k1, k2, k3, k4, l1, l2, l3, dskO, t1, t2, t3, t4]
end Go.Proofs.YtaaajjinpppgeaaGreat
