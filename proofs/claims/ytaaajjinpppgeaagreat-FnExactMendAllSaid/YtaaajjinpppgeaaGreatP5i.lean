/- Part 9 of the texts of a claim, joined by a program of ours (ZXb). No condition. -/
import Derived.Test.YtaaajjinpppgeaaGreatP5h
set_option linter.unusedVariables false
set_option linter.unusedSimpArgs false
set_option linter.unusedSectionVars false
namespace Go.Proofs.YtaaajjinpppgeaaGreat
open Go Go.Abs
set_option maxRecDepth 100000
theorem e203 (l : List Bool) (hl : l.length ≤ 1048576) : E T 203 [.ro 1 (l.map bv)] [] = some (.own 1 (l.map bv), []) := by
  rw [E_eqW t203 (Nat.le_of_ble_eq_true rfl)]
  cases l with
  | nil => simp only [F203, go_sem, seval, bnd_ite]
  | cons x xs =>
    have h : (xs.length + 1) * 1 ≤ 140737488355328 := by simp only [List.length_cons] at hl; omega
    simp only [F203, bv, go_sem, seval, bnd_ite, h]
theorem e179 (a b : List Bool) (ha : a.length ≤ 1048576) (hb : b.length ≤ 1048576) : E T 179 [.agg [.ro 1 (a.map bv), .ro 1 (b.map bv)]] [] = some (.agg [.own 1 (a.map bv), .own 1 (b.map bv)], []) := by
  rw [E_eqW t179 (Nat.le_of_ble_eq_true rfl)]
  have e1 := e203 a ha
  have e2 := e203 b hb
  have t1 : (a.map bv).take a.length = a.map bv := List.take_of_length_le (by simp)
  have t2 : (b.map bv).take b.length = b.map bv := List.take_of_length_le (by simp)
  simp only [F179, go_sem, seval, bnd_ite, e1, e2, t1, t2]
theorem e171 (a b : List Bool) (ha : a.length ≤ 1048576) (hb : b.length ≤ 1048576) : E T 171 [.agg [.ro 1 (a.map bv), .ro 1 (b.map bv)]] [] = some (.agg [.own 1 (a.map bv), .own 1 (b.map bv)], []) := by
  rw [E_eqW t171 (Nat.le_of_ble_eq_true rfl)]
  cases a with
  | nil =>
    cases b with
    | nil => simp only [F171, go_sem, seval, bnd_ite]
    | cons y ys =>
      have h : (ys.length + 1) * 1 ≤ 140737488355328 := by simp only [List.length_cons] at hb; omega
      simp only [F171, bv, go_sem, seval, bnd_ite, h]
  | cons x xs =>
    have h1 : (xs.length + 1) * 1 ≤ 140737488355328 := by simp only [List.length_cons] at ha; omega
    cases b with
    | nil => simp only [F171, bv, go_sem, seval, bnd_ite, h1]
    | cons y ys =>
      have h : (ys.length + 1) * 1 ≤ 140737488355328 := by simp only [List.length_cons] at hb; omega
      simp only [F171, bv, go_sem, seval, bnd_ite, h, h1]
theorem take_map {α : Type} {f : α → AV} {l : List α} {i : Nat} {p : α} (hp : l[i]? = some p) : (l.take i).map f ++ [f p] = (l.take (i + 1)).map f := by rw [take_snoc hp, List.map_append]; rfl
theorem takes_len {α : Type} {f : α → AV} {l : List α} {i : Nat} (hi : i ≤ l.length) : ((l.take i).map f).length = i := by rw [List.length_map, List.length_take]; omega
theorem snoc_facts {α : Type} {f : α → AV} (hc : ∀ x, coolX (f x) = true) {l : List α} {i : Nat} {p : α} (hp : l[i]? = some p) :
    ∃ M, (l.take i).map f = M ∧ M.length = i ∧ (∀ g, mapIdL g M = M) ∧ (∀ u, idsL u M = []) ∧ M.take i = M ∧ M ++ [f p] = (l.take (i + 1)).map f := by
  have hi := (List.getElem?_eq_some_iff.1 hp).1
  have hl : ((l.take i).map f).length = i := takes_len (Nat.le_of_lt hi)
  exact ⟨_, rfl, hl, fun g => mi_map g f _ hc, fun u => is_map u f _ hc, List.take_of_length_le (by omega), take_map hp⟩
def cpBox (x : Dsk) : AV := .agg [.ro 1 (x.used.map bv), .ro 1 (x.taken.map bv), .ro 3 (x.inos.map ino), .ro 3 (x.blks.map blk)]
theorem in159a (x : Dsk) (h : x.sm) : ∃ r, XL T 0 H83_3 L83_3 ⟨[(1, .ptr 0 0 0), (2, .ptr 1 0 0), (3, .ptr 2 0 0), (13, .ro 3 (x.inos.map ino)), (14, .int .i64 x.inos.length), (15, .int .i64 0)],
      [some (4, [cpBox x]), some (4, [.agg [.nil, .nil, .nil, .nil]]), some (4, [.agg [.own 1 (x.used.map bv), .own 1 (x.taken.map bv), .sl 3 0 0, .nil]]), some (3, [])]⟩ = some r ∧
    (r.1 = .exit 0 ∧ lookA r.2.env 1 = .ptr 0 0 0 ∧ lookA r.2.env 2 = .ptr 1 0 0 ∧ lookA r.2.env 3 = .ptr 2 0 0 ∧
      r.2.mem = [some (4, [cpBox x]), some (4, [.agg [.nil, .nil, .nil, .nil]]), some (4, [.agg [.own 1 (x.used.map bv), .own 1 (x.taken.map bv), .sl 3 0 x.inos.length, .nil]]), some (3, x.inos.map inoO)]) := by
  have hl := h.inos
  refine XL_each x.inos (fun (_ : Unit) _ => ()) (fun i _ => ⟨[(1, .ptr 0 0 0), (2, .ptr 1 0 0), (3, .ptr 2 0 0), (13, .ro 3 (x.inos.map ino)), (14, .int .i64 x.inos.length), (15, .int .i64 (i : Nat))],
      [some (4, [cpBox x]), some (4, [.agg [.nil, .nil, .nil, .nil]]), some (4, [.agg [.own 1 (x.used.map bv), .own 1 (x.taken.map bv), .sl 3 0 i, .nil]]), some (3, (x.inos.take i).map inoO)]⟩) (fun _ _ => True)
    (fun _ r => r.1 = .exit 0 ∧ lookA r.2.env 1 = .ptr 0 0 0 ∧ lookA r.2.env 2 = .ptr 1 0 0 ∧ lookA r.2.env 3 = .ptr 2 0 0 ∧
      r.2.mem = [some (4, [cpBox x]), some (4, [.agg [.nil, .nil, .nil, .nil]]), some (4, [.agg [.own 1 (x.used.map bv), .own 1 (x.taken.map bv), .sl 3 0 x.inos.length, .nil]]), some (3, x.inos.map inoO)]) ?step ?last () trivial
  case step =>
    intro i _ p hp hi _
    refine ⟨?_, trivial⟩
    have hi1 : (i : Int) < (x.inos.length : Int) := by omega
    have gp : (x.inos.map ino).getD i .undef = .agg [.int .i64 p.kind, .int .i64 p.links, .ro 1 (p.ptrs.map iv)] := gD_map hp
    have e1 := e106 p (h.ino p (List.mem_of_getElem? hp))
    unfold ino inoO at e1
    obtain ⟨M, hM, ml, mi, ms, mt, ma⟩ := snoc_facts inoO_cool hp
    unfold inoO at ma
    have htk : (List.map iv p.ptrs).take p.ptrs.length = List.map iv p.ptrs := List.take_of_length_le (by simp)
    have hap : (i + 1) * 40 ≤ 140737488355328 := by omega
    unfold cpBox
    simp only [hM]
    simp only [XG, L83_3, h83_3, go_sem, seval, bnd_ite, hi1, gp, e1, htk, ml, mi, ms, mt, ma, hap, Int.natCast_nonneg, w_i64 ((i : Int) + 1) (by omega)]
    rfl
  case last =>
    intro _ _
    unfold cpBox
    simp only [XG, L83_3, h83_3, go_sem, seval, bnd_ite, Int.lt_irrefl, decide_false]
    exact .mk (by simp) ⟨rfl, rfl, rfl, rfl, rfl⟩
theorem in159b (x : Dsk) (h : x.sm) : ∃ r, XL T 0 H83_9 L83_9 ⟨[(2, .ptr 0 0 0), (3, .ptr 1 0 0), (28, .ro 3 (x.blks.map blk)), (29, .int .i64 x.blks.length), (30, .int .i64 0)],
      [some (4, [.agg [.nil, .nil, .nil, .nil]]), some (4, [.agg [.own 1 (x.used.map bv), .own 1 (x.taken.map bv), .own 3 (x.inos.map inoO), .sl 2 0 0]]), some (3, [])]⟩ = some r ∧
    (r.1 = .exit 2 ∧ lookA r.2.env 2 = .ptr 0 0 0 ∧ lookA r.2.env 3 = .ptr 1 0 0 ∧
      r.2.mem = [some (4, [.agg [.nil, .nil, .nil, .nil]]), some (4, [.agg [.own 1 (x.used.map bv), .own 1 (x.taken.map bv), .own 3 (x.inos.map inoO), .sl 2 0 x.blks.length]]), some (3, x.blks.map blkO)]) := by
  have hl := h.blks
  refine XL_each x.blks (fun (_ : Unit) _ => ()) (fun i _ => ⟨[(2, .ptr 0 0 0), (3, .ptr 1 0 0), (28, .ro 3 (x.blks.map blk)), (29, .int .i64 x.blks.length), (30, .int .i64 (i : Nat))],
      [some (4, [.agg [.nil, .nil, .nil, .nil]]), some (4, [.agg [.own 1 (x.used.map bv), .own 1 (x.taken.map bv), .own 3 (x.inos.map inoO), .sl 2 0 i]]), some (3, (x.blks.take i).map blkO)]⟩) (fun _ _ => True)
    (fun _ r => r.1 = .exit 2 ∧ lookA r.2.env 2 = .ptr 0 0 0 ∧ lookA r.2.env 3 = .ptr 1 0 0 ∧
      r.2.mem = [some (4, [.agg [.nil, .nil, .nil, .nil]]), some (4, [.agg [.own 1 (x.used.map bv), .own 1 (x.taken.map bv), .own 3 (x.inos.map inoO), .sl 2 0 x.blks.length]]), some (3, x.blks.map blkO)]) ?step ?last () trivial
  case step =>
    intro i _ p hp hi _
    refine ⟨?_, trivial⟩
    have hi1 : (i : Int) < (x.blks.length : Int) := by omega
    have gp : (x.blks.map blk).getD i .undef = .agg [.bool p.dir, .ro 2 (p.slots.map slt), .str p.text] := gD_map hp
    have e1 := e110 p (h.blk p (List.mem_of_getElem? hp))
    unfold blk blkO at e1
    obtain ⟨M, hM, ml, mi, ms, mt, ma⟩ := snoc_facts blkO_cool hp
    unfold blkO at ma
    have htk : (List.map slt p.slots).take p.slots.length = List.map slt p.slots := List.take_of_length_le (by simp)
    have hap : (i + 1) * 48 ≤ 140737488355328 := by omega
    simp only [hM]
    simp only [XG, L83_9, h83_9, go_sem, seval, bnd_ite, hi1, gp, e1, htk, ml, mi, ms, mt, ma, hap, Int.natCast_nonneg, w_i64 ((i : Int) + 1) (by omega)]
    rfl
  case last =>
    intro _ _
    simp only [XG, L83_9, h83_9, go_sem, seval, bnd_ite, Int.lt_irrefl, decide_false]
    exact .mk (by simp) ⟨rfl, rfl, rfl, rfl⟩
theorem e83 (x : Dsk) (h : x.sm) : E T 83 [dsk x] [] = some (dskO x, []) := by
  rw [E_eq t83 (Nat.le_of_ble_eq_true rfl)]
  have e1 := e179 x.used x.taken h.used h.taken
  obtain ⟨⟨y, e, m⟩, k1, kx, k2, k3, k4, km⟩ := in159a x h
  simp only at kx k2 k3 k4 km; subst kx; subst km
  obtain ⟨⟨y, e', m⟩, l1, lx, l2, l3, lm⟩ := in159b x h
  simp only at lx l2 l3 lm; subst lx; subst lm
  unfold cpBox at k1
  have t1 : (x.used.map bv).take x.used.length = x.used.map bv := List.take_of_length_le (by simp)
  have t2 : (x.taken.map bv).take x.taken.length = x.taken.map bv := List.take_of_length_le (by simp)
  have t3 : (x.inos.map inoO).take x.inos.length = x.inos.map inoO := List.take_of_length_le (by simp)
  have t4 : (x.blks.map blkO).take x.blks.length = x.blks.map blkO := List.take_of_length_le (by simp)
  simp only [dsk, F83, cpBox, h83_3, h83_9, go_sem, seval, bnd_ite, e1, k1, k2, k3, k4, l1, l2, l3, dskO, t1, t2, t3, t4]
theorem in158a (x : Dsk) (h : x.sm) : ∃ r, XL T 0 H74_3 L74_3 ⟨[(1, .ptr 0 0 0), (2, .ptr 1 0 0), (3, .ptr 2 0 0), (4, .int .i64 0)],
      [some (4, [cpBox x]), some (4, [.agg [.nil, .nil, .nil, .nil]]), some (4, [.agg [.own 1 (x.used.map bv), .own 1 (x.taken.map bv), .sl 3 0 0, .nil]]), some (3, [])]⟩ = some r ∧
    (r.1 = .exit 0 ∧ lookA r.2.env 1 = .ptr 0 0 0 ∧ lookA r.2.env 2 = .ptr 1 0 0 ∧ lookA r.2.env 3 = .ptr 2 0 0 ∧
      r.2.mem = [some (4, [cpBox x]), some (4, [.agg [.nil, .nil, .nil, .nil]]), some (4, [.agg [.own 1 (x.used.map bv), .own 1 (x.taken.map bv), .sl 3 0 x.inos.length, .nil]]), some (3, x.inos.map inoO)]) := by
  have hl := h.inos
  refine XL_each x.inos (fun (_ : Unit) _ => ()) (fun i _ => ⟨[(1, .ptr 0 0 0), (2, .ptr 1 0 0), (3, .ptr 2 0 0), (4, .int .i64 (i : Nat))],
      [some (4, [cpBox x]), some (4, [.agg [.nil, .nil, .nil, .nil]]), some (4, [.agg [.own 1 (x.used.map bv), .own 1 (x.taken.map bv), .sl 3 0 i, .nil]]), some (3, (x.inos.take i).map inoO)]⟩) (fun _ _ => True)
    (fun _ r => r.1 = .exit 0 ∧ lookA r.2.env 1 = .ptr 0 0 0 ∧ lookA r.2.env 2 = .ptr 1 0 0 ∧ lookA r.2.env 3 = .ptr 2 0 0 ∧
      r.2.mem = [some (4, [cpBox x]), some (4, [.agg [.nil, .nil, .nil, .nil]]), some (4, [.agg [.own 1 (x.used.map bv), .own 1 (x.taken.map bv), .sl 3 0 x.inos.length, .nil]]), some (3, x.inos.map inoO)]) ?step ?last () trivial
  case step =>
    intro i _ p hp hi _
    refine ⟨?_, trivial⟩
    have hi1 : (i : Int) < (x.inos.length : Int) := by omega
    have gp : (x.inos.map ino).getD i .undef = .agg [.int .i64 p.kind, .int .i64 p.links, .ro 1 (p.ptrs.map iv)] := gD_map hp
    have e1 := e109 p (h.ino p (List.mem_of_getElem? hp))
    unfold ino inoO at e1
    obtain ⟨M, hM, ml, mi, ms, mt, ma⟩ := snoc_facts inoO_cool hp
    unfold inoO at ma
    have htk : (List.map iv p.ptrs).take p.ptrs.length = List.map iv p.ptrs := List.take_of_length_le (by simp)
    have hap : (i + 1) * 40 ≤ 140737488355328 := by omega
    unfold cpBox
    simp only [hM]
    simp only [XG, L74_3, h74_3, go_sem, seval, bnd_ite, hi1, gp, e1, htk, ml, mi, ms, mt, ma, hap, Int.natCast_nonneg, w_i64 ((i : Int) + 1) (by omega)]
    rfl
  case last =>
    intro _ _
    unfold cpBox
    simp only [XG, L74_3, h74_3, go_sem, seval, bnd_ite, Int.lt_irrefl, decide_false]
    exact .mk (by simp) ⟨rfl, rfl, rfl, rfl, rfl⟩
theorem in158b (x : Dsk) (h : x.sm) : ∃ r, XL T 0 H74_8 L74_8 ⟨[(1, .ptr 0 0 0), (2, .ptr 1 0 0), (3, .ptr 2 0 0), (5, .int .i64 0)],
      [some (4, [cpBox x]), some (4, [.agg [.nil, .nil, .nil, .nil]]), some (4, [.agg [.own 1 (x.used.map bv), .own 1 (x.taken.map bv), .own 3 (x.inos.map inoO), .sl 3 0 0]]), some (3, [])]⟩ = some r ∧
    (r.1 = .exit 2 ∧ lookA r.2.env 2 = .ptr 1 0 0 ∧ lookA r.2.env 3 = .ptr 2 0 0 ∧
      r.2.mem = [some (4, [cpBox x]), some (4, [.agg [.nil, .nil, .nil, .nil]]), some (4, [.agg [.own 1 (x.used.map bv), .own 1 (x.taken.map bv), .own 3 (x.inos.map inoO), .sl 3 0 x.blks.length]]), some (3, x.blks.map blkO)]) := by
  have hl := h.blks
  refine XL_each x.blks (fun (_ : Unit) _ => ()) (fun i _ => ⟨[(1, .ptr 0 0 0), (2, .ptr 1 0 0), (3, .ptr 2 0 0), (5, .int .i64 (i : Nat))],
      [some (4, [cpBox x]), some (4, [.agg [.nil, .nil, .nil, .nil]]), some (4, [.agg [.own 1 (x.used.map bv), .own 1 (x.taken.map bv), .own 3 (x.inos.map inoO), .sl 3 0 i]]), some (3, (x.blks.take i).map blkO)]⟩) (fun _ _ => True)
    (fun _ r => r.1 = .exit 2 ∧ lookA r.2.env 2 = .ptr 1 0 0 ∧ lookA r.2.env 3 = .ptr 2 0 0 ∧
      r.2.mem = [some (4, [cpBox x]), some (4, [.agg [.nil, .nil, .nil, .nil]]), some (4, [.agg [.own 1 (x.used.map bv), .own 1 (x.taken.map bv), .own 3 (x.inos.map inoO), .sl 3 0 x.blks.length]]), some (3, x.blks.map blkO)]) ?step ?last () trivial
  case step =>
    intro i _ p hp hi _
    refine ⟨?_, trivial⟩
    have hi1 : (i : Int) < (x.blks.length : Int) := by omega
    have gp : (x.blks.map blk).getD i .undef = .agg [.bool p.dir, .ro 2 (p.slots.map slt), .str p.text] := gD_map hp
    have e1 := e112 p (h.blk p (List.mem_of_getElem? hp))
    unfold blk blkO at e1
    obtain ⟨M, hM, ml, mi, ms, mt, ma⟩ := snoc_facts blkO_cool hp
    unfold blkO at ma
    have htk : (List.map slt p.slots).take p.slots.length = List.map slt p.slots := List.take_of_length_le (by simp)
    have hap : (i + 1) * 48 ≤ 140737488355328 := by omega
    unfold cpBox
    simp only [hM]
    simp only [XG, L74_8, h74_8, go_sem, seval, bnd_ite, hi1, gp, e1, htk, ml, mi, ms, mt, ma, hap, Int.natCast_nonneg, w_i64 ((i : Int) + 1) (by omega)]
    rfl
  case last =>
    intro _ _
    unfold cpBox
    simp only [XG, L74_8, h74_8, go_sem, seval, bnd_ite, Int.lt_irrefl, decide_false]
    exact .mk (by simp) ⟨rfl, rfl, rfl, rfl⟩
theorem e74 (x : Dsk) (h : x.sm) : E T 74 [dsk x] [] = some (dskO x, []) := by
  rw [E_eq t74 (Nat.le_of_ble_eq_true rfl)]
  have e1 := e171 x.used x.taken h.used h.taken
  obtain ⟨⟨y, e, m⟩, k1, kx, k2, k3, k4, km⟩ := in158a x h
  simp only at kx k2 k3 k4 km; subst kx; subst km
  obtain ⟨⟨y, e', m⟩, l1, lx, l2, l3, lm⟩ := in158b x h
  simp only at lx l2 l3 lm; subst lx; subst lm
  unfold cpBox at k1 l1
  have t1 : (x.used.map bv).take x.used.length = x.used.map bv := List.take_of_length_le (by simp)
  have t2 : (x.taken.map bv).take x.taken.length = x.taken.map bv := List.take_of_length_le (by simp)
  have t3 : (x.inos.map inoO).take x.inos.length = x.inos.map inoO := List.take_of_length_le (by simp)
  have t4 : (x.blks.map blkO).take x.blks.length = x.blks.map blkO := List.take_of_length_le (by simp)
  simp only [dsk, F74, cpBox, h74_3, h74_8, go_sem, seval, bnd_ite, e1, k1, k2, k3, k4, l1, l2, l3, dskO, t1, t2, t3, t4]
end Go.Proofs.YtaaajjinpppgeaaGreat
namespace Go.Proofs.YtaaajjinpppgeaaGreat
open Go Go.Abs
set_option maxRecDepth 100000
theorem blkAt_eq {x : Dsk} {i : Int} {p : Blk} (h : x.blks[(i - 1).toNat]? = some p) : blkAt x i = p := by unfold blkAt; rw [List.getD_eq_getElem?_getD, h]; rfl
end Go.Proofs.YtaaajjinpppgeaaGreat
namespace Go.Proofs.YtaaajjinpppgeaaGreat
open Go Go.Abs
set_option maxRecDepth 100000
def marks {α : Type} (f : Nat → α) (l : List α) (i : Nat) : List α := (List.range i).map f ++ l.drop i
section
variable {α : Type} {f : Nat → α} {l : List α} {i : Nat}
theorem marks_0 : marks f l 0 = l := by simp [marks]
theorem marks_all : marks f l l.length = (List.range l.length).map f := by simp [marks]
theorem marks_len (h : i ≤ l.length) : (marks f l i).length = l.length := by simp [marks]; omega
theorem marks_get {x : α} (h : l[i]? = some x) : (marks f l i)[i]? = some x := by
  unfold marks
  rw [List.getElem?_append_right (by simp)]
  simp [h]
theorem marks_set (h : i < l.length) : (marks f l i).set i (f i) = marks f l (i + 1) := by
  unfold marks
  rw [List.set_append_right _ _ (by simp)]
  have e : i - ((List.range i).map f).length = 0 := by simp
  rw [e, List.drop_eq_getElem_cons h, List.set_cons_zero, List.range_succ, List.map_append, List.append_assoc]
  rfl
end
theorem set_map {α : Type} {f : α → AV} {l : List α} {i : Nat} {x : α} : (l.map f).set i (f x) = (l.set i x).map f := by rw [List.map_set]
theorem e189 (l : List Int) (k : Int) (h0 : 0 ≤ k) (hk : k ≤ 4611686018427387904) (hl : l.length ≤ 1048576) :
    E T 189 [.sl 0 0 l.length, .int .i64 k] [some (1, l.map iv)] = some (.int .i64 (k + l.length), [some (1, ((List.range l.length).map fun i => k + (i : Nat)).map iv)]) := by
  rw [E_eq t189 (Nat.le_of_ble_eq_true rfl)]
  simp only [F189, h189_2, go_sem, seval, bnd_ite]
  refine (XL_inv (T := T) (b := 1) (hd := H189_2) (x := L189_2) (β := Unit) (fun i _ => ⟨[(0, .sl 0 0 l.length), (1, .int .i64 (k + (i : Nat))), (5, .int .i64 (i : Nat))], [some (1, (marks (fun i => k + (i : Nat)) l i).map iv)]⟩)
    (fun i _ => True) l.length (fun r => r.1 = .exit 0 ∧ r.2.mem = [some (1, (marks (fun i => k + (i : Nat)) l l.length).map iv)] ∧ lookA r.2.env 1 = .int .i64 (k + l.length)) ?step ?last 0 () (by omega) trivial).elim ?main
  case step =>
    intro i _ hi _
    obtain ⟨p, hp⟩ := get_at hi
    have hi1 : (i : Int) < (l.length : Int) := by omega
    left
    refine ⟨(), ?_, trivial⟩
    have ms := marks_set (f := fun i => k + (i : Nat)) hi
    have sm : ∀ m : List Int, (m.map iv).set i (AV.int .i64 (k + (i : Nat))) = (m.set i (k + (i : Nat))).map iv := fun m => set_map (f := iv)
    have hml : (marks (fun i => k + (i : Nat)) l i).length = l.length := marks_len (by omega)
    have gx : ((marks (fun i => k + (i : Nat)) l i).map iv).getD i .undef = AV.int .i64 p := gD_map (marks_get hp)
    simp only [XG, L189_2, h189_2, go_sem, seval, bnd_ite, hi1, hml, hi, gx, Int.natCast_nonneg, w_i64 ((i : Int) + 1) (by omega), w_i64 (k + (i : Int) + 1) (by omega), sm, ms]
    rw [Int.add_assoc]; rfl
  case last =>
    intro _ _
    have hml : (marks (fun i => k + (i : Nat)) l l.length).length = l.length := marks_len (by omega)
    simp only [XG, L189_2, h189_2, go_sem, seval, bnd_ite, hml, Int.lt_irrefl, decide_false]
    exact .mk (by simp) ⟨rfl, rfl, rfl⟩
  case main =>
  rintro ⟨x, e, m⟩ ⟨h1, h2, h3, h4, h5⟩
  have hs : ((0 : Nat) : Int) = 0 := rfl
  rw [marks_0, hs, Int.add_zero] at h1
  simp only at h3 h4 h5; subst h3; subst h4
  simp only [h1, go_sem, seval, h5, marks_all]
def mb (k : Int) : Bool := decide (k.tmod 3 = 0)
theorem e163 (l : List Bool) (k : Int) (h0 : 0 ≤ k) (hk : k ≤ 4611686018427387904) (hl : l.length ≤ 1048576) :
    E T 163 [.sl 0 0 l.length, .int .i64 k] [some (1, l.map bv)] = some (.int .i64 (k + l.length), [some (1, ((List.range l.length).map fun i => mb (k + (i : Nat))).map bv)]) := by
  rw [E_eq t163 (Nat.le_of_ble_eq_true rfl)]
  simp only [F163, h163_2, go_sem, seval, bnd_ite]
  refine (XL_inv (T := T) (b := 1) (hd := H163_2) (x := L163_2) (β := Unit) (fun i _ => ⟨[(0, .sl 0 0 l.length), (1, .int .i64 (k + (i : Nat))), (5, .int .i64 (i : Nat))], [some (1, (marks (fun i => mb (k + (i : Nat))) l i).map bv)]⟩)
    (fun i _ => True) l.length (fun r => r.1 = .exit 0 ∧ r.2.mem = [some (1, (marks (fun i => mb (k + (i : Nat))) l l.length).map bv)] ∧ lookA r.2.env 1 = .int .i64 (k + l.length)) ?step ?last 0 () (by omega) trivial).elim ?main
  case step =>
    intro i _ hi _
    obtain ⟨p, hp⟩ := get_at hi
    have hi1 : (i : Int) < (l.length : Int) := by omega
    left
    refine ⟨(), ?_, trivial⟩
    have ms := marks_set (f := fun i => mb (k + (i : Nat))) hi
    have sm : ∀ m : List Bool, (m.map bv).set i (AV.bool (decide ((k + (i : Nat)).tmod 3 = 0))) = (m.set i (mb (k + (i : Nat)))).map bv := fun m => set_map (f := bv)
    have hml : (marks (fun i => mb (k + (i : Nat))) l i).length = l.length := marks_len (by omega)
    have gx : ((marks (fun i => mb (k + (i : Nat))) l i).map bv).getD i .undef = AV.bool p := gD_map (marks_get hp)
    simp only [XG, L163_2, h163_2, go_sem, seval, bnd_ite, hi1, hml, hi, gx, Int.natCast_nonneg, w_i64 ((i : Int) + 1) (by omega), w_i64 (k + (i : Int) + 1) (by omega), sm, ms]
    rw [Int.add_assoc]; rfl
  case last =>
    intro _ _
    have hml : (marks (fun i => mb (k + (i : Nat))) l l.length).length = l.length := marks_len (by omega)
    simp only [XG, L163_2, h163_2, go_sem, seval, bnd_ite, hml, Int.lt_irrefl, decide_false]
    exact .mk (by simp) ⟨rfl, rfl, rfl⟩
  case main =>
  rintro ⟨x, e, m⟩ ⟨h1, h2, h3, h4, h5⟩
  have hs : ((0 : Nat) : Int) = 0 := rfl
  rw [marks_0, hs, Int.add_zero] at h1
  simp only at h3 h4 h5; subst h3; subst h4
  simp only [h1, go_sem, seval, h5, marks_all]
theorem range_at {α : Type} (f : Nat → α) {n i : Nat} (h : i < n) : ((List.range n).map f)[i]? = some (f i) := by simp [h]
theorem e191 (n : Nat) (k : Int) (h0 : 0 ≤ k) (hk : k ≤ 4611686018427387904) (hl : n ≤ 1048576) :
    E T 191 [.ro 1 (((List.range n).map fun i => k + (i : Nat)).map iv), .int .i64 k] [] = some (.int .i64 (k + n), []) := by
  rw [E_eq t191 (Nat.le_of_ble_eq_true rfl)]
  simp only [F191, h191_2, go_sem, seval, bnd_ite]
  generalize hL : ((List.range n).map fun i => k + (i : Nat)) = L
  have hln : L.length = n := by rw [← hL]; simp
  refine (XL_inv (T := T) (b := 0) (hd := H191_2) (x := L191_2) (β := Unit) (fun i _ => ⟨[(0, .ro 1 (L.map iv)), (1, .int .i64 (k + (i : Nat))), (5, .int .i64 (i : Nat))], []⟩)
    (fun i _ => True) n (fun r => r.1 = .exit 0 ∧ lookA r.2.env 1 = .int .i64 (k + n)) ?step ?last 0 () (by omega) trivial).elim ?main
  case step =>
    intro i _ hi _
    have hi1 : (i : Int) < (n : Int) := by omega
    have hat : L[i]? = some (k + (i : Nat)) := by rw [← hL]; exact range_at _ hi
    left
    refine ⟨(), ?_, trivial⟩
    simp only [XG, L191_2, h191_2, go_sem, seval, bnd_ite, hln, hi1, hi, gD_map hat, iv, bdec, bne_dec, decide_true, Bool.not_true, Bool.false_eq_true, if_false, Int.natCast_nonneg, w_i64 ((i : Int) + 1) (by omega), w_i64 (k + (i : Int) + 1) (by omega)]
    rw [Int.add_assoc]; rfl
  case last =>
    intro _ _
    simp only [XG, L191_2, h191_2, go_sem, seval, bnd_ite, hln, Int.lt_irrefl, decide_false]
    exact .mk (by simp) ⟨rfl, rfl⟩
  case main =>
  rintro ⟨x, e, m⟩ ⟨h1, h2, h3, h4⟩
  have hs : ((0 : Nat) : Int) = 0 := rfl
  rw [hs, Int.add_zero] at h1
  simp only at h3 h4; subst h3
  simp only [h1, go_sem, seval, h4]
theorem e165 (n : Nat) (k : Int) (h0 : 0 ≤ k) (hk : k ≤ 4611686018427387904) (hl : n ≤ 1048576) :
    E T 165 [.ro 1 (((List.range n).map fun i => mb (k + (i : Nat))).map bv), .int .i64 k] [] = some (.int .i64 (k + n), []) := by
  rw [E_eq t165 (Nat.le_of_ble_eq_true rfl)]
  simp only [F165, h165_2, go_sem, seval, bnd_ite]
  generalize hL : ((List.range n).map fun i => mb (k + (i : Nat))) = L
  have hln : L.length = n := by rw [← hL]; simp
  refine (XL_inv (T := T) (b := 0) (hd := H165_2) (x := L165_2) (β := Unit) (fun i _ => ⟨[(0, .ro 1 (L.map bv)), (1, .int .i64 (k + (i : Nat))), (5, .int .i64 (i : Nat))], []⟩)
    (fun i _ => True) n (fun r => r.1 = .exit 0 ∧ lookA r.2.env 1 = .int .i64 (k + n)) ?step ?last 0 () (by omega) trivial).elim ?main
  case step =>
    intro i _ hi _
    have hi1 : (i : Int) < (n : Int) := by omega
    have hat : L[i]? = some (mb (k + (i : Nat))) := by rw [← hL]; exact range_at _ hi
    left
    refine ⟨(), ?_, trivial⟩
    simp only [XG, L165_2, h165_2, go_sem, seval, bnd_ite, hln, hi1, hi, gD_map hat, bv, mb, bdec, bne_dec, decide_true, Bool.not_true, Bool.false_eq_true, if_false, Int.natCast_nonneg, w_i64 ((i : Int) + 1) (by omega), w_i64 (k + (i : Int) + 1) (by omega)]
    rw [Int.add_assoc]; rfl
  case last =>
    intro _ _
    simp only [XG, L165_2, h165_2, go_sem, seval, bnd_ite, hln, Int.lt_irrefl, decide_false]
    exact .mk (by simp) ⟨rfl, rfl⟩
  case main =>
  rintro ⟨x, e, m⟩ ⟨h1, h2, h3, h4⟩
  have hs : ((0 : Nat) : Int) = 0 := rfl
  rw [hs, Int.add_zero] at h1
  simp only at h3 h4; subst h3
  simp only [h1, go_sem, seval, h4]
end Go.Proofs.YtaaajjinpppgeaaGreat
namespace Go.Proofs.YtaaajjinpppgeaaGreat
open Go Go.Abs
set_option maxRecDepth 100000
theorem e162' (k : Int) (h0 : 0 ≤ k) (hk : k ≤ 4611686018427387904) : ∃ s, E T 162 [.int .i64 k] [] = some (.str s, []) := by
  rw [E_eq t162 (Nat.le_of_ble_eq_true rfl)]
  simp only [F162, h162_4, go_sem, seval, bnd_ite]
  by_cases c1 : k ≤ 0
  · rw [if_pos c1]; exact ⟨_, rfl⟩
  rw [if_neg c1]
  refine (XL_inv (T := T) (b := 0) (hd := H162_4) (x := L162_4) (β := Int × ByteArray) (fun i a => ⟨[(0, .int .i64 a.1), (3, .str a.2)], []⟩)
    (fun i a => 0 ≤ a.1 ∧ a.1 + i ≤ k ∧ a.2.size ≤ i) k.toNat (fun r => r.1 = .exit 0 ∧ ∃ s : ByteArray, lookA r.2.env 3 = .str s ∧ (s.size : Int) ≤ k) ?step ?last 0 (k, ⟨#[]⟩) (by omega) ⟨h0, by simp, Nat.le_refl 0⟩).elim ?main
  case step =>
    intro i a hi ⟨hI1, hI2, hI3⟩
    by_cases hp : 0 < a.1
    · left
      have hq : a.1.tdiv 10 = a.1 / 10 := Int.tdiv_eq_ediv_of_nonneg hI1
      simp only [XG, L162_4, h162_4, go_sem, seval, bnd_ite, hp, decide_true, hq, w_i64 (a.1 / 10) (by omega)]
      have sz : ∀ c : UInt8, (⟨#[c]⟩ : ByteArray).size = 1 := fun _ => rfl
      rw [if_pos (by first | (rw [sz]; omega) | (simp only [List.size_toArray, List.length_cons, List.length_nil]; omega))]
      exact ⟨(_, _), rfl, by show 0 ≤ a.1 / 10; omega, by show a.1 / 10 + ((i + 1 : Nat) : Int) ≤ k; omega, by rw [ByteArray.size_append, sz]; omega⟩
    · right
      simp only [XG, L162_4, h162_4, go_sem, seval, bnd_ite, hp, decide_false, Bool.false_eq_true, if_false]
      exact .mk (by simp) ⟨rfl, a.2, rfl, by omega⟩
  case last =>
    intro a ⟨hI1, hI2, hI3⟩
    have hp : ¬ 0 < a.1 := by omega
    simp only [XG, L162_4, h162_4, go_sem, seval, bnd_ite, hp, decide_false, Bool.false_eq_true, if_false]
    exact .mk (by simp) ⟨rfl, a.2, rfl, by omega⟩
  case main =>
  rintro ⟨x, e, m⟩ ⟨h1, h2, h3, s, h4, h5⟩
  simp only at h1 h3 h4; subst h3
  have sz : ∀ c : UInt8, (⟨#[c]⟩ : ByteArray).size = 1 := fun _ => rfl
  simp only [h1, go_sem, seval, h4]
  rw [if_pos (by first | (rw [sz]; omega) | (simp only [List.size_toArray, List.length_cons, List.length_nil]; omega))]
  simp only [go_sem, seval]
  exact ⟨_, rfl⟩
noncomputable def mtext (k : Int) : ByteArray := match E T 162 [.int .i64 k] [] with
  | some (.str s, _) => s
  | _ => ⟨#[]⟩
theorem e162 (k : Int) (h0 : 0 ≤ k) (hk : k ≤ 4611686018427387904) : E T 162 [.int .i64 k] [] = some (.str (mtext k), []) := by
  obtain ⟨s, h⟩ := e162' k h0 hk
  unfold mtext; rw [h]
end Go.Proofs.YtaaajjinpppgeaaGreat
namespace Go.Proofs.YtaaajjinpppgeaaGreat
open Go Go.Abs
set_option maxRecDepth 100000
section
variable {α : Type} (st : Int → α → α) (cost : α → Nat)
def mkL : Int → List α → List α
  | _, [] => []
  | k, x :: xs => st k x :: mkL (k + cost x) xs
def costL : List α → Nat
  | [] => 0
  | x :: xs => cost x + costL xs
def mkP (k : Int) (l : List α) (i : Nat) : List α := mkL st cost k (l.take i) ++ l.drop i
variable {st cost} {k : Int} {l : List α} {i : Nat} {x : α}
theorem mkL_len : ∀ {k : Int} {l : List α}, (mkL st cost k l).length = l.length := by
  intro k l
  induction l generalizing k with
  | nil => rfl
  | cons x xs ih => simp [mkL, ih]
theorem costL_app (a b : List α) : costL cost (a ++ b) = costL cost a + costL cost b := by
  induction a with
  | nil => simp [costL]
  | cons x xs ih => simp [costL, ih]; omega
theorem mkL_app (a b : List α) : ∀ k, mkL st cost k (a ++ b) = mkL st cost k a ++ mkL st cost (k + costL cost a) b := by
  induction a with
  | nil => intro k; simp [mkL, costL]
  | cons x xs ih =>
    intro k
    simp only [List.cons_append, mkL, costL, ih]
    rw [show k + ((cost x + costL cost xs : Nat) : Int) = k + (cost x : Int) + (costL cost xs : Int) by omega]
theorem costL_succ (h : l[i]? = some x) : costL cost (l.take (i + 1)) = costL cost (l.take i) + cost x := by
  rw [take_snoc h, costL_app]; simp [costL]
theorem costL_le {C : Nat} : ∀ {l : List α}, (∀ x ∈ l, cost x ≤ C) → costL cost l ≤ l.length * C := by
  intro l
  induction l with
  | nil => intro _; simp [costL]
  | cons x xs ih =>
    intro h
    have h1 := ih (fun y hy => h y (List.mem_cons_of_mem _ hy))
    have h2 := h x (List.mem_cons_self ..)
    simp only [costL, List.length_cons, Nat.add_mul, Nat.one_mul]; omega
theorem mkP_0 : mkP st cost k l 0 = l := by simp [mkP, mkL]
theorem mkP_all : mkP st cost k l l.length = mkL st cost k l := by simp [mkP]
theorem mkP_len : (mkP st cost k l i).length = l.length := by simp [mkP, mkL_len]; omega
theorem mkP_get (h : l[i]? = some x) : (mkP st cost k l i)[i]? = some x := by
  have hi := (List.getElem?_eq_some_iff.1 h).1
  unfold mkP
  rw [List.getElem?_append_right (by rw [mkL_len, List.length_take]; exact Nat.min_le_left ..)]
  simp [mkL_len, Nat.min_eq_left (Nat.le_of_lt hi), h]
theorem mkP_set (h : l[i]? = some x) : (mkP st cost k l i).set i (st (k + costL cost (l.take i)) x) = mkP st cost k l (i + 1) := by
  have hi := (List.getElem?_eq_some_iff.1 h).1
  obtain ⟨_, hx⟩ := List.getElem?_eq_some_iff.1 h
  unfold mkP
  rw [take_snoc h, mkL_app, List.set_append_right _ _ (by rw [mkL_len, List.length_take]; exact Nat.min_le_left ..)]
  have e : i - (mkL st cost k (l.take i)).length = 0 := by rw [mkL_len]; simp; omega
  rw [e, List.drop_eq_getElem_cons hi, List.set_cons_zero, List.append_assoc]
  rfl
theorem mkL_at : ∀ {l : List α} {k : Int} {i : Nat} {x : α}, l[i]? = some x → (mkL st cost k l)[i]? = some (st (k + costL cost (l.take i)) x) := by
  intro l
  induction l with
  | nil => intro k i x h; simp at h
  | cons y ys ih =>
    intro k i x h
    cases i with
    | zero => simp only [List.getElem?_cons_zero, Option.some.injEq] at h; subst h; simp [mkL, costL]
    | succ i =>
      simp only [List.getElem?_cons_succ] at h
      simp only [mkL, List.getElem?_cons_succ, ih h, List.take_succ_cons, costL]
      rw [show k + ((cost y + costL cost (ys.take i) : Nat) : Int) = k + (cost y : Int) + (costL cost (ys.take i) : Int) by omega]
end
theorem getD_set {l : List AV} {i : Nat} (h : i < l.length) (v : AV) : (l.set i v).getD i .undef = v := by simp [h]
noncomputable def mkSlt (k : Int) (_ : Slt) : Slt := ⟨mtext k, k + 1⟩
theorem e190 (l : List Slt) (k : Int) (h0 : 0 ≤ k) (hk : k ≤ 1152921504606846976) (hl : l.length ≤ 1048576) :
    E T 190 [.sl 0 0 l.length, .int .i64 k] [some (2, l.map slt)] = some (.int .i64 (k + costL (fun _ => 2) l), [some (2, (mkL mkSlt (fun _ => 2) k l).map slt)]) := by
  rw [E_eq t190 (Nat.le_of_ble_eq_true rfl)]
  simp only [F190, h190_2, go_sem, seval, bnd_ite]
  have hc : ∀ i, costL (fun _ => 2) (l.take i) ≤ 2097152 := fun i => by
    have h1 := costL_le (cost := fun _ : Slt => 2) (C := 2) (l := l.take i) (fun _ _ => Nat.le_refl _)
    have h2 : (l.take i).length ≤ l.length := by simp; omega
    omega
  refine (XL_inv (T := T) (b := 1) (hd := H190_2) (x := L190_2) (β := Unit) (fun i _ => ⟨[(0, .sl 0 0 l.length), (1, .int .i64 (k + (costL (fun _ => 2) (l.take i) : Nat))), (5, .int .i64 (i : Nat))], [some (2, (mkP mkSlt (fun _ => 2) k l i).map slt)]⟩)
    (fun i _ => True) l.length (fun r => r.1 = .exit 0 ∧ r.2.mem = [some (2, (mkL mkSlt (fun _ => 2) k l).map slt)] ∧ lookA r.2.env 1 = .int .i64 (k + (costL (fun _ => 2) l : Nat))) ?step ?last 0 () (by omega) trivial).elim ?main
  case step =>
    intro i _ hi _
    obtain ⟨p, hp⟩ := get_at hi
    have hi1 : (i : Int) < (l.length : Int) := by omega
    have hci := hc i
    left
    refine ⟨(), ?_, trivial⟩
    have ms := mkP_set (st := mkSlt) (cost := fun _ => 2) (k := k) hp
    have cs := costL_succ (cost := fun _ : Slt => 2) hp
    have gx : ((mkP mkSlt (fun _ => 2) k l i).map slt).getD i .undef = slt p := gD_map (mkP_get hp)
    generalize hR : mkP mkSlt (fun _ => 2) k l i = R at *
    have hml : R.length = l.length := by rw [← hR]; exact mkP_len
    have hmi : i < (R.map slt).length := by rw [List.length_map, hml]; exact hi
    have e1 := e162 (k + (costL (fun _ => 2) (l.take i) : Nat)) (by omega) (by omega)
    generalize hK : k + (costL (fun _ => 2) (l.take i) : Int) = K at *
    have sm : (R.map slt).set i (.agg [.str (mtext K), .int .i64 (K + 1)]) = (mkP mkSlt (fun _ => 2) k l (i + 1)).map slt := by rw [← ms]; exact set_map (f := slt) (x := mkSlt K p)
    have e2 : k + ((costL (fun _ => 2) (l.take (i + 1)) : Nat) : Int) = K + 1 + 1 := by rw [cs]; omega
    simp only [XG, L190_2, h190_2, go_sem, seval, bnd_ite, hi1, hml, hi, gx, sm, slt, e1, getD_set hmi, List.set_set, Int.natCast_nonneg, w_i64 ((i : Int) + 1) (by omega), w_i64 (K + 1) (by omega), w_i64 (K + 1 + 1) (by omega)]
    rw [e2]; rfl
  case last =>
    intro _ _
    have hml : (mkP mkSlt (fun _ => 2) k l l.length).length = l.length := mkP_len
    simp only [XG, L190_2, h190_2, go_sem, seval, bnd_ite, hml, Int.lt_irrefl, decide_false]
    exact .mk (by simp) ⟨rfl, by rw [mkP_all], rfl⟩
  case main =>
  rintro ⟨x, e, m⟩ ⟨h1, h2, h3, h4, h5⟩
  have hs : ((0 : Nat) : Int) = 0 := rfl
  simp only [mkP_0, List.take_zero, costL, hs, Int.add_zero] at h1
  simp only at h3 h4 h5; subst h3; subst h4
  simp only [h1, go_sem, seval, h5]
theorem e192 (l : List Slt) (k : Int) (h0 : 0 ≤ k) (hk : k ≤ 1152921504606846976) (hl : l.length ≤ 1048576) :
    E T 192 [.ro 2 ((mkL mkSlt (fun _ => 2) k l).map slt), .int .i64 k] [] = some (.int .i64 (k + costL (fun _ => 2) l), []) := by
  rw [E_eq t192 (Nat.le_of_ble_eq_true rfl)]
  simp only [F192, h192_2, go_sem, seval, bnd_ite]
  have hc : ∀ i, costL (fun _ => 2) (l.take i) ≤ 2097152 := fun i => by
    have h1 := costL_le (cost := fun _ : Slt => 2) (C := 2) (l := l.take i) (fun _ _ => Nat.le_refl _)
    have h2 : (l.take i).length ≤ l.length := by simp; omega
    omega
  generalize hL : mkL mkSlt (fun _ => 2) k l = L
  have hln : L.length = l.length := by rw [← hL]; exact mkL_len
  refine (XL_inv (T := T) (b := 0) (hd := H192_2) (x := L192_2) (β := Unit) (fun i _ => ⟨[(0, .ro 2 (L.map slt)), (1, .int .i64 (k + (costL (fun _ => 2) (l.take i) : Nat))), (5, .int .i64 (i : Nat))], []⟩)
    (fun i _ => True) l.length (fun r => r.1 = .exit 0 ∧ lookA r.2.env 1 = .int .i64 (k + (costL (fun _ => 2) l : Nat))) ?step ?last 0 () (by omega) trivial).elim ?main
  case step =>
    intro i _ hi _
    obtain ⟨p, hp⟩ := get_at hi
    have hi1 : (i : Int) < (l.length : Int) := by omega
    have hci := hc i
    left
    refine ⟨(), ?_, trivial⟩
    have cs := costL_succ (cost := fun _ : Slt => 2) hp
    have hat : L[i]? = some (mkSlt (k + costL (fun _ => 2) (l.take i)) p) := by rw [← hL]; exact mkL_at hp
    have e1 := e162 (k + (costL (fun _ => 2) (l.take i) : Nat)) (by omega) (by omega)
    generalize hK : k + (costL (fun _ => 2) (l.take i) : Int) = K at *
    have gx : (L.map slt).getD i .undef = .agg [.str (mtext K), .int .i64 (K + 1)] := gD_map hat
    have e2 : k + ((costL (fun _ => 2) (l.take (i + 1)) : Nat) : Int) = K + 1 + 1 := by rw [cs]; omega
    simp only [XG, L192_2, h192_2, go_sem, seval, bnd_ite, hi1, hln, hi, gx, e1, decide_true, Bool.not_true, Bool.false_eq_true, if_false, Int.natCast_nonneg, w_i64 ((i : Int) + 1) (by omega), w_i64 (K + 1) (by omega), w_i64 (K + 1 + 1) (by omega)]
    rw [e2]; rfl
  case last =>
    intro _ _
    simp only [XG, L192_2, h192_2, go_sem, seval, bnd_ite, hln, Int.lt_irrefl, decide_false]
    exact .mk (by simp) ⟨rfl, rfl⟩
  case main =>
  rintro ⟨x, e, m⟩ ⟨h1, h2, h3, h4⟩
  have hs : ((0 : Nat) : Int) = 0 := rfl
  simp only [List.take_zero, costL, hs, Int.add_zero] at h1
  simp only at h3 h4; subst h3
  simp only [h1, go_sem, seval, h4]
end Go.Proofs.YtaaajjinpppgeaaGreat
namespace Go.Proofs.YtaaajjinpppgeaaGreat
open Go Go.Abs
set_option maxRecDepth 100000
def mkIno (k : Int) (x : Ino) : Ino := ⟨k, k + 1, (List.range x.ptrs.length).map fun i => k + 1 + 1 + (i : Nat)⟩
def coIno (x : Ino) : Nat := 2 + x.ptrs.length
theorem costIno {l : List Ino} (hl : l.length ≤ 1048576) (hs : ∀ x ∈ l, x.sm) (i : Nat) : costL coIno (l.take i) ≤ 1099513724928 := by
  have h1 := costL_le (cost := coIno) (C := 1048578) (l := l.take i) (fun x hx => by have := hs x (List.mem_of_mem_take hx); unfold Ino.sm at this; unfold coIno; omega)
  have h2 : (l.take i).length ≤ l.length := by simp; omega
  have h3 : (l.take i).length * 1048578 ≤ 1048576 * 1048578 := Nat.mul_le_mul_right _ (by omega)
  omega
theorem e94 (l : List Ino) (k : Int) (h0 : 0 ≤ k) (hk : k ≤ 1152921504606846976) (hl : l.length ≤ 1048576) (hs : ∀ x ∈ l, x.sm) :
    E T 94 [.sl 0 0 l.length, .int .i64 k] [some (3, l.map inoO)] = some (.int .i64 (k + costL coIno l), [some (3, (mkL mkIno coIno k l).map inoO)]) := by
  rw [E_eq t94 (Nat.le_of_ble_eq_true rfl)]
  simp only [F94, h94_2, go_sem, seval, bnd_ite]
  refine (XL_inv (T := T) (b := 1) (hd := H94_2) (x := L94_2) (β := Unit) (fun i _ => ⟨[(0, .sl 0 0 l.length), (1, .int .i64 (k + (costL coIno (l.take i) : Nat))), (5, .int .i64 (i : Nat))], [some (3, (mkP mkIno coIno k l i).map inoO)]⟩)
    (fun i _ => True) l.length (fun r => r.1 = .exit 0 ∧ r.2.mem = [some (3, (mkL mkIno coIno k l).map inoO)] ∧ lookA r.2.env 1 = .int .i64 (k + (costL coIno l : Nat))) ?step ?last 0 () (by omega) trivial).elim ?main
  case step =>
    intro i _ hi _
    obtain ⟨p, hp⟩ := get_at hi
    have hi1 : (i : Int) < (l.length : Int) := by omega
    have hci := costIno hl hs i
    have hps := hs p (List.mem_of_getElem? hp)
    unfold Ino.sm at hps
    left
    refine ⟨(), ?_, trivial⟩
    have ms := mkP_set (st := mkIno) (cost := coIno) (k := k) hp
    have cs := costL_succ (cost := coIno) hp
    have gx : ((mkP mkIno coIno k l i).map inoO).getD i .undef = .agg [.int .i64 p.kind, .int .i64 p.links, .own 1 (p.ptrs.map iv)] := gD_map (mkP_get hp)
    generalize hR : mkP mkIno coIno k l i = R at *
    have hml : R.length = l.length := by rw [← hR]; exact mkP_len
    have hmi : i < (R.map inoO).length := by rw [List.length_map, hml]; exact hi
    generalize hK : k + (costL coIno (l.take i) : Int) = K at *
    have e1 := e189 p.ptrs (K + 1 + 1) (by omega) (by omega) hps
    have sm : (R.map inoO).set i (.agg [.int .i64 K, .int .i64 (K + 1), .own 1 (((List.range p.ptrs.length).map fun i => K + 1 + 1 + (i : Nat)).map iv)]) = (mkP mkIno coIno k l (i + 1)).map inoO := by rw [← ms]; exact set_map (f := inoO) (x := mkIno K p)
    have e2 : k + ((costL coIno (l.take (i + 1)) : Nat) : Int) = K + 1 + 1 + (p.ptrs.length : Int) := by rw [cs, coIno]; omega
    have it : ((i : Int) + 0).toNat = i := by omega
    have htk : (List.map iv ((List.range p.ptrs.length).map fun i => K + 1 + 1 + (i : Nat))).take p.ptrs.length = List.map iv ((List.range p.ptrs.length).map fun i => K + 1 + 1 + (i : Nat)) := List.take_of_length_le (by simp)
    simp only [XG, L94_2, h94_2, it, go_sem, seval, bnd_ite, hi1, hml, hi, gx, getD_set hmi, List.set_set, Int.natCast_nonneg, w_i64 ((i : Int) + 1) (by omega), w_i64 (K + 1) (by omega), w_i64 (K + 1 + 1) (by omega), e1, is_set, inoO_is, List.length_range, htk, sm]
    rw [e2]; rfl
  case last =>
    intro _ _
    have hml : (mkP mkIno coIno k l l.length).length = l.length := mkP_len
    simp only [XG, L94_2, h94_2, go_sem, seval, bnd_ite, hml, Int.lt_irrefl, decide_false]
    exact .mk (by simp) ⟨rfl, by rw [mkP_all], rfl⟩
  case main =>
  rintro ⟨x, e, m⟩ ⟨h1, h2, h3, h4, h5⟩
  have h0' : ((0 : Nat) : Int) = 0 := rfl
  simp only [mkP_0, List.take_zero, costL, h0', Int.add_zero] at h1
  simp only at h3 h4 h5; subst h3; subst h4
  simp only [h1, go_sem, seval, h5]
theorem e97 (l : List Ino) (k : Int) (h0 : 0 ≤ k) (hk : k ≤ 1152921504606846976) (hl : l.length ≤ 1048576) (hs : ∀ x ∈ l, x.sm) :
    E T 97 [.ro 3 ((mkL mkIno coIno k l).map ino), .int .i64 k] [] = some (.int .i64 (k + costL coIno l), []) := by
  rw [E_eq t97 (Nat.le_of_ble_eq_true rfl)]
  simp only [F97, h97_2, go_sem, seval, bnd_ite]
  generalize hL : mkL mkIno coIno k l = L
  have hln : L.length = l.length := by rw [← hL]; exact mkL_len
  refine (XL_inv (T := T) (b := 0) (hd := H97_2) (x := L97_2) (β := Unit) (fun i _ => ⟨[(0, .ro 3 (L.map ino)), (1, .int .i64 (k + (costL coIno (l.take i) : Nat))), (5, .int .i64 (i : Nat))], []⟩)
    (fun i _ => True) l.length (fun r => r.1 = .exit 0 ∧ lookA r.2.env 1 = .int .i64 (k + (costL coIno l : Nat))) ?step ?last 0 () (by omega) trivial).elim ?main
  case step =>
    intro i _ hi _
    obtain ⟨p, hp⟩ := get_at hi
    have hi1 : (i : Int) < (l.length : Int) := by omega
    have hci := costIno hl hs i
    have hps := hs p (List.mem_of_getElem? hp)
    unfold Ino.sm at hps
    left
    refine ⟨(), ?_, trivial⟩
    have cs := costL_succ (cost := coIno) hp
    have hat : L[i]? = some (mkIno (k + costL coIno (l.take i)) p) := by rw [← hL]; exact mkL_at hp
    generalize hK : k + (costL coIno (l.take i) : Int) = K at *
    have gx : (L.map ino).getD i .undef = .agg [.int .i64 K, .int .i64 (K + 1), .ro 1 (((List.range p.ptrs.length).map fun i => K + 1 + 1 + (i : Nat)).map iv)] := gD_map hat
    have e1 := e191 p.ptrs.length (K + 1 + 1) (by omega) (by omega) hps
    have e2 : k + ((costL coIno (l.take (i + 1)) : Nat) : Int) = K + 1 + 1 + (p.ptrs.length : Int) := by rw [cs, coIno]; omega
    have e3 : ¬ K + 1 + 1 + (p.ptrs.length : Int) < 0 := by omega
    generalize hM : ((List.range p.ptrs.length).map fun i => K + 1 + 1 + (i : Nat)) = M at *
    simp only [XG, L97_2, h97_2, go_sem, seval, bnd_ite, hi1, hln, hi, gx, e1, e3, decide_true, decide_false, Bool.not_true, Bool.false_eq_true, if_false, Int.natCast_nonneg, w_i64 ((i : Int) + 1) (by omega), w_i64 (K + 1) (by omega), w_i64 (K + 1 + 1) (by omega)]
    rw [e2]; rfl
  case last =>
    intro _ _
    simp only [XG, L97_2, h97_2, go_sem, seval, bnd_ite, hln, Int.lt_irrefl, decide_false]
    exact .mk (by simp) ⟨rfl, rfl⟩
  case main =>
  rintro ⟨x, e, m⟩ ⟨h1, h2, h3, h4⟩
  have hs : ((0 : Nat) : Int) = 0 := rfl
  simp only [List.take_zero, costL, hs, Int.add_zero] at h1
  simp only at h3 h4; subst h3
  simp only [h1, go_sem, seval, h4]
noncomputable def mkBlk (k : Int) (x : Blk) : Blk := ⟨mb k, mkL mkSlt (fun _ => 2) (k + 1) x.slots, mtext (k + 1 + costL (fun _ => 2) x.slots)⟩
def coBlk (x : Blk) : Nat := 2 + costL (fun _ => 2) x.slots
theorem costSlt {l : List Slt} (hl : l.length ≤ 1048576) : costL (fun _ => 2) l ≤ 2097152 := by
  have h1 := costL_le (cost := fun _ : Slt => 2) (C := 2) (l := l) (fun _ _ => Nat.le_refl _)
  omega
theorem costBlk {l : List Blk} (hl : l.length ≤ 1048576) (hs : ∀ x ∈ l, x.sm) (i : Nat) : costL coBlk (l.take i) ≤ 2199025352704 := by
  have h1 := costL_le (cost := coBlk) (C := 2097154) (l := l.take i) (fun x hx => by have := costSlt (hs x (List.mem_of_mem_take hx)); unfold coBlk; omega)
  have h2 : (l.take i).length ≤ l.length := by simp; omega
  have h3 : (l.take i).length * 2097154 ≤ 1048576 * 2097154 := Nat.mul_le_mul_right _ (by omega)
  omega
theorem e95 (l : List Blk) (k : Int) (h0 : 0 ≤ k) (hk : k ≤ 1125899906842624) (hl : l.length ≤ 1048576) (hs : ∀ x ∈ l, x.sm) :
    E T 95 [.sl 0 0 l.length, .int .i64 k] [some (3, l.map blkO)] = some (.int .i64 (k + costL coBlk l), [some (3, (mkL mkBlk coBlk k l).map blkO)]) := by
  rw [E_eq t95 (Nat.le_of_ble_eq_true rfl)]
  simp only [F95, h95_2, go_sem, seval, bnd_ite]
  refine (XL_inv (T := T) (b := 1) (hd := H95_2) (x := L95_2) (β := Unit) (fun i _ => ⟨[(0, .sl 0 0 l.length), (1, .int .i64 (k + (costL coBlk (l.take i) : Nat))), (5, .int .i64 (i : Nat))], [some (3, (mkP mkBlk coBlk k l i).map blkO)]⟩)
    (fun i _ => True) l.length (fun r => r.1 = .exit 0 ∧ r.2.mem = [some (3, (mkL mkBlk coBlk k l).map blkO)] ∧ lookA r.2.env 1 = .int .i64 (k + (costL coBlk l : Nat))) ?step ?last 0 () (by omega) trivial).elim ?main
  case step =>
    intro i _ hi _
    obtain ⟨p, hp⟩ := get_at hi
    have hi1 : (i : Int) < (l.length : Int) := by omega
    have hci := costBlk hl hs i
    have hps := hs p (List.mem_of_getElem? hp)
    unfold Blk.sm at hps
    have hcs := costSlt hps
    left
    refine ⟨(), ?_, trivial⟩
    have ms := mkP_set (st := mkBlk) (cost := coBlk) (k := k) hp
    have cs := costL_succ (cost := coBlk) hp
    have gx : ((mkP mkBlk coBlk k l i).map blkO).getD i .undef = .agg [.bool p.dir, .own 2 (p.slots.map slt), .str p.text] := gD_map (mkP_get hp)
    generalize hR : mkP mkBlk coBlk k l i = R at *
    have hml : R.length = l.length := by rw [← hR]; exact mkP_len
    have hmi : i < (R.map blkO).length := by rw [List.length_map, hml]; exact hi
    generalize hK : k + (costL coBlk (l.take i) : Int) = K at *
    have e1 := e190 p.slots (K + 1) (by omega) (by omega) hps
    have sm : (R.map blkO).set i (.agg [.bool (mb K), .own 2 ((mkL mkSlt (fun _ => 2) (K + 1) p.slots).map slt), .str (mtext (K + 1 + costL (fun _ => 2) p.slots))]) = (mkP mkBlk coBlk k l (i + 1)).map blkO := by rw [← ms]; exact set_map (f := blkO) (x := mkBlk K p)
    have e2 : k + ((costL coBlk (l.take (i + 1)) : Nat) : Int) = K + 1 + (costL (fun _ => 2) p.slots : Nat) + 1 := by rw [cs, coBlk]; omega
    generalize hS : costL (fun _ => 2) p.slots = S at *
    have e4 := e162 (K + 1 + S) (by omega) (by omega)
    have it : ((i : Int) + 0).toNat = i := by omega
    have hmk : (mkL mkSlt (fun _ => 2) (K + 1) p.slots).length = p.slots.length := mkL_len
    generalize hM : mkL mkSlt (fun _ => 2) (K + 1) p.slots = M at *
    have htk : (List.map slt M).take p.slots.length = List.map slt M := List.take_of_length_le (by simp [hmk])
    unfold mb at sm
    simp only [XG, L95_2, h95_2, it, go_sem, seval, bnd_ite, hi1, hml, hi, gx, getD_set hmi, List.set_set, Int.natCast_nonneg, w_i64 ((i : Int) + 1) (by omega), w_i64 (K + 1) (by omega), w_i64 (K + 1 + S + 1) (by omega), e1, e4, is_set, blkO_is, hmk, htk, sm]
    rw [e2]; rfl
  case last =>
    intro _ _
    have hml : (mkP mkBlk coBlk k l l.length).length = l.length := mkP_len
    simp only [XG, L95_2, h95_2, go_sem, seval, bnd_ite, hml, Int.lt_irrefl, decide_false]
    exact .mk (by simp) ⟨rfl, by rw [mkP_all], rfl⟩
  case main =>
  rintro ⟨x, e, m⟩ ⟨h1, h2, h3, h4, h5⟩
  have h0' : ((0 : Nat) : Int) = 0 := rfl
  simp only [mkP_0, List.take_zero, costL, h0', Int.add_zero] at h1
  simp only at h3 h4 h5; subst h3; subst h4
  simp only [h1, go_sem, seval, h5]
end Go.Proofs.YtaaajjinpppgeaaGreat
namespace Go.Proofs.YtaaajjinpppgeaaGreat
open Go Go.Abs
set_option maxRecDepth 100000
theorem e98 (l : List Blk) (k : Int) (h0 : 0 ≤ k) (hk : k ≤ 1125899906842624) (hl : l.length ≤ 1048576) (hs : ∀ x ∈ l, x.sm) :
    E T 98 [.ro 3 ((mkL mkBlk coBlk k l).map blk), .int .i64 k] [] = some (.int .i64 (k + costL coBlk l), []) := by
  rw [E_eq t98 (Nat.le_of_ble_eq_true rfl)]
  simp only [F98, h98_2, go_sem, seval, bnd_ite]
  generalize hL : mkL mkBlk coBlk k l = L
  have hln : L.length = l.length := by rw [← hL]; exact mkL_len
  refine (XL_inv (T := T) (b := 0) (hd := H98_2) (x := L98_2) (β := Unit) (fun i _ => ⟨[(0, .ro 3 (L.map blk)), (1, .int .i64 (k + (costL coBlk (l.take i) : Nat))), (5, .int .i64 (i : Nat))], []⟩)
    (fun i _ => True) l.length (fun r => r.1 = .exit 0 ∧ lookA r.2.env 1 = .int .i64 (k + (costL coBlk l : Nat))) ?step ?last 0 () (by omega) trivial).elim ?main
  case step =>
    intro i _ hi _
    obtain ⟨p, hp⟩ := get_at hi
    have hi1 : (i : Int) < (l.length : Int) := by omega
    have hci := costBlk hl hs i
    have hps := hs p (List.mem_of_getElem? hp)
    unfold Blk.sm at hps
    have hcs := costSlt hps
    left
    refine ⟨(), ?_, trivial⟩
    have cs := costL_succ (cost := coBlk) hp
    have hat : L[i]? = some (mkBlk (k + costL coBlk (l.take i)) p) := by rw [← hL]; exact mkL_at hp
    generalize hK : k + (costL coBlk (l.take i) : Int) = K at *
    have gx : (L.map blk).getD i .undef = .agg [.bool (mb K), .ro 2 ((mkL mkSlt (fun _ => 2) (K + 1) p.slots).map slt), .str (mtext (K + 1 + costL (fun _ => 2) p.slots))] := gD_map hat
    have e1 := e192 p.slots (K + 1) (by omega) (by omega) hps
    have e2 : k + ((costL coBlk (l.take (i + 1)) : Nat) : Int) = K + 1 + (costL (fun _ => 2) p.slots : Nat) + 1 := by rw [cs, coBlk]; omega
    generalize hS : costL (fun _ => 2) p.slots = S at *
    have e4 := e162 (K + 1 + S) (by omega) (by omega)
    have e3 : ¬ K + 1 + (S : Int) < 0 := by omega
    generalize hM : mkL mkSlt (fun _ => 2) (K + 1) p.slots = M at *
    unfold mb at gx
    simp only [XG, L98_2, h98_2, go_sem, seval, bnd_ite, hi1, hln, hi, gx, e1, e3, e4, bdec, bne_dec, decide_true, decide_false, Bool.not_true, Bool.false_eq_true, if_false, Int.natCast_nonneg, w_i64 ((i : Int) + 1) (by omega), w_i64 (K + 1) (by omega), w_i64 (K + 1 + S + 1) (by omega)]
    rw [e2]; rfl
  case last =>
    intro _ _
    simp only [XG, L98_2, h98_2, go_sem, seval, bnd_ite, hln, Int.lt_irrefl, decide_false]
    exact .mk (by simp) ⟨rfl, rfl⟩
  case main =>
  rintro ⟨x, e, m⟩ ⟨h1, h2, h3, h4⟩
  have hs : ((0 : Nat) : Int) = 0 := rfl
  simp only [List.take_zero, costL, hs, Int.add_zero] at h1
  simp only at h3 h4; subst h3
  simp only [h1, go_sem, seval, h4]
def mkB (k : Int) (n : Nat) : List Bool := (List.range n).map fun i => mb (k + (i : Nat))
theorem mkB_len (k : Int) (n : Nat) : (mkB k n).length = n := by simp [mkB]
theorem e163' (l : List Bool) (k : Int) (h0 : 0 ≤ k) (hk : k ≤ 4611686018427387904) (hl : l.length ≤ 1048576) :
    E T 163 [.sl 0 0 l.length, .int .i64 k] [some (1, l.map bv)] = some (.int .i64 (k + l.length), [some (1, (mkB k l.length).map bv)]) := e163 l k h0 hk hl
theorem e165' (n : Nat) (k : Int) (h0 : 0 ≤ k) (hk : k ≤ 4611686018427387904) (hl : n ≤ 1048576) :
    E T 165 [.ro 1 ((mkB k n).map bv), .int .i64 k] [] = some (.int .i64 (k + n), []) := e165 n k h0 hk hl
theorem e93 (a b : List Bool) (k : Int) (h0 : 0 ≤ k) (hk : k ≤ 1152921504606846976) (ha : a.length ≤ 1048576) (hb : b.length ≤ 1048576) :
    E T 93 [.agg [.sl 0 0 a.length, .sl 1 0 b.length], .int .i64 k] [some (1, a.map bv), some (1, b.map bv)] = some (.int .i64 (k + a.length + b.length), [some (1, (mkB k a.length).map bv), some (1, (mkB (k + a.length) b.length).map bv)]) := by
  rw [E_eq t93 (Nat.le_of_ble_eq_true rfl)]
  simp only [F93, go_sem, seval, bnd_ite, e163' a k h0 (by omega) ha, e163' b (k + a.length) (by omega) (by omega) hb]
theorem e96 (a b : Nat) (k : Int) (h0 : 0 ≤ k) (hk : k ≤ 1152921504606846976) (ha : a ≤ 1048576) (hb : b ≤ 1048576) :
    E T 96 [.agg [.ro 1 ((mkB k a).map bv), .ro 1 ((mkB (k + a) b).map bv)], .int .i64 k] [] = some (.int .i64 (k + a + b), []) := by
  rw [E_eq t96 (Nat.le_of_ble_eq_true rfl)]
  have n1 : ¬ k + (a : Int) < 0 := by omega
  have n2 : ¬ k + (a : Int) + (b : Int) < 0 := by omega
  simp only [F96, go_sem, seval, bnd_ite, e165' a k h0 (by omega) ha, e165' b (k + a) (by omega) (by omega) hb, n1, n2, if_false]
def coDsk (x : Dsk) : Nat := x.used.length + x.taken.length + costL coIno x.inos + costL coBlk x.blks
noncomputable def mkDsk (k : Int) (x : Dsk) : Dsk :=
  ⟨mkB k x.used.length, mkB (k + x.used.length) x.taken.length, mkL mkIno coIno (k + x.used.length + x.taken.length) x.inos, mkL mkBlk coBlk (k + x.used.length + x.taken.length + costL coIno x.inos) x.blks⟩
theorem coDsk_le {x : Dsk} (h : x.sm) : costL coIno x.inos ≤ 1099513724928 ∧ costL coBlk x.blks ≤ 2199025352704 := by
  have h1 := costIno h.inos h.ino x.inos.length
  have h2 := costBlk h.blks h.blk x.blks.length
  rw [List.take_length] at h1 h2
  exact ⟨h1, h2⟩
def dskR (x : Dsk) : Mem := [some (1, x.used.map bv), some (1, x.taken.map bv), some (3, x.inos.map inoO), some (3, x.blks.map blkO)]
theorem e24 (x : Dsk) (k : Int) (h0 : 0 ≤ k) (hk : k ≤ 562949953421312) (h : x.sm) :
    E T 24 [.agg [.sl 0 0 x.used.length, .sl 1 0 x.taken.length, .sl 2 0 x.inos.length, .sl 3 0 x.blks.length], .int .i64 k] (dskR x) = some (.int .i64 (k + coDsk x), dskR (mkDsk k x)) := by
  rw [E_eq t24 (Nat.le_of_ble_eq_true rfl)]
  obtain ⟨c1, c2⟩ := coDsk_le h
  have u1 := h.used
  have u2 := h.taken
  have e1 := e93 x.used x.taken k h0 (by omega) h.used h.taken
  have e2 := e94 x.inos (k + x.used.length + x.taken.length) (by omega) (by omega) h.inos h.ino
  have e3 := e95 x.blks (k + x.used.length + x.taken.length + costL coIno x.inos) (by omega) (by omega) h.blks h.blk
  have e4 : k + (coDsk x : Int) = k + x.used.length + x.taken.length + costL coIno x.inos + costL coBlk x.blks := by unfold coDsk; omega
  simp only [dskR, mkDsk, F24, go_sem, seval, bnd_ite, e1, e2, e3, e4]
theorem e25 (x : Dsk) (k : Int) (h0 : 0 ≤ k) (hk : k ≤ 562949953421312) (h : x.sm) : E T 25 [dsk (mkDsk k x), .int .i64 k] [] = some (.int .i64 (k + coDsk x), []) := by
  rw [E_eq t25 (Nat.le_of_ble_eq_true rfl)]
  obtain ⟨c1, c2⟩ := coDsk_le h
  have u1 := h.used
  have u2 := h.taken
  have e1 := e96 x.used.length x.taken.length k h0 (by omega) h.used h.taken
  have e2 := e97 x.inos (k + x.used.length + x.taken.length) (by omega) (by omega) h.inos h.ino
  have e3 := e98 x.blks (k + x.used.length + x.taken.length + costL coIno x.inos) (by omega) (by omega) h.blks h.blk
  have e4 : k + (coDsk x : Int) = k + x.used.length + x.taken.length + costL coIno x.inos + costL coBlk x.blks := by unfold coDsk; omega
  have n1 : ¬ k + (x.used.length : Int) + x.taken.length < 0 := by omega
  have n2 : ¬ k + (x.used.length : Int) + x.taken.length + costL coIno x.inos < 0 := by omega
  have n3 : ¬ k + (x.used.length : Int) + x.taken.length + costL coIno x.inos + costL coBlk x.blks < 0 := by omega
  simp only [dsk, mkDsk, F25, go_sem, seval, bnd_ite, e1, e2, e3, e4, n1, n2, n3, if_false]
end Go.Proofs.YtaaajjinpppgeaaGreat
namespace Go.Proofs.YtaaajjinpppgeaaGreat
open Go Go.Abs
set_option maxRecDepth 100000
theorem tk_len {α : Type} {f : α → AV} {l : List α} {n : Nat} (h : l.length = n) : (l.map f).take n = l.map f := List.take_of_length_le (by rw [List.length_map, h]; exact Nat.le_refl _)
end Go.Proofs.YtaaajjinpppgeaaGreat
namespace Go.Proofs.YtaaajjinpppgeaaGreat
open Go Go.Abs
set_option maxRecDepth 100000
theorem set_map' {α : Type} {f : α → AV} {l : List α} {i : Nat} {x : α} : (l.map f).set i (f x) = (l.set i x).map f := by rw [List.map_set]
end Go.Proofs.YtaaajjinpppgeaaGreat
namespace Go.Proofs.YtaaajjinpppgeaaGreat
open Go Go.Abs
set_option maxRecDepth 100000
theorem e55k (k : Int) : E T 55 [.int .i64 k] [] = some (.agg [.int .i64 k, .int .i64 (if k = 0 then 0 else 1), .own 1 [.int .i64 0, .int .i64 0]], []) := by
  rw [E_eq t55 (Nat.le_of_ble_eq_true rfl)]
  by_cases h : k = 0
  · subst h; simp only [F55, go_sem, seval, bnd_ite]; try rfl
  · simp only [F55, go_sem, seval, bnd_ite, h, decide_false, if_false]; try rfl
theorem e87k (k : Int) : E T 87 [.int .i64 k] [] = some (.agg [.int .i64 k, .int .i64 (if k = 0 then 0 else 1), .own 1 [.int .i64 0, .int .i64 0]], []) := by
  rw [E_eq t87 (Nat.le_of_ble_eq_true rfl)]
  by_cases h : k = 0
  · subst h; simp only [F87, go_sem, seval, bnd_ite]; try rfl
  · simp only [F87, go_sem, seval, bnd_ite, h, decide_false, if_false]; try rfl
def mpStep (x : Dsk) (kind : Int) (st : List Int × List Int) (e : Int × Nat) : List Int × List Int :=
  if e.1 = 0 then st else if (!((blkAt x e.1).dir == decide (kind = 2)) || decide (e.1 ∈ st.2)) = true then (st.1.set e.2 0, st.2) else (st.1, st.2 ++ [e.1])
structure MpI (q0 : List Int) (h0 : Nat) (j : Nat) (st : List Int × List Int) : Prop where
  len : st.1.length = q0.length
  rest : ∀ k, j ≤ k → st.1[k]? = q0[k]?
  had : st.2.length ≤ h0 + j
theorem mpStep_inv {x : Dsk} {kind : Int} {q0 : List Int} {h0 j : Nat} {st : List Int × List Int} {p : Int} (h : MpI q0 h0 j st) : MpI q0 h0 (j + 1) (mpStep x kind st (p, j)) := by
  obtain ⟨h1, h2, h3⟩ := h
  unfold mpStep
  split
  · exact ⟨h1, fun k hk => h2 k (by omega), by omega⟩
  · split
    · refine ⟨by simpa using h1, fun k hk => ?_, by show st.2.length ≤ _; omega⟩
      rw [List.getElem?_set_ne (by show j ≠ k; omega)]; exact h2 k (by omega)
    · exact ⟨h1, fun k hk => h2 k (by omega), by simp; omega⟩
theorem set_self {α : Type} {l : List α} {i : Nat} {p : α} (h : l[i]? = some p) : l.set i p = l := by
  apply List.ext_getElem?
  intro k
  by_cases hk : i = k
  · subst hk
    have := (List.getElem?_eq_some_iff.1 h).1
    rw [List.getElem?_set_self this, h]
  · rw [List.getElem?_set_ne hk]
theorem e86' (xs : List Int) (y : Int) (ha : xs.length ≤ 1048576) : E T 86 [.ro 1 (xs.map iv), .int .i64 y] [] = some (.bool (decide (y ∈ xs)), []) := e86 xs y (by unfold maxLen; omega)
theorem dirAt {x : Dsk} (i : Int) (hx : DskOk x) (h0 : 0 < i) (h1 : i ≤ 16) : E T 111 [dsk x, .int .i64 i] [] = some (blk (blkAt x i), []) := by
  have n2 := hx.blks
  obtain ⟨b, hb⟩ := get_at (show (i - 1).toNat < x.blks.length by omega)
  rw [blkAt_eq hb]
  exact e111 x i (by omega) (by simp [inside]; omega) b hb
def mp66 (x : Dsk) (Q : List Ino) (i : Nat) (k l : Int) (n : Nat) (st : List Int × List Int) : Mem :=
  [some (4, [cpBox x]), some (4, [.agg [.nil, .nil, .nil, .nil]]), some (4, [.agg [.own 1 (x.used.map bv), .own 1 (x.taken.map bv), .sl 5 0 8, .own 3 (x.blks.map blkO)]]), some (1, st.2.map iv),
    some (3, [.agg [.int .i64 k, .int .i64 l, .sl 6 0 n]]), some (3, (Q.map inoO).set i (.agg [.int .i64 k, .int .i64 l, .sl 6 0 n])), some (1, st.1.map iv)]
theorem in66b (x : Dsk) (hx : DskOk x) (Q : List Ino) (i : Nat) (k l : Int) (q0 : List Int) (hq : q0.length = 2) (hp : ∀ p ∈ q0, 0 ≤ p ∧ p ≤ 16) (had : List Int) (hh : had.length ≤ 1000) :
    ∃ r, XL T 0 H102_13 L102_13 ⟨[(1, .ptr 0 0 0), (2, .ptr 1 0 0), (3, .ptr 2 0 0), (4, .sl 3 0 had.length), (6, .ptr 4 0 0), (27, .sl 5 0 8), (28, .int .i64 8), (29, .int .i64 i), (37, .sl 6 0 2), (38, .int .i64 2), (39, .int .i64 0)], mp66 x Q i k l 2 (q0, had)⟩ = some r ∧
      r.1 = .exit 2 ∧ lookA r.2.env 1 = .ptr 0 0 0 ∧ lookA r.2.env 2 = .ptr 1 0 0 ∧ lookA r.2.env 3 = .ptr 2 0 0 ∧ lookA r.2.env 4 = .sl 3 0 (q0.zipIdx.foldl (mpStep x k) (q0, had)).2.length ∧ lookA r.2.env 27 = .sl 5 0 8 ∧ lookA r.2.env 28 = .int .i64 8 ∧ lookA r.2.env 29 = .int .i64 i ∧
        r.2.mem = mp66 x Q i k l 2 (q0.zipIdx.foldl (mpStep x k) (q0, had)) := by
  refine XL_each q0.zipIdx (mpStep x k) (fun j st => ⟨[(1, .ptr 0 0 0), (2, .ptr 1 0 0), (3, .ptr 2 0 0), (4, .sl 3 0 st.2.length), (6, .ptr 4 0 0), (27, .sl 5 0 8), (28, .int .i64 8), (29, .int .i64 i), (37, .sl 6 0 2), (38, .int .i64 2), (39, .int .i64 (j : Nat))], mp66 x Q i k l 2 st⟩) (fun j st => MpI q0 had.length j st)
    (fun st r => r.1 = .exit 2 ∧ lookA r.2.env 1 = .ptr 0 0 0 ∧ lookA r.2.env 2 = .ptr 1 0 0 ∧ lookA r.2.env 3 = .ptr 2 0 0 ∧ lookA r.2.env 4 = .sl 3 0 st.2.length ∧ lookA r.2.env 27 = .sl 5 0 8 ∧ lookA r.2.env 28 = .int .i64 8 ∧ lookA r.2.env 29 = .int .i64 i ∧ r.2.mem = mp66 x Q i k l 2 st) ?step ?last (q0, had) ⟨rfl, fun _ _ => rfl, by show had.length ≤ _; omega⟩
  case step =>
    rintro j st ⟨p, jj⟩ he hj hI
    obtain ⟨hpj, hjj⟩ := zip_at he
    simp only at hpj hjj; subst hjj
    refine ⟨?_, mpStep_inv hI⟩
    rw [List.length_zipIdx, hq] at hj
    obtain ⟨h1, h2, h3⟩ := hI
    obtain ⟨q, hd⟩ := st
    simp only at h1 h2 h3
    have j1 : (jj : Int) < 2 := by omega
    have j2 : jj < 2 := hj
    have g1 : (q.map iv).getD jj .undef = .int .i64 p := gD_map ((h2 jj (Nat.le_refl _)).trans hpj)
    have hpr := hp p (List.mem_of_getElem? hpj)
    have hw := w_i64 ((jj : Int) + 1) (by omega)
    unfold mp66
    unfold mpStep
    by_cases c0 : p = 0
    · subst c0
      rw [if_pos rfl]
      simp only [cpBox, XG, L102_13, h102_13, go_sem, seval, bnd_ite, is_set, ite_self, j1, j2, h1, hq, g1, hw, Int.natCast_nonneg, decide_true, if_true]
      rfl
    rw [if_neg c0]
    have e1 := dirAt p hx (by omega) hpr.2
    unfold dsk at e1
    rw [show blk (blkAt x p) = .agg [.bool (blkAt x p).dir, .ro 2 ((blkAt x p).slots.map slt), .str (blkAt x p).text] from rfl] at e1
    have e2 := e86' hd p (by omega)
    have hap : (hd.length + 1) * 8 ≤ 140737488355328 := by omega
    have tk : (hd.map iv).take hd.length = hd.map iv := List.take_of_length_le (by simp)
    by_cases c1 : (!((blkAt x p).dir == decide (k = 2)) || decide (p ∈ hd)) = true
    · rw [if_pos c1]
      have sm : (q.map iv).set jj (.int .i64 0) = (q.set jj 0).map iv := set_map' (f := iv) (x := (0 : Int))
      simp only [cpBox, XG, L102_13, h102_13, go_sem, seval, bnd_ite, is_set, ite_self, j1, j2, h1, hq, g1, hw, c0, e1, e2, c1, sm, Int.natCast_nonneg, decide_false, Bool.false_eq_true, if_false, if_true]
      rfl
    · rw [if_neg c1]
      have c1 : (!((blkAt x p).dir == decide (k = 2)) || decide (p ∈ hd)) = false := Bool.eq_false_iff.2 c1
      simp only [cpBox, XG, L102_13, h102_13, go_sem, seval, bnd_ite, is_set, ite_self, j1, j2, h1, hq, g1, hw, c0, e1, e2, c1, hap, tk, Int.natCast_nonneg, decide_false, Bool.false_eq_true, if_false]
      simp only [List.map_append, List.map_cons, List.map_nil, List.length_append]
      rfl
  case last =>
    intro st hI
    rw [List.length_zipIdx, hq]
    unfold mp66
    have j1 : ¬ ((2 : Nat) : Int) < 2 := by omega
    simp only [cpBox, XG, L102_13, h102_13, go_sem, seval, bnd_ite, j1, decide_false]
    exact .mk (by simp) ⟨rfl, rfl, rfl, rfl, rfl, rfl, rfl, rfl, rfl⟩
end Go.Proofs.YtaaajjinpppgeaaGreat
namespace Go.Proofs.YtaaajjinpppgeaaGreat
open Go Go.Abs
set_option maxRecDepth 100000
def inoOf (x : Dsk) (i : Int) : Ino := if inside i 1 x.inos.length then x.inos.getD (i - 1).toNat ino0 else ino0
def blkOf (x : Dsk) (p : Int) : Blk := if inside p 1 x.blks.length then x.blks.getD (p - 1).toNat blk0 else blk0
theorem inoOf_mem {x : Dsk} {i : Int} (h : inside i 1 x.inos.length = true) : x.inos[(i - 1).toNat]? = some (inoOf x i) := by
  have h2 := h
  simp only [inside, Bool.and_eq_true, decide_eq_true_eq] at h2
  obtain ⟨p, hp⟩ := get_at (show (i - 1).toNat < x.inos.length by omega)
  unfold inoOf; rw [if_pos h, getD_at hp]; exact hp
theorem blkOf_mem {x : Dsk} {i : Int} (h : inside i 1 x.blks.length = true) : x.blks[(i - 1).toNat]? = some (blkOf x i) := by
  have h2 := h
  simp only [inside, Bool.and_eq_true, decide_eq_true_eq] at h2
  obtain ⟨p, hp⟩ := get_at (show (i - 1).toNat < x.blks.length by omega)
  unfold blkOf; rw [if_pos h, getD_at hp]; exact hp
theorem inoOf_sm {x : Dsk} (h : x.sm) (i : Int) : (inoOf x i).sm := by
  cases hc : inside i 1 x.inos.length with
  | true => exact h.ino _ (List.mem_of_getElem? (inoOf_mem hc))
  | false => unfold inoOf; rw [hc]; exact (by decide : (0 : Nat) ≤ 1048576)
theorem blkOf_sm {x : Dsk} (h : x.sm) (i : Int) : (blkOf x i).sm := by
  cases hc : inside i 1 x.blks.length with
  | true => exact h.blk _ (List.mem_of_getElem? (blkOf_mem hc))
  | false => unfold blkOf; rw [hc]; exact (by decide : (0 : Nat) ≤ 1048576)
theorem e143u (x : Dsk) (h : x.sm) (i : Int) : E T 143 [dsk x, .int .i64 i] [] = some (ino (inoOf x i), []) := by
  cases hc : inside i 1 x.inos.length with
  | true => exact e143 x i h.inos hc _ (inoOf_mem hc)
  | false => rw [e143n x i hc]; unfold inoOf; rw [hc]; rfl
theorem e111u (x : Dsk) (h : x.sm) (i : Int) : E T 111 [dsk x, .int .i64 i] [] = some (blk (blkOf x i), []) := by
  cases hc : inside i 1 x.blks.length with
  | true => exact e111 x i h.blks hc _ (blkOf_mem hc)
  | false => rw [e111n x i hc]; unfold blkOf; rw [hc]; rfl
theorem e193u (x : Dsk) (h : x.sm) (i : Int) : E T 193 [dsk x, .int .i64 i] [] = some (.tup [blk (blkOf x i), .bool (inside i 1 x.blks.length)], []) := by
  cases hc : inside i 1 x.blks.length with
  | true => exact e193 x i h.blks hc _ (blkOf_mem hc)
  | false => rw [e193n x i hc]; unfold blkOf; rw [hc]; rfl
def hasName (s : Slt) : Bool := !decide (s.name = ⟨#[]⟩)
def namedOf (b : Blk) : List Slt := if b.dir then b.slots.filter hasName else []
def slotsAt (x : Dsk) (i : Int) : List Slt := if (inoOf x i).kind = 2 then (inoOf x i).ptrs.flatMap fun p => namedOf (blkOf x p) else []
theorem namedOf_len {x : Dsk} (h : x.sm) (p : Int) : (namedOf (blkOf x p)).length ≤ 1048576 := by
  have h1 := blkOf_sm h p
  unfold namedOf; split
  · exact Nat.le_trans (List.length_filter_le ..) h1
  · simp
theorem flat_len {x : Dsk} (h : x.sm) (l : List Int) : (l.flatMap fun p => namedOf (blkOf x p)).length ≤ l.length * 1048576 := by
  induction l with
  | nil => simp
  | cons p l ih =>
    have := namedOf_len h p
    simp only [List.flatMap_cons, List.length_append, List.length_cons]; omega
def ptrsN (x : Dsk) (i : Int) : Nat := (inoOf x i).ptrs.length
theorem slotsAt_len {x : Dsk} (h : x.sm) (i : Int) : (slotsAt x i).length ≤ ptrsN x i * 1048576 := by
  unfold slotsAt; split
  · exact flat_len h _
  · simp
end Go.Proofs.YtaaajjinpppgeaaGreat
namespace Go.Proofs.YtaaajjinpppgeaaGreat
open Go Go.Abs
set_option maxRecDepth 100000
theorem n130 (xs : List Int) (y : Int) (ha : xs.length ≤ 1048576) : E TN 86 [.ro 1 (xs.map iv), .int .i64 y] [] = some (.bool (decide (y ∈ xs)), []) := by
  rw [eN rfl t86]; exact e86' xs y ha
theorem n176 (x : Dsk) (h : x.sm) (i : Int) : E TN 143 [dsk x, .int .i64 i] [] = some (ino (inoOf x i), []) := by
  rw [eN rfl t143]; exact e143u x h i
def dirStep (k : Int) (ahead l : List Int) (p : Int) : List Int := if ((decide (k = 2) && decide (p > 0)) && !decide (p ∈ ahead)) && !decide (p ∈ l) then l ++ [p] else l
theorem dirStep_len {k : Int} {ahead l : List Int} {p : Int} {i : Nat} (h : l.length ≤ i) : (dirStep k ahead l p).length ≤ i + 1 := by
  unfold dirStep
  split
  · rw [List.length_append, List.length_singleton]; omega
  · omega
def dirB (x : Ino) (ahead : List Int) : List Int := x.ptrs.foldl (dirStep x.kind ahead) []
theorem ivf (A : List Int) (d : Int) : ∃ M, A.map iv = M ∧ M.length = A.length ∧ (∀ g, mapIdL g M = M) ∧ (∀ u, idsL u M = []) ∧ M.take A.length = M ∧ M ++ [AV.int .i64 d] = (A ++ [d]).map iv ∧ coolR 1 M = true ∧ iceL M = M :=
  ⟨_, rfl, by simp, fun g => mi_map g iv A iv_cool, fun u => is_map u iv A iv_cool, List.take_of_length_le (by simp), by rw [List.map_append]; rfl, iv_coR A, iv_ic A⟩
theorem e195 (x : Dsk) (h : x.sm) (i : Int) (ahead : List Int) (ha : ahead.length ≤ 1048576) (hp : (inoOf x i).ptrs.length ≤ 1048576) : E TN 195 [dsk x, .int .i64 i, .ro 1 (ahead.map iv)] [] = some (.own 1 ((dirB (inoOf x i) ahead).map iv), []) := by
  rw [E_eqW t195 (Nat.le_of_ble_eq_true rfl)]
  have e1 := n176 x h i
  generalize inoOf x i = y at *
  unfold dsk at e1
  simp only [ino] at e1
  have hs0 : ((0 : Nat) : Int) = 0 := rfl
  obtain ⟨⟨z, e, m⟩, k1, kx, k2, km, kl⟩ := XL_each (T := TN) (b := 0) (hd := H195_4) (x := L195_4) y.ptrs (dirStep y.kind ahead) (fun i l => ⟨[(2, .ro 1 (ahead.map iv)), (7, .sl 0 0 l.length), (8, .ptr 1 0 0), (16, .ro 1 (y.ptrs.map iv)), (17, .int .i64 y.ptrs.length), (18, .int .i64 (i : Nat))], [some (1, l.map iv), some (3, [.agg [.int .i64 y.kind, .int .i64 y.links, .ro 1 (y.ptrs.map iv)]])]⟩) (fun i l => l.length ≤ i)
    (fun l r => r.1 = .exit 0 ∧ lookA r.2.env 7 = .sl 0 0 l.length ∧ r.2.mem = [some (1, l.map iv), some (3, [.agg [.int .i64 y.kind, .int .i64 y.links, .ro 1 (y.ptrs.map iv)]])] ∧ l.length ≤ y.ptrs.length) (by
      intro i l p hp hi hl
      refine ⟨?_, dirStep_len hl⟩
      have k1 : (i : Int) < (y.ptrs.length : Int) := by omega
      have gp : (y.ptrs.map iv).getD i .undef = .int .i64 p := gD_map hp
      have hw := w_i64 ((i : Int) + 1) (by omega)
      have c3 := n130 ahead p ha
      have c4 := n130 l p (by omega)
      obtain ⟨M, hM, ml, mi, ms, mt, ma, mc, mx⟩ := ivf l p
      rw [hM] at c4
      have hap : (l.length + 1) * 8 ≤ 140737488355328 := by omega
      have al : (l ++ [p]).length = l.length + 1 := by simp
      unfold dirStep
      simp only [hM]
      cases d1 : decide (y.kind = 2) with
      | false =>
        simp only [Bool.false_and, Bool.false_eq_true, if_false]
        rw [hM]
        simp only [XG, L195_4, h195_4, go_sem, seval, bnd_ite, k1, gp, hw, d1, ml, mi, ms, mt, Int.natCast_nonneg, Bool.false_eq_true, if_false]
        first | done | rfl
      | true =>
        cases d2 : decide (p > 0) with
        | false =>
          simp only [Bool.and_false, Bool.false_and, Bool.false_eq_true, if_false]
          rw [hM]
          simp only [XG, L195_4, h195_4, go_sem, seval, bnd_ite, k1, gp, hw, d1, d2, ml, mi, ms, mt, Int.natCast_nonneg, Bool.false_eq_true, if_false, if_true]
          first | done | rfl
        | true =>
          cases d3 : decide (p ∈ ahead) with
          | true =>
            rw [d3] at c3
            simp only [Bool.and_false, Bool.not_true, Bool.false_and, Bool.false_eq_true, if_false]
            rw [hM]
            simp only [XG, L195_4, h195_4, go_sem, seval, bnd_ite, k1, gp, hw, d1, d2, c3, ml, mi, ms, mt, Int.natCast_nonneg, Bool.not_true, Bool.false_eq_true, if_false, if_true]
            first | done | rfl
          | false =>
            rw [d3] at c3
            cases d4 : decide (p ∈ l) with
            | true =>
              rw [d4] at c4
              simp only [Bool.and_false, Bool.not_true, Bool.not_false, Bool.and_true, Bool.false_eq_true, if_false]
              rw [hM]
              simp only [XG, L195_4, h195_4, go_sem, seval, bnd_ite, k1, gp, hw, d1, d2, c3, c4, mc, mx, ml, mi, ms, mt, Int.natCast_nonneg, Bool.not_true, Bool.not_false, Bool.false_eq_true, if_false, if_true]
              first | done | rfl
            | false =>
              rw [d4] at c4
              simp only [Bool.not_false, Bool.and_true, if_true]
              rw [← ma, al]
              simp only [XG, L195_4, h195_4, go_sem, seval, bnd_ite, k1, gp, hw, d1, d2, c3, c4, mc, mx, ml, mi, ms, mt, hap, Int.natCast_nonneg, Bool.not_true, Bool.not_false, Bool.false_eq_true, if_false, if_true]
              first | done | rfl) (by
      intro l hl
      simp only [XG, L195_4, h195_4, go_sem, seval, bnd_ite, Int.lt_irrefl, decide_false]
      exact .mk (by simp) ⟨rfl, rfl, rfl, hl⟩) [] (Nat.le_refl _)
  simp only at kx k2 km kl; subst kx; subst km
  simp only [hs0, List.map_nil, List.length_nil] at k1
  unfold dirB
  generalize y.ptrs.foldl (dirStep y.kind ahead) [] = Q at *
  have tk : (Q.map iv).take Q.length = Q.map iv := List.take_of_length_le (by simp)
  have ms := fun u => is_map u iv Q iv_cool
  simp only [dsk, F195, h195_4, go_sem, seval, bnd_ite, e1, k1, k2, tk, ms]
  first | done | rfl
end Go.Proofs.YtaaajjinpppgeaaGreat
namespace Go.Proofs.YtaaajjinpppgeaaGreat
open Go Go.Abs
set_option maxRecDepth 100000
def sv (s : ByteArray) : AV := .str s
theorem sv_cool (x : ByteArray) : coolX (sv x) = true := rfl
theorem sv_len (x : ByteArray) : (sv x).cells.length = 1 := rfl
theorem sv_mi (g : Bool → Nat → Nat → Nat → AV) (l : List ByteArray) : mapIdL g (l.map sv) = l.map sv := mi_map g sv l sv_cool
theorem sv_is (u : Bool → Nat → Nat → Nat → List Nat) (l : List ByteArray) : idsL u (l.map sv) = [] := is_map u sv l sv_cool
theorem sv_coR (l : List ByteArray) : coolR 1 (l.map sv) = true := coR_map 1 sv l sv_len sv_cool
theorem sv_ice (x : ByteArray) : ice (sv x) = sv x := rfl
theorem sv_ic (l : List ByteArray) : iceL (l.map sv) = l.map sv := by rw [ice_m]; exact List.map_congr_left fun x _ => sv_ice x
theorem sv_rf (x : ByteArray) : (sv x).roFree = true := rfl
theorem sv_rfL (l : List ByteArray) : roFreeL (l.map sv) = true := rf_map sv l sv_rf
theorem sv_no (x : ByteArray) : (sv x).cells.all noOwnC = true := rfl
theorem sv_noL (l : List ByteArray) : (l.map sv).all (fun x => x.cells.all noOwnC) = true := no_map sv l sv_no
attribute [go_sem] sv_mi sv_is sv_coR sv_ic sv_ice sv_rfL sv_noL
end Go.Proofs.YtaaajjinpppgeaaGreat
namespace Go.Proofs.YtaaajjinpppgeaaGreat
open Go Go.Abs
set_option maxRecDepth 100000
theorem e240 (xs : List ByteArray) (y : ByteArray) (ha : xs.length ≤ maxLen) : ∃ r : Int, E T 240 [.ro 1 (xs.map sv), .str y] [] = some (.int .i64 r, []) ∧ (0 ≤ r ↔ y ∈ xs) := by
  rw [E_eq t240 (Nat.le_of_ble_eq_true rfl)]
  simp only [F240, h240_2, go_sem, seval, bnd_ite]
  unfold maxLen at ha
  refine (XL_inv (T := T) (b := 0) (hd := H240_2) (x := L240_2) (β := Unit) (fun i _ => ⟨[(0, .ro 1 (xs.map sv)), (1, .str y), (7, .int .i64 xs.length), (8, .int .i64 (i : Nat))], []⟩)
    (fun i _ => y ∉ xs.take i) xs.length (fun r => (r.1 = .exit 0 ∧ y ∉ xs) ∨ (r.1 = .ret ∧ ∃ n : Nat, lookA r.2.env 4 = .int .i64 n ∧ y ∈ xs)) ?step ?last 0 () (by omega) (by simp)).elim ?main
  case step =>
    intro i _ hi hI
    obtain ⟨p, hp⟩ := get_at hi
    have hi1 : (i : Int) < (xs.length : Int) := by omega
    simp only [XG, L240_2, h240_2, go_sem, seval, bnd_ite, hi1, gD_map hp, sv, Int.natCast_nonneg, w_i64 ((i : Int) + 1) (by omega)]
    by_cases he : y = p
    · right
      simp only [he, decide_true, if_true]
      exact .mk (by simp) (.inr ⟨rfl, i, rfl, List.mem_of_getElem? hp⟩)
    · left
      simp only [he, decide_false, Bool.false_eq_true, if_false]
      exact ⟨(), rfl, by rw [take_snoc hp]; simp [hI, he]⟩
  case last =>
    intro _ hI
    rw [List.take_length] at hI
    simp only [XG, L240_2, h240_2, go_sem, seval, bnd_ite, Int.lt_irrefl, decide_false]
    exact .mk (by simp) (.inl ⟨rfl, hI⟩)
  case main =>
  rintro ⟨x, st⟩ ⟨h1, h2, h3⟩
  have hs : ((0 : Nat) : Int) = 0 := rfl
  rw [hs] at h1
  simp only [h1]
  obtain ⟨e, m⟩ := st
  rcases h3 with ⟨hx, h4⟩ | ⟨hx, n, h4, h5⟩
  · simp only at hx; subst hx
    simp only [go_sem, seval]; exact ⟨-1, rfl, by simp [h4]⟩
  · simp only at hx h4; subst hx
    simp only [go_sem, seval, h4]; exact ⟨n, rfl, by simp [h5]⟩
theorem e196 (xs : List ByteArray) (y : ByteArray) (ha : xs.length ≤ maxLen) : E T 196 [.ro 1 (xs.map sv), .str y] [] = some (.bool (xs.any fun n => decide (n = y)), []) := by
  rw [E_eq t196 (Nat.le_of_ble_eq_true rfl)]
  obtain ⟨r, h1, h2⟩ := e240 xs y ha
  have h3 : decide (0 ≤ r) = xs.any fun n => decide (n = y) := by
    rw [Bool.eq_iff_iff, decide_eq_true_eq, List.any_eq_true]
    constructor
    · intro h
      exact ⟨y, h2.1 h, by simp⟩
    · rintro ⟨n, hn, he⟩
      have : n = y := by simpa using he
      subst this; exact h2.2 hn
  simp only [F196, go_sem, seval, bnd_ite, h1]
  rw [← h3]
  try rfl
end Go.Proofs.YtaaajjinpppgeaaGreat
namespace Go.Proofs.YtaaajjinpppgeaaGreat
open Go Go.Abs
set_option maxRecDepth 100000
theorem n176g (inos : List Ino) (U V R : List AV) (i : Int) (hl : inos.length ≤ 1048576) (hc : inside i 1 inos.length = true) (p : Ino) (hp : inos[(i - 1).toNat]? = some p) : E TN 143 [.agg [.ro 1 U, .ro 1 V, .ro 3 (inos.map ino), .ro 3 R], .int .i64 i] [] = some (ino p, []) := by
  rw [eN rfl t143, E_eqW t143 (Nat.le_of_ble_eq_true rfl)]
  have hc' := hc
  simp only [inside, Bool.and_eq_true, decide_eq_true_eq] at hc'
  have gp : (inos.map ino).getD (i - 1).toNat .undef = .agg [.int .i64 p.kind, .int .i64 p.links, .ro 1 (p.ptrs.map iv)] := gD_map hp
  have b1 : 0 ≤ i - 1 := by omega
  have b2 : i - 1 < (inos.length : Int) := by omega
  simp only [F143, go_sem, seval, bnd_ite, e105i, hc, gp, b1, b2, w_i64 (i - 1) (by omega), ino]
def m16 (x : Dsk) (R : List AV) (ahead dirs bs : List Int) (names : List ByteArray) (S : List Slt) : Mem :=
  [some (4, [.agg [.nil, .nil, .nil, .nil]]), some (4, [.agg [.own 1 (x.used.map bv), .own 1 (x.taken.map bv), .own 3 (x.inos.map inoO), .own 3 R]]), some (1, ahead.map iv), some (1, dirs.map iv), some (1, names.map sv), some (1, bs.map iv), some (2, S.map slt)]
theorem n177 (xs : List ByteArray) (y : ByteArray) (ha : xs.length ≤ 1048576) : E TN 196 [.ro 1 (xs.map sv), .str y] [] = some (.bool (xs.any fun n => decide (n = y)), []) := by
  rw [eN rfl t196]; exact e196 xs y (by unfold maxLen; omega)
def s16 (x : Dsk) (B : List AV) (k : Nat) (b : Blk) (ahead bs : List Int) (p io j : Int) (names : List ByteArray) (dirs : List Int) (S : List Slt) (q : Nat) : St :=
  ⟨[(2, .ptr 0 0 0), (3, .ptr 1 0 0), (4, .sl 2 0 ahead.length), (5, .sl 3 0 dirs.length), (6, .int .i64 io), (7, .sl 4 0 names.length), (8, .sl 5 0 bs.length), (10, .int .i64 p), (31, .sl 5 0 bs.length), (32, .int .i64 bs.length), (33, .int .i64 j), (43, .sl 6 0 S.length), (44, .int .i64 S.length), (45, .int .i64 (q : Nat))],
   m16 x (B.set k (.agg [.bool b.dir, .sl 6 0 S.length, .str b.text])) ahead dirs bs names S⟩
def NmP (x : Dsk) (y : Ino) (s : Slt) (S : List Slt) (q : Nat) (names : List ByteArray) (dirs : List Int) : List Slt × List ByteArray × List Int :=
  if ((decide (y.kind = 0) || decide (s.ino = 1)) || (names.any fun n => decide (n = s.name))) || decide (s.ino ∈ dirs) then (S.set q ⟨⟨#[]⟩, 0⟩, names, dirs)
  else (S, names ++ [s.name], if decide (y.kind = 2) then dirs ++ [s.ino] else dirs)
theorem st16 (x : Dsk) (hl : x.inos.length = 8) (blks : List Blk) (k : Nat) (hk : k < 16) (hb : blks.length = 16) (b : Blk) (ahead dirs bs : List Int) (names : List ByteArray) (S : List Slt) (p io j : Int) (hp : p = (k : Int) + 1) (q : Nat) (s : Slt) (hs : S[q]? = some s) (hne : decide (s.name = ⟨#[]⟩) = false)
    (hS : S.length ≤ 1000) (hnl : names.length ≤ 100000) (hdl : dirs.length ≤ 100000) (y : Ino) (hin : inside s.ino 1 8 = true) (hy : x.inos[(s.ino - 1).toNat]? = some y) :
    XG TN 0 H101_16 L101_16 (s16 x (blks.map blkO) k b ahead bs p io j names dirs S q) = some (.normal, s16 x (blks.map blkO) k b ahead bs p io j (NmP x y s S q names dirs).2.1 (NmP x y s S q names dirs).2.2 (NmP x y s S q names dirs).1 (q + 1)) := by
  have hq := (List.getElem?_eq_some_iff.1 hs).1
  have k1 : (q : Int) < (S.length : Int) := by omega
  have gs : (S.map slt).getD q .undef = .agg [.str s.name, .int .i64 s.ino] := gD_map hs
  have tkS : (S.map slt).take S.length = S.map slt := List.take_of_length_le (by simp)
  obtain ⟨Q, hQ⟩ : ∃ Q, (blks.set k { b with slots := S }).map blkO = Q := ⟨_, rfl⟩
  have hset : (blks.map blkO).set k (.agg [.bool b.dir, .own 2 (S.map slt), .str b.text]) = Q := by rw [← hQ, List.map_set]; rfl
  have qc : coolR 3 Q = true := by rw [← hQ]; exact blkO_coR _
  have qi : iceL Q = (blks.set k { b with slots := S }).map blk := by rw [← hQ]; exact blkO_ic _
  obtain ⟨B, hB⟩ : ∃ B, blks.map blkO = B := ⟨_, rfl⟩
  have bmi : ∀ g, mapIdL g B = B := fun g => by rw [← hB]; exact mi_map g blkO blks blkO_cool
  have bms : ∀ u, idsL u B = [] := fun u => by rw [← hB]; exact is_map u blkO blks blkO_cool
  have bl : B.length = 16 := by rw [← hB]; simp [hb]
  rw [hB] at hset
  have tQ : Q.take 16 = Q := List.take_of_length_le (by rw [← hQ]; simp [hb])
  have e1 := n176g x.inos (x.used.map bv) (x.taken.map bv) ((blks.set k { b with slots := S }).map blk) s.ino (by omega) (by rw [hl]; exact hin) y hy
  simp only [ino] at e1
  have e2 := n177 names s.name (by omega)
  have e3 := n130 dirs s.ino (by omega)
  have hw := w_i64 ((q : Int) + 1) (by omega)
  have tn : (names.map sv).take names.length = names.map sv := List.take_of_length_le (by simp)
  have td : (dirs.map iv).take dirs.length = dirs.map iv := List.take_of_length_le (by simp)
  have nc := sv_coR names
  have ni := sv_ic names
  have dc := iv_coR dirs
  have di := iv_ic dirs
  have pk : (p + -1).toNat = k := by omega
  have pk2 : (p - 1).toNat = k := by omega
  have wp := w_i64 (p - 1) (by omega)
  have p0 : (0 : Int) ≤ p - 1 := by omega
  have p16 : p - 1 < 16 := by omega
  have sg : ∀ v : AV, (B.set k v).getD k .undef = v := fun v => by
    rw [List.getD, List.getElem?_set_self (by omega)]; rfl
  have ss : ∀ v w : AV, (B.set k v).set k w = B.set k w := fun v w => by rw [List.set_set]
  have tB : ∀ v : AV, (B.set k v).take 16 = B.set k v := fun v => List.take_of_length_le (by simp [bl])
  have na : names.map sv ++ [AV.str s.name] = (names ++ [s.name]).map sv := by rw [List.map_append]; rfl
  have da : dirs.map iv ++ [AV.int .i64 s.ino] = (dirs ++ [s.ino]).map iv := by rw [List.map_append]; rfl
  have nal : (names ++ [s.name]).length = names.length + 1 := by simp
  have dal : (dirs ++ [s.ino]).length = dirs.length + 1 := by simp
  have tn' : ((names ++ [s.name]).map sv).take (names.length + 1) = (names ++ [s.name]).map sv := List.take_of_length_le (by simp)
  have td' : ((dirs ++ [s.ino]).map iv).take (dirs.length + 1) = (dirs ++ [s.ino]).map iv := List.take_of_length_le (by simp)
  have hset2 : (S.map slt).set q (.agg [.str ⟨#[]⟩, .int .i64 0]) = (S.set q ⟨⟨#[]⟩, 0⟩).map slt := by rw [List.map_set]; rfl
  have sl2 : (S.set q (⟨⟨#[]⟩, 0⟩ : Slt)).length = S.length := List.length_set
  have nm := sv_mi
  have nis := sv_is
  have hap1 : (names.length + 1) * 16 ≤ 140737488355328 := by omega
  have hap2 : (dirs.length + 1) * 8 ≤ 140737488355328 := by omega
  unfold s16 NmP m16
  rw [hB]
  cases d1 : decide (y.kind = 0) with
  | true =>
    simp only [Bool.true_or, if_true]
    simp only [XG, L101_16, h101_16, go_sem, seval, bnd_ite, k1, hq, gs, hne, tkS, bmi, bms, bl, hset, tQ, qc, qi, e1, e2, e3, hw, tn, td, nc, ni, dc, di, pk, pk2, wp, p0, p16, hk, sg, ss, tB, is_set, na, da, nal, dal, tn', td', hap1, hap2, Int.natCast_nonneg, Bool.or_self, Bool.false_eq_true, if_false, if_true, d1, Bool.or_true, Bool.true_or, hset2, sl2, Bool.not_true, Bool.not_false]
    first | done | rfl
  | false =>
    cases d2 : decide (s.ino = 1) with
    | true =>
      simp only [Bool.true_or, Bool.or_true, if_true]
      simp only [XG, L101_16, h101_16, go_sem, seval, bnd_ite, k1, hq, gs, hne, tkS, bmi, bms, bl, hset, tQ, qc, qi, e1, e2, e3, hw, tn, td, nc, ni, dc, di, pk, pk2, wp, p0, p16, hk, sg, ss, tB, is_set, na, da, nal, dal, tn', td', hap1, hap2, Int.natCast_nonneg, Bool.or_self, Bool.false_eq_true, if_false, if_true, d1, d2, Bool.or_true, Bool.true_or, hset2, sl2, Bool.not_true, Bool.not_false]
      first | done | rfl
    | false =>
      cases d3 : (names.any fun n => decide (n = s.name)) with
      | true =>
        rw [d3] at e2
        simp only [Bool.true_or, Bool.or_true, if_true]
        simp only [XG, L101_16, h101_16, go_sem, seval, bnd_ite, k1, hq, gs, hne, tkS, bmi, bms, bl, hset, tQ, qc, qi, e1, e2, e3, hw, tn, td, nc, ni, dc, di, pk, pk2, wp, p0, p16, hk, sg, ss, tB, is_set, na, da, nal, dal, tn', td', hap1, hap2, Int.natCast_nonneg, Bool.or_self, Bool.false_eq_true, if_false, if_true, d1, d2, Bool.or_true, Bool.true_or, hset2, sl2, Bool.not_true, Bool.not_false]
        first | done | rfl
      | false =>
        rw [d3] at e2
        cases d4 : decide (s.ino ∈ dirs) with
        | true =>
          rw [d4] at e3
          simp only [Bool.true_or, Bool.or_true, if_true]
          simp only [XG, L101_16, h101_16, go_sem, seval, bnd_ite, k1, hq, gs, hne, tkS, bmi, bms, bl, hset, tQ, qc, qi, e1, e2, e3, hw, tn, td, nc, ni, dc, di, pk, pk2, wp, p0, p16, hk, sg, ss, tB, is_set, na, da, nal, dal, tn', td', hap1, hap2, Int.natCast_nonneg, Bool.or_self, Bool.false_eq_true, if_false, if_true, d1, d2, Bool.or_true, Bool.true_or, hset2, sl2, Bool.not_true, Bool.not_false]
          first | done | rfl
        | false =>
          rw [d4] at e3
          simp only [Bool.or_self, Bool.false_eq_true, if_false]
          cases d5 : decide (y.kind = 2) with
          | true =>
            simp only [if_true]
            simp only [XG, L101_16, h101_16, go_sem, seval, bnd_ite, k1, hq, gs, hne, tkS, bmi, bms, bl, hset, tQ, qc, qi, e1, e2, e3, hw, tn, td, nc, ni, dc, di, pk, pk2, wp, p0, p16, hk, sg, ss, tB, is_set, na, da, nal, dal, tn', td', hap1, hap2, Int.natCast_nonneg, Bool.or_self, Bool.false_eq_true, if_false, if_true, d1, d2, d5, Bool.or_true, Bool.true_or, hset2, sl2, Bool.not_true, Bool.not_false]
            first | done | rfl
          | false =>
            simp only [Bool.false_eq_true, if_false]
            simp only [XG, L101_16, h101_16, go_sem, seval, bnd_ite, k1, hq, gs, hne, tkS, bmi, bms, bl, hset, tQ, qc, qi, e1, e2, e3, hw, tn, td, nc, ni, dc, di, pk, pk2, wp, p0, p16, hk, sg, ss, tB, is_set, na, da, nal, dal, tn', td', hap1, hap2, Int.natCast_nonneg, Bool.or_self, Bool.false_eq_true, if_false, if_true, d1, d2, d5, Bool.or_true, Bool.true_or, hset2, sl2, Bool.not_true, Bool.not_false]
            first | done | rfl
end Go.Proofs.YtaaajjinpppgeaaGreat
namespace Go.Proofs.YtaaajjinpppgeaaGreat
open Go Go.Abs
set_option maxRecDepth 100000
theorem n126 (xs : List Int) (y : Int) (ha : xs.length ≤ maxLen) : E TN 77 [.ro 1 (xs.map iv), .int .i64 y] [] = some (.bool (decide (y ∈ xs)), []) := by rw [eN rfl t77]; exact e77 xs y ha
theorem k174 (inos : List Ino) (U V R : List AV) (s : Slt) (names : List ByteArray) (dirs : List Int) (hl : inos.length = 8) (hin : inside s.ino 1 8 = true) (y : Ino) (hy : inos[(s.ino - 1).toNat]? = some y) (hn : names.length ≤ 100000) (hd : dirs.length ≤ 100000) :
    E TN 194 [.agg [.ro 1 U, .ro 1 V, .ro 3 (inos.map ino), .ro 3 R], .agg [.str s.name, .int .i64 s.ino], .ro 1 (names.map sv), .ro 1 (dirs.map iv)] [] = some (.bool (keepS inos names dirs s), []) := by
  rw [E_eq t194 (Nat.le_of_ble_eq_true rfl)]
  have e1 := n126 dirs s.ino (by unfold maxLen; omega)
  have hin' := hin
  simp only [inside, Bool.and_eq_true, decide_eq_true_eq] at hin'
  have gp : (inos.map ino).getD (s.ino - 1).toNat .undef = .agg [.int .i64 y.kind, .int .i64 y.links, .ro 1 (y.ptrs.map iv)] := gD_map hy
  have b1 : 0 ≤ s.ino - 1 := by omega
  have b2 : s.ino - 1 < 8 := by omega
  have w := w_i64 (s.ino - 1) (by omega)
  have gy : inos.getD (s.ino - 1).toNat ⟨0, 0, []⟩ = y := by rw [List.getD, hy]; rfl
  unfold keepS
  rw [gy]
  have hs : ((0 : Nat) : Int) = 0 := rfl
  have lp := XL_inv (T := TN) (b := 0) (hd := H194_4) (x := L194_4) (β := Unit) (fun i _ => ⟨[(2, .ro 1 (names.map sv)), (5, .ptr 0 0 0), (9, .int .i64 (i : Nat))], [some (2, [.agg [.str s.name, .int .i64 s.ino]])]⟩)
    (fun i _ => (names.take i).any (fun n => decide (n = s.name)) = false) names.length (fun r => (r.1 = .exit 0 ∧ (names.any fun n => decide (n = s.name)) = false ∧ r.2.mem = [some (2, [.agg [.str s.name, .int .i64 s.ino]])]) ∨ (r.1 = .ret ∧ lookA r.2.env 8 = .bool false ∧ (names.any fun n => decide (n = s.name)) = true)) (by
      intro i _ hi hI
      obtain ⟨p, hp⟩ := get_at hi
      have hi1 : (i : Int) < (names.length : Int) := by omega
      simp only [XG, L194_4, h194_4, go_sem, seval, bnd_ite, hi1, gD_map hp, sv, Int.natCast_nonneg, w_i64 ((i : Int) + 1) (by omega)]
      by_cases he : p = s.name
      · right
        simp only [he, decide_true, if_true]
        exact .mk (by simp) (.inr ⟨rfl, rfl, by rw [List.any_eq_true]; exact ⟨p, List.mem_of_getElem? hp, by simp [he]⟩⟩)
      · left
        simp only [he, decide_false, Bool.false_eq_true, if_false]
        exact ⟨(), rfl, by rw [take_snoc hp, List.any_append, hI]; simp [he]⟩) (by
      intro _ hI
      rw [List.take_length] at hI
      simp only [XG, L194_4, h194_4, go_sem, seval, bnd_ite, Int.lt_irrefl, decide_false]
      exact .mk (by simp) (.inl ⟨rfl, hI, rfl⟩)) 0 () (by omega) (by simp)
  obtain ⟨⟨x, e, m⟩, h1, h2, h3⟩ := lp
  rw [hs] at h1
  cases d1 : decide (s.ino = 1) with
  | true =>
    simp only [F194, h194_4, go_sem, seval, bnd_ite, d1, e1, gp, b1, b2, w, hl, Bool.true_or, Bool.not_true, Bool.false_and, if_true]
    try rfl
  | false =>
    cases d2 : decide (y.kind = 0) with
    | true =>
      simp only [F194, h194_4, go_sem, seval, bnd_ite, d1, d2, e1, gp, b1, b2, w, hl, Bool.true_or, Bool.or_true, Bool.not_true, Bool.false_and, if_true]
      try rfl
    | false =>
      cases d3 : decide (s.ino ∈ dirs) with
      | true =>
        rw [d3] at e1
        simp only [F194, h194_4, go_sem, seval, bnd_ite, d1, d2, e1, gp, b1, b2, w, hl, Bool.true_or, Bool.or_true, Bool.not_true, Bool.false_and, if_true]
        try rfl
      | false =>
        rw [d3] at e1
        rcases h3 with ⟨hx, h4, h5⟩ | ⟨hx, h4, h5⟩
        · simp only at hx h5; subst hx; subst h5
          simp only [F194, h194_4, go_sem, seval, bnd_ite, d1, d2, e1, gp, b1, b2, w, hl, h1, h4, Bool.or_self, Bool.not_false, Bool.true_and, Bool.and_true, Bool.false_eq_true, if_false]
          try rfl
        · simp only at hx h4; subst hx
          simp only [F194, h194_4, go_sem, seval, bnd_ite, d1, d2, e1, gp, b1, b2, w, hl, h1, h4, h5, Bool.or_self, Bool.not_false, Bool.not_true, Bool.true_and, Bool.and_false, Bool.and_true, Bool.false_eq_true, if_false]
          try rfl
end Go.Proofs.YtaaajjinpppgeaaGreat
namespace Go.Proofs.YtaaajjinpppgeaaGreat
open Go Go.Abs
set_option maxRecDepth 100000
theorem st16e (x : Dsk) (blks : List Blk) (k : Nat) (hk : k < 16) (hb : blks.length = 16) (b : Blk) (ahead dirs bs : List Int) (names : List ByteArray) (S : List Slt) (p io j : Int) (hp : p = (k : Int) + 1) (q : Nat) (s : Slt) (hs : S[q]? = some s) (hne : decide (s.name = ⟨#[]⟩) = true) (hS : S.length ≤ 1000) :
    XG TN 0 H101_16 L101_16 (s16 x (blks.map blkO) k b ahead bs p io j names dirs S q) = some (.normal, s16 x (blks.map blkO) k b ahead bs p io j names dirs S (q + 1)) := by
  have hq := (List.getElem?_eq_some_iff.1 hs).1
  have k1 : (q : Int) < (S.length : Int) := by omega
  have gs : (S.map slt).getD q .undef = .agg [.str s.name, .int .i64 s.ino] := gD_map hs
  obtain ⟨B, hB⟩ : ∃ B, blks.map blkO = B := ⟨_, rfl⟩
  have bmi : ∀ g, mapIdL g B = B := fun g => by rw [← hB]; exact mi_map g blkO blks blkO_cool
  have bms : ∀ u, idsL u B = [] := fun u => by rw [← hB]; exact is_map u blkO blks blkO_cool
  have bl : B.length = 16 := by rw [← hB]; simp [hb]
  have hw := w_i64 ((q : Int) + 1) (by omega)
  have tkS : (S.map slt).take S.length = S.map slt := List.take_of_length_le (by simp)
  have pk : (p + -1).toNat = k := by omega
  have pk2 : (p - 1).toNat = k := by omega
  have sg : ∀ v : AV, (B.set k v).getD k .undef = v := fun v => by
    rw [List.getD, List.getElem?_set_self (by omega)]; rfl
  have ss : ∀ v w : AV, (B.set k v).set k w = B.set k w := fun v w => by rw [List.set_set]
  have tB : ∀ v : AV, (B.set k v).take 16 = B.set k v := fun v => List.take_of_length_le (by simp [bl])
  unfold s16 m16
  rw [hB]
  simp only [XG, L101_16, h101_16, go_sem, seval, bnd_ite, k1, hq, gs, hne, tkS, bmi, bms, bl, hw, pk, pk2, hk, sg, ss, tB, is_set, Int.natCast_nonneg, if_true]
  first | done | rfl
theorem slStep_len (inos : List Ino) (st : NmS) (s : Slt) : (slStep inos st s).out.length = st.out.length + 1 ∧ (slStep inos st s).names.length ≤ st.names.length + 1 ∧ (slStep inos st s).dirs.length ≤ st.dirs.length + 1 := by
  unfold slStep
  split
  · simp
  · split
    · simp only [List.length_append, List.length_singleton, Nat.le_refl, true_and]
      split <;> simp
    · simp
theorem lp16 (x : Dsk) (hl : x.inos.length = 8) (blks : List Blk) (k : Nat) (hk : k < 16) (hb : blks.length = 16) (b : Blk) (ahead bs : List Int) (p io j : Int) (hp : p = (k : Int) + 1) (S0 : List Slt) (hS : S0.length = 4 ∨ S0.length = 0) (hin : ∀ s ∈ S0, s.name ≠ ⟨#[]⟩ → inside s.ino 1 8 = true) (names : List ByteArray) (dirs : List Int) (hn : names.length ≤ 1000) (hd : dirs.length ≤ 1000) :
    ∃ r, XL TN 0 H101_16 L101_16 (s16 x (blks.map blkO) k b ahead bs p io j names dirs S0 0) = some r ∧ r.1 = .exit 4 ∧
      ∃ e, r.2 = ⟨e, m16 x ((blks.map blkO).set k (.agg [.bool b.dir, .sl 6 0 S0.length, .str b.text])) ahead (S0.foldl (slStep x.inos) ⟨[], names, dirs⟩).dirs bs (S0.foldl (slStep x.inos) ⟨[], names, dirs⟩).names (S0.foldl (slStep x.inos) ⟨[], names, dirs⟩).out⟩ ∧
        lookA e 2 = .ptr 0 0 0 ∧ lookA e 3 = .ptr 1 0 0 ∧ lookA e 4 = .sl 2 0 ahead.length ∧ lookA e 5 = .sl 3 0 (S0.foldl (slStep x.inos) ⟨[], names, dirs⟩).dirs.length ∧ lookA e 6 = .int .i64 io ∧ lookA e 7 = .sl 4 0 (S0.foldl (slStep x.inos) ⟨[], names, dirs⟩).names.length ∧ lookA e 8 = .sl 5 0 bs.length ∧ lookA e 31 = .sl 5 0 bs.length ∧ lookA e 32 = .int .i64 bs.length ∧ lookA e 33 = .int .i64 j := by
  have h4 : S0.length ≤ 4 := by omega
  have := XL_each (T := TN) (b := 0) (hd := H101_16) (x := L101_16) S0 (slStep x.inos) (fun q st => s16 x (blks.map blkO) k b ahead bs p io j st.names st.dirs (st.out ++ S0.drop q) q) (fun q st => st.out.length = q ∧ st.names.length ≤ 1000 + q ∧ st.dirs.length ≤ 1000 + q)
    (fun st r => r.1 = .exit 4 ∧ ∃ e, r.2 = ⟨e, m16 x ((blks.map blkO).set k (.agg [.bool b.dir, .sl 6 0 S0.length, .str b.text])) ahead st.dirs bs st.names st.out⟩ ∧
        lookA e 2 = .ptr 0 0 0 ∧ lookA e 3 = .ptr 1 0 0 ∧ lookA e 4 = .sl 2 0 ahead.length ∧ lookA e 5 = .sl 3 0 st.dirs.length ∧ lookA e 6 = .int .i64 io ∧ lookA e 7 = .sl 4 0 st.names.length ∧ lookA e 8 = .sl 5 0 bs.length ∧ lookA e 31 = .sl 5 0 bs.length ∧ lookA e 32 = .int .i64 bs.length ∧ lookA e 33 = .int .i64 j) (by
      intro q st s hs hq hI
      obtain ⟨i1, i2, i3⟩ := hI
      obtain ⟨g1, g2, g3⟩ := slStep_len x.inos st s
      refine ⟨?_, by omega, by omega, by omega⟩
      have hs' : (st.out ++ S0.drop q)[q]? = some s := by
        rw [List.getElem?_append_right (by omega), i1, Nat.sub_self, List.getElem?_drop]; exact hs
      have hdrop : S0.drop q = s :: S0.drop (q + 1) := by
        obtain ⟨hh, rfl⟩ := List.getElem?_eq_some_iff.1 hs
        exact List.drop_eq_getElem_cons hh
      have hlen : (st.out ++ S0.drop q).length ≤ 1000 := by simp; omega
      have happ : ∀ v : Slt, (st.out ++ S0.drop q).set q v = (st.out ++ [v]) ++ S0.drop (q + 1) := fun v => by
        rw [hdrop, List.set_append_right _ _ (by omega), i1, Nat.sub_self, List.append_assoc]; rfl
      by_cases hne : s.name = ⟨#[]⟩
      · have e := st16e x blks k hk hb b ahead st.dirs bs st.names (st.out ++ S0.drop q) p io j hp q s hs' (decide_eq_true hne) hlen
        unfold slStep
        rw [if_pos hne, e]
        have : st.out ++ S0.drop q = (st.out ++ [s]) ++ S0.drop (q + 1) := by rw [hdrop, List.append_assoc]; rfl
        rw [this]
      · have hi := hin s (List.mem_of_getElem? hs) hne
        have hi' := hi
        simp only [inside, Bool.and_eq_true, decide_eq_true_eq] at hi'
        obtain ⟨y, hy⟩ := get_at (show (s.ino - 1).toNat < x.inos.length by omega)
        have e := st16 x hl blks k hk hb b ahead st.dirs bs st.names (st.out ++ S0.drop q) p io j hp q s hs' (decide_eq_false hne) hlen (by omega) (by omega) y hi hy
        rw [e]
        have gy : x.inos.getD (s.ino - 1).toNat ⟨0, 0, []⟩ = y := by rw [List.getD, hy]; rfl
        unfold slStep NmP keepS
        rw [if_neg hne, gy]
        have hadd : st.out ++ S0.drop q = (st.out ++ [s]) ++ S0.drop (q + 1) := by rw [hdrop, List.append_assoc]; rfl
        cases d1 : decide (y.kind = 0) <;> cases d2 : decide (s.ino = 1) <;> cases d3 : (st.names.any fun n => decide (n = s.name)) <;> cases d4 : decide (s.ino ∈ st.dirs) <;>
          simp only [Bool.or_self, Bool.or_true, Bool.true_or, Bool.or_false, Bool.false_or, Bool.not_true, Bool.not_false, Bool.and_true, Bool.and_false, Bool.true_and, Bool.false_and, Bool.and_self, Bool.false_eq_true, if_true, if_false, happ, slt0] <;>
          first
            | rfl
            | (rw [hadd]; by_cases d5 : y.kind = 2 <;> simp [d5])) (by
      intro st hI
      obtain ⟨i1, i2, i3⟩ := hI
      have hd0 : S0.drop S0.length = [] := List.drop_length
      rw [hd0, List.append_nil]
      unfold s16 m16
      simp only [XG, L101_16, h101_16, go_sem, seval, bnd_ite, i1, Int.lt_irrefl, decide_false]
      exact .mk (by simp) ⟨rfl, _, rfl, rfl, rfl, rfl, rfl, rfl, rfl, rfl, rfl, rfl, rfl⟩) ⟨[], names, dirs⟩ ⟨rfl, by omega, by omega⟩
  simpa using this
end Go.Proofs.YtaaajjinpppgeaaGreat
namespace Go.Proofs.YtaaajjinpppgeaaGreat
open Go Go.Abs
set_option maxRecDepth 100000
def m18 (x : Dsk) (I B : List AV) (y : Ino) (tx : ByteArray) (dirs seen : List Int) (names : List ByteArray) (S : List Slt) : Mem :=
  [some (4, [.agg [.nil, .nil, .nil, .nil]]), some (4, [.agg [.own 1 (x.used.map bv), .own 1 (x.taken.map bv), .sl 7 0 8, .sl 8 0 16]]), some (1, dirs.map iv), some (1, seen.map iv), some (3, [.agg [.int .i64 y.kind, .int .i64 y.links, .sl 9 0 2]]), some (1, names.map sv),
    some (3, [.agg [.bool true, .sl 10 0 4, .str tx]]), some (3, I), some (3, B), some (1, y.ptrs.map iv), some (2, S.map slt)]
def s18 (x : Dsk) (I B : List AV) (i : Nat) (y : Ino) (kk : Nat) (tx : ByteArray) (k : Nat) (dirs seen : List Int) (names : List ByteArray) (S : List Slt) (q : Nat) : St :=
  ⟨[(2, .ptr 0 0 0), (3, .ptr 1 0 0), (4, .sl 2 0 dirs.length), (5, .sl 3 0 seen.length), (6, .int .i64 (i : Nat)), (7, .ptr 4 0 0), (8, .sl 5 0 names.length), (9, .int .i64 (k : Nat)), (10, .ptr 6 0 0), (12, .int .i64 (q : Nat))],
   m18 x (I.set i (.agg [.int .i64 y.kind, .int .i64 y.links, .sl 9 0 2])) (B.set kk (.agg [.bool true, .sl 10 0 4, .str tx])) y tx dirs seen names S⟩
theorem st18e (x : Dsk) (hl : x.inos.length = 8) (blks : List Blk) (i : Nat) (hi : i < 8) (y : Ino) (hy2 : y.ptrs.length = 2) (kk : Nat) (hk : kk < 16) (hb : blks.length = 16) (tx : ByteArray) (k : Nat) (hk2 : k < 2) (dirs seen : List Int) (names : List ByteArray) (S : List Slt) (hS : S.length = 4) (q : Nat) (s : Slt) (hs : S[q]? = some s) (hne : decide (s.name = ⟨#[]⟩) = true) :
    XG TN 0 H99_18 L99_18 (s18 x (x.inos.map inoO) (blks.map blkO) i y kk tx k dirs seen names S q) = some (.normal, s18 x (x.inos.map inoO) (blks.map blkO) i y kk tx k dirs seen names S (q + 1)) := by
  have hq := (List.getElem?_eq_some_iff.1 hs).1
  have k1 : (q : Int) < (4 : Int) := by omega
  have q4 : q < 4 := by omega
  have gs : (S.map slt).getD q .undef = .agg [.str s.name, .int .i64 s.ino] := gD_map hs
  obtain ⟨I, hI⟩ : ∃ I, x.inos.map inoO = I := ⟨_, rfl⟩
  have imi : ∀ g, mapIdL g I = I := fun g => by rw [← hI]; exact mi_map g inoO x.inos inoO_cool
  have ims : ∀ u, idsL u I = [] := fun u => by rw [← hI]; exact is_map u inoO x.inos inoO_cool
  have il : I.length = 8 := by rw [← hI]; simp [hl]
  have isg : ∀ v : AV, (I.set i v).getD i .undef = v := fun v => by rw [List.getD, List.getElem?_set_self (by omega)]; rfl
  have iss : ∀ v w : AV, (I.set i v).set i w = I.set i w := fun v w => by rw [List.set_set]
  obtain ⟨B, hB⟩ : ∃ B, blks.map blkO = B := ⟨_, rfl⟩
  have bmi : ∀ g, mapIdL g B = B := fun g => by rw [← hB]; exact mi_map g blkO blks blkO_cool
  have bms : ∀ u, idsL u B = [] := fun u => by rw [← hB]; exact is_map u blkO blks blkO_cool
  have bl : B.length = 16 := by rw [← hB]; simp [hb]
  have hw := w_i64 ((q : Int) + 1) (by omega)
  have sg : ∀ v : AV, (B.set kk v).getD kk .undef = v := fun v => by rw [List.getD, List.getElem?_set_self (by omega)]; rfl
  have ss : ∀ v w : AV, (B.set kk v).set kk w = B.set kk w := fun v w => by rw [List.set_set]
  unfold s18 m18
  rw [hB, hI]
  simp only [XG, L99_18, h99_18, go_sem, seval, bnd_ite, k1, q4, hq, hS, gs, hne, imi, ims, il, isg, iss, bmi, bms, bl, hw, hk, hi, sg, ss, is_set, Int.natCast_nonneg, if_true]
  first | done | rfl
theorem st18 (x : Dsk) (hl : x.inos.length = 8) (blks : List Blk) (i : Nat) (hi : i < 8) (y : Ino) (hyi : x.inos[i]? = some y) (hy2 : y.ptrs.length = 2) (kk : Nat) (hk : kk < 16) (hb : blks.length = 16) (b : Blk) (hbd : b.dir = true) (p : Int) (hp : p = (kk : Int) + 1) (k : Nat) (hpk : y.ptrs[k]? = some p) (dirs seen : List Int) (names : List ByteArray) (S : List Slt) (hS : S.length = 4) (q : Nat) (s : Slt) (hs : S[q]? = some s) (hne : decide (s.name = ⟨#[]⟩) = false)
    (hnl : names.length ≤ 100000) (hdl : dirs.length ≤ 100000) (z : Ino) (hin : inside s.ino 1 8 = true) (hz : x.inos[(s.ino - 1).toNat]? = some z) :
    XG TN 0 H99_18 L99_18 (s18 x (x.inos.map inoO) (blks.map blkO) i y kk b.text k dirs seen names S q) = some (.normal, s18 x (x.inos.map inoO) (blks.map blkO) i y kk b.text k (if keepS x.inos names dirs s then (if z.kind = 2 then dirs ++ [s.ino] else dirs) else dirs) seen (if keepS x.inos names dirs s then names ++ [s.name] else names) (if keepS x.inos names dirs s then S else S.set q ⟨⟨#[]⟩, 0⟩) (q + 1)) := by
  have hq := (List.getElem?_eq_some_iff.1 hs).1
  have hk2 : k < 2 := by have := (List.getElem?_eq_some_iff.1 hpk).1; omega
  have k1 : (q : Int) < (4 : Int) := by omega
  have q4 : q < 4 := by omega
  have k2 : (k : Int) < (2 : Int) := by omega
  have gs : (S.map slt).getD q .undef = .agg [.str s.name, .int .i64 s.ino] := gD_map hs
  have gpp : (y.ptrs.map iv).getD k .undef = .int .i64 p := gD_map hpk
  have tkS : (S.map slt).take 4 = S.map slt := List.take_of_length_le (by simp [hS])
  have tkP : (y.ptrs.map iv).take 2 = y.ptrs.map iv := List.take_of_length_le (by simp [hy2])
  have hin' := hin
  simp only [inside, Bool.and_eq_true, decide_eq_true_eq] at hin'
  obtain ⟨w, gw⟩ : ∃ w, ((x.inos.map inoO).set i (.agg [.int .i64 y.kind, .int .i64 y.links, .sl 9 0 2])).getD (s.ino - 1).toNat .undef = .agg [.int .i64 z.kind, .int .i64 z.links, w] := by
    by_cases e : i = (s.ino - 1).toNat
    · have hyz : y = z := by rw [← e, hyi] at hz; exact Option.some.inj hz
      subst hyz
      refine ⟨.sl 9 0 2, ?_⟩
      rw [← e, List.getD, List.getElem?_set_self (by simp [hl]; omega)]; rfl
    · refine ⟨.own 1 (z.ptrs.map iv), ?_⟩
      rw [List.getD, List.getElem?_set_ne e, List.getElem?_map, hz]; rfl
  obtain ⟨I, hI⟩ : ∃ I, x.inos.map inoO = I := ⟨_, rfl⟩
  have imi : ∀ g, mapIdL g I = I := fun g => by rw [← hI]; exact mi_map g inoO x.inos inoO_cool
  have ims : ∀ u, idsL u I = [] := fun u => by rw [← hI]; exact is_map u inoO x.inos inoO_cool
  have il : I.length = 8 := by rw [← hI]; simp [hl]
  have isg : ∀ v : AV, (I.set i v).getD i .undef = v := fun v => by rw [List.getD, List.getElem?_set_self (by omega)]; rfl
  have iss : ∀ v w : AV, (I.set i v).set i w = I.set i w := fun v w => by rw [List.set_set]
  have iset : I.set i (.agg [.int .i64 y.kind, .int .i64 y.links, .own 1 (y.ptrs.map iv)]) = I := by
    rw [← hI]; exact set_self (by rw [List.getElem?_map, hyi]; rfl)
  have iqc : coolR 3 I = true := by rw [← hI]; exact inoO_coR _
  have iqi : iceL I = x.inos.map ino := by rw [← hI]; exact inoO_ic _
  have tI : I.take 8 = I := List.take_of_length_le (by omega)
  obtain ⟨Q, hQ⟩ : ∃ Q, (blks.set kk { b with slots := S }).map blkO = Q := ⟨_, rfl⟩
  have hset : (blks.map blkO).set kk (.agg [.bool true, .own 2 (S.map slt), .str b.text]) = Q := by rw [← hQ, List.map_set, ← hbd]; rfl
  have qc : coolR 3 Q = true := by rw [← hQ]; exact blkO_coR _
  have qi : iceL Q = (blks.set kk { b with slots := S }).map blk := by rw [← hQ]; exact blkO_ic _
  have tQ : Q.take 16 = Q := List.take_of_length_le (by rw [← hQ]; simp [hb])
  obtain ⟨B, hB⟩ : ∃ B, blks.map blkO = B := ⟨_, rfl⟩
  rw [hB] at hset
  have bmi : ∀ g, mapIdL g B = B := fun g => by rw [← hB]; exact mi_map g blkO blks blkO_cool
  have bms : ∀ u, idsL u B = [] := fun u => by rw [← hB]; exact is_map u blkO blks blkO_cool
  have bl : B.length = 16 := by rw [← hB]; simp [hb]
  have hw := w_i64 ((q : Int) + 1) (by omega)
  have sg : ∀ v : AV, (B.set kk v).getD kk .undef = v := fun v => by rw [List.getD, List.getElem?_set_self (by omega)]; rfl
  have ss : ∀ v w : AV, (B.set kk v).set kk w = B.set kk w := fun v w => by rw [List.set_set]
  have tB : ∀ v : AV, (B.set kk v).take 16 = B.set kk v := fun v => List.take_of_length_le (by simp [bl])
  have e1 := k174 x.inos (x.used.map bv) (x.taken.map bv) ((blks.set kk { b with slots := S }).map blk) s names dirs hl hin z hz hnl hdl
  have tn : (names.map sv).take names.length = names.map sv := List.take_of_length_le (by simp)
  have td : (dirs.map iv).take dirs.length = dirs.map iv := List.take_of_length_le (by simp)
  have nc := sv_coR names
  have ni := sv_ic names
  have dc := iv_coR dirs
  have di := iv_ic dirs
  have pk : (p - 1).toNat = kk := by omega
  have pk' : (p + -1).toNat = kk := by omega
  have wp := w_i64 (p - 1) (by omega)
  have p0 : (0 : Int) ≤ p - 1 := by omega
  have p16 : p - 1 < 16 := by omega
  have wi := w_i64 (s.ino - 1) (by omega)
  have i0 : (0 : Int) ≤ s.ino - 1 := by omega
  have i8 : s.ino - 1 < 8 := by omega
  have n8 : (s.ino - 1).toNat < 8 := by omega
  have na : names.map sv ++ [AV.str s.name] = (names ++ [s.name]).map sv := by rw [List.map_append]; rfl
  have da : dirs.map iv ++ [AV.int .i64 s.ino] = (dirs ++ [s.ino]).map iv := by rw [List.map_append]; rfl
  have nal : (names ++ [s.name]).length = names.length + 1 := by simp
  have dal : (dirs ++ [s.ino]).length = dirs.length + 1 := by simp
  have hap1 : (names.length + 1) * 16 ≤ 140737488355328 := by omega
  have hap2 : (dirs.length + 1) * 8 ≤ 140737488355328 := by omega
  have hset2 : (S.map slt).set q (.agg [.str ⟨#[]⟩, .int .i64 0]) = (S.set q ⟨⟨#[]⟩, 0⟩).map slt := by rw [List.map_set]; rfl
  have um := bv_mi
  have ui := bv_is
  rw [hI] at gw
  unfold s18 m18
  rw [hB, hI]
  cases d1 : keepS x.inos names dirs s with
  | false =>
    rw [d1] at e1
    simp only [Bool.false_eq_true, if_false]
    simp only [XG, L99_18, h99_18, go_sem, seval, bnd_ite, k1, q4, k2, hk2, hq, hS, gs, gpp, hne, tkS, tkP, hy2, imi, ims, il, isg, iss, iset, iqc, iqi, tI, bmi, bms, bl, hset, qc, qi, tQ, sg, ss, tB, is_set, e1, hw, tn, td, nc, ni, dc, di, pk, pk', wp, p0, p16, hk, hi, hset2, Int.natCast_nonneg, Bool.not_false, Bool.false_eq_true, if_false, if_true]
    first | done | rfl
  | true =>
    rw [d1] at e1
    simp only [if_true]
    cases d5 : decide (z.kind = 2) with
    | true =>
      have d6 : z.kind = 2 := by simpa using d5
      simp only [d6, if_true]
      rw [d6] at gw
      simp only [XG, L99_18, h99_18, go_sem, seval, bnd_ite, k1, q4, k2, hk2, hq, hS, gs, gpp, hne, tkS, tkP, hy2, imi, ims, il, isg, iss, iset, iqc, iqi, tI, bmi, bms, bl, hset, qc, qi, tQ, sg, ss, tB, is_set, e1, hw, tn, td, nc, ni, dc, di, pk, pk', wp, p0, p16, hk, hi, gw, wi, i0, i8, n8, na, da, nal, dal, hap1, hap2, hset2, Int.natCast_nonneg, Bool.not_false, Bool.not_true, Bool.false_eq_true, if_false, if_true]
      first | done | rfl
    | false =>
      have d6 : ¬ z.kind = 2 := by simpa using d5
      simp only [d6, if_false]
      simp only [XG, L99_18, h99_18, go_sem, seval, bnd_ite, k1, q4, k2, hk2, hq, hS, gs, gpp, hne, tkS, tkP, hy2, imi, ims, il, isg, iss, iset, iqc, iqi, tI, bmi, bms, bl, hset, qc, qi, tQ, sg, ss, tB, is_set, e1, hw, tn, td, nc, ni, dc, di, pk, pk', wp, p0, p16, hk, hi, gw, wi, i0, i8, n8, na, da, nal, dal, hap1, hap2, d5, hset2, Int.natCast_nonneg, Bool.not_false, Bool.not_true, Bool.false_eq_true, if_false, if_true]
      first | done | rfl
end Go.Proofs.YtaaajjinpppgeaaGreat
namespace Go.Proofs.YtaaajjinpppgeaaGreat
open Go Go.Abs
set_option maxRecDepth 100000
def s12 (x : Dsk) (ahead bs : List Int) (io : Int) (st : NmB) (j : Nat) : St :=
  ⟨[(2, .ptr 0 0 0), (3, .ptr 1 0 0), (4, .sl 2 0 ahead.length), (5, .sl 3 0 st.dirs.length), (6, .int .i64 io), (7, .sl 4 0 st.names.length), (8, .sl 5 0 bs.length), (31, .sl 5 0 bs.length), (32, .int .i64 bs.length), (33, .int .i64 (j : Nat))],
   [some (4, [.agg [.nil, .nil, .nil, .nil]]), some (4, [.agg [.own 1 (x.used.map bv), .own 1 (x.taken.map bv), .own 3 (x.inos.map inoO), .own 3 (st.blks.map blkO)]]), some (1, ahead.map iv), some (1, st.dirs.map iv), some (1, st.names.map sv), some (1, bs.map iv)]⟩
theorem st12 (x : Dsk) (hl : x.inos.length = 8) (ahead bs : List Int) (io : Int) (st : NmB) (hb : st.blks.length = 16) (hn : st.names.length ≤ 1000) (hd : st.dirs.length ≤ 1000) (j : Nat) (p : Int) (hp : bs[j]? = some p) (hp1 : 1 ≤ p) (hp2 : p ≤ 16) (hbl : bs.length ≤ 1000) (b : Blk) (hbk : st.blks[(p - 1).toNat]? = some b)
    (hS : b.slots.length = 4 ∨ b.slots.length = 0) (hin : ∀ s ∈ b.slots, s.name ≠ ⟨#[]⟩ → inside s.ino 1 8 = true) :
    XG TN 0 H101_12 L101_12 (s12 x ahead bs io st j) = some (.normal, s12 x ahead bs io (sweep x.inos st p) (j + 1)) := by
  obtain ⟨k, hk⟩ : ∃ k : Nat, (p - 1).toNat = k := ⟨_, rfl⟩
  have hk16 : k < 16 := by omega
  have hpk : p = (k : Int) + 1 := by omega
  have pk : (p + -1).toNat = k := by omega
  rw [hk] at hbk
  obtain ⟨⟨y, r2⟩, k1, kx, e, ke, l2, l3, l4, l5, l6, l7, l8, l31, l32, l33⟩ := lp16 x hl st.blks k hk16 hb b ahead bs p io (j : Nat) hpk b.slots hS hin st.names st.dirs hn hd
  simp only at kx ke
  subst kx; subst ke
  have hj := (List.getElem?_eq_some_iff.1 hp).1
  have j1 : (j : Int) < (bs.length : Int) := by omega
  have gp : (bs.map iv).getD j .undef = .int .i64 p := gD_map hp
  have wp := w_i64 (p - 1) (by omega)
  have wj := w_i64 ((j : Int) + 1) (by omega)
  have p0 : (0 : Int) ≤ p - 1 := by omega
  have p16 : p - 1 < 16 := by omega
  have gb : (st.blks.map blkO).getD k .undef = .agg [.bool b.dir, .own 2 (b.slots.map slt), .str b.text] := gD_map hbk
  have hout : ((b.slots.foldl (slStep x.inos) ⟨[], st.names, st.dirs⟩).out).length = b.slots.length := by
    have : ∀ (l : List Slt) (a : NmS), (l.foldl (slStep x.inos) a).out.length = a.out.length + l.length := by
      intro l
      induction l with
      | nil => intro a; rfl
      | cons s l ih => intro a; rw [List.foldl_cons, ih, (slStep_len x.inos a s).1, List.length_cons]; omega
    rw [this]; simp
  unfold sweep
  rw [hk, hbk]
  simp only
  generalize b.slots.foldl (slStep x.inos) ⟨[], st.names, st.dirs⟩ = R at *
  obtain ⟨Q, hQ⟩ : ∃ Q, (st.blks.set k { b with slots := R.out }).map blkO = Q := ⟨_, rfl⟩
  have hset : (st.blks.map blkO).set k (.agg [.bool b.dir, .own 2 (R.out.map slt), .str b.text]) = Q := by rw [← hQ, List.map_set]; rfl
  obtain ⟨B, hB⟩ : ∃ B, st.blks.map blkO = B := ⟨_, rfl⟩
  have bmi : ∀ g, mapIdL g B = B := fun g => by rw [← hB]; exact mi_map g blkO st.blks blkO_cool
  have bms : ∀ u, idsL u B = [] := fun u => by rw [← hB]; exact is_map u blkO st.blks blkO_cool
  have bl : B.length = 16 := by rw [← hB]; simp [hb]
  have sg : ∀ v : AV, (B.set k v).getD k .undef = v := fun v => by
    rw [List.getD, List.getElem?_set_self (by omega)]; rfl
  have ss : ∀ v w : AV, (B.set k v).set k w = B.set k w := fun v w => by rw [List.set_set]
  have tB : ∀ v : AV, (B.set k v).take 16 = B.set k v := fun v => List.take_of_length_le (by simp [bl])
  have tS : (b.slots.map slt).take b.slots.length = b.slots.map slt := List.take_of_length_le (by simp)
  have tR : (R.out.map slt).take b.slots.length = R.out.map slt := List.take_of_length_le (by simp [hout])
  unfold s12
  unfold s16 m16 at k1
  have hs0 : ((0 : Nat) : Int) = 0 := rfl
  rw [hB] at hset gb k1
  simp only [hs0] at k1
  simp only [hB]
  rw [hQ]
  have tQ : Q.take 16 = Q := List.take_of_length_le (by rw [← hQ]; simp [hb])
  simp only [XG, L101_12, h101_12, h101_16, go_sem, seval, bnd_ite, j1, hj, gp, wp, wj, p0, p16, pk, hk, hk16, gb, bmi, bms, bl, sg, ss, tB, is_set, tS, k1, l2, l3, l4, l5, l6, l7, l8, l31, l32, l33, hout, Nat.le_refl, tR, hset, tQ, Int.natCast_nonneg, if_true]
  first | done | rfl
end Go.Proofs.YtaaajjinpppgeaaGreat
namespace Go.Proofs.YtaaajjinpppgeaaGreat
open Go Go.Abs
set_option maxRecDepth 100000
def goodB (b : Blk) : Prop := (b.slots.length = 4 ∨ b.slots.length = 0) ∧ ∀ s ∈ b.slots, s.name ≠ ⟨#[]⟩ → inside s.ino 1 8 = true
theorem fold_len (inos : List Ino) : ∀ (l : List Slt) (a : NmS), (l.foldl (slStep inos) a).out.length = a.out.length + l.length ∧ (l.foldl (slStep inos) a).names.length ≤ a.names.length + l.length ∧ (l.foldl (slStep inos) a).dirs.length ≤ a.dirs.length + l.length
  | [], a => by simp
  | s :: l, a => by
    obtain ⟨h1, h2, h3⟩ := fold_len inos l (slStep inos a s)
    obtain ⟨g1, g2, g3⟩ := slStep_len inos a s
    rw [List.foldl_cons, List.length_cons]
    omega
theorem fold_good (inos : List Ino) : ∀ (l : List Slt) (a : NmS), (∀ s ∈ l, s.name ≠ ⟨#[]⟩ → inside s.ino 1 8 = true) → (∀ s ∈ a.out, s.name ≠ ⟨#[]⟩ → inside s.ino 1 8 = true) → ∀ s ∈ (l.foldl (slStep inos) a).out, s.name ≠ ⟨#[]⟩ → inside s.ino 1 8 = true
  | [], a, _, h => h
  | s :: l, a, hl, h => by
    refine fold_good inos l (slStep inos a s) (fun t ht => hl t (List.mem_cons_of_mem _ ht)) ?_
    have hs := hl s (List.mem_cons_self ..)
    unfold slStep
    intro t ht hne
    split at ht
    · rcases List.mem_append.1 ht with ht | ht
      · exact h t ht hne
      · rw [List.mem_singleton.1 ht] at hne ⊢; exact hs hne
    · split at ht
      · rcases List.mem_append.1 ht with ht | ht
        · exact h t ht hne
        · rw [List.mem_singleton.1 ht] at hne ⊢; exact hs hne
      · rcases List.mem_append.1 ht with ht | ht
        · exact h t ht hne
        · rw [List.mem_singleton.1 ht] at hne; exact absurd rfl hne
structure NmI (st : NmB) (n d : Nat) : Prop where
  len : st.blks.length = 16
  good : ∀ b ∈ st.blks, goodB b
  names : st.names.length ≤ n
  dirs : st.dirs.length ≤ d
theorem sweep_inv (inos : List Ino) {st : NmB} {n d : Nat} (h : NmI st n d) (p : Int) (hp1 : 1 ≤ p) (hp2 : p ≤ 16) : NmI (sweep inos st p) (n + 4) (d + 4) := by
  obtain ⟨h1, h2, h3, h4⟩ := h
  obtain ⟨b, hb⟩ := get_at (show (p - 1).toNat < st.blks.length by omega)
  have hg := h2 b (List.mem_of_getElem? hb)
  obtain ⟨f1, f2, f3⟩ := fold_len inos b.slots ⟨[], st.names, st.dirs⟩
  have f4 := fold_good inos b.slots ⟨[], st.names, st.dirs⟩ hg.2 (by simp)
  unfold sweep
  rw [hb]
  simp only at f1 f2 f3 ⊢
  simp only [List.length_nil, Nat.zero_add] at f1
  refine ⟨by simp [h1], fun x hx => ?_, ?_, ?_⟩
  · rcases List.mem_or_eq_of_mem_set hx with hx | rfl
    · exact h2 x hx
    · exact ⟨by simp only [f1]; exact hg.1, f4⟩
  · show (b.slots.foldl (slStep inos) ⟨[], st.names, st.dirs⟩).names.length ≤ _
    have := hg.1; omega
  · show (b.slots.foldl (slStep inos) ⟨[], st.names, st.dirs⟩).dirs.length ≤ _
    have := hg.1; omega
theorem lp12 (x : Dsk) (hl : x.inos.length = 8) (ahead bs : List Int) (io : Int) (st : NmB) (d : Nat) (hI : NmI st 0 d) (hd : d ≤ 500) (hbl : bs.length ≤ 16) (hbs : ∀ p ∈ bs, 1 ≤ p ∧ p ≤ 16) :
    ∃ r, XL TN 0 H101_12 L101_12 (s12 x ahead bs io st 0) = some r ∧ r.1 = .exit 2 ∧ NmI (bs.foldl (sweep x.inos) st) (4 * bs.length) (d + 4 * bs.length) ∧
      lookA r.2.env 2 = .ptr 0 0 0 ∧ lookA r.2.env 3 = .ptr 1 0 0 ∧ lookA r.2.env 4 = .sl 2 0 ahead.length ∧ lookA r.2.env 5 = .sl 3 0 (bs.foldl (sweep x.inos) st).dirs.length ∧ lookA r.2.env 6 = .int .i64 io ∧ lookA r.2.env 8 = .sl 5 0 bs.length ∧ r.2.mem = (s12 x ahead bs io (bs.foldl (sweep x.inos) st) 0).mem := by
  refine XL_each (T := TN) (b := 0) (hd := H101_12) (x := L101_12) bs (sweep x.inos) (fun j st => s12 x ahead bs io st j) (fun j st => NmI st (4 * j) (d + 4 * j))
    (fun st r => r.1 = .exit 2 ∧ NmI st (4 * bs.length) (d + 4 * bs.length) ∧ lookA r.2.env 2 = .ptr 0 0 0 ∧ lookA r.2.env 3 = .ptr 1 0 0 ∧ lookA r.2.env 4 = .sl 2 0 ahead.length ∧ lookA r.2.env 5 = .sl 3 0 st.dirs.length ∧ lookA r.2.env 6 = .int .i64 io ∧ lookA r.2.env 8 = .sl 5 0 bs.length ∧ r.2.mem = (s12 x ahead bs io st 0).mem) (fun j st p hp hj hI => ?_) (fun st hI => ?_) st (by simpa using hI)
  · obtain ⟨p1, p2⟩ := hbs p (List.mem_of_getElem? hp)
    obtain ⟨b, hb⟩ := get_at (show (p - 1).toNat < st.blks.length by have := hI.len; omega)
    have hg := hI.good b (List.mem_of_getElem? hb)
    have n1 := hI.names
    have n2 := hI.dirs
    refine ⟨st12 x hl ahead bs io st hI.len (by omega) (by omega) j p hp p1 p2 (by omega) b hb hg.1 hg.2, ?_⟩
    have := sweep_inv x.inos hI p p1 p2
    rw [show 4 * (j + 1) = 4 * j + 4 by omega, show d + (4 * j + 4) = d + 4 * j + 4 by omega]
    exact this
  · unfold s12
    simp only [XG, L101_12, h101_12, go_sem, seval, bnd_ite, Int.lt_irrefl, decide_false]
    exact .mk (by simp) ⟨rfl, hI, rfl, rfl, rfl, rfl, rfl, rfl, rfl⟩
end Go.Proofs.YtaaajjinpppgeaaGreat
namespace Go.Proofs.YtaaajjinpppgeaaGreat
open Go Go.Abs
set_option maxRecDepth 100000
theorem lp18 (x : Dsk) (hl : x.inos.length = 8) (blks : List Blk) (i : Nat) (hi : i < 8) (y : Ino) (hyi : x.inos[i]? = some y) (hy2 : y.ptrs.length = 2) (kk : Nat) (hk : kk < 16) (hb : blks.length = 16) (b : Blk) (hbd : b.dir = true) (p : Int) (hp : p = (kk : Int) + 1) (k : Nat) (hpk : y.ptrs[k]? = some p) (dirs seen : List Int) (names : List ByteArray)
    (S0 : List Slt) (hS : S0.length = 4) (hin : ∀ s ∈ S0, s.name ≠ ⟨#[]⟩ → inside s.ino 1 8 = true) (hn : names.length ≤ 1000) (hd : dirs.length ≤ 1000) :
    ∃ r, XL TN 0 H99_18 L99_18 (s18 x (x.inos.map inoO) (blks.map blkO) i y kk b.text k dirs seen names S0 0) = some r ∧ r.1 = .exit 4 ∧
      ∃ e, r.2 = ⟨e, m18 x ((x.inos.map inoO).set i (.agg [.int .i64 y.kind, .int .i64 y.links, .sl 9 0 2])) ((blks.map blkO).set kk (.agg [.bool true, .sl 10 0 4, .str b.text])) y b.text (S0.foldl (slStep x.inos) ⟨[], names, dirs⟩).dirs seen (S0.foldl (slStep x.inos) ⟨[], names, dirs⟩).names (S0.foldl (slStep x.inos) ⟨[], names, dirs⟩).out⟩ ∧
        lookA e 2 = .ptr 0 0 0 ∧ lookA e 3 = .ptr 1 0 0 ∧ lookA e 4 = .sl 2 0 (S0.foldl (slStep x.inos) ⟨[], names, dirs⟩).dirs.length ∧ lookA e 5 = .sl 3 0 seen.length ∧ lookA e 6 = .int .i64 (i : Nat) ∧ lookA e 7 = .ptr 4 0 0 ∧ lookA e 8 = .sl 5 0 (S0.foldl (slStep x.inos) ⟨[], names, dirs⟩).names.length ∧ lookA e 9 = .int .i64 (k : Nat) := by
  have hk2 : k < 2 := by have := (List.getElem?_eq_some_iff.1 hpk).1; omega
  have := XL_each (T := TN) (b := 0) (hd := H99_18) (x := L99_18) S0 (slStep x.inos) (fun q st => s18 x (x.inos.map inoO) (blks.map blkO) i y kk b.text k st.dirs seen st.names (st.out ++ S0.drop q) q) (fun q st => st.out.length = q ∧ st.names.length ≤ 1000 + q ∧ st.dirs.length ≤ 1000 + q)
    (fun st r => r.1 = .exit 4 ∧ ∃ e, r.2 = ⟨e, m18 x ((x.inos.map inoO).set i (.agg [.int .i64 y.kind, .int .i64 y.links, .sl 9 0 2])) ((blks.map blkO).set kk (.agg [.bool true, .sl 10 0 4, .str b.text])) y b.text st.dirs seen st.names st.out⟩ ∧
        lookA e 2 = .ptr 0 0 0 ∧ lookA e 3 = .ptr 1 0 0 ∧ lookA e 4 = .sl 2 0 st.dirs.length ∧ lookA e 5 = .sl 3 0 seen.length ∧ lookA e 6 = .int .i64 (i : Nat) ∧ lookA e 7 = .ptr 4 0 0 ∧ lookA e 8 = .sl 5 0 st.names.length ∧ lookA e 9 = .int .i64 (k : Nat)) (by
      intro q st s hs hq hI
      obtain ⟨i1, i2, i3⟩ := hI
      obtain ⟨g1, g2, g3⟩ := slStep_len x.inos st s
      refine ⟨?_, by omega, by omega, by omega⟩
      have hs' : (st.out ++ S0.drop q)[q]? = some s := by
        rw [List.getElem?_append_right (by omega), i1, Nat.sub_self, List.getElem?_drop]; exact hs
      have hdrop : S0.drop q = s :: S0.drop (q + 1) := by
        obtain ⟨hh, rfl⟩ := List.getElem?_eq_some_iff.1 hs
        exact List.drop_eq_getElem_cons hh
      have hlen : (st.out ++ S0.drop q).length = 4 := by simp; omega
      have happ : ∀ v : Slt, (st.out ++ S0.drop q).set q v = (st.out ++ [v]) ++ S0.drop (q + 1) := fun v => by
        rw [hdrop, List.set_append_right _ _ (by omega), i1, Nat.sub_self, List.append_assoc]; rfl
      have hadd : st.out ++ S0.drop q = (st.out ++ [s]) ++ S0.drop (q + 1) := by rw [hdrop, List.append_assoc]; rfl
      by_cases hne : s.name = ⟨#[]⟩
      · have e := st18e x hl blks i hi y hy2 kk hk hb b.text k hk2 st.dirs seen st.names (st.out ++ S0.drop q) hlen q s hs' (decide_eq_true hne)
        unfold slStep
        rw [if_pos hne, e]
        rw [hadd]
      · have hi2 := hin s (List.mem_of_getElem? hs) hne
        have hi' := hi2
        simp only [inside, Bool.and_eq_true, decide_eq_true_eq] at hi'
        obtain ⟨z, hz⟩ := get_at (show (s.ino - 1).toNat < x.inos.length by omega)
        have e := st18 x hl blks i hi y hyi hy2 kk hk hb b hbd p hp k hpk st.dirs seen st.names (st.out ++ S0.drop q) hlen q s hs' (decide_eq_false hne) (by omega) (by omega) z hi2 hz
        rw [e]
        have gz : x.inos.getD (s.ino - 1).toNat ⟨0, 0, []⟩ = z := by rw [List.getD, hz]; rfl
        unfold slStep
        rw [if_neg hne, gz]
        cases d1 : keepS x.inos st.names st.dirs s with
        | true => simp only [if_true]; rw [hadd]
        | false => simp only [Bool.false_eq_true, if_false]; rw [happ]; rfl) (by
      intro st hI
      obtain ⟨i1, i2, i3⟩ := hI
      have hd0 : S0.drop S0.length = [] := List.drop_length
      rw [hd0, List.append_nil, hS]
      unfold s18 m18
      have c4 : ¬ ((4 : Nat) : Int) < 4 := by omega
      simp only [XG, L99_18, h99_18, go_sem, seval, bnd_ite, c4, decide_false]
      exact .mk (by simp) ⟨rfl, _, rfl, rfl, rfl, rfl, rfl, rfl, rfl, rfl, rfl⟩) ⟨[], names, dirs⟩ ⟨rfl, by omega, by omega⟩
  simpa using this
end Go.Proofs.YtaaajjinpppgeaaGreat
