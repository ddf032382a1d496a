/- Copies of a memory; the first that is free. Own work; no condition. -/
import Derived.Test.YtaaajjinpppgeaaFa
import Derived.Test.YtaaajjinpppgeaaPa
set_option linter.unusedVariables false
set_option linter.unusedSimpArgs false
set_option linter.unusedSectionVars false
namespace Go.Proofs.Ytaaajjinpppgeaa
open Go Go.Abs
set_option maxRecDepth 100000
def ffree (l : List Bool) : Int := match l.findIdx? (fun b => !b) with | some i => (i : Nat) + 1 | none => 0
theorem e188 (l : List Bool) (hl : l.length ≤ 1048576) : E T 188 [.ro 1 (l.map bv)] [] = some (.int .i64 (ffree l), []) := by
  rw [E_eq t188 (Nat.le_of_ble_eq_true rfl)]
  unfold ffree
  refine (XL_find (T := T) (b := 0) (hd := H188_2) (x := L188_2) l (fun b => !b) (fun i => ⟨[(0, .ro 1 (l.map bv)), (3, .int .i64 (i : Nat))], []⟩)
    (fun o r => match o with | some i => r.1 = .ret ∧ lookA r.2.env 2 = .int .i64 ((i : Nat) + 1) | none => r.1 = .exit 0) ?step ?hit ?last).elim ?main
  case step =>
    intro i b hb hi hP _
    have k1 : (i : Int) < (l.length : Int) := by omega
    have gb : (l.map bv).getD i .undef = .bool b := gD_map hb
    have hw := w_i64 ((i : Int) + 1) (by omega)
    cases b with
    | false => cases hP
    | true =>
      simp only [XG, L188_2, h188_2, go_sem, seval, bnd_ite, k1, gb, hw, Int.natCast_nonneg, decide_true, Bool.not_true, Bool.false_eq_true, if_false]
      first | done | rfl
  case hit =>
    intro i b hb hi hP _
    have k1 : (i : Int) < (l.length : Int) := by omega
    have gb : (l.map bv).getD i .undef = .bool b := gD_map hb
    have hw := w_i64 ((i : Int) + 1) (by omega)
    cases b with
    | true => cases hP
    | false =>
      simp only [XG, L188_2, h188_2, go_sem, seval, bnd_ite, k1, gb, hw, Int.natCast_nonneg, decide_true, Bool.not_false, if_true]
      exact .mk (by simp) ⟨rfl, rfl⟩
  case last =>
    intro _
    simp only [XG, L188_2, h188_2, go_sem, seval, bnd_ite, Int.lt_irrefl, decide_false]
    exact .mk (by simp) rfl
  case main =>
  have hs0 : ((0 : Nat) : Int) = 0 := rfl
  rintro ⟨y, e, m⟩ ⟨k1, k2⟩
  rw [hs0] at k1
  cases hf : l.findIdx? (fun b => !b) with
  | none =>
    rw [hf] at k2; simp only at k2; subst k2
    simp only [F188, h188_2, go_sem, seval, bnd_ite, k1]
  | some i =>
    rw [hf] at k2; obtain ⟨kx, k2⟩ := k2; simp only at kx k2; subst kx
    simp only [F188, h188_2, go_sem, seval, bnd_ite, k1, k2]
theorem e244 (l : List Bool) (hl : l.length ≤ 1048576) : E T 244 [.ro 1 (l.map bv)] [] = some (.int .i64 (ffree l), []) := by
  rw [E_eq t244 (Nat.le_of_ble_eq_true rfl)]
  unfold ffree
  refine (XL_find (T := T) (b := 0) (hd := H244_2) (x := L244_2) l (fun b => !b) (fun i => ⟨[(5, .ro 1 (l.map bv)), (6, .int .i64 l.length), (7, .int .i64 (i : Nat))], []⟩)
    (fun o r => match o with | some i => r.1 = .ret ∧ lookA r.2.env 2 = .int .i64 ((i : Nat) + 1) | none => r.1 = .exit 0) ?step ?hit ?last).elim ?main
  case step =>
    intro i b hb hi hP _
    have k1 : (i : Int) < (l.length : Int) := by omega
    have gb : (l.map bv).getD i .undef = .bool b := gD_map hb
    have hw := w_i64 ((i : Int) + 1) (by omega)
    cases b with
    | false => cases hP
    | true =>
      simp only [XG, L244_2, h244_2, go_sem, seval, bnd_ite, k1, gb, hw, Int.natCast_nonneg, decide_true, Bool.not_true, Bool.false_eq_true, if_false]
      first | done | rfl
  case hit =>
    intro i b hb hi hP _
    have k1 : (i : Int) < (l.length : Int) := by omega
    have gb : (l.map bv).getD i .undef = .bool b := gD_map hb
    have hw := w_i64 ((i : Int) + 1) (by omega)
    cases b with
    | true => cases hP
    | false =>
      simp only [XG, L244_2, h244_2, go_sem, seval, bnd_ite, k1, gb, hw, Int.natCast_nonneg, decide_true, Bool.not_false, if_true]
      exact .mk (by simp) ⟨rfl, rfl⟩
  case last =>
    intro _
    simp only [XG, L244_2, h244_2, go_sem, seval, bnd_ite, Int.lt_irrefl, decide_false]
    exact .mk (by simp) rfl
  case main =>
  have hs0 : ((0 : Nat) : Int) = 0 := rfl
  rintro ⟨y, e, m⟩ ⟨k1, k2⟩
  rw [hs0] at k1
  cases hf : l.findIdx? (fun b => !b) with
  | none =>
    rw [hf] at k2; simp only at k2; subst k2
    simp only [F244, h244_2, go_sem, seval, bnd_ite, k1]
  | some i =>
    rw [hf] at k2; obtain ⟨kx, k2⟩ := k2; simp only at kx k2; subst kx
    simp only [F244, h244_2, go_sem, seval, bnd_ite, k1, k2]
theorem e241 (d : Dp) (h : d.sm) : E T 241 [dp d] [] = some (dpO d, []) := by
  rw [E_eq t241 (Nat.le_of_ble_eq_true rfl)]
  have e1 := e217 d.blocks h
  have tk : (d.blocks.map iv).take d.blocks.length = d.blocks.map iv := List.take_of_length_le (by simp)
  simp only [dp, dpO, F241, go_sem, seval, bnd_ite, e1, tk]
theorem e239 (l : List Dp) (hl : l.length ≤ 1048576) (hs : ∀ d ∈ l, d.sm) : E T 239 [.ro 11 (l.map dp)] [] = some (.own 11 (l.map dpO), []) := by
  rw [E_eqW t239 (Nat.le_of_ble_eq_true rfl)]
  refine (XL_each (T := T) (b := 0) (hd := H239_3) (x := L239_3) l (fun (_ : Unit) _ => ()) (fun i _ => ⟨[(3, .sl 0 0 i), (7, .ro 11 (l.map dp)), (8, .int .i64 l.length), (9, .int .i64 (i : Nat))], [some (11, (l.take i).map dpO)]⟩) (fun _ _ => True)
    (fun _ r => r.1 = .exit 0 ∧ lookA r.2.env 3 = .sl 0 0 l.length ∧ r.2.mem = [some (11, l.map dpO)]) ?step ?last () trivial).elim ?main
  case step =>
    intro i _ d hd hi _
    refine ⟨?_, trivial⟩
    have k1 : (i : Int) < (l.length : Int) := by omega
    have gd : (l.map dp).getD i .undef = .agg [.int .i64 d.id, .int .i64 d.kind, .int .i64 d.ino, .int .i64 d.ptr, .int .i64 d.block, .int .i64 d.slot, .str d.name, .bool d.bits, .bool d.other, .int .i64 d.after, .ro 1 (d.blocks.map iv)] := gD_map hd
    have e1 := e241 d (hs d (List.mem_of_getElem? hd))
    unfold dp dpO at e1
    obtain ⟨M, hM, ml, mi, ms, mt, ma⟩ := snoc_facts dpO_cool hd
    unfold dpO at ma
    have htk : (List.map iv d.blocks).take d.blocks.length = List.map iv d.blocks := List.take_of_length_le (by simp)
    have hap : (i + 1) * 104 ≤ 140737488355328 := by omega
    have hw := w_i64 ((i : Int) + 1) (by omega)
    simp only [hM]
    simp only [XG, L239_3, h239_3, go_sem, seval, bnd_ite, k1, gd, e1, htk, ml, mi, ms, mt, ma, hap, hw, Int.natCast_nonneg]
    first | done | rfl
  case last =>
    intro _ _
    simp only [XG, L239_3, h239_3, go_sem, seval, bnd_ite, Int.lt_irrefl, decide_false]
    exact .mk (by simp) ⟨rfl, rfl, by simp⟩
  case main =>
  have hs0 : ((0 : Nat) : Int) = 0 := rfl
  rintro ⟨y, e, m⟩ ⟨k1, kx, k2, km⟩
  simp only at kx k2 km; subst kx; subst km
  simp only [hs0, List.take_zero, List.map_nil] at k1
  have tk : (l.map dpO).take l.length = l.map dpO := List.take_of_length_le (by simp)
  simp only [F239, h239_3, go_sem, seval, bnd_ite, k1, k2, tk]
theorem e185 (x : Mm) (h : x.sm) : E T 185 [mm x] [] = some (mmO x, []) := by
  rw [E_eq t185 (Nat.le_of_ble_eq_true rfl)]
  have e1 := e159 x.disk h.disk
  have e2 := e238 x.dirty h.dirty
  have e3 := e239 x.deps h.deps h.dep
  unfold dsk dskO at e1
  have t1 : (x.disk.used.map bv).take x.disk.used.length = x.disk.used.map bv := List.take_of_length_le (by simp)
  have t2 : (x.disk.taken.map bv).take x.disk.taken.length = x.disk.taken.map bv := List.take_of_length_le (by simp)
  have t3 : (x.disk.inos.map inoO).take x.disk.inos.length = x.disk.inos.map inoO := List.take_of_length_le (by simp)
  have t4 : (x.disk.blks.map blkO).take x.disk.blks.length = x.disk.blks.map blkO := List.take_of_length_le (by simp)
  have t5 : (x.dirty.map bv).take x.dirty.length = x.dirty.map bv := List.take_of_length_le (by simp)
  have t6 : (x.deps.map dpO).take x.deps.length = x.deps.map dpO := List.take_of_length_le (by simp)
  simp only [mm, F185, go_sem, seval, bnd_ite, e1, e2, e3, t1, t2, t3, t4, t5, t6, mmO]
def mmBox (x : Mm) : AV := .agg [.ro 1 (x.disk.used.map bv), .ro 1 (x.disk.taken.map bv), .ro 3 (x.disk.inos.map ino), .ro 3 (x.disk.blks.map blk), .ro 1 (x.dirty.map bv), .ro 11 (x.deps.map dp), .int .i64 x.next]
def mmCp (x : Mm) (i : Nat) : AV := .agg [.own 1 (x.disk.used.map bv), .own 1 (x.disk.taken.map bv), .own 3 (x.disk.inos.map inoO), .own 3 (x.disk.blks.map blkO), .own 1 (x.dirty.map bv), .sl 3 0 i, .int .i64 x.next]
def mmNil : AV := .agg [.nil, .nil, .nil, .nil, .nil, .nil, .int .i64 0]
theorem in183 (x : Mm) (h : x.sm) : ∃ r, XL T 0 H183_3 L183_3 ⟨[(1, .ptr 0 0 0), (2, .ptr 1 0 0), (3, .ptr 2 0 0), (4, .int .i64 0)], [some (7, [mmBox x]), some (7, [mmNil]), some (7, [mmCp x 0]), some (11, [])]⟩ = some r ∧
    (r.1 = .exit 0 ∧ lookA r.2.env 2 = .ptr 1 0 0 ∧ lookA r.2.env 3 = .ptr 2 0 0 ∧ r.2.mem = [some (7, [mmBox x]), some (7, [mmNil]), some (7, [mmCp x x.deps.length]), some (11, x.deps.map dpO)]) := by
  have hl := h.deps
  refine XL_each x.deps (fun (_ : Unit) _ => ()) (fun i _ => ⟨[(1, .ptr 0 0 0), (2, .ptr 1 0 0), (3, .ptr 2 0 0), (4, .int .i64 (i : Nat))], [some (7, [mmBox x]), some (7, [mmNil]), some (7, [mmCp x i]), some (11, (x.deps.take i).map dpO)]⟩) (fun _ _ => True)
    (fun _ r => r.1 = .exit 0 ∧ lookA r.2.env 2 = .ptr 1 0 0 ∧ lookA r.2.env 3 = .ptr 2 0 0 ∧ r.2.mem = [some (7, [mmBox x]), some (7, [mmNil]), some (7, [mmCp x x.deps.length]), some (11, x.deps.map dpO)]) ?step ?last () trivial
  case step =>
    intro i _ d hd hi _
    refine ⟨?_, trivial⟩
    have k1 : (i : Int) < (x.deps.length : Int) := by omega
    have gd : (x.deps.map dp).getD i .undef = .agg [.int .i64 d.id, .int .i64 d.kind, .int .i64 d.ino, .int .i64 d.ptr, .int .i64 d.block, .int .i64 d.slot, .str d.name, .bool d.bits, .bool d.other, .int .i64 d.after, .ro 1 (d.blocks.map iv)] := gD_map hd
    have hds := h.dep d (List.mem_of_getElem? hd)
    unfold Dp.sm at hds
    obtain ⟨M, hM, ml, mi, ms, mt, ma⟩ := snoc_facts dpO_cool hd
    unfold dpO at ma
    have htk : (List.map iv d.blocks).take d.blocks.length = List.map iv d.blocks := List.take_of_length_le (by simp)
    have hap : (i + 1) * 104 ≤ 140737488355328 := by omega
    have hap2 : d.blocks.length * 8 ≤ 140737488355328 := by omega
    have hw := w_i64 ((i : Int) + 1) (by omega)
    unfold mmBox mmNil mmCp
    simp only [hM]
    cases hb : d.blocks with
    | nil =>
      rw [hb] at gd ma
      simp only [List.map_nil] at gd ma
      simp only [XG, L183_3, h183_3, go_sem, seval, bnd_ite, k1, gd, ml, mi, ms, mt, ma, hap, hw, Int.natCast_nonneg]
      first | done | rfl
    | cons q qs =>
      rw [hb] at gd ma hap2
      simp only [List.map_cons, iv, List.length_cons] at gd ma hap2
      have tq : (qs.map (fun z => AV.int .i64 z)).take qs.length = qs.map (fun z => AV.int .i64 z) := List.take_of_length_le (by simp)
      simp only [XG, L183_3, h183_3, iv, go_sem, seval, bnd_ite, k1, gd, tq, ml, mi, ms, mt, ma, hap, hap2, hw, Int.natCast_nonneg]
      first | done | rfl
  case last =>
    intro _ _
    unfold mmBox mmNil mmCp
    simp only [XG, L183_3, h183_3, go_sem, seval, bnd_ite, Int.lt_irrefl, decide_false]
    exact .mk (by simp) ⟨rfl, rfl, rfl, by simp⟩
theorem e183 (x : Mm) (h : x.sm) : E T 183 [mm x] [] = some (mmO x, []) := by
  rw [E_eqW t183 (Nat.le_of_ble_eq_true rfl)]
  have e1 := e158 x.disk h.disk
  unfold dsk dskO at e1
  have t1 : (x.disk.used.map bv).take x.disk.used.length = x.disk.used.map bv := List.take_of_length_le (by simp)
  have t2 : (x.disk.taken.map bv).take x.disk.taken.length = x.disk.taken.map bv := List.take_of_length_le (by simp)
  have t3 : (x.disk.inos.map inoO).take x.disk.inos.length = x.disk.inos.map inoO := List.take_of_length_le (by simp)
  have t4 : (x.disk.blks.map blkO).take x.disk.blks.length = x.disk.blks.map blkO := List.take_of_length_le (by simp)
  have t5 : (x.dirty.map bv).take x.dirty.length = x.dirty.map bv := List.take_of_length_le (by simp)
  have t6 : (x.deps.map dpO).take x.deps.length = x.deps.map dpO := List.take_of_length_le (by simp)
  have hd := h.dirty
  have hap : x.dirty.length * 1 ≤ 140737488355328 := by omega
  have hap' : x.dirty.length ≤ 140737488355328 := by omega
  obtain ⟨⟨y, e, m⟩, q1, qx, q2, q3, qm⟩ := in183 x h
  simp only at qx q2 q3 qm; subst qx; subst qm
  unfold mmBox mmNil mmCp at q1
  cases hb : x.dirty with
  | nil =>
    rw [hb] at q1
    simp only [List.map_nil] at q1
    simp only [mm, F183, h183_3, mmBox, mmNil, mmCp, hb, go_sem, seval, bnd_ite, e1, q1, q2, q3, t1, t2, t3, t4, t6, mmO, List.map_nil]
    first | done | rfl
  | cons q qs =>
    rw [hb] at q1 hap hap'
    simp only [List.map_cons, bv, List.length_cons] at q1 hap hap'
    have tq : (qs.map (fun z => AV.bool z)).take qs.length = qs.map (fun z => AV.bool z) := List.take_of_length_le (by simp)
    simp only [mm, F183, h183_3, mmBox, mmNil, mmCp, hb, bv, go_sem, seval, bnd_ite, e1, hap, hap', q1, q2, q3, tq, t1, t2, t3, t4, t6, mmO, List.map_cons, List.length_cons]
    first | done | rfl
end Go.Proofs.Ytaaajjinpppgeaa
