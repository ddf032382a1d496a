/- Part 8 of the texts of a claim, joined by a program of ours (ZTb, Ta, Tb, Tc, Td, Fj, Te, Tf, Tg, Th, Ti, Tj). No condition. -/
import Derived.Test.YtaaajjinpppgeaaP27ag
set_option linter.unusedVariables false
set_option linter.unusedSimpArgs false
set_option linter.unusedSectionVars false
namespace Go.Proofs.Ytaaajjinpppgeaa
open Go Go.Abs
set_option maxRecDepth 100000
theorem in221 (x : Blk) (s : Slt) (j : Nat) (hj : j ≤ x.slots.length) (hl : x.slots.length ≤ 4) :
    ∃ r, XL T 0 H221_13 L221_13 ⟨[(1, .ptr 0 0 0), (3, .int .i64 j), (4, .ptr 1 0 0), (5, .int .i64 0)], [some (3, [.agg [.bool true, .ro 2 (x.slots.map slt), .str x.text]]), some (2, [.agg [.str s.name, .int .i64 s.ino]])]⟩ = some r ∧
      (newName x.slots j s = true ∧ (r.1 = .exit 2 ∧ lookA r.2.env 1 = .ptr 0 0 0 ∧ lookA r.2.env 3 = .int .i64 j ∧ lookA r.2.env 4 = .ptr 1 0 0 ∧ r.2.mem = [some (3, [.agg [.bool true, .ro 2 (x.slots.map slt), .str x.text]]), some (2, [.agg [.str s.name, .int .i64 s.ino]])]) ∨
       newName x.slots j s = false ∧ (r.1 = .ret ∧ lookA r.2.env 2 = .bool false)) := by
  have hlt : (x.slots.take j).length = j := by rw [List.length_take]; omega
  refine XL_all (x.slots.take j) (fun q => !decide (q.name = s.name)) (fun i => ⟨[(1, .ptr 0 0 0), (3, .int .i64 j), (4, .ptr 1 0 0), (5, .int .i64 (i : Nat))], [some (3, [.agg [.bool true, .ro 2 (x.slots.map slt), .str x.text]]), some (2, [.agg [.str s.name, .int .i64 s.ino]])]⟩)
    (fun r => r.1 = .exit 2 ∧ lookA r.2.env 1 = .ptr 0 0 0 ∧ lookA r.2.env 3 = .int .i64 j ∧ lookA r.2.env 4 = .ptr 1 0 0 ∧ r.2.mem = [some (3, [.agg [.bool true, .ro 2 (x.slots.map slt), .str x.text]]), some (2, [.agg [.str s.name, .int .i64 s.ino]])])
    (fun r => r.1 = .ret ∧ lookA r.2.env 2 = .bool false) ?step ?hit ?last
  case step =>
    intro i p hp hi hP _
    rw [hlt] at hi
    rw [List.getElem?_take_of_lt hi] at hp
    have hi1 : (i : Int) < (j : Int) := by omega
    have hi2 : (i : Int) < (x.slots.length : Int) := by omega
    have gp : (x.slots.map slt).getD i .undef = .agg [.str p.name, .int .i64 p.ino] := gD_map hp
    have hP : decide (p.name = s.name) = false := by simpa using hP
    simp only [XG, L221_13, h221_13, go_sem, seval, bnd_ite, hi1, hi2, gp, hP, Int.natCast_nonneg, w_i64 ((i : Int) + 1) (by omega), Bool.false_eq_true, if_false]
    first | done | rfl
  case hit =>
    intro i p hp hi hP _
    rw [hlt] at hi
    rw [List.getElem?_take_of_lt hi] at hp
    have hi1 : (i : Int) < (j : Int) := by omega
    have hi2 : (i : Int) < (x.slots.length : Int) := by omega
    have gp : (x.slots.map slt).getD i .undef = .agg [.str p.name, .int .i64 p.ino] := gD_map hp
    have hP : decide (p.name = s.name) = true := by simpa using hP
    simp only [XG, L221_13, h221_13, go_sem, seval, bnd_ite, hi1, hi2, gp, hP, Int.natCast_nonneg, w_i64 ((i : Int) + 1) (by omega), if_true]
    exact .mk (by simp) ⟨rfl, rfl⟩
  case last =>
    intro _
    simp only [XG, L221_13, h221_13, go_sem, seval, bnd_ite, hlt, Int.lt_irrefl, decide_false]
    exact .mk (by simp) ⟨rfl, rfl, rfl, rfl, rfl⟩
theorem e221 (x : Blk) (hk : x.ok) : E T 221 [blk x] [] = some (.bool (blkOk x), []) := by
  rw [E_eq t221 (Nat.le_of_ble_eq_true rfl)]
  obtain ⟨hk1, hk2, hk3⟩ := hk
  unfold maxLen at hk1
  cases hd : x.dir with
  | false =>
    rw [blk_nil hd]
    simp only [blk, F221, h221_6, go_sem, seval, bnd_ite, hd, Bool.not_false, if_true]
    by_cases h1 : x.slots.length = 0 <;> by_cases h2 : x.text.size ≤ 16 <;> simp [h1, h2] <;> omega
  | true =>
  have hl : decide ((x.slots.length : Int) = 4) = decide (x.slots.length = 4) := by congr 1; apply propext; omega
  by_cases hc : (decide (x.slots.length = 4) && decide (x.text = ⟨#[]⟩)) = true
  case neg =>
    have hf : (!decide (x.slots.length = 4) || !decide (x.text = ⟨#[]⟩)) = true := by
      rw [← Bool.not_and, Bool.eq_false_iff.2 hc]; rfl
    have hr : blkOk x = false := by
      unfold blkOk; rw [hd, if_pos rfl, Bool.eq_false_iff.2 hc, Bool.and_false]
    simp only [blk, F221, h221_6, go_sem, seval, bnd_ite, hd, hl, hf, hr, Bool.not_true, Bool.false_eq_true, if_true, if_false]
  have hf : (!decide (x.slots.length = 4) || !decide (x.text = ⟨#[]⟩)) = false := by
    rw [← Bool.not_and, hc]; rfl
  have h2 : x.slots.length = 4 := by simp only [Bool.and_eq_true, decide_eq_true_eq] at hc; exact hc.1
  refine (XL_all (T := T) (b := 0) (hd := H221_6) (x := L221_6) x.slots.zipIdx (fun p => slotOk x.slots p.2 p.1) (fun i => ⟨[(1, .ptr 0 0 0), (3, .int .i64 (i : Nat))], [some (3, [.agg [.bool true, .ro 2 (x.slots.map slt), .str x.text]])]⟩)
    (fun r => r.1 = .exit 0) (fun r => r.1 = .ret ∧ lookA r.2.env 2 = .bool false) ?step ?hit ?last).elim ?main
  case step =>
    rintro i ⟨s, j⟩ hp hi hP _
    obtain ⟨hp, hj⟩ := zip_at hp
    simp only at hp hj hP; subst hj
    rw [List.length_zipIdx] at hi
    have hi1 : (j : Int) < (x.slots.length : Int) := by omega
    have hi2 : (j : Int) < 4 := by omega
    have gp : (x.slots.map slt).getD j .undef = .agg [.str s.name, .int .i64 s.ino] := gD_map hp
    have hs := hk3 s (List.mem_of_getElem? hp)
    have e1 := e222 s.name hs
    simp only [slotOk] at hP
    cases hb : bare s with
    | true =>
      simp only [bare] at hb
      simp only [XG, L221_6, h221_6, go_sem, seval, bnd_ite, hi1, hi2, gp, hb, Int.natCast_nonneg, w_i64 ((j : Int) + 1) (by omega), if_true]
      first | done | rfl
    | false =>
      rw [hb, Bool.false_or, Bool.and_eq_true, Bool.and_eq_true] at hP
      obtain ⟨⟨p1, p2⟩, p3⟩ := hP
      simp only [bare] at hb
      obtain ⟨⟨y, e, m⟩, k1, k2⟩ := in221 x s j (by omega) (by omega)
      rcases k2 with ⟨h, kx, k3, k4, k5, km⟩ | ⟨h, _⟩
      · simp only at kx k3 k4 k5 km; subst kx; subst km
        simp only [XG, L221_6, h221_6, h221_13, go_sem, seval, bnd_ite, hi1, hi2, gp, e1, e116i, hb, p1, p2, k1, k3, k4, k5, Int.natCast_nonneg, w_i64 ((j : Int) + 1) (by omega), Bool.not_true, Bool.or_self, Bool.false_eq_true, if_false]
        first | done | rfl
      · rw [p3] at h; cases h
  case hit =>
    rintro i ⟨s, j⟩ hp hi hP _
    obtain ⟨hp, hj⟩ := zip_at hp
    simp only at hp hj hP; subst hj
    rw [List.length_zipIdx] at hi
    have hi1 : (j : Int) < (x.slots.length : Int) := by omega
    have hi2 : (j : Int) < 4 := by omega
    have gp : (x.slots.map slt).getD j .undef = .agg [.str s.name, .int .i64 s.ino] := gD_map hp
    have hs := hk3 s (List.mem_of_getElem? hp)
    have e1 := e222 s.name hs
    simp only [slotOk, Bool.or_eq_false_iff] at hP
    obtain ⟨hb, hP⟩ := hP
    simp only [bare] at hb
    cases hf : (!nameOk s.name || !inside s.ino 1 8) with
    | true =>
      simp only [XG, L221_6, h221_6, go_sem, seval, bnd_ite, hi1, hi2, gp, e1, e116i, hb, hf, Int.natCast_nonneg, w_i64 ((j : Int) + 1) (by omega), Bool.false_eq_true, if_false, if_true]
      exact .mk (by simp) ⟨rfl, rfl⟩
    | false =>
      obtain ⟨⟨y, e, m⟩, k1, k2⟩ := in221 x s j (by omega) (by omega)
      have p3 : newName x.slots j s = false := by
        rw [← Bool.not_and, Bool.not_eq_false'] at hf
        rw [hf, Bool.true_and] at hP; exact hP
      rcases k2 with ⟨h, _⟩ | ⟨h, kx, k3⟩
      · rw [p3] at h; cases h
      · simp only at kx k3; subst kx
        simp only [XG, L221_6, h221_6, h221_13, go_sem, seval, bnd_ite, hi1, hi2, gp, e1, e116i, hb, hf, k1, k3, Int.natCast_nonneg, w_i64 ((j : Int) + 1) (by omega), Bool.false_eq_true, if_false]
        exact .mk (by simp) ⟨rfl, k3⟩
  case last =>
    intro _
    have hi2 : ¬ (x.slots.length : Int) < 4 := by omega
    simp only [XG, L221_6, h221_6, go_sem, seval, bnd_ite, List.length_zipIdx, hi2, decide_false]
    exact .mk (by simp) rfl
  case main =>
  rintro ⟨y, e, m⟩ ⟨k1, k2⟩
  have hs : ((0 : Nat) : Int) = 0 := rfl
  simp only [hs] at k1
  unfold blkOk
  rw [hd, if_pos rfl, hc, Bool.and_true]
  rcases k2 with ⟨h, k2⟩ | ⟨h, k2, k3⟩ <;> simp only at k2 <;> subst k2
  · simp only [blk, F221, h221_6, go_sem, seval, bnd_ite, hd, hl, hf, k1, h, Bool.not_true, Bool.false_eq_true, if_false]
  · simp only at k3
    simp only [blk, F221, h221_6, go_sem, seval, bnd_ite, hd, hl, hf, k1, k3, h, Bool.not_true, Bool.false_eq_true, if_false]
def dskOk (x : Dsk) : Bool := x.inos.all inoOk && (x.blks.all blkOk && ((decide (x.used.length = 16) && decide (x.taken.length = 8)) && decide (x.inos.length = 8) && decide (x.blks.length = 16)))
end Go.Proofs.Ytaaajjinpppgeaa
namespace Go.Proofs.Ytaaajjinpppgeaa
open Go Go.Abs
set_option maxRecDepth 100000
def dskV (x : Dsk) : List AV := [.ro 1 (x.used.map bv), .ro 1 (x.taken.map bv), .ro 3 (x.inos.map ino), .ro 3 (x.blks.map blk)]
theorem in155a (x : Dsk) (hk : x.ok) : ∃ r, XL T 0 H155_2 L155_2 ⟨[(1, .ptr 0 0 0), (8, .ro 3 (x.inos.map ino)), (9, .int .i64 x.inos.length), (10, .int .i64 0)], [some (4, [.agg (dskV x)])]⟩ = some r ∧
    (x.inos.all inoOk = true ∧ (r.1 = .exit 0 ∧ lookA r.2.env 1 = .ptr 0 0 0 ∧ r.2.mem = [some (4, [.agg (dskV x)])]) ∨ x.inos.all inoOk = false ∧ (r.1 = .ret ∧ lookA r.2.env 2 = .bool false)) := by
  have hl := hk.inos
  unfold maxLen at hl
  refine XL_all x.inos inoOk (fun i => ⟨[(1, .ptr 0 0 0), (8, .ro 3 (x.inos.map ino)), (9, .int .i64 x.inos.length), (10, .int .i64 (i : Nat))], [some (4, [.agg (dskV x)])]⟩) (fun r => r.1 = .exit 0 ∧ lookA r.2.env 1 = .ptr 0 0 0 ∧ r.2.mem = [some (4, [.agg (dskV x)])]) (fun r => r.1 = .ret ∧ lookA r.2.env 2 = .bool false) ?step ?hit ?last
  case step =>
    intro i p hp hi hP _
    have hi1 : (i : Int) < (x.inos.length : Int) := by omega
    have gp : (x.inos.map ino).getD i .undef = .agg [.int .i64 p.kind, .int .i64 p.links, .ro 1 (p.ptrs.map iv)] := gD_map hp
    have e1 := e223 p (hk.ino p (List.mem_of_getElem? hp))
    unfold ino at e1
    unfold dskV
    simp only [XG, L155_2, h155_2, go_sem, seval, bnd_ite, hi1, gp, e1, hP, Int.natCast_nonneg, w_i64 ((i : Int) + 1) (by omega), Bool.not_true, Bool.false_eq_true, if_false]
    first | done | rfl
  case hit =>
    intro i p hp hi hP _
    have hi1 : (i : Int) < (x.inos.length : Int) := by omega
    have gp : (x.inos.map ino).getD i .undef = .agg [.int .i64 p.kind, .int .i64 p.links, .ro 1 (p.ptrs.map iv)] := gD_map hp
    have e1 := e223 p (hk.ino p (List.mem_of_getElem? hp))
    unfold ino at e1
    unfold dskV
    simp only [XG, L155_2, h155_2, go_sem, seval, bnd_ite, hi1, gp, e1, hP, Int.natCast_nonneg, w_i64 ((i : Int) + 1) (by omega), Bool.not_false, if_true]
    exact .mk (by simp) ⟨rfl, rfl⟩
  case last =>
    intro _
    unfold dskV
    simp only [XG, L155_2, h155_2, go_sem, seval, bnd_ite, Int.lt_irrefl, decide_false]
    exact .mk (by simp) ⟨rfl, rfl, rfl⟩
theorem in155b (x : Dsk) (hk : x.ok) : ∃ r, XL T 0 H155_9 L155_9 ⟨[(1, .ptr 0 0 0), (19, .ro 3 (x.blks.map blk)), (20, .int .i64 x.blks.length), (21, .int .i64 0)], [some (4, [.agg (dskV x)])]⟩ = some r ∧
    (x.blks.all blkOk = true ∧ (r.1 = .exit 2 ∧ lookA r.2.env 1 = .ptr 0 0 0 ∧ r.2.mem = [some (4, [.agg (dskV x)])]) ∨ x.blks.all blkOk = false ∧ (r.1 = .ret ∧ lookA r.2.env 2 = .bool false)) := by
  have hl := hk.blks
  unfold maxLen at hl
  refine XL_all x.blks blkOk (fun i => ⟨[(1, .ptr 0 0 0), (19, .ro 3 (x.blks.map blk)), (20, .int .i64 x.blks.length), (21, .int .i64 (i : Nat))], [some (4, [.agg (dskV x)])]⟩) (fun r => r.1 = .exit 2 ∧ lookA r.2.env 1 = .ptr 0 0 0 ∧ r.2.mem = [some (4, [.agg (dskV x)])]) (fun r => r.1 = .ret ∧ lookA r.2.env 2 = .bool false) ?step ?hit ?last
  case step =>
    intro i p hp hi hP _
    have hi1 : (i : Int) < (x.blks.length : Int) := by omega
    have gp : (x.blks.map blk).getD i .undef = .agg [.bool p.dir, .ro 2 (p.slots.map slt), .str p.text] := gD_map hp
    have e1 := e224 p (hk.blk p (List.mem_of_getElem? hp))
    unfold blk at e1
    unfold dskV
    simp only [XG, L155_9, h155_9, go_sem, seval, bnd_ite, hi1, gp, e1, hP, Int.natCast_nonneg, w_i64 ((i : Int) + 1) (by omega), Bool.not_true, Bool.false_eq_true, if_false]
    first | done | rfl
  case hit =>
    intro i p hp hi hP _
    have hi1 : (i : Int) < (x.blks.length : Int) := by omega
    have gp : (x.blks.map blk).getD i .undef = .agg [.bool p.dir, .ro 2 (p.slots.map slt), .str p.text] := gD_map hp
    have e1 := e224 p (hk.blk p (List.mem_of_getElem? hp))
    unfold blk at e1
    unfold dskV
    simp only [XG, L155_9, h155_9, go_sem, seval, bnd_ite, hi1, gp, e1, hP, Int.natCast_nonneg, w_i64 ((i : Int) + 1) (by omega), Bool.not_false, if_true]
    exact .mk (by simp) ⟨rfl, rfl⟩
  case last =>
    intro _
    unfold dskV
    simp only [XG, L155_9, h155_9, go_sem, seval, bnd_ite, Int.lt_irrefl, decide_false]
    exact .mk (by simp) ⟨rfl, rfl, rfl⟩
theorem e155 (x : Dsk) (hk : x.ok) : E T 155 [dsk x] [] = some (.bool (dskOk x), []) := by
  rw [E_eq t155 (Nat.le_of_ble_eq_true rfl)]
  have c1 : decide ((x.inos.length : Int) = 8) = decide (x.inos.length = 8) := by congr 1; apply propext; omega
  have c2 : decide ((x.blks.length : Int) = 16) = decide (x.blks.length = 16) := by congr 1; apply propext; omega
  obtain ⟨⟨y, e, m⟩, k1, k2⟩ := in155a x hk
  unfold dskOk
  unfold dskV at k1 k2
  rcases k2 with ⟨h, kx, k3, km⟩ | ⟨h, kx, k3⟩
  · simp only at kx k3 km; subst kx; subst km
    obtain ⟨⟨y, e', m⟩, k4, k5⟩ := in155b x hk
    unfold dskV at k4 k5
    rcases k5 with ⟨h', kx, k6, km⟩ | ⟨h', kx, k6⟩
    · simp only at kx k6 km; subst kx; subst km
      have e0 := e225 x.used x.taken
      simp only [dsk, F155, h155_2, h155_9, go_sem, seval, bnd_ite, k1, k3, k4, k6, h, h', c1, c2, e0, Bool.true_and]
    · simp only at kx k6; subst kx
      simp only [dsk, F155, h155_2, h155_9, go_sem, seval, bnd_ite, k1, k3, k4, k6, h, h', Bool.false_and, Bool.and_false]
  · simp only at kx k3; subst kx
    simp only [dsk, F155, h155_2, go_sem, seval, bnd_ite, k1, k3, h, Bool.false_and]
theorem in153a (x : Dsk) (hk : x.ok) : ∃ r, XL T 0 H153_4 L153_4 ⟨[(1, .ptr 0 0 0), (3, .int .i64 0)], [some (4, [.agg (dskV x)])]⟩ = some r ∧
    (x.inos.all inoOk = true ∧ (r.1 = .exit 0 ∧ lookA r.2.env 1 = .ptr 0 0 0 ∧ r.2.mem = [some (4, [.agg (dskV x)])]) ∨ x.inos.all inoOk = false ∧ (r.1 = .ret ∧ lookA r.2.env 2 = .bool false)) := by
  have hl := hk.inos
  unfold maxLen at hl
  refine XL_all x.inos inoOk (fun i => ⟨[(1, .ptr 0 0 0), (3, .int .i64 (i : Nat))], [some (4, [.agg (dskV x)])]⟩) (fun r => r.1 = .exit 0 ∧ lookA r.2.env 1 = .ptr 0 0 0 ∧ r.2.mem = [some (4, [.agg (dskV x)])]) (fun r => r.1 = .ret ∧ lookA r.2.env 2 = .bool false) ?step ?hit ?last
  case step =>
    intro i p hp hi hP _
    have hi1 : (i : Int) < (x.inos.length : Int) := by omega
    have gp : (x.inos.map ino).getD i .undef = .agg [.int .i64 p.kind, .int .i64 p.links, .ro 1 (p.ptrs.map iv)] := gD_map hp
    have e1 := e220 p (hk.ino p (List.mem_of_getElem? hp))
    unfold ino at e1
    unfold dskV
    simp only [XG, L153_4, h153_4, go_sem, seval, bnd_ite, hi1, gp, e1, hP, Int.natCast_nonneg, w_i64 ((i : Int) + 1) (by omega), Bool.not_true, Bool.false_eq_true, if_false]
    first | done | rfl
  case hit =>
    intro i p hp hi hP _
    have hi1 : (i : Int) < (x.inos.length : Int) := by omega
    have gp : (x.inos.map ino).getD i .undef = .agg [.int .i64 p.kind, .int .i64 p.links, .ro 1 (p.ptrs.map iv)] := gD_map hp
    have e1 := e220 p (hk.ino p (List.mem_of_getElem? hp))
    unfold ino at e1
    unfold dskV
    simp only [XG, L153_4, h153_4, go_sem, seval, bnd_ite, hi1, gp, e1, hP, Int.natCast_nonneg, w_i64 ((i : Int) + 1) (by omega), Bool.not_false, if_true]
    exact .mk (by simp) ⟨rfl, rfl⟩
  case last =>
    intro _
    unfold dskV
    simp only [XG, L153_4, h153_4, go_sem, seval, bnd_ite, Int.lt_irrefl, decide_false]
    exact .mk (by simp) ⟨rfl, rfl, rfl⟩
theorem in153b (x : Dsk) (hk : x.ok) : ∃ r, XL T 0 H153_10 L153_10 ⟨[(1, .ptr 0 0 0), (4, .int .i64 0)], [some (4, [.agg (dskV x)])]⟩ = some r ∧
    (x.blks.all blkOk = true ∧ (r.1 = .exit 2) ∨ x.blks.all blkOk = false ∧ (r.1 = .ret ∧ lookA r.2.env 2 = .bool false)) := by
  have hl := hk.blks
  unfold maxLen at hl
  refine XL_all x.blks blkOk (fun i => ⟨[(1, .ptr 0 0 0), (4, .int .i64 (i : Nat))], [some (4, [.agg (dskV x)])]⟩) (fun r => r.1 = .exit 2) (fun r => r.1 = .ret ∧ lookA r.2.env 2 = .bool false) ?step ?hit ?last
  case step =>
    intro i p hp hi hP _
    have hi1 : (i : Int) < (x.blks.length : Int) := by omega
    have gp : (x.blks.map blk).getD i .undef = .agg [.bool p.dir, .ro 2 (p.slots.map slt), .str p.text] := gD_map hp
    have e1 := e221 p (hk.blk p (List.mem_of_getElem? hp))
    unfold blk at e1
    unfold dskV
    simp only [XG, L153_10, h153_10, go_sem, seval, bnd_ite, hi1, gp, e1, hP, Int.natCast_nonneg, w_i64 ((i : Int) + 1) (by omega), Bool.not_true, Bool.false_eq_true, if_false]
    first | done | rfl
  case hit =>
    intro i p hp hi hP _
    have hi1 : (i : Int) < (x.blks.length : Int) := by omega
    have gp : (x.blks.map blk).getD i .undef = .agg [.bool p.dir, .ro 2 (p.slots.map slt), .str p.text] := gD_map hp
    have e1 := e221 p (hk.blk p (List.mem_of_getElem? hp))
    unfold blk at e1
    unfold dskV
    simp only [XG, L153_10, h153_10, go_sem, seval, bnd_ite, hi1, gp, e1, hP, Int.natCast_nonneg, w_i64 ((i : Int) + 1) (by omega), Bool.not_false, if_true]
    exact .mk (by simp) ⟨rfl, rfl⟩
  case last =>
    intro _
    unfold dskV
    simp only [XG, L153_10, h153_10, go_sem, seval, bnd_ite, Int.lt_irrefl, decide_false]
    exact .mk (by simp) rfl
theorem e153 (x : Dsk) (hk : x.ok) : E T 153 [dsk x] [] = some (.bool (dskOk x), []) := by
  rw [E_eq t153 (Nat.le_of_ble_eq_true rfl)]
  have c1 : decide ((x.inos.length : Int) = 8) = decide (x.inos.length = 8) := by congr 1; apply propext; omega
  have c2 : decide ((x.blks.length : Int) = 16) = decide (x.blks.length = 16) := by congr 1; apply propext; omega
  have e0 := e219 x.used x.taken
  by_cases hc : (((decide (x.used.length = 16) && decide (x.taken.length = 8)) && decide (x.inos.length = 8) && decide (x.blks.length = 16))) = true
  case neg =>
    have hr : dskOk x = false := by unfold dskOk; rw [Bool.eq_false_iff.2 hc, Bool.and_false, Bool.and_false]
    have hf : (!(decide (x.used.length = 16) && decide (x.taken.length = 8)) || !decide (x.inos.length = 8) || !decide (x.blks.length = 16)) = true := by
      rw [← Bool.not_and, ← Bool.not_and, Bool.eq_false_iff.2 hc]; rfl
    simp only [dsk, F153, h153_4, go_sem, seval, bnd_ite, e0, c1, c2, hf, hr, if_true]
  have hf : (!(decide (x.used.length = 16) && decide (x.taken.length = 8)) || !decide (x.inos.length = 8) || !decide (x.blks.length = 16)) = false := by
    rw [← Bool.not_and, ← Bool.not_and, hc]; rfl
  obtain ⟨⟨y, e, m⟩, k1, k2⟩ := in153a x hk
  unfold dskOk
  rw [hc, Bool.and_true]
  unfold dskV at k1 k2
  rcases k2 with ⟨h, kx, k3, km⟩ | ⟨h, kx, k3⟩
  · simp only at kx k3 km; subst kx; subst km
    obtain ⟨⟨y, e', m⟩, k4, k5⟩ := in153b x hk
    unfold dskV at k4
    rcases k5 with ⟨h', kx⟩ | ⟨h', kx, k6⟩
    · simp only at kx; subst kx
      simp only [dsk, F153, h153_4, h153_10, go_sem, seval, bnd_ite, k1, k3, k4, h, h', e0, c1, c2, hf, Bool.true_and, Bool.false_eq_true, if_false]
    · simp only at kx k6; subst kx
      simp only [dsk, F153, h153_4, h153_10, go_sem, seval, bnd_ite, k1, k3, k4, k6, h, h', e0, c1, c2, hf, Bool.and_false, Bool.false_eq_true, if_false]
  · simp only at kx k3; subst kx
    simp only [dsk, F153, h153_4, go_sem, seval, bnd_ite, k1, k3, h, e0, c1, c2, hf, Bool.false_and, Bool.false_eq_true, if_false]
end Go.Proofs.Ytaaajjinpppgeaa
namespace Go.Proofs.Ytaaajjinpppgeaa
open Go Go.Abs
set_option maxRecDepth 100000
theorem nd_cells (x : Nd) : (nd x).cells = [.str x.path, .bool x.dir, .str x.head, .str x.tail] := rfl
theorem nd_cool (x : Nd) : coolX (nd x) = true := rfl
theorem nd_len (x : Nd) : (nd x).cells.length = 4 := rfl
theorem nd_ice (x : Nd) : ice (nd x) = nd x := rfl
theorem nd_rf (x : Nd) : (nd x).roFree = true := rfl
theorem nd_no (x : Nd) : (nd x).cells.all noOwnC = true := rfl
theorem nd_mi (g : Bool → Nat → Nat → Nat → AV) (l : List Nd) : mapIdL g (l.map nd) = l.map nd := mi_map g nd l nd_cool
theorem nd_is (u : Bool → Nat → Nat → Nat → List Nat) (l : List Nd) : idsL u (l.map nd) = [] := is_map u nd l nd_cool
theorem nd_coR (l : List Nd) : coolR 4 (l.map nd) = true := coR_map 4 nd l nd_len nd_cool
theorem nd_ic (l : List Nd) : iceL (l.map nd) = l.map nd := ice_m nd l
theorem nd_rfL (l : List Nd) : roFreeL (l.map nd) = true := rf_map nd l nd_rf
theorem nd_noL (l : List Nd) : (l.map nd).all (fun x => x.cells.all noOwnC) = true := no_map nd l nd_no
attribute [go_sem] nd_cells nd_cool nd_ice nd_rf nd_mi nd_is nd_coR nd_ic nd_rfL nd_noL
theorem nd_eq (a b : Nd) : a = b ↔ a.path = b.path ∧ a.dir = b.dir ∧ a.head = b.head ∧ a.tail = b.tail := by
  cases a; cases b; simp
theorem beq_dec (x y : Bool) : (x == y) = decide (x = y) := by cases x <;> cases y <;> rfl
def Nd.ok (x : Nd) : Prop := x.path.size ≤ maxLen ∧ x.head.size ≤ maxLen ∧ x.tail.size ≤ maxLen
theorem e122 (a1 : ByteArray) (a2 : Bool) (a3 a4 b1 : ByteArray) (b2 : Bool) (b3 b4 : ByteArray) :
    E T 122 [.agg [.str a1, .bool a2, .str a3, .str a4], .agg [.str b1, .bool b2, .str b3, .str b4]] [] = some (.bool (decide (a1 = b1 ∧ a2 = b2 ∧ a3 = b3 ∧ a4 = b4)), []) := by
  rw [E_eq t122 (Nat.le_of_ble_eq_true rfl)]
  simp only [F122, go_sem, seval, bnd_ite, beq_dec]
  by_cases h1 : a1 = b1 <;> by_cases h2 : a2 = b2 <;> by_cases h3 : a3 = b3 <;> by_cases h4 : a4 = b4 <;> simp [h1, h2, h3, h4]
theorem t37 : T 37 = some (Feq 4 4 122) := tab Try.func37 (by kernel_rfl) rfl
theorem t33 : T 33 = some (Fsz 4 4 119) := tab Try.func33 (by kernel_rfl) rfl
theorem t35 : T 35 = some (Fto 4 56 (.agg [.str ⟨#[]⟩, .bool false, .str ⟨#[]⟩, .str ⟨#[]⟩]) 4 120) := tab Try.func35 (by kernel_rfl) rfl
theorem e37 (xs ys : List Nd) (ha : xs.length ≤ maxLen) : E T 37 [.ro 4 (xs.map nd), .ro 4 (ys.map nd)] [] = some (.bool (decide (xs = ys)), []) :=
  geq t37 (fun _ => rfl) (fun _ => Nat.le_refl _) (fun _ => rfl) (fun _ => rfl) (fun x y => by
    show E T 122 [.agg [.str x.path, .bool x.dir, .str x.head, .str x.tail], .agg [.str y.path, .bool y.dir, .str y.head, .str y.tail]] [] = _
    rw [e122]; congr 3; simp only [nd_eq]) xs ys ha
theorem e119 (a1 : ByteArray) (a2 : Bool) (a3 a4 : ByteArray) (n : Int) (h0 : 0 ≤ n) (hn : n ≤ 1048576) (h1 : a1.size ≤ maxLen) (h3 : a3.size ≤ maxLen) (h4 : a4.size ≤ maxLen) :
    ∃ r : Int, E T 119 [.agg [.str a1, .bool a2, .str a3, .str a4], .int .i64 n] [] = some (.int .i64 r, []) ∧ -1 ≤ r ∧ r ≤ n := by
  rw [E_eq t119 (Nat.le_of_ble_eq_true rfl)]
  simp only [F119, go_sem, seval, bnd_ite]
  unfold maxLen at h1 h3 h4
  rw [w_i64 (n - (a1.size : Int)) (by omega)]
  by_cases c1 : n - (a1.size : Int) < 0
  · rw [if_pos c1]; exact ⟨_, rfl, by omega, by omega⟩
  rw [if_neg c1, w_i64 (n - (a1.size : Int) - (a3.size : Int)) (by omega)]
  by_cases c2 : n - (a1.size : Int) - (a3.size : Int) < 0
  · rw [if_pos c2]; exact ⟨_, rfl, by omega, by omega⟩
  rw [if_neg c2, w_i64 (n - (a1.size : Int) - (a3.size : Int) - (a4.size : Int)) (by omega)]
  by_cases c3 : n - (a1.size : Int) - (a3.size : Int) - (a4.size : Int) < 0
  · rw [if_pos c3]; exact ⟨_, rfl, by omega, by omega⟩
  rw [if_neg c3]; exact ⟨_, rfl, by omega, by omega⟩
theorem e33 (l : List Nd) (n : Int) (h0 : 0 ≤ n) (hn : n ≤ 1048576) (hl : l.length ≤ maxLen) (hok : ∀ x ∈ l, x.ok) :
    ∃ r : Int, E T 33 [.ro 4 (l.map nd), .int .i64 n] [] = some (.int .i64 r, []) ∧ -1 ≤ r ∧ r ≤ n ∧ (0 ≤ r → l.length ≤ 1048576 ∧ ∀ x ∈ l, True) :=
  gsz (ok := Nd.ok) t33 (fun _ => rfl) (fun _ => Nat.le_refl _) (fun _ => rfl) (fun _ => rfl) (fun x r h h0 h1 => by
    obtain ⟨v, h2, h3, h4⟩ := e119 x.path x.dir x.head x.tail r h0 h1 h.1 h.2.1 h.2.2
    exact ⟨v, h2, h3, h4, fun _ => trivial⟩) l n h0 hn hl hok
theorem e120 (a1 : ByteArray) (a2 : Bool) (a3 a4 : ByteArray) : E T 120 [.agg [.str a1, .bool a2, .str a3, .str a4]] [] = some (.agg [.str a1, .bool a2, .str a3, .str a4], []) := by
  rw [E_eq t120 (Nat.le_of_ble_eq_true rfl)]; simp only [F120, go_sem, seval]
theorem e35 (l : List Nd) (hl : l.length ≤ 1048576) : E T 35 [.ro 4 (l.map nd)] [] = some (.own 4 (l.map nd), []) :=
  gto (cs := fun x : Nd => [.str x.path, .bool x.dir, .str x.head, .str x.tail]) t35 (by omega) (fun _ => rfl) rfl (fun _ => rfl) (fun _ _ => rfl) (fun _ => rfl) (fun _ => rfl) rfl (fun _ _ => rfl) (fun _ => rfl) (fun x => e120 ..) l hl
theorem e34 (xs ys : List Nd) (ha : xs.length ≤ maxLen) : E T 34 [.ro 4 (xs.map nd), .ro 4 (ys.map nd)] [] = some (.bool (decide (xs = ys)), []) := by
  rw [E_eq t34 (Nat.le_of_ble_eq_true rfl)]
  simp only [F34, h34_4, go_sem, seval, bnd_ite]
  unfold maxLen at ha
  by_cases hl : xs.length = ys.length
  case neg =>
    have : xs ≠ ys := fun e => hl (by rw [e])
    simp [this, show ¬ (xs.length : Int) = ys.length by omega]
  refine (XL_inv (T := T) (b := 0) (hd := H34_4) (x := L34_4) (β := Unit) (fun i _ => ⟨[(0, .ro 4 (xs.map nd)), (1, .ro 4 (ys.map nd)), (5, .int .i64 (i : Nat))], []⟩)
    (fun i _ => xs.take i = ys.take i) xs.length (fun r => (r.1 = .exit 0 ∧ xs = ys) ∨ (r.1 = .ret ∧ lookA r.2.env 4 = .bool false ∧ xs ≠ ys)) ?step ?last 0 () (by omega) rfl).elim ?main
  case step =>
    intro i _ hi hI
    obtain ⟨p, hp⟩ := get_at hi
    obtain ⟨q, hq⟩ := get_at (show i < ys.length by omega)
    have hi1 : (i : Int) < (xs.length : Int) := by omega
    have hi2 : (i : Int) < (ys.length : Int) := by omega
    simp only [XG, L34_4, h34_4, go_sem, seval, bnd_ite, hi1, hi2, gD_map hp, gD_map hq, beq_dec, Int.natCast_nonneg, w_i64 ((i : Int) + 1) (by omega)]
    by_cases he : p = q
    · left
      subst he
      exact ⟨(), by simp, by rw [take_eq_snoc hp hq]; exact ⟨hI, rfl⟩⟩
    · right
      have hne : xs ≠ ys := fun e => he (by rw [e] at hp; rw [hp] at hq; exact Option.some.inj hq)
      rw [nd_eq] at he
      have he : (decide (p.path = q.path) && (decide (p.dir = q.dir) && (decide (p.head = q.head) && decide (p.tail = q.tail)))) = false := by
        rw [← Bool.not_eq_true]; simpa using he
      simp only [he, Bool.not_false, if_true]
      exact .mk (by simp) (.inr ⟨rfl, rfl, hne⟩)
  case last =>
    intro _ hI
    have e : xs = ys := by rw [List.take_length] at hI; rw [hI, hl, List.take_length]
    simp only [XG, L34_4, h34_4, go_sem, seval, bnd_ite, Int.lt_irrefl, decide_false]
    exact .mk (by simp) (.inl ⟨rfl, e⟩)
  case main =>
  rintro ⟨x, st⟩ ⟨h1, h2, h3⟩
  have hs : (0 : Int) = ((0 : Nat) : Int) := rfl
  simp only [hl, decide_true, Bool.not_true, Bool.false_eq_true, if_false]
  rw [hs, h1]
  obtain ⟨e, m⟩ := st
  rcases h3 with ⟨hx, h4⟩ | ⟨hx, h4, h5⟩
  · simp only at hx; subst hx; subst h4
    simp only [go_sem, seval]; simp
  · simp only at hx h4; subst hx
    simp only [go_sem, seval, h4]; simp [h5]
theorem e121 (xs ys : List Nd) (ha : xs.length ≤ maxLen) : E T 121 [.ro 4 (xs.map nd), .ro 4 (ys.map nd)] [] = some (.bool (decide (xs = ys)), []) := by
  rw [E_eq t121 (Nat.le_of_ble_eq_true rfl)]
  simp only [F121, h121_4, go_sem, seval, bnd_ite]
  unfold maxLen at ha
  by_cases hl : xs.length = ys.length
  case neg =>
    have : xs ≠ ys := fun e => hl (by rw [e])
    simp [this, show ¬ (xs.length : Int) = ys.length by omega]
  refine (XL_inv (T := T) (b := 0) (hd := H121_4) (x := L121_4) (β := Unit) (fun i _ => ⟨[(0, .ro 4 (xs.map nd)), (1, .ro 4 (ys.map nd)), (12, .int .i64 xs.length), (13, .int .i64 (i : Nat))], []⟩)
    (fun i _ => xs.take i = ys.take i) xs.length (fun r => (r.1 = .exit 0 ∧ xs = ys) ∨ (r.1 = .ret ∧ lookA r.2.env 4 = .bool false ∧ xs ≠ ys)) ?step ?last 0 () (by omega) rfl).elim ?main
  case step =>
    intro i _ hi hI
    obtain ⟨p, hp⟩ := get_at hi
    obtain ⟨q, hq⟩ := get_at (show i < ys.length by omega)
    have hi1 : (i : Int) < (xs.length : Int) := by omega
    have hi2 : (i : Int) < (ys.length : Int) := by omega
    simp only [XG, L121_4, h121_4, go_sem, seval, bnd_ite, hi1, hi2, gD_map hp, gD_map hq, beq_dec, Int.natCast_nonneg, w_i64 ((i : Int) + 1) (by omega)]
    by_cases he : p = q
    · left
      subst he
      exact ⟨(), by simp, by rw [take_eq_snoc hp hq]; exact ⟨hI, rfl⟩⟩
    · right
      have hne : xs ≠ ys := fun e => he (by rw [e] at hp; rw [hp] at hq; exact Option.some.inj hq)
      rw [nd_eq] at he
      have he : (decide (p.path = q.path) && (decide (p.dir = q.dir) && (decide (p.head = q.head) && decide (p.tail = q.tail)))) = false := by
        rw [← Bool.not_eq_true]; simpa using he
      simp only [he, Bool.not_false, if_true]
      exact .mk (by simp) (.inr ⟨rfl, rfl, hne⟩)
  case last =>
    intro _ hI
    have e : xs = ys := by rw [List.take_length] at hI; rw [hI, hl, List.take_length]
    simp only [XG, L121_4, h121_4, go_sem, seval, bnd_ite, Int.lt_irrefl, decide_false]
    exact .mk (by simp) (.inl ⟨rfl, e⟩)
  case main =>
  rintro ⟨x, st⟩ ⟨h1, h2, h3⟩
  have hs : (0 : Int) = ((0 : Nat) : Int) := rfl
  simp only [hl, decide_true, Bool.not_true, Bool.false_eq_true, if_false]
  rw [hs]; rw [hl] at h1; rw [h1]
  obtain ⟨e, m⟩ := st
  rcases h3 with ⟨hx, h4⟩ | ⟨hx, h4, h5⟩
  · simp only at hx; subst hx; subst h4
    simp only [go_sem, seval]; simp
  · simp only at hx h4; subst hx
    simp only [go_sem, seval, h4]; simp [h5]
theorem e36 (xs ys : List Nd) (ha : xs.length ≤ maxLen) : E T 36 [.ro 4 (xs.map nd), .ro 4 (ys.map nd)] [] = some (.bool (decide (xs = ys)), []) := by
  rw [E_eq t36 (Nat.le_of_ble_eq_true rfl)]
  simp only [F36, go_sem, seval, e121 xs ys ha]
theorem e4 (xs ys : List Nd) (hx : xs.length ≤ maxLen) (hy : ys.length ≤ maxLen) (hxo : ∀ x ∈ xs, x.ok) (hyo : ∀ x ∈ ys, x.ok) : E T 4 [.ro 4 (xs.map nd), .ro 4 (ys.map nd)] [] = some (.bool true, []) := by
  rw [E_eq t4 (Nat.le_of_ble_eq_true rfl)]
  obtain ⟨r1, h1, h2, h3, h4⟩ := e33 xs 1048576 (by omega) (by omega) hx hxo
  simp only [F4, go_sem, seval, bnd_ite, h1]
  by_cases c1 : r1 < 0
  · rw [if_pos c1]
  rw [if_neg c1]
  obtain ⟨r2, g1, g2, g3, g4⟩ := e33 ys r1 (by omega) (by omega) hy hyo
  simp only [go_sem, seval, bnd_ite, g1]
  by_cases c2 : r2 < 0
  · rw [if_pos c2]
  rw [if_neg c2]
  have b1 := (h4 (by omega)).1
  have b2 := (g4 (by omega)).1
  simp only [go_sem, seval, bnd_ite, e35 xs b1, e35 ys b2, e34 xs ys hx, e36 xs ys hx, e37 xs xs hx, e37 ys ys hy]
  cases decide (xs = ys) <;> simp
end Go.Proofs.Ytaaajjinpppgeaa
namespace Go.Proofs.Ytaaajjinpppgeaa
open Go Go.Abs
set_option maxRecDepth 100000
structure DskOk (x : Dsk) : Prop where
  ino : ∀ p ∈ x.inos, inoOk p = true
  blk : ∀ p ∈ x.blks, blkOk p = true
  used : x.used.length = 16
  taken : x.taken.length = 8
  inos : x.inos.length = 8
  blks : x.blks.length = 16
theorem dskOk_iff {x : Dsk} : dskOk x = true ↔ DskOk x := by
  unfold dskOk
  simp only [Bool.and_eq_true, List.all_eq_true, decide_eq_true_eq]
  exact ⟨fun ⟨a, b, ⟨⟨c, d⟩, e⟩, f⟩ => ⟨a, b, c, d, e, f⟩, fun ⟨a, b, c, d, e, f⟩ => ⟨a, b, ⟨⟨c, d⟩, e⟩, f⟩⟩
structure InoOk (x : Ino) : Prop where
  kind : 0 ≤ x.kind ∧ x.kind ≤ 2
  links : 0 ≤ x.links ∧ x.links ≤ 200
  two : x.ptrs.length = 2
  ptr : ∀ p ∈ x.ptrs, 0 ≤ p ∧ p ≤ 16 ∧ (x.kind = 0 → p = 0)
  none : x.kind = 0 → x.links = 0
theorem inoOk_iff {x : Ino} : inoOk x = true ↔ InoOk x := by
  unfold inoOk ptrOk inside
  simp only [Bool.and_eq_true, List.all_eq_true, decide_eq_true_eq, Bool.not_eq_true', Bool.and_eq_false_iff, decide_eq_false_iff_not, Bool.or_eq_true]
  constructor
  · rintro ⟨a, ⟨⟨b, c⟩, d⟩, e⟩
    refine ⟨b, c, d, fun p hp => ?_, fun h => ?_⟩
    · have := a p hp; omega
    · omega
  · rintro ⟨b, c, d, a, e⟩
    refine ⟨fun p hp => ?_, ⟨⟨b, c⟩, d⟩, ?_⟩
    · have := a p hp; omega
    · omega
theorem blkOk_dir {x : Blk} (h : blkOk x = true) (hd : x.dir = true) : x.slots.length = 4 ∧ x.text = ⟨#[]⟩ ∧ ∀ (i : Nat) s, x.slots[i]? = some s → slotOk x.slots i s = true := by
  unfold blkOk at h
  rw [hd, if_pos rfl] at h
  simp only [Bool.and_eq_true, List.all_eq_true, decide_eq_true_eq] at h
  obtain ⟨h1, h2, h3⟩ := h
  refine ⟨h2, h3, fun i s hs => ?_⟩
  have := h1 (s, i) (List.mem_of_getElem? (i := i) (by rw [List.getElem?_zipIdx, hs]; simp))
  exact this
theorem blkOk_txt {x : Blk} (h : blkOk x = true) (hd : x.dir = false) : x.slots = [] ∧ x.text.size ≤ 16 := by
  rw [blk_nil hd] at h
  simp only [Bool.and_eq_true, decide_eq_true_eq] at h
  exact ⟨List.eq_nil_of_length_eq_zero h.1, h.2⟩
end Go.Proofs.Ytaaajjinpppgeaa
namespace Go.Proofs.Ytaaajjinpppgeaa
open Go Go.Abs
set_option maxRecDepth 100000
def sv (s : ByteArray) : AV := .str s
theorem sv_cool (x : ByteArray) : coolX (sv x) = true := rfl
theorem sv_len (x : ByteArray) : (sv x).cells.length = 1 := rfl
theorem sv_mi (g : Bool → Nat → Nat → Nat → AV) (l : List ByteArray) : mapIdL g (l.map sv) = l.map sv := mi_map g sv l sv_cool
theorem sv_is (u : Bool → Nat → Nat → Nat → List Nat) (l : List ByteArray) : idsL u (l.map sv) = [] := is_map u sv l sv_cool
theorem sv_coR (l : List ByteArray) : coolR 1 (l.map sv) = true := coR_map 1 sv l sv_len sv_cool
theorem sv_ice (x : ByteArray) : ice (sv x) = sv x := rfl
theorem sv_ic (l : List ByteArray) : iceL (l.map sv) = l.map sv := by rw [ice_m]; exact List.map_congr_left fun x _ => sv_ice x
theorem sv_rf (x : ByteArray) : (sv x).roFree = true := rfl
theorem sv_rfL (l : List ByteArray) : roFreeL (l.map sv) = true := rf_map sv l sv_rf
theorem sv_no (x : ByteArray) : (sv x).cells.all noOwnC = true := rfl
theorem sv_noL (l : List ByteArray) : (l.map sv).all (fun x => x.cells.all noOwnC) = true := no_map sv l sv_no
attribute [go_sem] sv_mi sv_is sv_coR sv_ic sv_ice sv_rfL sv_noL
end Go.Proofs.Ytaaajjinpppgeaa
namespace Go.Proofs.Ytaaajjinpppgeaa
open Go Go.Abs
set_option maxRecDepth 100000
theorem e237 (xs : List ByteArray) (y : ByteArray) (ha : xs.length ≤ maxLen) : ∃ r : Int, E T 237 [.ro 1 (xs.map sv), .str y] [] = some (.int .i64 r, []) ∧ (0 ≤ r ↔ y ∈ xs) := by
  rw [E_eq t237 (Nat.le_of_ble_eq_true rfl)]
  simp only [F237, h237_2, go_sem, seval, bnd_ite]
  unfold maxLen at ha
  refine (XL_inv (T := T) (b := 0) (hd := H237_2) (x := L237_2) (β := Unit) (fun i _ => ⟨[(0, .ro 1 (xs.map sv)), (1, .str y), (7, .int .i64 xs.length), (8, .int .i64 (i : Nat))], []⟩)
    (fun i _ => y ∉ xs.take i) xs.length (fun r => (r.1 = .exit 0 ∧ y ∉ xs) ∨ (r.1 = .ret ∧ ∃ n : Nat, lookA r.2.env 4 = .int .i64 n ∧ y ∈ xs)) ?step ?last 0 () (by omega) (by simp)).elim ?main
  case step =>
    intro i _ hi hI
    obtain ⟨p, hp⟩ := get_at hi
    have hi1 : (i : Int) < (xs.length : Int) := by omega
    simp only [XG, L237_2, h237_2, go_sem, seval, bnd_ite, hi1, gD_map hp, sv, Int.natCast_nonneg, w_i64 ((i : Int) + 1) (by omega)]
    by_cases he : y = p
    · right
      simp only [he, decide_true, if_true]
      exact .mk (by simp) (.inr ⟨rfl, i, rfl, List.mem_of_getElem? hp⟩)
    · left
      simp only [he, decide_false, Bool.false_eq_true, if_false]
      exact ⟨(), rfl, by rw [take_snoc hp]; simp [hI, he]⟩
  case last =>
    intro _ hI
    rw [List.take_length] at hI
    simp only [XG, L237_2, h237_2, go_sem, seval, bnd_ite, Int.lt_irrefl, decide_false]
    exact .mk (by simp) (.inl ⟨rfl, hI⟩)
  case main =>
  rintro ⟨x, st⟩ ⟨h1, h2, h3⟩
  have hs : ((0 : Nat) : Int) = 0 := rfl
  rw [hs] at h1
  simp only [h1]
  obtain ⟨e, m⟩ := st
  rcases h3 with ⟨hx, h4⟩ | ⟨hx, n, h4, h5⟩
  · simp only at hx; subst hx
    simp only [go_sem, seval]; exact ⟨-1, rfl, by simp [h4]⟩
  · simp only at hx h4; subst hx
    simp only [go_sem, seval, h4]; exact ⟨n, rfl, by simp [h5]⟩
theorem e177 (xs : List ByteArray) (y : ByteArray) (ha : xs.length ≤ maxLen) : E T 177 [.ro 1 (xs.map sv), .str y] [] = some (.bool (xs.any fun n => decide (n = y)), []) := by
  rw [E_eq t177 (Nat.le_of_ble_eq_true rfl)]
  obtain ⟨r, h1, h2⟩ := e237 xs y ha
  have h3 : decide (0 ≤ r) = xs.any fun n => decide (n = y) := by
    rw [Bool.eq_iff_iff, decide_eq_true_eq, List.any_eq_true]
    constructor
    · intro h
      exact ⟨y, h2.1 h, by simp⟩
    · rintro ⟨n, hn, he⟩
      have : n = y := by simpa using he
      subst this; exact h2.2 hn
  simp only [F177, go_sem, seval, bnd_ite, h1]
  rw [← h3]
  try rfl
end Go.Proofs.Ytaaajjinpppgeaa
namespace Go.Proofs.Ytaaajjinpppgeaa
open Go Go.Abs
set_option maxRecDepth 100000
theorem tkO {α : Type} {f : α → AV} {l : List α} : (l.map f).take l.length = l.map f := List.take_of_length_le (by simp)
theorem tkN {α : Type} {f : α → AV} {l : List α} {n : Nat} (h : l.length = n) : (l.map f).take n = l.map f := List.take_of_length_le (by rw [List.length_map, h]; exact Nat.le_refl _)
end Go.Proofs.Ytaaajjinpppgeaa
namespace Go.Proofs.Ytaaajjinpppgeaa
open Go Go.Abs
set_option maxRecDepth 100000
theorem rowsOf {α : Type} {e : Shp} {enc : α → AV} {ok : α → Prop} (h : ∀ cs, Is e cs → ∃ x, e.elem cs = enc x ∧ ok x) : ∀ {css : List (List AV)}, (∀ cs ∈ css, Is e cs) → ∃ xs : List α, css.map e.elem = xs.map enc ∧ xs.length = css.length ∧ ∀ x ∈ xs, ok x := by
  intro css
  induction css with
  | nil => intro _; exact ⟨[], rfl, rfl, fun x hx => by cases hx⟩
  | cons cs css ih =>
    intro hc
    obtain ⟨x, h1, h2⟩ := h cs (hc cs (List.mem_cons_self ..))
    obtain ⟨xs, h3, h4, h5⟩ := ih (fun c hcc => hc c (List.mem_cons_of_mem _ hcc))
    exact ⟨x :: xs, by simp [h1, h3], by simp [h4], fun y hy => by rcases List.mem_cons.1 hy with rfl | hy; exact h2; exact h5 y hy⟩
theorem isSl {α : Type} {s : Nat} {e : Shp} {enc : α → AV} {ok : α → Prop} (h : ∀ cs, Is e cs → ∃ x, e.elem cs = enc x ∧ ok x) {cs : List AV} (hc : Is (.slice s e) cs) : ∃ xs : List α, cs = [.ro s (xs.map enc)] ∧ xs.length ≤ maxLen ∧ ∀ x ∈ xs, ok x := by
  cases hc with | slice h1 hl =>
  obtain ⟨xs, h3, h4, h5⟩ := rowsOf h h1
  exact ⟨xs, by rw [h3], by omega, h5⟩
theorem isIv (cs : List AV) (h : Is (.int .i64) cs) : ∃ x : Int, (Shp.int .i64).elem cs = iv x ∧ True := by cases h; exact ⟨_, rfl, trivial⟩
theorem isBv (cs : List AV) (h : Is .bool cs) : ∃ x : Bool, Shp.bool.elem cs = bv x ∧ True := by cases h; exact ⟨_, rfl, trivial⟩
def shS : Shp := .struct [.str, .int .i64]
def shI : Shp := .struct [.int .i64, .int .i64, .slice 1 (.int .i64)]
def shB : Shp := .struct [.bool, .slice 2 shS, .str]
def shT : Shp := .struct [.slice 1 .bool, .slice 1 .bool]
def shD : Shp := .struct [shT, .slice 3 shI, .slice 3 shB]
theorem isS (cs : List AV) (h : Is shS cs) : ∃ x : Slt, shS.elem cs = slt x ∧ x.ok := by
  cases h with | struct h =>
  cases h with | cons h1 h =>
  cases h with | cons h2 h =>
  cases h
  cases h1; cases h2
  exact ⟨⟨_, _⟩, rfl, by assumption⟩
theorem isI (cs : List AV) (h : Is shI cs) : ∃ x : Ino, shI.elem cs = ino x ∧ x.ok := by
  cases h with | struct h =>
  cases h with | cons h1 h =>
  cases h with | cons h2 h =>
  cases h with | cons h3 h =>
  cases h
  cases h1; cases h2
  obtain ⟨xs, rfl, h4, _⟩ := isSl isIv h3
  exact ⟨⟨_, _, xs⟩, rfl, h4⟩
theorem isB (cs : List AV) (h : Is shB cs) : ∃ x : Blk, shB.elem cs = blk x ∧ x.ok := by
  cases h with | struct h =>
  cases h with | cons h1 h =>
  cases h with | cons h2 h =>
  cases h with | cons h3 h =>
  cases h
  cases h1; cases h3
  obtain ⟨xs, rfl, h4, h5⟩ := isSl isS h2
  exact ⟨⟨_, xs, _⟩, rfl, h4, by assumption, h5⟩
theorem isT (cs : List AV) (h : Is shT cs) : ∃ a b : List Bool, cs = [.ro 1 (a.map bv), .ro 1 (b.map bv)] ∧ a.length ≤ maxLen ∧ b.length ≤ maxLen := by
  cases h with | struct h =>
  cases h with | cons h1 h =>
  cases h with | cons h2 h =>
  cases h
  obtain ⟨a, rfl, a1, _⟩ := isSl isBv h1
  obtain ⟨b, rfl, b1, _⟩ := isSl isBv h2
  exact ⟨a, b, rfl, a1, b1⟩
theorem isDc (cs : List AV) (h : Is shD cs) : ∃ x : Dsk, .agg cs = dsk x ∧ x.ok := by
  cases h with | struct h =>
  cases h with | cons h1 h =>
  cases h with | cons h2 h =>
  cases h with | cons h3 h =>
  cases h
  obtain ⟨a, b, rfl, a1, b1⟩ := isT _ h1
  obtain ⟨c, rfl, c1, c2⟩ := isSl isI h2
  obtain ⟨d, rfl, d1, d2⟩ := isSl isB h3
  exact ⟨⟨a, b, c, d⟩, rfl, ⟨a1, b1, c1, d1, c2, d2⟩⟩
theorem isD {av : AV} (h : IsA shD av) : ∃ x : Dsk, av = dsk x ∧ x.ok := by
  obtain ⟨cs, h, rfl⟩ := h
  exact isDc cs h
end Go.Proofs.Ytaaajjinpppgeaa
namespace Go.Proofs.Ytaaajjinpppgeaa
open Go Go.Abs
def hadN (seen : List ByteArray) (n : ByteArray) : Bool := decide (n = ⟨#[]⟩) || seen.any fun m => decide (m = n)
theorem hadN_iff {seen : List ByteArray} {n : ByteArray} : hadN seen n = true ↔ n = ⟨#[]⟩ ∨ n ∈ seen := by
  unfold hadN
  simp only [Bool.or_eq_true, decide_eq_true_eq, List.any_eq_true]
  constructor
  · rintro (h | ⟨m, h1, rfl⟩)
    · exact .inl h
    · exact .inr h1
  · rintro (h | h)
    · exact .inl h
    · exact .inr ⟨n, h, rfl⟩
def firsts : List ByteArray → List Slt → List Slt
  | _, [] => []
  | seen, s :: l => if hadN seen s.name = true then firsts seen l else s :: firsts (seen ++ [s.name]) l
def slash : ByteArray := ⟨#[47]⟩
def subP (path name : ByteArray) : ByteArray := path ++ slash ++ name
def thereI (x : Dsk) (i : Int) : Bool := decide ((inoOf x i).kind = 1) || decide ((inoOf x i).kind = 2)
def ptrN (x : Dsk) (i : Int) (k : Nat) : Int := (inoOf x i).ptrs.getD k 0
def headT (x : Dsk) (i : Int) (k : Nat) : ByteArray := if (inoOf x i).kind = 1 then (blkOf x (ptrN x i k)).text else ⟨#[]⟩
def nodeT (x : Dsk) (path : ByteArray) (s : Slt) : Nd := ⟨subP path s.name, decide ((inoOf x s.ino).kind = 2), headT x s.ino 0, headT x s.ino 1⟩
def slotsT (x : Dsk) (i : Int) : List Slt := (inoOf x i).ptrs.flatMap fun p => (blkOf x p).slots
def treeB (x : Dsk) : Nat → Int → ByteArray → List Nd
  | 0, _, _ => []
  | n + 1, i, path => if (inoOf x i).kind = 2 then (firsts [] (slotsT x i)).flatMap fun s => if thereI x s.ino then nodeT x path s :: treeB x n s.ino (subP path s.name) else [] else []
def stepT (x : Dsk) (n : Nat) (path : ByteArray) (st : List Nd × List ByteArray) (s : Slt) : List Nd × List ByteArray :=
  if hadN st.2 s.name = true then st else (st.1 ++ (if thereI x s.ino then nodeT x path s :: treeB x n s.ino (subP path s.name) else []), st.2 ++ [s.name])
theorem stepT_fold (x : Dsk) (n : Nat) (path : ByteArray) : ∀ (l : List Slt) (L : List Nd) (seen : List ByteArray),
    (l.foldl (stepT x n path) (L, seen)).1 = L ++ (firsts seen l).flatMap fun s => if thereI x s.ino then nodeT x path s :: treeB x n s.ino (subP path s.name) else []
  | [], L, seen => by simp [firsts]
  | s :: l, L, seen => by
    rw [List.foldl_cons]
    unfold stepT firsts
    by_cases h : hadN seen s.name = true
    · simp only [if_pos h]
      exact stepT_fold x n path l L seen
    · simp only [if_neg h]
      have := stepT_fold x n path l (L ++ if thereI x s.ino then nodeT x path s :: treeB x n s.ino (subP path s.name) else []) (seen ++ [s.name])
      unfold stepT at this
      rw [this, List.flatMap_cons, List.append_assoc]
theorem treeB_fold (x : Dsk) (n : Nat) (i : Int) (path : ByteArray) (h : (inoOf x i).kind = 2) : treeB x (n + 1) i path = ((slotsT x i).foldl (stepT x n path) ([], [])).1 := by
  rw [stepT_fold, treeB, if_pos h, List.nil_append]
theorem firsts_mem : ∀ (l : List Slt) (seen : List ByteArray), ∀ s ∈ firsts seen l, s ∈ l ∧ s.name ≠ ⟨#[]⟩ ∧ s.name ∉ seen
  | [], _, s, h => by cases h
  | t :: l, seen, s, h => by
    unfold firsts at h
    split at h
    · obtain ⟨h1, h2, h3⟩ := firsts_mem l seen s h
      exact ⟨List.mem_cons_of_mem _ h1, h2, h3⟩
    · rename_i hc
      rcases List.mem_cons.1 h with rfl | h
      · exact ⟨List.mem_cons_self .., fun e => hc (hadN_iff.2 (.inl e)), fun e => hc (hadN_iff.2 (.inr e))⟩
      · obtain ⟨h1, h2, h3⟩ := firsts_mem l _ s h
        exact ⟨List.mem_cons_of_mem _ h1, h2, fun e => h3 (List.mem_append_left _ e)⟩
theorem firsts_pair : ∀ (l : List Slt) (seen : List ByteArray), (firsts seen l).Pairwise fun a b => a.name ≠ b.name
  | [], _ => .nil
  | t :: l, seen => by
    unfold firsts
    split
    · exact firsts_pair l seen
    · refine .cons (fun s hs e => ?_) (firsts_pair l _)
      exact (firsts_mem l _ s hs).2.2 (List.mem_append_right _ (by rw [e]; exact List.mem_singleton.2 rfl))
theorem bytes_app (a b : ByteArray) : (a ++ b).data.toList = a.data.toList ++ b.data.toList := by simp
theorem sub_bytes (path name : ByteArray) : (subP path name).data.toList = path.data.toList ++ 47 :: name.data.toList := by
  unfold subP slash
  rw [bytes_app, bytes_app, List.append_assoc]; rfl
def noSl (b : ByteArray) : Prop := ∀ c ∈ b.data.toList, c ≠ 47
def tailOk (t : List UInt8) : Prop := t = [] ∨ ∃ r, t = 47 :: r
theorem no_sl {s : ByteArray} (h : nameOk s = true) : noSl s := by
  intro c hc e
  subst e
  unfold nameOk at h
  rw [Bool.and_eq_true, List.all_eq_true] at h
  have := h.1 47 hc
  revert this; decide
theorem name_split : ∀ (a b t u : List UInt8), (∀ c ∈ a, c ≠ 47) → (∀ c ∈ b, c ≠ 47) → tailOk t → tailOk u → a ++ t = b ++ u → a = b
  | [], [], _, _, _, _, _, _, _ => rfl
  | [], c :: b, t, u, _, hb, ht, _, h => by
    rcases ht with rfl | ⟨r, rfl⟩
    · cases h
    · cases h; exact absurd rfl (hb 47 (List.mem_cons_self ..))
  | c :: a, [], t, u, ha, _, _, hu, h => by
    rcases hu with rfl | ⟨r, rfl⟩
    · cases h
    · cases h; exact absurd rfl (ha 47 (List.mem_cons_self ..))
  | c :: a, d :: b, t, u, ha, hb, ht, hu, h => by
    have h := List.cons.inj h
    rw [h.1, name_split a b t u (fun e he => ha e (List.mem_cons_of_mem _ he)) (fun e he => hb e (List.mem_cons_of_mem _ he)) ht hu h.2]
theorem slotsT_ok {x : Dsk} (h : DskOk x) {i : Int} {s : Slt} (hs : s ∈ slotsT x i) (hn : s.name ≠ ⟨#[]⟩) : nameOk s.name = true ∧ inside s.ino 1 8 = true := by
  unfold slotsT at hs
  obtain ⟨p, _, hb⟩ := List.mem_flatMap.1 hs
  by_cases hin : inside p 1 x.blks.length = true
  · have hb2 := h.blk _ (List.mem_of_getElem? (blkOf_mem hin))
    cases hd : (blkOf x p).dir with
    | false => rw [(blkOk_txt hb2 hd).1] at hb; cases hb
    | true =>
      obtain ⟨_, _, h3⟩ := blkOk_dir hb2 hd
      obtain ⟨k, hk⟩ := List.getElem?_of_mem hb
      have := h3 k s hk
      unfold slotOk bare at this
      simp only [Bool.or_eq_true, Bool.and_eq_true, decide_eq_true_eq] at this
      rcases this with h | h
      · exact absurd h.1 hn
      · exact ⟨h.1.1, h.1.2⟩
  · unfold blkOf at hb
    rw [if_neg hin] at hb
    cases hb
theorem tree_under {x : Dsk} (h : DskOk x) : ∀ (n : Nat) (i : Int) (path : ByteArray), ∀ d ∈ treeB x n i path, ∃ s ∈ firsts [] (slotsT x i), ∃ t, d.path.data.toList = path.data.toList ++ 47 :: s.name.data.toList ++ t ∧ tailOk t
  | 0, _, _, d, hd => by cases hd
  | n + 1, i, path, d, hd => by
    unfold treeB at hd
    split at hd
    · obtain ⟨s, hs, hd⟩ := List.mem_flatMap.1 hd
      refine ⟨s, hs, ?_⟩
      split at hd
      · rcases List.mem_cons.1 hd with rfl | hd
        · exact ⟨[], by simp [nodeT, sub_bytes], .inl rfl⟩
        · obtain ⟨s2, _, t, h1, h2⟩ := tree_under h n s.ino (subP path s.name) d hd
          refine ⟨47 :: (s2.name.data.toList ++ t), ?_, .inr ⟨_, rfl⟩⟩
          rw [h1, sub_bytes]; simp
      · cases hd
    · cases hd
theorem tree_apart {x : Dsk} (h : DskOk x) : ∀ (n : Nat) (i : Int) (path : ByteArray), (treeB x n i path).Pairwise fun a b => a.path ≠ b.path
  | 0, _, _ => .nil
  | n + 1, i, path => by
    unfold treeB
    split
    · rw [List.pairwise_flatMap]
      refine ⟨fun s hs => ?_, ?_⟩
      · split
        · refine .cons (fun d hd e => ?_) (tree_apart h n s.ino _)
          obtain ⟨s2, _, t, h1, h2⟩ := tree_under h n s.ino (subP path s.name) d hd
          have e2 := congrArg (fun b : ByteArray => b.data.toList.length) e
          simp only [h1, nodeT, List.length_append, List.length_cons] at e2
          omega
        · exact .nil
      · refine (firsts_pair (slotsT x i) []).imp_of_mem (fun {a b} ha hb hne d hd e he heq => hne ?_)
        have key : ∀ (s : Slt), ∀ d ∈ (if thereI x s.ino then nodeT x path s :: treeB x n s.ino (subP path s.name) else []), ∃ t, d.path.data.toList = path.data.toList ++ 47 :: (s.name.data.toList ++ t) ∧ tailOk t := by
          intro s d hd
          split at hd
          · rcases List.mem_cons.1 hd with rfl | hd
            · exact ⟨[], by simp [nodeT, sub_bytes], .inl rfl⟩
            · obtain ⟨s2, _, t, h1, h2⟩ := tree_under h n s.ino (subP path s.name) d hd
              refine ⟨47 :: (s2.name.data.toList ++ t), ?_, .inr ⟨_, rfl⟩⟩
              rw [h1, sub_bytes]; simp
          · cases hd
        obtain ⟨t, h1, h2⟩ := key a d hd
        obtain ⟨u, h3, h4⟩ := key b e he
        rw [heq, h3] at h1
        have h5 := List.append_cancel_left h1
        have h6 := (List.cons.inj h5).2
        obtain ⟨a1, a2, _⟩ := firsts_mem _ _ a ha
        obtain ⟨b1, b2, _⟩ := firsts_mem _ _ b hb
        have := name_split _ _ _ _ (no_sl (slotsT_ok h b1 b2).1) (no_sl (slotsT_ok h a1 a2).1) h4 h2 h6
        exact ByteArray.ext (Array.toList_inj.1 this.symm)
    · exact .nil
theorem firsts_len : ∀ (l : List Slt) (seen : List ByteArray), (firsts seen l).length ≤ l.length
  | [], _ => Nat.le_refl _
  | s :: l, seen => by
    unfold firsts
    split
    · exact Nat.le_succ_of_le (firsts_len l seen)
    · simp only [List.length_cons]; exact Nat.succ_le_succ (firsts_len l _)
theorem slotsT_len {x : Dsk} (h : DskOk x) (i : Int) : (slotsT x i).length ≤ 8 := by
  unfold slotsT
  have hb : ∀ p, (blkOf x p).slots.length ≤ 4 := fun p => by
    by_cases hin : inside p 1 x.blks.length = true
    · have hb2 := h.blk _ (List.mem_of_getElem? (blkOf_mem hin))
      cases hd : (blkOf x p).dir with
      | false => rw [(blkOk_txt hb2 hd).1]; simp
      | true => rw [(blkOk_dir hb2 hd).1]; omega
    · unfold blkOf; rw [if_neg hin]; simp [blk0]
  have hi : (inoOf x i).ptrs.length ≤ 2 := by
    by_cases hin : inside i 1 x.inos.length = true
    · have := (inoOk_iff.1 (h.ino _ (List.mem_of_getElem? (inoOf_mem hin)))).two
      omega
    · unfold inoOf; rw [if_neg hin]; simp [ino0]
  have key : ∀ l : List Int, (l.flatMap fun p => (blkOf x p).slots).length ≤ 4 * l.length := by
    intro l
    induction l with
    | nil => simp
    | cons p l ih => rw [List.flatMap_cons, List.length_append, List.length_cons]; have := hb p; omega
  have := key (inoOf x i).ptrs
  omega
def treeMax : Nat → Nat
  | 0 => 0
  | n + 1 => 8 * (treeMax n + 1)
theorem tree_len {x : Dsk} (h : DskOk x) : ∀ (n : Nat) (i : Int) (path : ByteArray), (treeB x n i path).length ≤ treeMax n
  | 0, _, _ => Nat.le_refl _
  | n + 1, i, path => by
    unfold treeB
    split
    · have key : ∀ l : List Slt, (l.flatMap fun s => if thereI x s.ino then nodeT x path s :: treeB x n s.ino (subP path s.name) else []).length ≤ l.length * (treeMax n + 1) := by
        intro l
        induction l with
        | nil => simp
        | cons s l ih =>
          rw [List.flatMap_cons, List.length_append, List.length_cons, Nat.succ_mul]
          have : (if thereI x s.ino then nodeT x path s :: treeB x n s.ino (subP path s.name) else []).length ≤ treeMax n + 1 := by
            split
            · have := tree_len h n s.ino (subP path s.name); simp only [List.length_cons]; omega
            · simp
          omega
      have h1 := key (firsts [] (slotsT x i))
      have h2 := firsts_len (slotsT x i) []
      have h3 := slotsT_len h i
      have : (firsts [] (slotsT x i)).length * (treeMax n + 1) ≤ 8 * (treeMax n + 1) := Nat.mul_le_mul_right _ (by omega)
      show _ ≤ 8 * (treeMax n + 1)
      omega
    · simp
end Go.Proofs.Ytaaajjinpppgeaa
namespace Go.Proofs.Ytaaajjinpppgeaa
open Go Go.Abs
set_option maxRecDepth 100000
def dskC (x : Dsk) : AV := .agg [.ro 1 (x.used.map bv), .ro 1 (x.taken.map bv), .ro 3 (x.inos.map ino), .ro 3 (x.blks.map blk)]
theorem e259 (x : Dsk) (h : x.sm) (i : Int) : E T 259 [dsk x, .int .i64 i] [] = some (.bool (thereI x i), []) := by
  rw [E_eq t259 (Nat.le_of_ble_eq_true rfl)]
  have e1 := e176u x h i
  unfold thereI
  generalize inoOf x i = p at *
  obtain ⟨pk, pl, l⟩ := p
  rw [show ino ⟨pk, pl, l⟩ = .agg [.int .i64 pk, .int .i64 pl, .ro 1 (l.map iv)] from rfl] at e1
  unfold dsk at e1 ⊢
  simp only
  by_cases h1 : pk = 1
  · simp only [F259, go_sem, seval, bnd_ite, e1, h1, decide_true, Bool.true_or, if_true, Bool.not_true, Bool.false_eq_true, if_false]
    first | done | rfl | trace_state
  · simp only [F259, go_sem, seval, bnd_ite, e1, h1, decide_false, Bool.false_or, if_true, Bool.not_false, Bool.false_eq_true, if_false]
    first | done | rfl | trace_state
theorem e260 (x : Dsk) (h : x.sm) (i : Int) (h2 : (inoOf x i).kind = 1 → (inoOf x i).ptrs.length = 2) : E T 260 [dsk x, .int .i64 i] [] = some (.tup [.str (headT x i 0), .str (headT x i 1)], []) := by
  rw [E_eq t260 (Nat.le_of_ble_eq_true rfl)]
  have e1 := e176u x h i
  unfold headT ptrN
  generalize inoOf x i = p at *
  obtain ⟨pk, pl, l⟩ := p
  rw [show ino ⟨pk, pl, l⟩ = .agg [.int .i64 pk, .int .i64 pl, .ro 1 (l.map iv)] from rfl] at e1
  simp only at h2 ⊢
  by_cases h1 : pk = 1
  case neg =>
    unfold dsk at e1 ⊢
    simp only [F260, go_sem, seval, bnd_ite, e1, h1, decide_false, Bool.not_false, if_true, if_false]
    first | done | rfl | trace_state
  case pos =>
    match l, h2 h1 with
    | [a, b], _ =>
      have e2 := e149u x h a
      have e3 := e149u x h b
      simp only [List.getD_cons_zero, List.getD_cons_succ, if_pos h1]
      generalize blkOf x a = A at *
      generalize blkOf x b = B at *
      rw [show blk A = .agg [.bool A.dir, .ro 2 (A.slots.map slt), .str A.text] from rfl] at e2
      rw [show blk B = .agg [.bool B.dir, .ro 2 (B.slots.map slt), .str B.text] from rfl] at e3
      have w1 : IntKind.i64.wrap 1 = 1 := rfl
      have w2 : IntKind.i64.wrap 2 = 2 := rfl
      unfold dsk at e1 e2 e3 ⊢
      simp only [F260, h260_6, go_sem, seval, bnd_ite, e1, h1, decide_true, Bool.not_true, Bool.false_eq_true, if_false, List.map_cons, List.map_nil, iv]
      rw [XL_eq]
      simp only [XG, L260_6, h260_6, go_sem, seval, bnd_ite, e2, w1, w2, iv]
      rw [XL_eq]
      simp only [XG, h260_6, go_sem, seval, bnd_ite, e3, w1, w2, iv]
      rw [XL_eq]
      simp only [XG, h260_6, go_sem, seval, bnd_ite, Int.lt_irrefl, decide_false, iv]
      first | done | rfl | trace_state
theorem name_le {s : ByteArray} (h : nameOk s = true) : s.size ≤ 6 := by
  unfold nameOk inside at h
  simp only [Bool.and_eq_true, decide_eq_true_eq] at h
  omega
theorem ino_two {x : Dsk} (h : DskOk x) (i : Int) (hk : (inoOf x i).kind = 1) : (inoOf x i).ptrs.length = 2 := by
  cases hc : inside i 1 x.inos.length with
  | false => unfold inoOf at hk; rw [hc] at hk; simp [ino0] at hk
  | true => exact (inoOk_iff.1 (h.ino _ (List.mem_of_getElem? (inoOf_mem hc)))).two
def TI (n : Nat) (c : Nat) (st : List Nd × List ByteArray) : Prop := st.1.length ≤ c * (treeMax n + 1) ∧ st.2.length ≤ c
theorem stepT_I {x : Dsk} (h : DskOk x) {n c : Nat} {path : ByteArray} {st : List Nd × List ByteArray} {s : Slt} (hI : TI n c st) : TI n (c + 1) (stepT x n path st s) := by
  unfold TI at hI ⊢
  unfold stepT
  split
  · exact ⟨Nat.le_trans hI.1 (Nat.mul_le_mul_right _ (by omega)), by omega⟩
  · refine ⟨?_, by simp; omega⟩
    simp only [List.length_append]
    have : (if thereI x s.ino then nodeT x path s :: treeB x n s.ino (subP path s.name) else []).length ≤ treeMax n + 1 := by
      split
      · have := tree_len h n s.ino (subP path s.name); simp only [List.length_cons]; omega
      · simp
    rw [Nat.add_mul]
    omega
end Go.Proofs.Ytaaajjinpppgeaa
namespace Go.Proofs.Ytaaajjinpppgeaa
open Go Go.Abs
set_option maxRecDepth 100000
abbrev memB (x : Dsk) (st : List Nd × List ByteArray) : Mem := [some (4, [dskC x]), some (4, st.1.map nd), some (1, st.2.map sv)]
theorem nd_okC (lv : Live) (l : List Nd) : ((l.map nd).all fun x => x.cells.all (okC lv)) = true := by
  rw [List.all_map]; exact List.all_eq_true.2 fun x _ => rfl
def Below (x : Dsk) (n : Nat) : Prop := ∀ (i : Int) (path : ByteArray), path.size + 7 * n ≤ 1000 → E T 203 [dsk x, .int .i64 i, .str path, .int .i64 (n : Nat)] [] = some (.own 4 ((treeB x n i path).map nd), [])
set_option maxHeartbeats 1000000 in
theorem in203 (x : Dsk) (h : x.sm) (hx : DskOk x) (n : Nat) (hn : n ≤ 4) (ih : Below x n) (path : ByteArray) (hp : path.size + 7 * (n + 1) ≤ 1000) (l : List Int) (p : Int) (k : Nat) (hk : k ≤ 2) (st : List Nd × List ByteArray)
    (hns : ∀ s ∈ (blkOf x p).slots, s.name ≠ ⟨#[]⟩ → nameOk s.name = true) (hI : TI n (4 * k) st) :
    ∃ r, XL T 0 H203_11 L203_11 ⟨[(2, .str path), (3, .int .i64 ((n : Nat) + 1)), (4, .ptr 0 0 0), (9, .sl 1 0 st.1.length), (10, .sl 2 0 st.2.length), (31, .ro 1 (l.map iv)), (32, .int .i64 l.length), (33, .int .i64 (k : Nat)), (40, .ro 2 ((blkOf x p).slots.map slt)), (41, .int .i64 (blkOf x p).slots.length), (42, .int .i64 0)], memB x st⟩ = some r ∧
      r.1 = .exit 2 ∧ r.2.mem = memB x ((blkOf x p).slots.foldl (stepT x n path) st) ∧ lookA r.2.env 2 = .str path ∧ lookA r.2.env 3 = .int .i64 ((n : Nat) + 1) ∧ lookA r.2.env 4 = .ptr 0 0 0 ∧ lookA r.2.env 9 = .sl 1 0 ((blkOf x p).slots.foldl (stepT x n path) st).1.length ∧ lookA r.2.env 10 = .sl 2 0 ((blkOf x p).slots.foldl (stepT x n path) st).2.length ∧ lookA r.2.env 31 = .ro 1 (l.map iv) ∧ lookA r.2.env 32 = .int .i64 l.length ∧ lookA r.2.env 33 = .int .i64 (k : Nat) := by
  have h4 : (blkOf x p).slots.length ≤ 4 := by
    cases hc : inside p 1 x.blks.length with
    | false => unfold blkOf; rw [hc]; simp [blk0]
    | true =>
      have hb2 := hx.blk _ (List.mem_of_getElem? (blkOf_mem hc))
      cases hd : (blkOf x p).dir with
      | false => rw [(blkOk_txt hb2 hd).1]; simp
      | true => rw [(blkOk_dir hb2 hd).1]; omega
  refine XL_each (T := T) (b := 0) (hd := H203_11) (x := L203_11) (blkOf x p).slots (stepT x n path) (fun i st => ⟨[(2, .str path), (3, .int .i64 ((n : Nat) + 1)), (4, .ptr 0 0 0), (9, .sl 1 0 st.1.length), (10, .sl 2 0 st.2.length), (31, .ro 1 (l.map iv)), (32, .int .i64 l.length), (33, .int .i64 (k : Nat)), (40, .ro 2 ((blkOf x p).slots.map slt)), (41, .int .i64 (blkOf x p).slots.length), (42, .int .i64 (i : Nat))], memB x st⟩)
    (fun i st => TI n (4 * k + i) st) (fun st r => r.1 = .exit 2 ∧ r.2.mem = memB x st ∧ lookA r.2.env 2 = .str path ∧ lookA r.2.env 3 = .int .i64 ((n : Nat) + 1) ∧ lookA r.2.env 4 = .ptr 0 0 0 ∧ lookA r.2.env 9 = .sl 1 0 st.1.length ∧ lookA r.2.env 10 = .sl 2 0 st.2.length ∧ lookA r.2.env 31 = .ro 1 (l.map iv) ∧ lookA r.2.env 32 = .int .i64 l.length ∧ lookA r.2.env 33 = .int .i64 (k : Nat)) ?_ ?_ st (by simpa using hI)
  · intro i st s hs hi hst
    refine ⟨?_, stepT_I hx hst⟩
    have hi1 : (i : Int) < ((blkOf x p).slots.length : Int) := by omega
    have gs : ((blkOf x p).slots.map slt).getD i .undef = .agg [.str s.name, .int .i64 s.ino] := gD_map hs
    have hw := w_i64 ((i : Int) + 1) (by omega)
    obtain ⟨L, seen⟩ := st
    have hlen : L.length ≤ 12 * 4681 := by
      have h1 := hst.1
      have h2 : treeMax n + 1 ≤ 4681 := by
        have : n = 0 ∨ n = 1 ∨ n = 2 ∨ n = 3 ∨ n = 4 := by omega
        rcases this with rfl | rfl | rfl | rfl | rfl <;> decide
      exact Nat.le_trans h1 (Nat.mul_le_mul (by omega) h2)
    have hsn : seen.length ≤ 12 := by have := hst.2; simp only at this; omega
    have e1 := e177 seen s.name (by unfold maxLen; omega)
    have tkL : (L.map nd).take L.length = L.map nd := tkO
    have tks : (seen.map sv).take seen.length = seen.map sv := tkO
    have isn : iceL (seen.map sv) = seen.map sv := sv_ic seen
    simp only
    unfold stepT hadN
    by_cases hn0 : s.name = ⟨#[]⟩
    · unfold memB dskC
      simp only [XG, L203_11, h203_11, go_sem, seval, bnd_ite, hi1, gs, hw, hn0, tkL, tks, decide_true, Bool.true_or, Bool.not_true, Bool.false_eq_true, if_false, if_true, Int.natCast_nonneg]
      first | done | rfl | trace_state
    cases hse : (seen.any fun m => decide (m = s.name)) with
    | true =>
      rw [hse] at e1
      unfold memB dskC
      simp only [XG, L203_11, h203_11, go_sem, seval, bnd_ite, hi1, gs, hw, hn0, hse, e1, tkL, tks, isn, decide_false, decide_true, Bool.or_true, Bool.false_or, Bool.not_true, Bool.false_eq_true, if_false, if_true, Int.natCast_nonneg]
      first | done | rfl | trace_state
    | false =>
    rw [hse] at e1
    have hap1 : (seen.length + 1) * 16 ≤ 140737488355328 := by omega
    have sa : seen.map sv ++ [AV.str s.name] = (seen ++ [s.name]).map sv := by rw [List.map_append]; rfl
    have tks1 : ((seen ++ [s.name]).map sv).take (seen.length + 1) = (seen ++ [s.name]).map sv := tkN (by simp)
    have e2 := e259 x h s.ino
    unfold dsk at e2
    cases ht : thereI x s.ino with
    | false =>
      rw [ht] at e2
      unfold memB dskC
      simp only [XG, L203_11, h203_11, go_sem, seval, bnd_ite, hi1, gs, hw, hn0, hse, e1, e2, tkL, tks, isn, hap1, sa, tks1, decide_false, decide_true, Bool.or_self, Bool.not_false, Bool.false_or, Bool.not_true, Bool.false_eq_true, if_false, if_true, Int.natCast_nonneg, List.append_nil, List.length_append, List.length_cons, List.length_nil, List.length_map]
      first | done | rfl | trace_state
    | true =>
      rw [ht] at e2
      have e3 := e176u x h s.ino
      have e4 := e260 x h s.ino (ino_two hx s.ino)
      have hnm := name_le (hns s (List.mem_of_getElem? hs) hn0)
      have hsz : (subP path s.name).size = path.size + 1 + s.name.size := by
        have h1 := congrArg List.length (sub_bytes path s.name)
        simp only [List.length_append, List.length_cons, Array.length_toList] at h1
        have : (subP path s.name).data.size = (subP path s.name).size := rfl
        have h3 : path.data.size = path.size := rfl
        have h4 : s.name.data.size = s.name.size := rfl
        omega
      have e5 := ih s.ino (subP path s.name) (by omega)
      have htl := tree_len hx n s.ino (subP path s.name)
      have htm : treeMax n ≤ 4680 := by
        have : n = 0 ∨ n = 1 ∨ n = 2 ∨ n = 3 ∨ n = 4 := by omega
        rcases this with rfl | rfl | rfl | rfl | rfl <;> decide
      have hsub' : path ++ slash ++ s.name = subP path s.name := rfl
      generalize hB : treeB x n s.ino (subP path s.name) = B at *
      have hnode : nodeT x path s = ⟨subP path s.name, decide ((inoOf x s.ino).kind = 2), headT x s.ino 0, headT x s.ino 1⟩ := rfl
      generalize subP path s.name = P at *
      generalize headT x s.ino 0 = H0 at *
      generalize headT x s.ino 1 = H1 at *
      generalize inoOf x s.ino = q at *
      obtain ⟨qk, ql, qp⟩ := q
      rw [show ino ⟨qk, ql, qp⟩ = .agg [.int .i64 qk, .int .i64 ql, .ro 1 (qp.map iv)] from rfl] at e3
      simp only at hnode
      rw [hnode]
      have hsl : slash.size = 1 := rfl
      have hs1' : ((path.size + (⟨#[47]⟩ : ByteArray).size : Nat) : Int) ≤ 9223372036854775807 := by
        show ((path.size + slash.size : Nat) : Int) ≤ 9223372036854775807
        omega
      have hs2 : (((path ++ slash).size + s.name.size : Nat) : Int) ≤ 9223372036854775807 := by rw [ByteArray.size_append]; omega
      have ha1 : binV .add (.str path) (.str ⟨#[47]⟩) = some (.str (path ++ slash)) := by rw [b_sadd, if_pos hs1']; rfl
      have ha2 : binV .add (.str (path ++ slash)) (.str s.name) = some (.str P) := by rw [b_sadd, if_pos hs2, ← hsub']
      have wn : IntKind.i64.wrap ((n : Int) + 1 - 1) = (n : Nat) := by rw [w_i64 _ (by omega)]; omega
      have hap2 : (L.length + 1) * 56 ≤ 140737488355328 := by omega
      have hap3 : (L.length + 1 + B.length) * 56 ≤ 140737488355328 := by omega
      have hNa : nd ⟨P, decide (qk = 2), H0, H1⟩ = AV.agg [.str P, .bool (decide (qk = 2)), .str H0, .str H1] := rfl
      generalize (⟨P, decide (qk = 2), H0, H1⟩ : Nd) = N at *
      have sb : L.map nd ++ [AV.agg [.str P, .bool (decide (qk = 2)), .str H0, .str H1]] = (L ++ [N]).map nd := by rw [List.map_append, ← hNa]; rfl
      have tkL1 : ((L ++ [N]).map nd).take (L.length + 1) = (L ++ [N]).map nd := tkN (by simp)
      have sc : (L ++ [N]).map nd ++ B.map nd = (L ++ N :: B).map nd := by rw [← List.map_append, List.append_assoc]; rfl
      have tkL2 : ((L ++ N :: B).map nd).take (L.length + 1 + B.length) = (L ++ N :: B).map nd := tkN (by simp; omega)
      have tkB : (B.map nd).take B.length = B.map nd := tkO
      have lnL : (L ++ N :: B).length = L.length + 1 + B.length := by simp; omega
      unfold dsk at e3 e4 e5
      unfold memB dskC
      simp only [XG, L203_11, h203_11, go_sem, seval, bnd_ite, ha1, ha2, nd_okC, hi1, gs, hw, hn0, hse, e1, e2, e3, e4, e5, wn, tkL, tks, isn, hap1, sa, tks1, hap2, hap3, sb, tkL1, sc, tkL2, tkB, lnL, decide_false, decide_true, Bool.or_self, Bool.not_false, Bool.false_or, Bool.not_true, Bool.false_eq_true, if_false, if_true, Int.natCast_nonneg, List.length_append, List.length_cons, List.length_nil, List.length_map]
      first | done | rfl | trace_state
  · intro st hst
    obtain ⟨L, seen⟩ := st
    have tkL : (L.map nd).take L.length = L.map nd := tkO
    have tks : (seen.map sv).take seen.length = seen.map sv := tkO
    unfold memB dskC
    simp only [XG, L203_11, h203_11, go_sem, seval, bnd_ite, Int.lt_irrefl, decide_false, tkL, tks]
    first | exact .mk (by simp) ⟨rfl, rfl, rfl, rfl, rfl, rfl, rfl, rfl, rfl, rfl⟩ | trace_state
end Go.Proofs.Ytaaajjinpppgeaa
namespace Go.Proofs.Ytaaajjinpppgeaa
open Go Go.Abs
set_option maxRecDepth 100000
theorem ptrs2 {x : Dsk} (h : DskOk x) (i : Int) : (inoOf x i).ptrs.length ≤ 2 := by
  cases hc : inside i 1 x.inos.length with
  | false => unfold inoOf; rw [hc]; simp [ino0]
  | true => have := (inoOk_iff.1 (h.ino _ (List.mem_of_getElem? (inoOf_mem hc)))).two; omega
theorem slots4 {x : Dsk} (hx : DskOk x) (p : Int) : (blkOf x p).slots.length ≤ 4 := by
  cases hc : inside p 1 x.blks.length with
  | false => unfold blkOf; rw [hc]; simp [blk0]
  | true =>
    have hb2 := hx.blk _ (List.mem_of_getElem? (blkOf_mem hc))
    cases hd : (blkOf x p).dir with
    | false => rw [(blkOk_txt hb2 hd).1]; simp
    | true => rw [(blkOk_dir hb2 hd).1]; omega
def foldP (x : Dsk) (n : Nat) (path : ByteArray) (st : List Nd × List ByteArray) (p : Int) : List Nd × List ByteArray := (blkOf x p).slots.foldl (stepT x n path) st
theorem foldT_I {x : Dsk} (h : DskOk x) {n : Nat} {path : ByteArray} : ∀ (l : List Slt) {c : Nat} {st : List Nd × List ByteArray}, TI n c st → TI n (c + l.length) (l.foldl (stepT x n path) st)
  | [], c, st, hI => hI
  | s :: l, c, st, hI => by
    rw [List.foldl_cons, List.length_cons, show c + (l.length + 1) = c + 1 + l.length by omega]
    exact foldT_I h l (stepT_I h hI)
theorem foldP_I {x : Dsk} (h : DskOk x) {n k : Nat} {path : ByteArray} {st : List Nd × List ByteArray} {p : Int} (hI : TI n (4 * k) st) : TI n (4 * (k + 1)) (foldP x n path st p) := by
  have h1 := foldT_I h (path := path) (blkOf x p).slots hI
  have h2 := slots4 h p
  unfold foldP TI at *
  refine ⟨Nat.le_trans h1.1 (Nat.mul_le_mul_right _ (by omega)), by omega⟩
theorem foldP_all (x : Dsk) (n : Nat) (path : ByteArray) : ∀ (l : List Int) (st : List Nd × List ByteArray), l.foldl (foldP x n path) st = (l.flatMap fun p => (blkOf x p).slots).foldl (stepT x n path) st
  | [], _ => rfl
  | p :: l, st => by rw [List.foldl_cons, List.flatMap_cons, List.foldl_append, foldP_all x n path l]; rfl
theorem below_0 (x : Dsk) (h : x.sm) : Below x 0 := by
  intro i path hp
  rw [E_eqW t203 (Nat.le_of_ble_eq_true rfl)]
  have e1 := e176u x h i
  generalize inoOf x i = q at *
  obtain ⟨qk, ql, qp⟩ := q
  rw [show ino ⟨qk, ql, qp⟩ = .agg [.int .i64 qk, .int .i64 ql, .ro 1 (qp.map iv)] from rfl] at e1
  unfold dsk at e1 ⊢
  unfold treeB
  have c0 : ((0 : Nat) : Int) = 0 := rfl
  by_cases hk : qk = 2
  · simp only [F203, go_sem, seval, bnd_ite, e1, hk, c0, decide_true, Bool.not_true, Bool.false_or, Bool.false_eq_true, if_false, if_true, List.map_nil]
    first | done | rfl | trace_state
  · simp only [F203, go_sem, seval, bnd_ite, e1, hk, decide_false, Bool.not_false, Bool.true_or, if_true, List.map_nil]
    first | done | rfl | trace_state
set_option maxHeartbeats 1000000 in
theorem below_s (x : Dsk) (h : x.sm) (hx : DskOk x) (n : Nat) (hn : n ≤ 4) (ih : Below x n) : Below x (n + 1) := by
  intro i path hp
  rw [E_eqW t203 (Nat.le_of_ble_eq_true rfl)]
  have e1 := e176u x h i
  have cn : ((n + 1 : Nat) : Int) = (n : Int) + 1 := by omega
  have cz : ¬ ((n : Int) + 1 = 0) := by omega
  rw [cn]
  by_cases hk : (inoOf x i).kind = 2
  case neg =>
    rw [treeB, if_neg hk]
    generalize inoOf x i = q at *
    obtain ⟨qk, ql, qp⟩ := q
    rw [show ino ⟨qk, ql, qp⟩ = .agg [.int .i64 qk, .int .i64 ql, .ro 1 (qp.map iv)] from rfl] at e1
    simp only at hk
    unfold dsk at e1 ⊢
    simp only [F203, go_sem, seval, bnd_ite, e1, hk, decide_false, Bool.not_false, Bool.true_or, if_true, List.map_nil]
    first | done | rfl | trace_state
  case pos =>
    have hfold := treeB_fold x n i path hk
    have hsl := fun (s : Slt) (hs : s ∈ slotsT x i) hne => (slotsT_ok hx hs hne).1
    have hp2 := ptrs2 hx i
    unfold slotsT at hfold hsl
    generalize inoOf x i = q at *
    obtain ⟨qk, ql, l⟩ := q
    rw [show ino ⟨qk, ql, l⟩ = .agg [.int .i64 qk, .int .i64 ql, .ro 1 (l.map iv)] from rfl] at e1
    simp only at hk hp2 hfold hsl
    subst hk
    rw [← foldP_all] at hfold
    obtain ⟨⟨y, e, m⟩, k1, k2⟩ := XL_each (T := T) (b := 0) (hd := H203_7) (x := L203_7) l (foldP x n path) (fun k st => ⟨[(2, .str path), (3, .int .i64 ((n : Nat) + 1)), (4, .ptr 0 0 0), (9, .sl 1 0 st.1.length), (10, .sl 2 0 st.2.length), (31, .ro 1 (l.map iv)), (32, .int .i64 l.length), (33, .int .i64 (k : Nat))], memB x st⟩)
      (fun k st => TI n (4 * k) st) (fun st r => r.1 = .exit 0 ∧ r.2.mem = memB x st ∧ lookA r.2.env 9 = .sl 1 0 st.1.length)
      (by
        intro k st p hq hk hst
        have k1' : (k : Int) < (l.length : Int) := by omega
        have gp : (l.map iv).getD k .undef = .int .i64 p := gD_map hq
        have e2 := e149u x h p
        have hw := w_i64 ((k : Int) + 1) (by omega)
        obtain ⟨⟨y, e, m⟩, r1, r2, r3, r4, r5, r6, r7, r8, r9, r10, r11⟩ := in203 x h hx n hn ih path hp l p k (by omega) st (fun s hs => hsl s (List.mem_flatMap.2 ⟨p, List.mem_of_getElem? hq, hs⟩)) hst
        refine ⟨?_, foldP_I hx hst⟩
        unfold foldP
        generalize (blkOf x p).slots.foldl (stepT x n path) st = st' at *
        obtain ⟨L, seen⟩ := st
        obtain ⟨L', seen'⟩ := st'
        simp only at r2 r3 r4 r5 r6 r7 r8 r9 r10 r11
        subst r2 r3
        generalize blkOf x p = b at *
        rw [show blk b = .agg [.bool b.dir, .ro 2 (b.slots.map slt), .str b.text] from rfl] at e2
        unfold dsk at e2
        have tk1 : (L.map nd).take L.length = L.map nd := tkO
        have tk2 : (seen.map sv).take seen.length = seen.map sv := tkO
        have tk3 : (L'.map nd).take L'.length = L'.map nd := tkO
        have tk4 : (seen'.map sv).take seen'.length = seen'.map sv := tkO
        unfold memB dskC at r1 ⊢
        simp only [XG, L203_7, h203_7, h203_11, go_sem, seval, bnd_ite, k1', gp, e2, r1, r4, r5, r6, r7, r8, r9, r10, r11, hw, tk1, tk2, tk3, tk4, Int.natCast_nonneg, decide_true, if_true]
        first | done | rfl | trace_state)
      (by
        intro st hst
        obtain ⟨L, seen⟩ := st
        have tk1 : (L.map nd).take L.length = L.map nd := tkO
        have tk2 : (seen.map sv).take seen.length = seen.map sv := tkO
        unfold memB dskC
        simp only [XG, L203_7, h203_7, go_sem, seval, bnd_ite, Int.lt_irrefl, decide_false, tk1, tk2]
        first | exact .mk (by simp) ⟨rfl, rfl, rfl⟩ | trace_state) ([], []) ⟨Nat.zero_le _, Nat.zero_le _⟩
    rw [hfold]
    generalize l.foldl (foldP x n path) ([], []) = st at *
    obtain ⟨L, seen⟩ := st
    obtain ⟨r2, r3, r4⟩ := k2
    simp only at r2 r3 r4
    subst r2 r3
    have hs : ((0 : Nat) : Int) = 0 := rfl
    unfold memB dskC at k1
    simp only [hs, List.length_nil, List.map_nil] at k1
    unfold dsk at e1 ⊢
    have tk1 : (L.map nd).take L.length = L.map nd := tkO
    have wnd : (L.map nd).map (wid .one) = L.map nd := by rw [List.map_map]; exact List.map_congr_left fun x _ => rfl
    simp only [F203, h203_7, go_sem, seval, bnd_ite, e1, cz, k1, r4, tk1, wnd, decide_true, decide_false, Bool.not_true, Bool.or_self, Bool.false_eq_true, if_false, if_true]
    first | done | rfl | trace_state
theorem below_all (x : Dsk) (h : x.sm) (hx : DskOk x) : ∀ n, n ≤ 4 → Below x n
  | 0, _ => below_0 x h
  | n + 1, hn => below_s x h hx n (by omega) (below_all x h hx n (by omega))
end Go.Proofs.Ytaaajjinpppgeaa
namespace Go.Proofs.Ytaaajjinpppgeaa
open Go Go.Abs
set_option maxRecDepth 100000
def H283_2 : List Vw := [.tidy [1, 2, 5] [(1, none), (2, none), (5, none)]]
theorem h283_2 (b : Nat) (s : St) : vwL b H283_2 s = vwL b [.tidy [1, 2, 5] [(1, none), (2, none), (5, none)]] s := rfl
def L283_2 : EC := (.seq (.seq (.region [(.op .mv [(.tmp 5)] (some 6) true),(.op (.faddr 1) [(.tmp 2)] (some 7) true),(.op .load1 [(.tmp 7)] (some 8) true),(.op .len [(.tmp 8)] (some 9) true),(.op (.bin .lss) [(.tmp 6),(.tmp 9)] (some 10) true)] false) (.cond (.tmp 10) .skip (.exit 0))) (.seq (.block 1 (.seq (.region [(.op .mv [(.tmp 1)] (some 13) true),(.op (.bin .neq) [(.tmp 13),(.const (.str ⟨#[]⟩))] (some 14) true),(.op .mv [(.tmp 14)] (some 15) true),(.grp 15 true [(.op (.faddr 1) [(.tmp 2)] (some 16) true),(.op .load1 [(.tmp 16)] (some 17) true),(.op .mv [(.tmp 5)] (some 18) true),(.op (.iaddr 2) [(.tmp 17),(.tmp 18)] (some 19) true),(.op (.faddr 0) [(.tmp 19)] (some 20) true),(.op .load1 [(.tmp 20)] (some 21) true),(.op .mv [(.tmp 1)] (some 22) true),(.op (.bin .eql) [(.tmp 21),(.tmp 22)] (some 23) true)] 23 24 true)] false) (.cond (.tmp 24) (.seq (.region [(.op .mv [(.tmp 5)] (some 25) true),(.op .mv [(.tmp 25)] (some 4) true)] false) .ret) .skip))) (.region [(.op .mv [(.tmp 5)] (some 11) true),(.op (.bin .add) [(.tmp 11),(.const (.int .i64 1))] (some 12) true),(.op .mv [(.tmp 12)] (some 5) true)] false)))
def F283 : EF := ⟨(.seq (.region [(.op (.box 3) [(.tmp 0)] (some 2) true),(.op .mv [(.const (.int .i64 0))] (some 4) true)] false) (.seq (.seq (.region [(.op .mv [(.const (.int .i64 0))] (some 5) true)] false) (.block 0 (.loop H283_2 L283_2))) (.seq (.region [(.op .mv [(.const (.int .i64 (-1)))] (some 4) true)] false) .ret))),[(.tmp 4)],26,.one,none⟩
theorem t283 : T 283 = some F283 := tab Try.func283 (by kernel_rfl) rfl
end Go.Proofs.Ytaaajjinpppgeaa
namespace Go.Proofs.Ytaaajjinpppgeaa
open Go Go.Abs
set_option maxRecDepth 100000
def slt0 : Slt := ⟨⟨#[]⟩, 0⟩
theorem inoOf_sm {x : Dsk} (h : x.sm) (i : Int) : (inoOf x i).sm := by
  cases hc : inside i 1 x.inos.length with
  | true => exact h.ino _ (List.mem_of_getElem? (inoOf_mem hc))
  | false => unfold inoOf; rw [hc]; exact (by decide : (0 : Nat) ≤ 1048576)
theorem blkOf_sm {x : Dsk} (h : x.sm) (i : Int) : (blkOf x i).sm := by
  cases hc : inside i 1 x.blks.length with
  | true => exact h.blk _ (List.mem_of_getElem? (blkOf_mem hc))
  | false => unfold blkOf; rw [hc]; exact (by decide : (0 : Nat) ≤ 1048576)
theorem slot_at {l : List Slt} {n : ByteArray} (h : 0 ≤ slotOf l n) : ∃ (k : Nat) (s : Slt), slotOf l n = (k : Nat) ∧ l[k]? = some s ∧ s.name = n ∧ n.size ≠ 0 := by
  unfold slotOf at h ⊢
  by_cases hn : n.size = 0
  · rw [if_pos hn] at h; omega
  · rw [if_neg hn] at h ⊢
    cases hf : l.findIdx? (fun x => decide (x.name = n)) with
    | none => rw [hf] at h; simp only at h; omega
    | some k =>
      obtain ⟨h1, h2, _⟩ := List.findIdx?_eq_some_iff_getElem.1 hf
      exact ⟨k, l[k], rfl, List.getElem?_eq_getElem h1, by simpa using h2, hn⟩
theorem slot_dir {x : Dsk} (hx : DskOk x) {p : Int} {n : ByteArray} (h : 0 ≤ slotOf (blkOf x p).slots n) : (blkOf x p).dir = true ∧ inside p 1 x.blks.length = true := by
  obtain ⟨k, s, _, h2, _⟩ := slot_at h
  cases hc : inside p 1 x.blks.length with
  | false =>
    unfold blkOf at h2; rw [hc] at h2
    simp [blk0] at h2
  | true =>
    refine ⟨?_, rfl⟩
    have hm := List.mem_of_getElem? (blkOf_mem hc)
    have hb := hx.blk _ hm
    generalize blkOf x p = b at *
    unfold blkOk at hb
    cases hd : b.dir with
    | true => rfl
    | false =>
      rw [hd] at hb
      simp at hb
      have : b.slots = [] := List.length_eq_zero_iff.1 (by simpa using hb.1)
      rw [this] at h2; simp at h2
def stepN (x : Dsk) (i : Int) (n : ByteArray) : Option (Int × Int × Int) :=
  if (inoOf x i).kind = 2 then
    match (inoOf x i).ptrs.findIdx? (fun p => decide (0 ≤ slotOf (blkOf x p).slots n)) with
    | some j => some ((inoOf x i).ptrs.getD j 0, slotOf (blkOf x ((inoOf x i).ptrs.getD j 0)).slots n, ((blkOf x ((inoOf x i).ptrs.getD j 0)).slots.getD (slotOf (blkOf x ((inoOf x i).ptrs.getD j 0)).slots n).toNat slt0).ino)
    | none => none
  else none
def tri (o : Option (Int × Int × Int)) : AV := match o with
  | some q => .tup [.int .i64 q.1, .int .i64 q.2.1, .int .i64 q.2.2]
  | none => .tup [.int .i64 0, .int .i64 0, .int .i64 0]
theorem e283 (x : Blk) (s : ByteArray) (hl : x.slots.length ≤ maxLen) : E T 283 [blk x, .str s] [] = some (.int .i64 (slotOf x.slots s), []) := by
  rw [E_eq t283 (Nat.le_of_ble_eq_true rfl)]
  unfold maxLen at hl
  rw [show blk x = .agg [.bool x.dir, .ro 2 (x.slots.map slt), .str x.text] from rfl]
  simp only [F283, h283_2, go_sem, seval, bnd_ite]
  obtain ⟨⟨y, e, m⟩, k1, k2⟩ := XL_find (T := T) (b := 0) (hd := H283_2) (x := L283_2) x.slots (fun a => !decide (s = ⟨#[]⟩) && decide (a.name = s)) (fun j => ⟨[(1, .str s), (2, .ptr 0 0 0), (5, .int .i64 (j : Nat))], [some (3, [.agg [.bool x.dir, .ro 2 (x.slots.map slt), .str x.text]])]⟩)
    (fun o r => match o with
      | some j => r.1 = .ret ∧ lookA r.2.env 4 = .int .i64 (j : Nat) ∧ r.2.mem = [some (3, [.agg [.bool x.dir, .ro 2 (x.slots.map slt), .str x.text]])]
      | none => r.1 = .exit 0 ∧ r.2.mem = [some (3, [.agg [.bool x.dir, .ro 2 (x.slots.map slt), .str x.text]])])
    (by
      intro j a ha hj hP _
      have j1 : (j : Int) < (x.slots.length : Int) := by omega
      have ga : (x.slots.map slt).getD j .undef = .agg [.str a.name, .int .i64 a.ino] := gD_map ha
      have hw := w_i64 ((j : Int) + 1) (by omega)
      cases hs : decide (s = ⟨#[]⟩) with
      | true =>
        simp only [XG, L283_2, h283_2, go_sem, seval, bnd_ite, j1, ga, hs, hw, Int.natCast_nonneg, decide_true, Bool.not_true, if_true, if_false, Bool.false_eq_true]
        first | done | rfl
      | false =>
        rw [hs] at hP
        have hP : decide (a.name = s) = false := by simpa using hP
        simp only [XG, L283_2, h283_2, go_sem, seval, bnd_ite, j1, ga, hs, hP, hw, Int.natCast_nonneg, decide_true, Bool.not_false, if_true, if_false, Bool.false_eq_true]
        first | done | rfl)
    (by
      intro j a ha hj hP _
      have j1 : (j : Int) < (x.slots.length : Int) := by omega
      have ga : (x.slots.map slt).getD j .undef = .agg [.str a.name, .int .i64 a.ino] := gD_map ha
      simp only [Bool.and_eq_true, Bool.not_eq_true'] at hP
      simp only [XG, L283_2, h283_2, go_sem, seval, bnd_ite, j1, ga, hP.1, hP.2, Int.natCast_nonneg, decide_true, Bool.not_false, if_true, if_false, Bool.false_eq_true]
      exact .mk (by simp) ⟨rfl, rfl, rfl⟩)
    (by
      intro _
      simp only [XG, L283_2, h283_2, go_sem, seval, bnd_ite, Int.lt_irrefl, decide_false]
      exact .mk (by simp) ⟨rfl, rfl⟩)
  have hs0 : ((0 : Nat) : Int) = 0 := rfl
  simp only [hs0] at k1
  have hf : x.slots.findIdx? (fun a => !decide (s = ⟨#[]⟩) && decide (a.name = s)) = if s.size = 0 then none else x.slots.findIdx? (fun a => decide (a.name = s)) := by
    by_cases h0 : s.size = 0
    · have : s = ⟨#[]⟩ := by cases s with | mk a => congr 1; exact Array.eq_empty_of_size_eq_zero h0
      rw [if_pos h0]; subst this
      simp
    · have : ¬ s = ⟨#[]⟩ := fun hh => h0 (by rw [hh]; rfl)
      rw [if_neg h0]; simp [this]
  rw [hf] at k2
  unfold slotOf
  by_cases h0 : s.size = 0
  · rw [if_pos h0] at k2 ⊢
    obtain ⟨q1, q2⟩ := k2
    simp only at q1 q2; subst q1; subst q2
    simp only [k1, go_sem, seval, bnd_ite]
    first | done | rfl
  · rw [if_neg h0] at k2 ⊢
    cases hfi : x.slots.findIdx? (fun a => decide (a.name = s)) with
    | none =>
      rw [hfi] at k2
      obtain ⟨q1, q2⟩ := k2
      simp only at q1 q2; subst q1; subst q2
      simp only [k1, go_sem, seval, bnd_ite]
      first | done | rfl
    | some j =>
      rw [hfi] at k2
      obtain ⟨q1, q2, q3⟩ := k2
      simp only at q1 q2 q3; subst q1; subst q3
      simp only [k1, go_sem, seval, bnd_ite, q2]
      first | done | rfl
theorem e257 (x : Dsk) (h : x.sm) (hx : DskOk x) (i : Int) (n : ByteArray) : E T 257 [dsk x, .int .i64 i, .str n] [] = some (tri (stepN x i n), []) := by
  rw [E_eq t257 (Nat.le_of_ble_eq_true rfl)]
  have hi8 := hx.inos
  unfold stepN
  cases hc : inside i 1 x.inos.length with
  | false =>
    have e0 : inoOf x i = ino0 := by unfold inoOf; rw [hc]; rfl
    have e1 := e116i i 1 x.inos.length
    rw [hc] at e1
    rw [e0]
    unfold dsk
    simp only [F257, go_sem, seval, bnd_ite, e1, Bool.not_false, if_true]
    first | done | rfl
  | true =>
    have e1 := e116i i 1 x.inos.length
    rw [hc] at e1
    have gi : (x.inos.map ino).getD (i - 1).toNat .undef = .agg [.int .i64 (inoOf x i).kind, .int .i64 (inoOf x i).links, .ro 1 ((inoOf x i).ptrs.map iv)] := gD_map (inoOf_mem hc)
    have hp := inoOf_sm h i
    simp only [inside, Bool.and_eq_true, decide_eq_true_eq] at hc
    have z1 : 0 ≤ i - 1 := by omega
    have z2 : i - 1 < (x.inos.length : Int) := by omega
    have wq := w_i64 (i - 1) (by omega)
    generalize inoOf x i = p at *
    obtain ⟨pk, pl, l⟩ := p
    unfold Ino.sm at hp
    simp only at hp gi
    unfold dsk
    by_cases hk : pk = 2
    case neg =>
      simp only [F257, go_sem, seval, bnd_ite, e1, z1, z2, wq, gi, hk, decide_true, decide_false, Bool.not_true, Bool.not_false, if_true, if_false, Bool.false_eq_true]
      first | done | rfl
    case pos =>
      simp only [F257, h257_5, go_sem, seval, bnd_ite, e1, z1, z2, wq, gi, hk, decide_true, decide_false, Bool.not_true, Bool.not_false, if_true, if_false, Bool.false_eq_true]
      obtain ⟨⟨y, e, m⟩, k1, k2⟩ := XL_find (T := T) (b := 0) (hd := H257_5) (x := L257_5) l (fun q => decide (0 ≤ slotOf (blkOf x q).slots n)) (fun j => ⟨[(2, .str n), (3, .ptr 0 0 0), (9, .ptr 1 0 0), (10, .int .i64 (j : Nat))], [some (4, [dskC x]), some (3, [.agg [.int .i64 2, .int .i64 pl, .ro 1 (l.map iv)]])]⟩)
        (fun o r => match o with
          | some j => r.1 = .ret ∧ lookA r.2.env 6 = .int .i64 (l.getD j 0) ∧ lookA r.2.env 7 = .int .i64 (slotOf (blkOf x (l.getD j 0)).slots n) ∧ lookA r.2.env 8 = .int .i64 ((blkOf x (l.getD j 0)).slots.getD (slotOf (blkOf x (l.getD j 0)).slots n).toNat slt0).ino ∧ ∃ c, r.2.mem = [some (4, [dskC x]), some (3, [.agg [.int .i64 2, .int .i64 pl, .ro 1 (l.map iv)]]), c]
          | none => r.1 = .exit 0 ∧ r.2.mem = [some (4, [dskC x]), some (3, [.agg [.int .i64 2, .int .i64 pl, .ro 1 (l.map iv)]])])
        (by
          intro j q hq hj hP _
          have j1 : (j : Int) < (l.length : Int) := by omega
          have gq : (l.map iv).getD j .undef = .int .i64 q := gD_map hq
          have e2 := e165u x h q
          have hb := blkOf_sm h q
          have hw := w_i64 ((j : Int) + 1) (by omega)
          generalize inside q 1 x.blks.length = ins at *
          generalize blkOf x q = b at *
          have e3 := e283 b n (by unfold Blk.sm at hb; unfold maxLen; omega)
          unfold dsk at e2
          rw [show blk b = .agg [.bool b.dir, .ro 2 (b.slots.map slt), .str b.text] from rfl] at e2 e3
          have hP : decide (0 ≤ slotOf b.slots n) = false := hP
          unfold dskC
          cases ins with
          | false =>
            simp only [XG, L257_5, h257_5, go_sem, seval, bnd_ite, j1, gq, e2, e3, hP, hw, Int.natCast_nonneg, decide_true, if_true, if_false, Bool.false_eq_true]
            first | done | rfl | trace_state
          | true =>
            cases hd : b.dir with
            | false =>
              rw [hd] at e2 e3
              simp only [XG, L257_5, h257_5, go_sem, seval, bnd_ite, j1, gq, e2, e3, hP, hw, Int.natCast_nonneg, decide_true, if_true, if_false, Bool.false_eq_true]
              first | done | rfl | trace_state
            | true =>
              rw [hd] at e2 e3
              simp only [XG, L257_5, h257_5, go_sem, seval, bnd_ite, j1, gq, e2, e3, hP, hw, Int.natCast_nonneg, decide_true, if_true, if_false, Bool.false_eq_true]
              first | done | rfl | trace_state)
        (by
          intro j q hq hj hP _
          have j1 : (j : Int) < (l.length : Int) := by omega
          have gq : (l.map iv).getD j .undef = .int .i64 q := gD_map hq
          have gl : l.getD j 0 = q := getD_at hq
          have e2 := e165u x h q
          have hb := blkOf_sm h q
          have hP : 0 ≤ slotOf (blkOf x q).slots n := by simpa using hP
          obtain ⟨d1, d2⟩ := slot_dir hx hP
          obtain ⟨k, s, s1, s2, _, _⟩ := slot_at hP
          simp only [gl]
          rw [d2] at e2
          generalize blkOf x q = b at *
          have e3 := e283 b n (by unfold Blk.sm at hb; unfold maxLen; omega)
          unfold dsk at e2
          rw [show blk b = .agg [.bool b.dir, .ro 2 (b.slots.map slt), .str b.text] from rfl] at e2 e3
          rw [d1] at e2 e3
          rw [s1] at e3 ⊢
          have gs : (b.slots.map slt).getD k .undef = .agg [.str s.name, .int .i64 s.ino] := gD_map s2
          have gx : b.slots.getD k slt0 = s := getD_at s2
          have hk := (List.getElem?_eq_some_iff.1 s2).1
          have z3 : (k : Int) < (b.slots.length : Int) := by omega
          have z4 : 0 ≤ (k : Int) := by omega
          unfold dskC
          simp only [XG, L257_5, h257_5, go_sem, seval, bnd_ite, j1, gq, e2, e3, gs, gx, z3, z4, Int.toNat_natCast, Int.natCast_nonneg, decide_true, if_true, if_false, Bool.false_eq_true]
          first | exact .mk (by simp) ⟨rfl, rfl, rfl, rfl, _, rfl⟩ | trace_state)
        (by
          intro _
          unfold dskC
          simp only [XG, L257_5, h257_5, go_sem, seval, bnd_ite, Int.lt_irrefl, decide_false]
          exact .mk (by simp) ⟨rfl, rfl⟩)
      have hs : ((0 : Nat) : Int) = 0 := rfl
      unfold dskC at k1
      simp only [hs] at k1
      cases hf : l.findIdx? (fun q => decide (0 ≤ slotOf (blkOf x q).slots n)) with
      | none =>
        rw [hf] at k2
        obtain ⟨q1, q2⟩ := k2
        simp only at q1 q2
        subst q1; subst q2
        simp only [k1, go_sem, seval, bnd_ite]
        first | done | rfl
      | some j =>
        rw [hf] at k2
        obtain ⟨q1, q2, q3, q4, c, q5⟩ := k2
        simp only at q1 q2 q3 q4 q5
        subst q1; subst q5
        simp only [k1, go_sem, seval, bnd_ite, q2, q3, q4]
        first | done | rfl
end Go.Proofs.Ytaaajjinpppgeaa
namespace Go.Proofs.Ytaaajjinpppgeaa
open Go Go.Abs
set_option maxRecDepth 100000
def nmE (l : List ByteArray) (s : Slt) : List ByteArray := if s.name = ⟨#[]⟩ then l else l ++ [s.name]
theorem nmE_fold : ∀ (l : List Slt) (a : List ByteArray), l.foldl nmE a = a ++ (l.filter fun s => !decide (s.name = ⟨#[]⟩)).map (·.name)
  | [], a => by simp
  | s :: l, a => by
    rw [List.foldl_cons, nmE_fold l]
    unfold nmE
    by_cases h : s.name = ⟨#[]⟩ <;> simp [h]
theorem nmE_len : ∀ (l : List Slt) (a : List ByteArray), (l.foldl nmE a).length ≤ a.length + l.length
  | [], a => Nat.le_refl _
  | s :: l, a => by
    rw [List.foldl_cons]
    refine Nat.le_trans (nmE_len l _) ?_
    have : (nmE a s).length ≤ a.length + 1 := by unfold nmE; split <;> simp
    simp only [List.length_cons]; omega
theorem in256 (x : Dsk) (q : Ino) (b : Blk) (k : Nat) (a : List ByteArray) (ha : a.length ≤ 4 * k) (hk : k ≤ 2) (h4 : b.slots.length ≤ 4) (hd : b.slots ≠ [] → b.dir = true) : ∃ r, XL T 0 H256_10 L256_10 ⟨[(2, .ptr 0 0 0), (5, .sl 1 0 a.length), (6, .ptr 2 0 0), (7, .int .i64 (k : Nat)), (8, .ptr 3 0 0), (10, .int .i64 0)], [some (4, [dskC x]), some (1, a.map sv), some (3, [.agg [.int .i64 q.kind, .int .i64 q.links, .ro 1 (q.ptrs.map iv)]]), some (3, [.agg [.bool b.dir, .ro 2 (b.slots.map slt), .str b.text]])]⟩ = some r ∧
    r.1 = .exit 2 ∧ r.2.mem = [some (4, [dskC x]), some (1, (b.slots.foldl nmE a).map sv), some (3, [.agg [.int .i64 q.kind, .int .i64 q.links, .ro 1 (q.ptrs.map iv)]]), some (3, [.agg [.bool b.dir, .ro 2 (b.slots.map slt), .str b.text]])] ∧ lookA r.2.env 2 = .ptr 0 0 0 ∧ lookA r.2.env 5 = .sl 1 0 (b.slots.foldl nmE a).length ∧ lookA r.2.env 6 = .ptr 2 0 0 ∧ lookA r.2.env 7 = .int .i64 (k : Nat) := by
  refine XL_each (T := T) (b := 0) (hd := H256_10) (x := L256_10) b.slots nmE (fun i a => ⟨[(2, .ptr 0 0 0), (5, .sl 1 0 a.length), (6, .ptr 2 0 0), (7, .int .i64 (k : Nat)), (8, .ptr 3 0 0), (10, .int .i64 (i : Nat))], [some (4, [dskC x]), some (1, a.map sv), some (3, [.agg [.int .i64 q.kind, .int .i64 q.links, .ro 1 (q.ptrs.map iv)]]), some (3, [.agg [.bool b.dir, .ro 2 (b.slots.map slt), .str b.text]])]⟩)
    (fun i a => a.length ≤ 4 * k + i) (fun a r => r.1 = .exit 2 ∧ r.2.mem = [some (4, [dskC x]), some (1, a.map sv), some (3, [.agg [.int .i64 q.kind, .int .i64 q.links, .ro 1 (q.ptrs.map iv)]]), some (3, [.agg [.bool b.dir, .ro 2 (b.slots.map slt), .str b.text]])] ∧ lookA r.2.env 2 = .ptr 0 0 0 ∧ lookA r.2.env 5 = .sl 1 0 a.length ∧ lookA r.2.env 6 = .ptr 2 0 0 ∧ lookA r.2.env 7 = .int .i64 (k : Nat)) ?_ ?_ a (by simpa using ha)
  · intro i a s hs hi ha
    have hi1 : (i : Int) < (b.slots.length : Int) := by omega
    have gs : (b.slots.map slt).getD i .undef = .agg [.str s.name, .int .i64 s.ino] := gD_map hs
    have hw := w_i64 ((i : Int) + 1) (by omega)
    have hap : (a.length + 1) * 16 ≤ 140737488355328 := by omega
    have tka : (a.map sv).take a.length = a.map sv := tkO
    have sa : a.map sv ++ [AV.str s.name] = (a ++ [s.name]).map sv := by rw [List.map_append]; rfl
    have tks : ((a ++ [s.name]).map sv).take (a.length + 1) = (a ++ [s.name]).map sv := tkN (by simp)
    have hdr := hd (by intro e; rw [e] at hi; simp at hi)
    unfold dskC
    by_cases hn : s.name = ⟨#[]⟩
    · refine ⟨?_, ?_⟩
      · simp only [XG, L256_10, h256_10, go_sem, seval, bnd_ite, hi1, gs, hw, hn, hdr, decide_true, Bool.not_true, Bool.false_eq_true, if_false, if_true, Int.natCast_nonneg, nmE, tka, tkO]
        first | done | rfl | trace_state
      · unfold nmE; rw [if_pos hn]; omega
    · refine ⟨?_, ?_⟩
      · simp only [XG, L256_10, h256_10, go_sem, seval, bnd_ite, hi1, gs, hw, hn, hdr, decide_false, decide_true, Bool.not_false, Bool.false_eq_true, if_false, if_true, Int.natCast_nonneg, nmE, hap, tka, sa, tks, tkO, List.length_append, List.length_cons, List.length_nil, List.length_map]
        first | done | rfl | trace_state
      · unfold nmE; rw [if_neg hn]; simp; omega
  · intro a ha
    have tka : (a.map sv).take a.length = a.map sv := tkO
    unfold dskC
    simp only [XG, L256_10, h256_10, go_sem, seval, bnd_ite, Int.lt_irrefl, decide_false, tka]
    first | exact .mk (by simp) ⟨rfl, rfl, rfl, rfl, rfl, rfl⟩ | trace_state
def nmP (x : Dsk) (a : List ByteArray) (p : Int) : List ByteArray := (blkOf x p).slots.foldl nmE a
theorem nmP_all (x : Dsk) : ∀ (l : List Int) (a : List ByteArray), l.foldl (nmP x) a = (l.flatMap fun p => (blkOf x p).slots).foldl nmE a
  | [], _ => rfl
  | p :: l, a => by rw [List.foldl_cons, List.flatMap_cons, List.foldl_append, nmP_all x l]; rfl
def namesT (x : Dsk) (i : Int) : List ByteArray := ((slotsT x i).filter fun s => !decide (s.name = ⟨#[]⟩)).map (·.name)
theorem blk_sl {x : Dsk} (hx : DskOk x) (p : Int) : (blkOf x p).slots ≠ [] → (blkOf x p).dir = true := by
  intro hne
  cases hc : inside p 1 x.blks.length with
  | false => unfold blkOf at hne; rw [hc] at hne; exact absurd rfl hne
  | true =>
    have hb2 := hx.blk _ (List.mem_of_getElem? (blkOf_mem hc))
    cases hd : (blkOf x p).dir with
    | false => exact absurd (blkOk_txt hb2 hd).1 hne
    | true => rfl
theorem e256 (x : Dsk) (h : x.sm) (hx : DskOk x) (i : Int) (hin : inside i 1 x.inos.length = true) (hk : (inoOf x i).kind = 2) : E T 256 [dsk x, .int .i64 i] [] = some (.own 1 ((namesT x i).map sv), []) := by
  rw [E_eqW t256 (Nat.le_of_ble_eq_true rfl)]
  have e1 := e116i i 1 x.inos.length
  rw [hin] at e1
  have gi : (x.inos.map ino).getD (i - 1).toNat .undef = .agg [.int .i64 (inoOf x i).kind, .int .i64 (inoOf x i).links, .ro 1 ((inoOf x i).ptrs.map iv)] := gD_map (inoOf_mem hin)
  have hi8 := hx.inos
  simp only [inside, Bool.and_eq_true, decide_eq_true_eq] at hin
  have z1 : 0 ≤ i - 1 := by omega
  have z2 : i - 1 < (x.inos.length : Int) := by omega
  have wq := w_i64 (i - 1) (by omega)
  have hp2 := ptrs2 hx i
  have hns : namesT x i = (inoOf x i).ptrs.foldl (nmP x) [] := by rw [nmP_all, nmE_fold, List.nil_append]; rfl
  rw [hns]
  generalize inoOf x i = q at *
  obtain ⟨pk, pl, l⟩ := q
  simp only at hk hp2 gi ⊢
  subst hk
  obtain ⟨⟨y, e, m⟩, k1, k2⟩ := XL_each (T := T) (b := 0) (hd := H256_6) (x := L256_6) l (nmP x) (fun k a => ⟨[(2, .ptr 0 0 0), (5, .sl 1 0 a.length), (6, .ptr 2 0 0), (7, .int .i64 (k : Nat))], [some (4, [dskC x]), some (1, a.map sv), some (3, [.agg [.int .i64 2, .int .i64 pl, .ro 1 (l.map iv)]])]⟩)
    (fun k a => a.length ≤ 4 * k) (fun a r => r.1 = .exit 0 ∧ r.2.mem = [some (4, [dskC x]), some (1, a.map sv), some (3, [.agg [.int .i64 2, .int .i64 pl, .ro 1 (l.map iv)]])] ∧ lookA r.2.env 5 = .sl 1 0 a.length)
    (by
      intro k a p hq hk ha
      have k1' : (k : Int) < (l.length : Int) := by omega
      have gp : (l.map iv).getD k .undef = .int .i64 p := gD_map hq
      have e2 := e165u x h p
      have hw := w_i64 ((k : Int) + 1) (by omega)
      have h4 := slots4 hx p
      have hlen := nmE_len (blkOf x p).slots a
      obtain ⟨⟨y, e, m⟩, r1, r2, r3, r4, r5, r6, r7⟩ := in256 x ⟨2, pl, l⟩ (blkOf x p) k a ha (by omega) h4 (blk_sl hx p)
      unfold nmP
      generalize hg : (blkOf x p).slots.foldl nmE a = a' at *
      simp only at r1 r2 r3 r4 r5 r6 r7
      subst r2 r3
      generalize hb : blkOf x p = b at *
      unfold dsk at e2
      have tka : (a.map sv).take a.length = a.map sv := tkO
      have tka' : (a'.map sv).take a'.length = a'.map sv := tkO
      refine ⟨?_, by omega⟩
      unfold dskC at r1
      rw [show blk b = .agg [.bool b.dir, .ro 2 (b.slots.map slt), .str b.text] from rfl] at e2
      unfold dskC
      simp only [XG, L256_6, h256_6, h256_10, go_sem, seval, bnd_ite, k1', gp, e2, r1, r4, r5, r6, r7, hw, tka, tka', Int.natCast_nonneg, decide_true, if_true]
      first | done | rfl | trace_state)
    (by
      intro a ha
      have tka : (a.map sv).take a.length = a.map sv := tkO
      unfold dskC
      simp only [XG, L256_6, h256_6, go_sem, seval, bnd_ite, Int.lt_irrefl, decide_false, tka]
      first | exact .mk (by simp) ⟨rfl, rfl, rfl⟩ | trace_state) [] (by simp)
  generalize l.foldl (nmP x) [] = A at *
  obtain ⟨r2, r3, r4⟩ := k2
  simp only at r2 r3 r4
  subst r2 r3
  have hs : ((0 : Nat) : Int) = 0 := rfl
  unfold dskC at k1
  simp only [hs, List.length_nil, List.map_nil] at k1
  unfold dsk
  have tka : (A.map sv).take A.length = A.map sv := tkO
  have wsv : (A.map sv).map (wid .one) = A.map sv := by rw [List.map_map]; exact List.map_congr_left fun x _ => rfl
  simp only [F256, h256_6, go_sem, seval, bnd_ite, e1, z1, z2, wq, gi, k1, r4, tka, wsv, decide_true, Bool.not_true, Bool.false_eq_true, if_false, if_true]
  first | done | rfl | trace_state
end Go.Proofs.Ytaaajjinpppgeaa
namespace Go.Proofs.Ytaaajjinpppgeaa
open Go Go.Abs
set_option maxRecDepth 100000
def isN1 (n : ByteArray) (s : Slt) : Bool := decide (s.name = n)
theorem slotOf_find {l : List Slt} {n : ByteArray} (hn : n.size ≠ 0) : l.find? (isN1 n) = if 0 ≤ slotOf l n then some (l.getD (slotOf l n).toNat slt0) else none := by
  unfold slotOf
  rw [if_neg hn]
  cases hf : l.findIdx? (fun x => decide (x.name = n)) with
  | none =>
    rw [if_neg (by simp)]
    rw [List.find?_eq_none]
    intro s hs
    have := List.findIdx?_eq_none_iff.1 hf s hs
    unfold isN1; rw [this]; simp
  | some k =>
    obtain ⟨h1, h2, h3⟩ := List.findIdx?_eq_some_iff_getElem.1 hf
    rw [if_pos (by simp)]
    rw [show ((k : Nat) : Int).toNat = k from Int.toNat_natCast k]
    rw [List.find?_eq_some_iff_getElem]
    refine ⟨by unfold isN1; simpa [List.getD, h1] using h2, k, h1, by simp [List.getD, h1], fun j hj => ?_⟩
    have := h3 j hj
    unfold isN1; simpa using this
theorem flat_find {S : Int → List Slt} {n : ByteArray} (hn : n.size ≠ 0) : ∀ (l : List Int), (l.flatMap S).find? (isN1 n) = match l.findIdx? (fun p => decide (0 ≤ slotOf (S p) n)) with
    | some j => some ((S (l.getD j 0)).getD (slotOf (S (l.getD j 0)) n).toNat slt0)
    | none => none
  | [] => rfl
  | p :: l => by
    rw [List.flatMap_cons, List.find?_append, slotOf_find hn, List.findIdx?_cons, flat_find hn l]
    by_cases h : 0 ≤ slotOf (S p) n
    · simp [h]
    · rw [if_neg h]
      simp only [h, decide_false, Bool.false_eq_true, if_false, Option.none_or]
      cases l.findIdx? (fun p => decide (0 ≤ slotOf (S p) n)) with
      | none => rfl
      | some j => simp
theorem step_find {x : Dsk} {i : Int} {n : ByteArray} (hk : (inoOf x i).kind = 2) (hn : n.size ≠ 0) : (stepN x i n).map (·.2.2) = ((slotsT x i).find? (isN1 n)).map (·.ino) := by
  unfold stepN slotsT
  rw [if_pos hk, flat_find hn]
  cases (inoOf x i).ptrs.findIdx? (fun p => decide (0 ≤ slotOf (blkOf x p).slots n)) with
  | none => rfl
  | some j => rfl
def slotsN (x : Dsk) (i : Int) : List Slt := (slotsT x i).filter fun s => !decide (s.name = ⟨#[]⟩)
theorem nil_size {n : ByteArray} (h : n ≠ ⟨#[]⟩) : n.size ≠ 0 := by
  intro e
  apply h
  have : n.data.size = 0 := e
  have h2 : n.data = #[] := Array.size_eq_zero_iff.1 this
  cases n; simp at h2; rw [h2]
theorem first_step {x : Dsk} {i : Int} (hk : (inoOf x i).kind = 2) {k : Nat} {s : Slt} (hs : (slotsN x i)[k]? = some s) (hf : ((slotsN x i).take k).any (isN1 s.name) = false) : ∃ q, stepN x i s.name = some q ∧ q.2.2 = s.ino := by
  obtain ⟨hk1, hk2⟩ := List.getElem?_eq_some_iff.1 hs
  have hm : s ∈ slotsN x i := List.mem_of_getElem? hs
  have hne : s.name ≠ ⟨#[]⟩ := by
    unfold slotsN at hm
    have := (List.mem_filter.1 hm).2
    simpa using this
  have h1 : (slotsN x i).find? (isN1 s.name) = some s := by
    rw [List.find?_eq_some_iff_getElem]
    refine ⟨by simp [isN1], k, hk1, hk2, fun j hj => ?_⟩
    have hj' : j < (slotsN x i).length := by omega
    have h2 := List.any_eq_false.1 hf ((slotsN x i)[j]) (by
      rw [List.mem_take_iff_getElem]
      exact ⟨j, by omega, rfl⟩)
    simpa using h2
  have h3 : (slotsT x i).find? (isN1 s.name) = some s := by
    rw [← h1]
    unfold slotsN
    rw [List.find?_filter]
    congr 1
    funext a
    unfold isN1
    by_cases ha : a.name = s.name
    · rw [ha]; simp [hne]
    · simp [ha]
  have h4 := step_find hk (nil_size hne)
  rw [h3] at h4
  cases hq : stepN x i s.name with
  | none => rw [hq] at h4; cases h4
  | some q => rw [hq] at h4; exact ⟨q, rfl, by simpa using h4⟩
def stR (x : Dsk) (n : Nat) (path : ByteArray) (st : List Nd × List ByteArray) (s : Slt) : List Nd × List ByteArray :=
  (if (st.2.any fun m => decide (m = s.name)) = true then st.1 else st.1 ++ (if thereI x s.ino then nodeT x path s :: treeB x n s.ino (subP path s.name) else []), st.2 ++ [s.name])
theorem any_iff {l : List ByteArray} {n : ByteArray} : (l.any fun m => decide (m = n)) = true ↔ n ∈ l := by
  rw [List.any_eq_true]
  constructor
  · rintro ⟨m, h1, h2⟩; rw [← of_decide_eq_true h2]; exact h1
  · intro h; exact ⟨n, h, by simp⟩
theorem stR_fold (x : Dsk) (n : Nat) (path : ByteArray) : ∀ (l : List Slt) (L : List Nd) (A B : List ByteArray), (∀ m, m ∈ A ↔ m ∈ B) →
    ((l.filter fun s => !decide (s.name = ⟨#[]⟩)).foldl (stR x n path) (L, A)).1 = (l.foldl (stepT x n path) (L, B)).1
  | [], _, _, _, _ => rfl
  | s :: l, L, A, B, h => by
    rw [List.foldl_cons]
    by_cases hn : s.name = ⟨#[]⟩
    · rw [List.filter_cons_of_neg (by simp [hn])]
      have : stepT x n path (L, B) s = (L, B) := by
        unfold stepT
        rw [if_pos (hadN_iff.2 (.inl hn))]
      rw [this]
      exact stR_fold x n path l L A B h
    · rw [List.filter_cons_of_pos (by simp [hn]), List.foldl_cons]
      by_cases hs : s.name ∈ B
      · have h1 : stepT x n path (L, B) s = (L, B) := by unfold stepT; rw [if_pos (hadN_iff.2 (.inr hs))]
        have h2 : stR x n path (L, A) s = (L, A ++ [s.name]) := by unfold stR; rw [if_pos (any_iff.2 ((h _).2 hs))]
        rw [h1, h2]
        refine stR_fold x n path l L _ B fun m => ?_
        rw [List.mem_append, List.mem_singleton, h m]
        constructor
        · rintro (h | rfl)
          · exact h
          · exact hs
        · exact .inl
      · have h1 : stepT x n path (L, B) s = (L ++ (if thereI x s.ino then nodeT x path s :: treeB x n s.ino (subP path s.name) else []), B ++ [s.name]) := by
          unfold stepT; rw [if_neg (fun e => (hadN_iff.1 e).elim hn hs)]
        have h2 : stR x n path (L, A) s = (L ++ (if thereI x s.ino then nodeT x path s :: treeB x n s.ino (subP path s.name) else []), A ++ [s.name]) := by
          unfold stR; rw [if_neg (fun e => hs ((h _).1 (any_iff.1 e)))]
        rw [h1, h2]
        refine stR_fold x n path l _ _ _ fun m => ?_
        rw [List.mem_append, List.mem_append, h m]
theorem walk_tree (x : Dsk) (n : Nat) (i : Int) (path : ByteArray) (h : (inoOf x i).kind = 2) : treeB x (n + 1) i path = ((slotsN x i).foldl (stR x n path) ([], [])).1 := by
  rw [treeB_fold x n i path h]
  exact (stR_fold x n path (slotsT x i) [] [] [] fun _ => Iff.rfl).symm
theorem e258 (x : Dsk) (h : x.sm) (hx : DskOk x) (i : Int) (hin : inside i 1 x.inos.length = true) (hk : (inoOf x i).kind = 1) : E T 258 [dsk x, .int .i64 i] [] = some (.tup [.str (headT x i 0), .str (headT x i 1)], []) := by
  rw [E_eq t258 (Nat.le_of_ble_eq_true rfl)]
  have e1 := e116i i 1 x.inos.length
  rw [hin] at e1
  have gi : (x.inos.map ino).getD (i - 1).toNat .undef = .agg [.int .i64 (inoOf x i).kind, .int .i64 (inoOf x i).links, .ro 1 ((inoOf x i).ptrs.map iv)] := gD_map (inoOf_mem hin)
  have hi8 := hx.inos
  have h2 := ino_two hx i hk
  simp only [inside, Bool.and_eq_true, decide_eq_true_eq] at hin
  have z1 : 0 ≤ i - 1 := by omega
  have z2 : i - 1 < (x.inos.length : Int) := by omega
  have wq := w_i64 (i - 1) (by omega)
  unfold headT ptrN
  generalize inoOf x i = q at *
  obtain ⟨pk, pl, l⟩ := q
  simp only at hk h2 gi ⊢
  subst hk
  match l, h2 with
  | [a, b], _ =>
    have e2 := e165u x h a
    have e3 := e165u x h b
    simp only [List.getD_cons_zero, List.getD_cons_succ, if_true]
    generalize inside a 1 x.blks.length = ia at *
    generalize inside b 1 x.blks.length = ib at *
    generalize blkOf x a = A at *
    generalize blkOf x b = B at *
    rw [show blk A = .agg [.bool A.dir, .ro 2 (A.slots.map slt), .str A.text] from rfl] at e2
    rw [show blk B = .agg [.bool B.dir, .ro 2 (B.slots.map slt), .str B.text] from rfl] at e3
    unfold dsk at e2 e3 ⊢
    simp only [List.map_cons, List.map_nil, iv] at gi
    simp only [F258, go_sem, seval, bnd_ite, e1, e2, e3, z1, z2, wq, gi, decide_true, Bool.not_true, Bool.false_eq_true, if_false, if_true]
    first | done | rfl | trace_state
end Go.Proofs.Ytaaajjinpppgeaa
namespace Go.Proofs.Ytaaajjinpppgeaa
open Go Go.Abs
set_option maxRecDepth 100000
def Walk (x : Dsk) (n : Nat) : Prop := ∀ (i : Int) (path : ByteArray), inside i 1 x.inos.length = true → (inoOf x i).kind = 2 → path.size + 7 * n ≤ 1000 → E T 202 [dsk x, .int .i64 i, .str path, .int .i64 (4 - (n : Int))] [] = some (.own 4 ((treeB x n i path).map nd), [])
theorem tri_ex (o : Option (Int × Int × Int)) : ∃ a b c : Int, tri o = .tup [.int .i64 a, .int .i64 b, .int .i64 c] ∧ ∀ q, o = some q → c = q.2.2 := by
  cases o with
  | none => exact ⟨0, 0, 0, rfl, fun q h => by cases h⟩
  | some q => exact ⟨q.1, q.2.1, q.2.2, rfl, fun q' h => by cases h; rfl⟩
abbrev memW (x : Dsk) (N : List ByteArray) (st : List Nd × List ByteArray) : Mem := [some (4, [dskC x]), some (4, st.1.map nd), some (1, N.map sv), some (1, st.2.map sv)]
theorem in202 (x : Dsk) (i dp : Int) (path : ByteArray) (N : List ByteArray) (L : List Nd) (seen : List ByteArray) (k : Nat) (nm : ByteArray) (hnm : N[k]? = some nm) (hN : N.length ≤ 8) (hs : seen.length ≤ 8) :
    ∃ r, XL T 0 H202_11 L202_11 ⟨[(1, .int .i64 i), (2, .str path), (3, .int .i64 dp), (4, .ptr 0 0 0), (9, .sl 1 0 L.length), (10, .sl 2 0 N.length), (11, .sl 3 0 seen.length), (12, .int .i64 (k : Nat)), (13, .bool false), (14, .int .i64 0)], memW x N (L, seen)⟩ = some r ∧
      r.1 = .exit 2 ∧ r.2.mem = memW x N (L, seen) ∧ lookA r.2.env 1 = .int .i64 i ∧ lookA r.2.env 2 = .str path ∧ lookA r.2.env 3 = .int .i64 dp ∧ lookA r.2.env 4 = .ptr 0 0 0 ∧ lookA r.2.env 9 = .sl 1 0 L.length ∧ lookA r.2.env 10 = .sl 2 0 N.length ∧ lookA r.2.env 11 = .sl 3 0 seen.length ∧ lookA r.2.env 12 = .int .i64 (k : Nat) ∧ lookA r.2.env 13 = .bool (seen.any fun m => decide (m = nm)) := by
  have hfold : ∀ (l : List ByteArray) (h : Bool), l.foldl (fun h m => h || decide (m = nm)) h = (h || l.any fun m => decide (m = nm)) := by
    intro l
    induction l with
    | nil => intro h; simp
    | cons a l ih => intro h; rw [List.foldl_cons, ih, List.any_cons, Bool.or_assoc]
  have hf0 := hfold seen false
  rw [Bool.false_or] at hf0
  rw [← hf0]
  have hk : k < N.length := (List.getElem?_eq_some_iff.1 hnm).1
  have hk1 : (k : Int) < (N.length : Int) := by omega
  have gN : (N.map sv).getD k .undef = .str nm := gD_map hnm
  have tkL : (L.map nd).take L.length = L.map nd := tkO
  have tkN' : (N.map sv).take N.length = N.map sv := tkO
  have tks : (seen.map sv).take seen.length = seen.map sv := tkO
  refine XL_each (T := T) (b := 0) (hd := H202_11) (x := L202_11) seen (fun h m => h || decide (m = nm)) (fun j h => ⟨[(1, .int .i64 i), (2, .str path), (3, .int .i64 dp), (4, .ptr 0 0 0), (9, .sl 1 0 L.length), (10, .sl 2 0 N.length), (11, .sl 3 0 seen.length), (12, .int .i64 (k : Nat)), (13, .bool h), (14, .int .i64 (j : Nat))], memW x N (L, seen)⟩)
    (fun _ _ => True) (fun h r => r.1 = .exit 2 ∧ r.2.mem = memW x N (L, seen) ∧ lookA r.2.env 1 = .int .i64 i ∧ lookA r.2.env 2 = .str path ∧ lookA r.2.env 3 = .int .i64 dp ∧ lookA r.2.env 4 = .ptr 0 0 0 ∧ lookA r.2.env 9 = .sl 1 0 L.length ∧ lookA r.2.env 10 = .sl 2 0 N.length ∧ lookA r.2.env 11 = .sl 3 0 seen.length ∧ lookA r.2.env 12 = .int .i64 (k : Nat) ∧ lookA r.2.env 13 = .bool h) ?_ ?_ false trivial
  · intro j h m hm hj _
    refine ⟨?_, trivial⟩
    have hj1 : (j : Int) < (seen.length : Int) := by omega
    have gs : (seen.map sv).getD j .undef = .str m := gD_map hm
    have hw := w_i64 ((j : Int) + 1) (by omega)
    unfold memW dskC
    cases h with
    | true =>
      simp only [XG, L202_11, h202_11, go_sem, seval, bnd_ite, hj1, hj, hw, tkL, tkN', tks, Bool.true_or, decide_true, Bool.not_true, Bool.not_false, Bool.false_eq_true, if_true, if_false, Int.natCast_nonneg]
      first | done | rfl | trace_state
    | false =>
      simp only [XG, L202_11, h202_11, go_sem, seval, bnd_ite, hj1, hj, hk, hk1, gN, gs, hw, tkL, tkN', tks, Bool.false_or, decide_true, Bool.not_true, Bool.not_false, Bool.false_eq_true, if_true, if_false, Int.natCast_nonneg]
      first | done | rfl | trace_state
  · intro h _
    unfold memW dskC
    simp only [XG, L202_11, h202_11, go_sem, seval, bnd_ite, Int.lt_irrefl, decide_false, tkL, tkN', tks]
    first | exact .mk (by simp) ⟨rfl, rfl, rfl, rfl, rfl, rfl, rfl, rfl, rfl, rfl, rfl⟩ | trace_state
end Go.Proofs.Ytaaajjinpppgeaa
namespace Go.Proofs.Ytaaajjinpppgeaa
open Go Go.Abs
set_option maxRecDepth 100000
theorem kind_there {x : Dsk} (hx : DskOk x) (i : Int) (h : inside i 1 x.inos.length = true) : thereI x i = !decide ((inoOf x i).kind = 0) := by
  have hq := inoOk_iff.1 (hx.ino _ (List.mem_of_getElem? (inoOf_mem h)))
  have h1 := hq.kind
  unfold thereI
  have : (inoOf x i).kind = 0 ∨ (inoOf x i).kind = 1 ∨ (inoOf x i).kind = 2 := by omega
  rcases this with h | h | h <;> rw [h] <;> rfl
theorem slotsN_ok {x : Dsk} (hx : DskOk x) {i : Int} {s : Slt} (hs : s ∈ slotsN x i) : s.name ≠ ⟨#[]⟩ ∧ nameOk s.name = true ∧ inside s.ino 1 x.inos.length = true := by
  unfold slotsN at hs
  obtain ⟨h1, h2⟩ := List.mem_filter.1 hs
  have hne : s.name ≠ ⟨#[]⟩ := by simpa using h2
  obtain ⟨h3, h4⟩ := slotsT_ok hx h1 hne
  exact ⟨hne, h3, by rw [hx.inos]; exact h4⟩
theorem stR_I {x : Dsk} (h : DskOk x) {n c : Nat} {path : ByteArray} {st : List Nd × List ByteArray} {s : Slt} (hI : TI n c st) : TI n (c + 1) (stR x n path st s) := by
  unfold TI at hI ⊢
  unfold stR
  have : (if thereI x s.ino then nodeT x path s :: treeB x n s.ino (subP path s.name) else []).length ≤ treeMax n + 1 := by
    split
    · have := tree_len h n s.ino (subP path s.name); simp only [List.length_cons]; omega
    · simp
  refine ⟨?_, by simp; omega⟩
  rw [Nat.add_mul]
  simp only
  split
  · omega
  · rw [List.length_append]; omega
theorem tree_file (x : Dsk) (n : Nat) (i : Int) (path : ByteArray) (h : (inoOf x i).kind ≠ 2) : treeB x n i path = [] := by
  cases n with
  | zero => rfl
  | succ n => rw [treeB, if_neg h]
theorem head_dir (x : Dsk) (i : Int) (k : Nat) (h : (inoOf x i).kind = 2) : headT x i k = ⟨#[]⟩ := by
  unfold headT; rw [if_neg (by omega)]
set_option maxHeartbeats 2000000 in
theorem step202 (x : Dsk) (h : x.sm) (hx : DskOk x) (n : Nat) (hn : n ≤ 3) (ih : Walk x n) (i : Int) (hkd : (inoOf x i).kind = 2) (path : ByteArray) (hp : path.size + 7 * (n + 1) ≤ 1000) (k : Nat) (s : Slt) (hs : (slotsN x i)[k]? = some s) (st : List Nd × List ByteArray)
    (hst : TI n k st) (hseen : st.2 = ((slotsN x i).take k).map (·.name)) :
    XG T 0 H202_7 L202_7 ⟨[(1, .int .i64 i), (2, .str path), (3, .int .i64 (3 - (n : Int))), (4, .ptr 0 0 0), (9, .sl 1 0 st.1.length), (10, .sl 2 0 (namesT x i).length), (11, .sl 3 0 st.2.length), (12, .int .i64 (k : Nat))], memW x (namesT x i) st⟩ =
      some (.normal, ⟨[(1, .int .i64 i), (2, .str path), (3, .int .i64 (3 - (n : Int))), (4, .ptr 0 0 0), (9, .sl 1 0 (stR x n path st s).1.length), (10, .sl 2 0 (namesT x i).length), (11, .sl 3 0 (stR x n path st s).2.length), (12, .int .i64 ((k + 1 : Nat) : Int))], memW x (namesT x i) (stR x n path st s)⟩) := by
  have hNl : namesT x i = (slotsN x i).map (·.name) := rfl
  have hkl : k < (slotsN x i).length := (List.getElem?_eq_some_iff.1 hs).1
  have hl8 : (slotsN x i).length ≤ 8 := Nat.le_trans (List.length_filter_le _ _) (slotsT_len hx i)
  have hnm : (namesT x i)[k]? = some s.name := by rw [hNl, List.getElem?_map, hs]; rfl
  have hN8 : (namesT x i).length ≤ 8 := by rw [hNl, List.length_map]; exact hl8
  have hNk : (k : Int) < ((namesT x i).length : Int) := by rw [hNl, List.length_map]; omega
  have hNk' : k < (namesT x i).length := by omega
  obtain ⟨s1, s2, s3⟩ := slotsN_ok hx (List.mem_of_getElem? hs)
  have hfs := fun hf => first_step hkd hs hf
  have hany : (st.2.any fun m => decide (m = s.name)) = ((slotsN x i).take k).any (isN1 s.name) := by rw [hseen, List.any_map]; rfl
  obtain ⟨L, seen⟩ := st
  simp only at hany hseen
  have hsl : seen.length ≤ 8 := by rw [hseen, List.length_map, List.length_take]; omega
  obtain ⟨⟨y, e, m⟩, r1, r2, r3, r4, r5, r6, r7, r8, r9, r10, r11, r12⟩ := in202 x i (3 - (n : Int)) path (namesT x i) L seen k s.name hnm hN8 hsl
  simp only at r2 r3 r4 r5 r6 r7 r8 r9 r10 r11 r12
  subst r2 r3
  have gN : ((namesT x i).map sv).getD k .undef = .str s.name := gD_map hnm
  generalize namesT x i = N at *
  have e1 := e257 x h hx i s.name
  obtain ⟨a, b, c, ht, hq⟩ := tri_ex (stepN x i s.name)
  rw [ht] at e1
  have hw := w_i64 ((k : Int) + 1) (by omega)
  have cK : ((k + 1 : Nat) : Int) = (k : Int) + 1 := by omega
  have tkL : (L.map nd).take L.length = L.map nd := tkO
  have tkN' : (N.map sv).take N.length = N.map sv := tkO
  have tks : (seen.map sv).take seen.length = seen.map sv := tkO
  have hap1 : (seen.length + 1) * 16 ≤ 140737488355328 := by omega
  have sa : seen.map sv ++ [AV.str s.name] = (seen ++ [s.name]).map sv := by rw [List.map_append]; rfl
  have tks1 : ((seen ++ [s.name]).map sv).take (seen.length + 1) = (seen ++ [s.name]).map sv := tkN (by simp)
  unfold stR
  simp only
  rw [cK]
  unfold dsk at e1
  cases hA : (seen.any fun m => decide (m = s.name)) with
  | true =>
    rw [hA] at r12
    unfold memW dskC at r1 ⊢
    simp only [XG, L202_7, h202_7, h202_11, go_sem, seval, bnd_ite, hNk, hNk', gN, r1, r4, r5, r6, r7, r8, r9, r10, r11, r12, e1, hw, tkL, tkN', tks, hap1, sa, tks1, decide_true, Bool.true_or, Bool.not_true, Bool.not_false, Bool.false_eq_true, if_true, if_false, Int.natCast_nonneg, List.length_append, List.length_cons, List.length_nil, List.length_map]
    first | done | rfl | trace_state
  | false =>
    rw [hA] at r12
    obtain ⟨q, hq1, hq2⟩ := hfs (by rw [← hany]; exact hA)
    have hc : c = s.ino := (hq q hq1).trans hq2
    subst hc
    have e2 := e116i s.ino 1 x.inos.length
    rw [s3] at e2
    have gi : (x.inos.map ino).getD (s.ino - 1).toNat .undef = .agg [.int .i64 (inoOf x s.ino).kind, .int .i64 (inoOf x s.ino).links, .ro 1 ((inoOf x s.ino).ptrs.map iv)] := gD_map (inoOf_mem s3)
    have hkt := kind_there hx s.ino s3
    have hi8 := hx.inos
    have s3' := s3
    simp only [inside, Bool.and_eq_true, decide_eq_true_eq] at s3'
    have z1 : 0 ≤ s.ino - 1 := by omega
    have z2 : s.ino - 1 < (x.inos.length : Int) := by omega
    have wq := w_i64 (s.ino - 1) (by omega)
    by_cases hk0 : (inoOf x s.ino).kind = 0
    · rw [hkt, hk0]
      unfold memW dskC at r1 ⊢
      simp only [XG, L202_7, h202_7, h202_11, go_sem, seval, bnd_ite, hNk, hNk', gN, r1, r4, r5, r6, r7, r8, r9, r10, r11, r12, e1, e2, gi, z1, z2, wq, hk0, hw, tkL, tkN', tks, hap1, sa, tks1, decide_true, Bool.false_or, Bool.not_true, Bool.not_false, Bool.false_eq_true, if_true, if_false, Int.natCast_nonneg, List.append_nil, List.length_append, List.length_cons, List.length_nil, List.length_map]
      first | done | rfl | trace_state
    · have htr : thereI x s.ino = true := by rw [hkt]; simp [hk0]
      rw [htr]
      have hsz : (subP path s.name).size = path.size + 1 + s.name.size := by
        have h1 := congrArg List.length (sub_bytes path s.name)
        simp only [List.length_append, List.length_cons, Array.length_toList] at h1
        have : (subP path s.name).data.size = (subP path s.name).size := rfl
        have h3 : path.data.size = path.size := rfl
        have h4 : s.name.data.size = s.name.size := rfl
        omega
      have hnm6 := name_le s2
      have hsl1 : slash.size = 1 := rfl
      have hs1' : ((path.size + (⟨#[47]⟩ : ByteArray).size : Nat) : Int) ≤ 9223372036854775807 := by
        show ((path.size + slash.size : Nat) : Int) ≤ 9223372036854775807
        omega
      have hs2' : (((path ++ slash).size + s.name.size : Nat) : Int) ≤ 9223372036854775807 := by rw [ByteArray.size_append]; omega
      have hsub' : path ++ slash ++ s.name = subP path s.name := rfl
      have ha1 : binV .add (.str path) (.str ⟨#[47]⟩) = some (.str (path ++ slash)) := by rw [b_sadd, if_pos hs1']; rfl
      have ha2 : binV .add (.str (path ++ slash)) (.str s.name) = some (.str (subP path s.name)) := by rw [b_sadd, if_pos hs2', ← hsub']
      have htm : treeMax n ≤ 4680 := by
        have : n = 0 ∨ n = 1 ∨ n = 2 ∨ n = 3 := by omega
        rcases this with rfl | rfl | rfl | rfl <;> decide
      have htl := tree_len hx n s.ino (subP path s.name)
      have hL : L.length ≤ 8 * 4681 := by
        have h1 := hst.1
        exact Nat.le_trans h1 (Nat.mul_le_mul (by omega) (by omega))
      have hap2 : (L.length + 1) * 56 ≤ 140737488355328 := by omega
      by_cases hk2 : (inoOf x s.ino).kind = 2
      · have e5 := ih s.ino (subP path s.name) s3 hk2 (by omega)
        have wd : IntKind.i64.wrap (3 - (n : Int) + 1) = 4 - (n : Int) := by rw [w_i64 _ (by omega)]; omega
        have hnode : nodeT x path s = ⟨subP path s.name, true, ⟨#[]⟩, ⟨#[]⟩⟩ := by
          unfold nodeT; rw [head_dir x s.ino 0 hk2, head_dir x s.ino 1 hk2, hk2]; rfl
        rw [hnode]
        generalize hB : treeB x n s.ino (subP path s.name) = B at *
        generalize subP path s.name = P at *
        have hNa : nd ⟨P, true, ⟨#[]⟩, ⟨#[]⟩⟩ = AV.agg [.str P, .bool true, .str ⟨#[]⟩, .str ⟨#[]⟩] := rfl
        generalize (⟨P, true, ⟨#[]⟩, ⟨#[]⟩⟩ : Nd) = D at *
        have hap3 : (L.length + 1 + B.length) * 56 ≤ 140737488355328 := by omega
        have sb : L.map nd ++ [AV.agg [.str P, .bool true, .str ⟨#[]⟩, .str ⟨#[]⟩]] = (L ++ [D]).map nd := by rw [List.map_append, ← hNa]; rfl
        have tkL1 : ((L ++ [D]).map nd).take (L.length + 1) = (L ++ [D]).map nd := tkN (by simp)
        have sc : (L ++ [D]).map nd ++ B.map nd = (L ++ D :: B).map nd := by rw [← List.map_append, List.append_assoc]; rfl
        have tkL2 : ((L ++ D :: B).map nd).take (L.length + 1 + B.length) = (L ++ D :: B).map nd := tkN (by simp; omega)
        have tkB : (B.map nd).take B.length = B.map nd := tkO
        have lnL : (L ++ D :: B).length = L.length + 1 + B.length := by simp; omega
        unfold dsk at e5
        unfold memW dskC at r1 ⊢
        simp only [XG, L202_7, h202_7, h202_11, go_sem, seval, bnd_ite, ha1, ha2, nd_okC, hNk, hNk', gN, r1, r4, r5, r6, r7, r8, r9, r10, r11, r12, e1, e2, e5, wd, gi, z1, z2, wq, hk0, hk2, hw, tkL, tkN', tks, hap1, sa, tks1, hap2, hap3, sb, tkL1, sc, tkL2, tkB, lnL, decide_true, decide_false, Bool.false_or, Bool.or_self, Bool.not_true, Bool.not_false, Bool.false_eq_true, if_true, if_false, Int.natCast_nonneg, List.append_nil, List.length_append, List.length_cons, List.length_nil, List.length_map]
        first | done | rfl | trace_state
      · have hk1 : (inoOf x s.ino).kind = 1 := by
          have hq1 := inoOk_iff.1 (hx.ino _ (List.mem_of_getElem? (inoOf_mem s3)))
          have := hq1.kind
          omega
        have e5 := e258 x h hx s.ino s3 hk1
        rw [tree_file x n s.ino _ hk2]
        have hnode : nodeT x path s = ⟨subP path s.name, false, headT x s.ino 0, headT x s.ino 1⟩ := by unfold nodeT; rw [hk1]; rfl
        rw [hnode]
        generalize subP path s.name = P at *
        generalize headT x s.ino 0 = H0 at *
        generalize headT x s.ino 1 = H1 at *
        have hNa : nd ⟨P, false, H0, H1⟩ = AV.agg [.str P, .bool false, .str H0, .str H1] := rfl
        generalize (⟨P, false, H0, H1⟩ : Nd) = D at *
        have sb : L.map nd ++ [AV.agg [.str P, .bool false, .str H0, .str H1]] = (L ++ [D]).map nd := by rw [List.map_append, ← hNa]; rfl
        have tkL1 : ((L ++ [D]).map nd).take (L.length + 1) = (L ++ [D]).map nd := tkN (by simp)
        unfold dsk at e5
        unfold memW dskC at r1 ⊢
        simp only [XG, L202_7, h202_7, h202_11, go_sem, seval, bnd_ite, ha1, ha2, nd_okC, hNk, hNk', gN, r1, r4, r5, r6, r7, r8, r9, r10, r11, r12, e1, e2, e5, gi, z1, z2, wq, hk1, hw, tkL, tkN', tks, hap1, sa, tks1, hap2, sb, tkL1, decide_true, decide_false, Bool.false_or, Bool.or_self, Bool.not_true, Bool.not_false, Bool.false_eq_true, if_true, if_false, Int.natCast_nonneg, List.append_nil, List.length_append, List.length_cons, List.length_nil, List.length_map]
        first | done | rfl | trace_state
end Go.Proofs.Ytaaajjinpppgeaa
namespace Go.Proofs.Ytaaajjinpppgeaa
open Go Go.Abs
set_option maxRecDepth 100000
theorem walk_0 (x : Dsk) (h : x.sm) : Walk x 0 := by
  intro i path hin hk hp
  rw [E_eqW t202 (Nat.le_of_ble_eq_true rfl)]
  have c0 : (4 : Int) - ((0 : Nat) : Int) = 4 := rfl
  unfold dsk treeB
  rw [c0]
  simp only [F202, go_sem, seval, bnd_ite, Int.le_refl, decide_true, if_true, List.map_nil]
  first | done | rfl | trace_state
theorem walk_s (x : Dsk) (h : x.sm) (hx : DskOk x) (n : Nat) (hn : n ≤ 3) (ih : Walk x n) : Walk x (n + 1) := by
  intro i path hin hk hp
  rw [E_eqW t202 (Nat.le_of_ble_eq_true rfl)]
  have e1 := e256 x h hx i hin hk
  have cd : (4 : Int) - ((n + 1 : Nat) : Int) = 3 - (n : Int) := by omega
  have cz : ¬ (4 : Int) ≤ 3 - (n : Int) := by omega
  rw [cd, walk_tree x n i path hk]
  have hst := step202 x h hx n hn ih i hk path hp
  have hlN : (namesT x i).length = (slotsN x i).length := by unfold namesT slotsN; rw [List.length_map]
  obtain ⟨⟨y, e, m⟩, k1, k2⟩ := XL_each (T := T) (b := 0) (hd := H202_7) (x := L202_7) (slotsN x i) (stR x n path) (fun k st => ⟨[(1, .int .i64 i), (2, .str path), (3, .int .i64 (3 - (n : Int))), (4, .ptr 0 0 0), (9, .sl 1 0 st.1.length), (10, .sl 2 0 (namesT x i).length), (11, .sl 3 0 st.2.length), (12, .int .i64 (k : Nat))], memW x (namesT x i) st⟩)
    (fun k st => TI n k st ∧ st.2 = ((slotsN x i).take k).map (·.name)) (fun st r => r.1 = .exit 0 ∧ r.2.mem = memW x (namesT x i) st ∧ lookA r.2.env 9 = .sl 1 0 st.1.length)
    (by
      intro k st s hs hkl ⟨h1, h2⟩
      refine ⟨hst k s hs st h1 h2, stR_I hx h1, ?_⟩
      have : (stR x n path st s).2 = st.2 ++ [s.name] := rfl
      rw [this, h2, take_snoc hs, List.map_append]
      rfl)
    (by
      intro st _
      obtain ⟨L, seen⟩ := st
      rw [hlN]
      have tkL : (L.map nd).take L.length = L.map nd := tkO
      have tks : (seen.map sv).take seen.length = seen.map sv := tkO
      have tkN' : ((namesT x i).map sv).take (slotsN x i).length = (namesT x i).map sv := tkN hlN
      unfold memW dskC
      simp only [XG, L202_7, h202_7, go_sem, seval, bnd_ite, Int.lt_irrefl, decide_false, tkL, tks, tkN']
      first | exact .mk (by simp) ⟨rfl, rfl, rfl⟩ | trace_state) ([], []) ⟨⟨Nat.zero_le _, Nat.zero_le _⟩, rfl⟩
  generalize (slotsN x i).foldl (stR x n path) ([], []) = st at *
  generalize namesT x i = N at *
  obtain ⟨L, seen⟩ := st
  obtain ⟨r2, r3, r4⟩ := k2
  simp only at r2 r3 r4
  subst r2 r3
  have hs : ((0 : Nat) : Int) = 0 := rfl
  unfold memW dskC at k1
  simp only [hs, List.length_nil, List.map_nil] at k1
  unfold dsk at e1 ⊢
  have tkL : (L.map nd).take L.length = L.map nd := tkO
  have tkN' : (N.map sv).take N.length = N.map sv := tkO
  have wnd : (L.map nd).map (wid .one) = L.map nd := by rw [List.map_map]; exact List.map_congr_left fun x _ => rfl
  simp only [F202, h202_7, go_sem, seval, bnd_ite, e1, cz, k1, r4, tkL, tkN', wnd, decide_true, decide_false, Bool.not_true, Bool.or_self, Bool.false_eq_true, if_false, if_true]
  first | done | rfl | trace_state
theorem walk_all (x : Dsk) (h : x.sm) (hx : DskOk x) : ∀ n, n ≤ 4 → Walk x n
  | 0, _ => walk_0 x h
  | n + 1, hn => walk_s x h hx n (by omega) (walk_all x h hx n (by omega))
end Go.Proofs.Ytaaajjinpppgeaa
