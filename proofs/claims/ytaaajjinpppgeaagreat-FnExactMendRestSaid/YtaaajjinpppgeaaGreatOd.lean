/- What is right: blocks by the reference, disks. Own work; no condition. -/
import Derived.Test.YtaaajjinpppgeaaGreatOc
set_option linter.unusedVariables false
set_option linter.unusedSimpArgs false
set_option linter.unusedSectionVars false
namespace Go.Proofs.YtaaajjinpppgeaaGreat
open Go Go.Abs
set_option maxRecDepth 100000
/-- Whether a slot's name is there ahead of it. -/
theorem in221 (x : Blk) (s : Slt) (j : Nat) (hj : j ≤ x.slots.length) (hl : x.slots.length ≤ 4) :
    ∃ r, XL T 0 H174_13 L174_13 ⟨[(1, .ptr 0 0 0), (3, .int .i64 j), (4, .ptr 1 0 0), (5, .int .i64 0)], [some (3, [.agg [.bool true, .ro 2 (x.slots.map slt), .str x.text]]), some (2, [.agg [.str s.name, .int .i64 s.ino]])]⟩ = some r ∧
      (newName x.slots j s = true ∧ (r.1 = .exit 2 ∧ lookA r.2.env 1 = .ptr 0 0 0 ∧ lookA r.2.env 3 = .int .i64 j ∧ lookA r.2.env 4 = .ptr 1 0 0 ∧ r.2.mem = [some (3, [.agg [.bool true, .ro 2 (x.slots.map slt), .str x.text]]), some (2, [.agg [.str s.name, .int .i64 s.ino]])]) ∨
       newName x.slots j s = false ∧ (r.1 = .ret ∧ lookA r.2.env 2 = .bool false)) := by
  have hlt : (x.slots.take j).length = j := by rw [List.length_take]; omega
  refine XL_all (x.slots.take j) (fun q => !decide (q.name = s.name)) (fun i => ⟨[(1, .ptr 0 0 0), (3, .int .i64 j), (4, .ptr 1 0 0), (5, .int .i64 (i : Nat))], [some (3, [.agg [.bool true, .ro 2 (x.slots.map slt), .str x.text]]), some (2, [.agg [.str s.name, .int .i64 s.ino]])]⟩)
    (fun r => r.1 = .exit 2 ∧ lookA r.2.env 1 = .ptr 0 0 0 ∧ lookA r.2.env 3 = .int .i64 j ∧ lookA r.2.env 4 = .ptr 1 0 0 ∧ r.2.mem = [some (3, [.agg [.bool true, .ro 2 (x.slots.map slt), .str x.text]]), some (2, [.agg [.str s.name, .int .i64 s.ino]])])
    (fun r => r.1 = .ret ∧ lookA r.2.env 2 = .bool false) ?step ?hit ?last
  case step =>
    intro i p hp hi hP _
    rw [hlt] at hi
    rw [List.getElem?_take_of_lt hi] at hp
    have hi1 : (i : Int) < (j : Int) := by omega
    have hi2 : (i : Int) < (x.slots.length : Int) := by omega
    have gp : (x.slots.map slt).getD i .undef = .agg [.str p.name, .int .i64 p.ino] := gD_map hp
    have hP : decide (p.name = s.name) = false := by simpa using hP
    simp only [XG, L174_13, h174_13, go_sem, seval, bnd_ite, hi1, hi2, gp, hP, Int.natCast_nonneg, w_i64 ((i : Int) + 1) (by omega), Bool.false_eq_true, if_false]
    first | done | rfl
  case hit =>
    intro i p hp hi hP _
    rw [hlt] at hi
    rw [List.getElem?_take_of_lt hi] at hp
    have hi1 : (i : Int) < (j : Int) := by omega
    have hi2 : (i : Int) < (x.slots.length : Int) := by omega
    have gp : (x.slots.map slt).getD i .undef = .agg [.str p.name, .int .i64 p.ino] := gD_map hp
    have hP : decide (p.name = s.name) = true := by simpa using hP
    simp only [XG, L174_13, h174_13, go_sem, seval, bnd_ite, hi1, hi2, gp, hP, Int.natCast_nonneg, w_i64 ((i : Int) + 1) (by omega), if_true]
    exact .mk (by simp) ⟨rfl, rfl⟩
  case last =>
    intro _
    simp only [XG, L174_13, h174_13, go_sem, seval, bnd_ite, hlt, Int.lt_irrefl, decide_false]
    exact .mk (by simp) ⟨rfl, rfl, rfl, rfl, rfl⟩
theorem e174 (x : Blk) (hk : x.ok) : E T 174 [blk x] [] = some (.bool (blkOk x), []) := by
  rw [E_eq t174 (Nat.le_of_ble_eq_true rfl)]
  obtain ⟨hk1, hk2, hk3⟩ := hk
  unfold maxLen at hk1
  cases hd : x.dir with
  | false =>
    rw [blk_nil hd]
    simp only [blk, F174, h174_6, go_sem, seval, bnd_ite, hd, Bool.not_false, if_true]
    by_cases h1 : x.slots.length = 0 <;> by_cases h2 : x.text.size ≤ 16 <;> simp [h1, h2] <;> omega
  | true =>
  have hl : decide ((x.slots.length : Int) = 4) = decide (x.slots.length = 4) := by congr 1; apply propext; omega
  by_cases hc : (decide (x.slots.length = 4) && decide (x.text = ⟨#[]⟩)) = true
  case neg =>
    have hf : (!decide (x.slots.length = 4) || !decide (x.text = ⟨#[]⟩)) = true := by
      rw [← Bool.not_and, Bool.eq_false_iff.2 hc]; rfl
    have hr : blkOk x = false := by
      unfold blkOk; rw [hd, if_pos rfl, Bool.eq_false_iff.2 hc, Bool.and_false]
    simp only [blk, F174, h174_6, go_sem, seval, bnd_ite, hd, hl, hf, hr, Bool.not_true, Bool.false_eq_true, if_true, if_false]
  have hf : (!decide (x.slots.length = 4) || !decide (x.text = ⟨#[]⟩)) = false := by
    rw [← Bool.not_and, hc]; rfl
  have h2 : x.slots.length = 4 := by simp only [Bool.and_eq_true, decide_eq_true_eq] at hc; exact hc.1
  refine (XL_all (T := T) (b := 0) (hd := H174_6) (x := L174_6) x.slots.zipIdx (fun p => slotOk x.slots p.2 p.1) (fun i => ⟨[(1, .ptr 0 0 0), (3, .int .i64 (i : Nat))], [some (3, [.agg [.bool true, .ro 2 (x.slots.map slt), .str x.text]])]⟩)
    (fun r => r.1 = .exit 0) (fun r => r.1 = .ret ∧ lookA r.2.env 2 = .bool false) ?step ?hit ?last).elim ?main
  case step =>
    rintro i ⟨s, j⟩ hp hi hP _
    obtain ⟨hp, hj⟩ := zip_at hp
    simp only at hp hj hP; subst hj
    rw [List.length_zipIdx] at hi
    have hi1 : (j : Int) < (x.slots.length : Int) := by omega
    have hi2 : (j : Int) < 4 := by omega
    have gp : (x.slots.map slt).getD j .undef = .agg [.str s.name, .int .i64 s.ino] := gD_map hp
    have hs := hk3 s (List.mem_of_getElem? hp)
    have e1 := e216 s.name hs
    simp only [slotOk] at hP
    cases hb : bare s with
    | true =>
      simp only [bare] at hb
      simp only [XG, L174_6, h174_6, go_sem, seval, bnd_ite, hi1, hi2, gp, hb, Int.natCast_nonneg, w_i64 ((j : Int) + 1) (by omega), if_true]
      first | done | rfl
    | false =>
      rw [hb, Bool.false_or, Bool.and_eq_true, Bool.and_eq_true] at hP
      obtain ⟨⟨p1, p2⟩, p3⟩ := hP
      simp only [bare] at hb
      obtain ⟨⟨y, e, m⟩, k1, k2⟩ := in221 x s j (by omega) (by omega)
      rcases k2 with ⟨h, kx, k3, k4, k5, km⟩ | ⟨h, _⟩
      · simp only at kx k3 k4 k5 km; subst kx; subst km
        simp only [XG, L174_6, h174_6, h174_13, go_sem, seval, bnd_ite, hi1, hi2, gp, e1, e108i, hb, p1, p2, k1, k3, k4, k5, Int.natCast_nonneg, w_i64 ((j : Int) + 1) (by omega), Bool.not_true, Bool.or_self, Bool.false_eq_true, if_false]
        first | done | rfl
      · rw [p3] at h; cases h
  case hit =>
    rintro i ⟨s, j⟩ hp hi hP _
    obtain ⟨hp, hj⟩ := zip_at hp
    simp only at hp hj hP; subst hj
    rw [List.length_zipIdx] at hi
    have hi1 : (j : Int) < (x.slots.length : Int) := by omega
    have hi2 : (j : Int) < 4 := by omega
    have gp : (x.slots.map slt).getD j .undef = .agg [.str s.name, .int .i64 s.ino] := gD_map hp
    have hs := hk3 s (List.mem_of_getElem? hp)
    have e1 := e216 s.name hs
    simp only [slotOk, Bool.or_eq_false_iff] at hP
    obtain ⟨hb, hP⟩ := hP
    simp only [bare] at hb
    cases hf : (!nameOk s.name || !inside s.ino 1 8) with
    | true =>
      simp only [XG, L174_6, h174_6, go_sem, seval, bnd_ite, hi1, hi2, gp, e1, e108i, hb, hf, Int.natCast_nonneg, w_i64 ((j : Int) + 1) (by omega), Bool.false_eq_true, if_false, if_true]
      exact .mk (by simp) ⟨rfl, rfl⟩
    | false =>
      obtain ⟨⟨y, e, m⟩, k1, k2⟩ := in221 x s j (by omega) (by omega)
      have p3 : newName x.slots j s = false := by
        rw [← Bool.not_and, Bool.not_eq_false'] at hf
        rw [hf, Bool.true_and] at hP; exact hP
      rcases k2 with ⟨h, _⟩ | ⟨h, kx, k3⟩
      · rw [p3] at h; cases h
      · simp only at kx k3; subst kx
        simp only [XG, L174_6, h174_6, h174_13, go_sem, seval, bnd_ite, hi1, hi2, gp, e1, e108i, hb, hf, k1, k3, Int.natCast_nonneg, w_i64 ((j : Int) + 1) (by omega), Bool.false_eq_true, if_false]
        exact .mk (by simp) ⟨rfl, k3⟩
  case last =>
    intro _
    have hi2 : ¬ (x.slots.length : Int) < 4 := by omega
    simp only [XG, L174_6, h174_6, go_sem, seval, bnd_ite, List.length_zipIdx, hi2, decide_false]
    exact .mk (by simp) rfl
  case main =>
  rintro ⟨y, e, m⟩ ⟨k1, k2⟩
  have hs : ((0 : Nat) : Int) = 0 := rfl
  simp only [hs] at k1
  unfold blkOk
  rw [hd, if_pos rfl, hc, Bool.and_true]
  rcases k2 with ⟨h, k2⟩ | ⟨h, k2, k3⟩ <;> simp only at k2 <;> subst k2
  · simp only [blk, F174, h174_6, go_sem, seval, bnd_ite, hd, hl, hf, k1, h, Bool.not_true, Bool.false_eq_true, if_false]
  · simp only at k3
    simp only [blk, F174, h174_6, go_sem, seval, bnd_ite, hd, hl, hf, k1, k3, h, Bool.not_true, Bool.false_eq_true, if_false]
def dskOk (x : Dsk) : Bool := x.inos.all inoOk && (x.blks.all blkOk && ((decide (x.used.length = 16) && decide (x.taken.length = 8)) && decide (x.inos.length = 8) && decide (x.blks.length = 16)))
end Go.Proofs.YtaaajjinpppgeaaGreat
