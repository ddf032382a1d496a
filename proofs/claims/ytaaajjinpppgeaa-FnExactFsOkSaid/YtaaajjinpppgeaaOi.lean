/- What is right: memories; MemOk. Own work; no condition. -/
import Derived.Test.YtaaajjinpppgeaaOh
set_option linter.unusedVariables false
set_option linter.unusedSimpArgs false
set_option linter.unusedSectionVars false
namespace Go.Proofs.Ytaaajjinpppgeaa
open Go Go.Abs
set_option maxRecDepth 100000
def depRight (x : Mm) (p : Dp × Nat) : Bool := depBlocks p.1 && (depBase x.next p.1 && depAt x.disk p.1) && newId x.deps p.2 p.1
def memHead (x : Mm) : Bool := dskOk x.disk && decide (x.dirty.length = 21) && decide (x.deps.length ≤ 40) && inside x.next 1 100000
def memOk (x : Mm) : Bool := memHead x && x.deps.zipIdx.all (depRight x)
theorem memHead_use {x : Mm} (h : memHead x = true) : DskOk x.disk ∧ x.dirty.length = 21 ∧ x.deps.length ≤ 40 ∧ 1 ≤ x.next ∧ x.next ≤ 100000 := by
  unfold memHead inside at h
  simp only [Bool.and_eq_true, decide_eq_true_eq, dskOk_iff] at h
  exact ⟨h.1.1.1, h.1.1.2, h.1.2, h.2⟩
theorem headN (x : Mm) : (!dskOk x.disk || !decide ((x.dirty.length : Int) = 21) || decide ((40 : Int) < x.deps.length) || !inside x.next 1 100000) = !memHead x := by
  unfold memHead
  have c1 : decide ((x.dirty.length : Int) = 21) = decide (x.dirty.length = 21) := by congr 1; apply propext; omega
  have c2 : decide ((40 : Int) < x.deps.length) = !decide (x.deps.length ≤ 40) := by
    by_cases h : x.deps.length ≤ 40
    · have : ¬ (40 : Int) < x.deps.length := by omega
      simp [h, this]
    · have : (40 : Int) < x.deps.length := by omega
      simp [h, this]
  rw [c1, c2, ← Bool.not_and, ← Bool.not_and, ← Bool.not_and]
theorem e59 (x : Mm) (hx : x.ok) : E T 59 [mm x] [] = some (.bool (memOk x), []) := by
  rw [E_eq t59 (Nat.le_of_ble_eq_true rfl)]
  have e0 := e153 x.disk hx.disk
  have hN := headN x
  unfold dsk at e0
  unfold memOk
  cases hh : memHead x with
  | false =>
    rw [hh] at hN
    simp only [mm, F59, h59_4, go_sem, seval, bnd_ite, e0, e116i, hN, if_true, Bool.not_false, Bool.false_and]
  | true =>
  rw [hh, Bool.not_true] at hN
  obtain ⟨hd, h1, h2, h3⟩ := memHead_use hh
  rw [Bool.true_and]
  refine (XL_all (T := T) (b := 0) (hd := H59_4) (x := L59_4) x.deps.zipIdx (depRight x) (fun i => ⟨[(1, .ptr 0 0 0), (3, .int .i64 (i : Nat))], [some (7, [.agg (mmV x)])]⟩)
    (fun r => r.1 = .exit 0) (fun r => r.1 = .ret ∧ lookA r.2.env 2 = .bool false) ?step ?hit ?last).elim ?main
  case step =>
    rintro i ⟨d, j⟩ hp hi hP _
    obtain ⟨hp, hj⟩ := zip_at hp
    simp only at hp hj; subst hj
    rw [List.length_zipIdx] at hi
    have hi1 : (j : Int) < (x.deps.length : Int) := by omega
    have e1 := e154 x j d hp (by omega) hx hd h3
    unfold depRight at hP
    rw [hP] at e1
    unfold mm at e1
    unfold mmV
    simp only [XG, L59_4, h59_4, go_sem, seval, bnd_ite, hi1, e1, Int.natCast_nonneg, w_i64 ((j : Int) + 1) (by omega), Bool.not_true, Bool.false_eq_true, if_false]
    first | done | rfl
  case hit =>
    rintro i ⟨d, j⟩ hp hi hP _
    obtain ⟨hp, hj⟩ := zip_at hp
    simp only at hp hj; subst hj
    rw [List.length_zipIdx] at hi
    have hi1 : (j : Int) < (x.deps.length : Int) := by omega
    have e1 := e154 x j d hp (by omega) hx hd h3
    unfold depRight at hP
    rw [hP] at e1
    unfold mm at e1
    unfold mmV
    simp only [XG, L59_4, h59_4, go_sem, seval, bnd_ite, hi1, e1, Int.natCast_nonneg, w_i64 ((j : Int) + 1) (by omega), Bool.not_false, if_true]
    exact .mk (by simp) ⟨rfl, rfl⟩
  case last =>
    intro _
    unfold mmV
    simp only [XG, L59_4, h59_4, go_sem, seval, bnd_ite, List.length_zipIdx, Int.lt_irrefl, decide_false]
    exact .mk (by simp) rfl
  case main =>
  rintro ⟨y, e, m⟩ ⟨k1, k2⟩
  have hs : ((0 : Nat) : Int) = 0 := rfl
  unfold mmV at k1
  simp only [hs] at k1
  rcases k2 with ⟨h, k2⟩ | ⟨h, k2, k3⟩ <;> simp only at k2 <;> subst k2
  · simp only [mm, F59, h59_4, go_sem, seval, bnd_ite, e0, e116i, hN, k1, h, Bool.false_eq_true, if_false]
  · simp only at k3
    simp only [mm, F59, h59_4, go_sem, seval, bnd_ite, e0, e116i, hN, k1, k3, h, Bool.false_eq_true, if_false]
theorem e60 (x : Mm) (hx : x.ok) : E T 60 [mm x] [] = some (.bool (memOk x), []) := by
  rw [E_eq t60 (Nat.le_of_ble_eq_true rfl)]
  have e0 := e155 x.disk hx.disk
  have hN := headN x
  unfold dsk at e0
  unfold memOk
  cases hh : memHead x with
  | false =>
    rw [hh] at hN
    simp only [mm, F60, h60_4, go_sem, seval, bnd_ite, e0, e117i, hN, if_true, Bool.not_false, Bool.false_and]
  | true =>
  rw [hh, Bool.not_true] at hN
  obtain ⟨hd, h1, h2, h3⟩ := memHead_use hh
  rw [Bool.true_and]
  refine (XL_all (T := T) (b := 0) (hd := H60_4) (x := L60_4) x.deps.zipIdx (depRight x) (fun i => ⟨[(1, .ptr 0 0 0), (28, .ro 11 (x.deps.map dp)), (29, .int .i64 x.deps.length), (30, .int .i64 (i : Nat))], [some (7, [.agg (mmV x)])]⟩)
    (fun r => r.1 = .exit 0) (fun r => r.1 = .ret ∧ lookA r.2.env 2 = .bool false) ?step ?hit ?last).elim ?main
  case step =>
    rintro i ⟨d, j⟩ hp hi hP _
    obtain ⟨hp, hj⟩ := zip_at hp
    simp only at hp hj; subst hj
    rw [List.length_zipIdx] at hi
    have hi1 : (j : Int) < (x.deps.length : Int) := by omega
    have gd : (x.deps.map dp).getD j .undef = .agg (dpV d) := gD_map hp
    have e1 : E T 156 [.agg (mmV x), .agg (dpV d)] [] = _ := e156 x d (hx.dep d (List.mem_of_getElem? hp)) hx hd h3
    have e2 := e157 x d.id hx.deps
    unfold depRight at hP
    rw [Bool.and_eq_true] at hP
    have e3 := (placeOf_at hp).2 hP.2
    rw [hP.1] at e1
    rw [e3] at e2
    unfold mm at e2
    unfold mmV dpV at e1
    unfold dpV at gd
    unfold mmV
    simp only [XG, L60_4, h60_4, go_sem, seval, bnd_ite, hi1, gd, e1, e2, Int.natCast_nonneg, w_i64 ((j : Int) + 1) (by omega), decide_true, Bool.not_true, Bool.or_self, Bool.false_eq_true, if_false]
    first | done | rfl
  case hit =>
    rintro i ⟨d, j⟩ hp hi hP _
    obtain ⟨hp, hj⟩ := zip_at hp
    simp only at hp hj; subst hj
    rw [List.length_zipIdx] at hi
    have hi1 : (j : Int) < (x.deps.length : Int) := by omega
    have gd : (x.deps.map dp).getD j .undef = .agg (dpV d) := gD_map hp
    have e1 : E T 156 [.agg (mmV x), .agg (dpV d)] [] = _ := e156 x d (hx.dep d (List.mem_of_getElem? hp)) hx hd h3
    have e2 := e157 x d.id hx.deps
    have hf : (!(depBlocks d && (depBase x.next d && depAt x.disk d)) || !decide (placeOf x.deps d.id = (j : Nat))) = true := by
      unfold depRight at hP
      have : decide (placeOf x.deps d.id = (j : Nat)) = newId x.deps j d := by
        have := placeOf_at hp
        cases h : newId x.deps j d with
        | true => simpa using this.2 h
        | false => simp only [decide_eq_false_iff_not]; intro hh; rw [this.1 hh] at h; cases h
      rw [this, ← Bool.not_and, hP]; rfl
    unfold mm at e2
    unfold mmV dpV at e1
    unfold dpV at gd
    unfold mmV
    simp only [XG, L60_4, h60_4, go_sem, seval, bnd_ite, hi1, gd, e1, e2, hf, Int.natCast_nonneg, w_i64 ((j : Int) + 1) (by omega), if_true]
    exact .mk (by simp) ⟨rfl, rfl⟩
  case last =>
    intro _
    unfold mmV
    simp only [XG, L60_4, h60_4, go_sem, seval, bnd_ite, List.length_zipIdx, Int.lt_irrefl, decide_false]
    exact .mk (by simp) rfl
  case main =>
  rintro ⟨y, e, m⟩ ⟨k1, k2⟩
  have hs : ((0 : Nat) : Int) = 0 := rfl
  unfold mmV at k1
  simp only [hs] at k1
  rcases k2 with ⟨h, k2⟩ | ⟨h, k2, k3⟩ <;> simp only at k2 <;> subst k2
  · simp only [mm, F60, h60_4, go_sem, seval, bnd_ite, e0, e117i, hN, k1, h, Bool.false_eq_true, if_false]
  · simp only at k3
    simp only [mm, F60, h60_4, go_sem, seval, bnd_ite, e0, e117i, hN, k1, k3, h, Bool.false_eq_true, if_false]
end Go.Proofs.Ytaaajjinpppgeaa
