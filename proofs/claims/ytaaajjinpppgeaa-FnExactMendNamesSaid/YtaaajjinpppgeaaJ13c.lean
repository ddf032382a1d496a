/- Part 3 of the texts of a claim, joined by a program of ours (Oc, Od, Oe, Ja, Dd, Lz, Of, Na, Fv, Pa, Fp, Fo, Fl, Fk, Ka, Kb, Kc). No condition. -/
import Derived.Test.YtaaajjinpppgeaaJ13b
set_option linter.unusedVariables false
set_option linter.unusedSimpArgs false
set_option linter.unusedSectionVars false
/- What is right: blocks. Own work; no condition. -/
set_option linter.unusedVariables false
set_option linter.unusedSimpArgs false
set_option linter.unusedSectionVars false
namespace Go.Proofs.Ytaaajjinpppgeaa
open Go Go.Abs
set_option maxRecDepth 100000
def bare (s : Slt) : Bool := decide (s.name = ⟨#[]⟩) && decide (s.ino = 0)
def newName (l : List Slt) (i : Nat) (s : Slt) : Bool := (l.take i).all fun q => !decide (q.name = s.name)
def slotOk (l : List Slt) (i : Nat) (s : Slt) : Bool := bare s || (nameOk s.name && inside s.ino 1 8 && newName l i s)
def blkOk (x : Blk) : Bool := if x.dir then x.slots.zipIdx.all (fun p => slotOk x.slots p.2 p.1) && (decide (x.slots.length = 4) && decide (x.text = ⟨#[]⟩)) else decide (x.slots.length = 0) && decide (x.text.size ≤ 16)
theorem zip_at {α : Type} {l : List α} {i : Nat} {p : α × Nat} (h : l.zipIdx[i]? = some p) : l[i]? = some p.1 ∧ p.2 = i := by
  rw [List.getElem?_zipIdx] at h
  cases e : l[i]? with
  | none => rw [e] at h; cases h
  | some x => rw [e] at h; simp at h; subst h; exact ⟨rfl, rfl⟩
theorem nameOk_ne {s : ByteArray} (h : nameOk s = true) : s.size ≠ 0 := by
  simp only [nameOk, inside, Bool.and_eq_true, decide_eq_true_eq] at h
  omega
theorem slotOf_at {l : List Slt} {i : Nat} {s : Slt} (h : l[i]? = some s) (hn : s.name.size ≠ 0) : slotOf l s.name = (i : Nat) ↔ newName l i s = true := by
  unfold slotOf newName
  rw [if_neg hn]
  obtain ⟨hi, rfl⟩ := List.getElem?_eq_some_iff.1 h
  cases e : l.findIdx? (fun x => decide (x.name = l[i].name)) with
  | none =>
    rw [find_none] at e
    have := e l[i] (List.getElem_mem hi)
    simp at this
  | some j =>
    rw [List.findIdx?_eq_some_iff_getElem] at e
    obtain ⟨hj, h1, h2⟩ := e
    simp only [decide_eq_true_eq] at h1
    constructor
    · intro hij
      have hij : ((j : Nat) : Int) = (i : Nat) := hij
      have : j = i := by omega
      subst this
      rw [List.all_eq_true]
      intro q hq
      obtain ⟨k, hk, rfl⟩ := List.mem_take_iff_getElem.1 hq
      have := h2 k (by omega)
      simpa using this
    · intro hall
      rw [List.all_eq_true] at hall
      by_cases c : j < i
      · have := hall l[j] (List.mem_take_iff_getElem.2 ⟨j, by omega, rfl⟩)
        simp [h1] at this
      · by_cases c2 : i < j
        · have := h2 i c2; simp at this
        · have : j = i := by omega
          rw [this]
theorem blk_nil {x : Blk} (h : x.dir = false) : blkOk x = (decide (x.slots.length = 0) && decide (x.text.size ≤ 16)) := by unfold blkOk; rw [h]; rfl
theorem e224 (x : Blk) (hk : x.ok) : E T 224 [blk x] [] = some (.bool (blkOk x), []) := by
  rw [E_eq t224 (Nat.le_of_ble_eq_true rfl)]
  obtain ⟨hk1, hk2, hk3⟩ := hk
  unfold maxLen at hk1
  cases hd : x.dir with
  | false =>
    rw [blk_nil hd]
    simp only [blk, F224, h224_4, go_sem, seval, bnd_ite, hd, Bool.not_false, if_true]
    by_cases h1 : x.slots.length = 0 <;> by_cases h2 : x.text.size ≤ 16 <;> simp [h1, h2] <;> omega
  | true =>
  refine (XL_all (T := T) (b := 0) (hd := H224_4) (x := L224_4) x.slots.zipIdx (fun p => slotOk x.slots p.2 p.1) (fun i => ⟨[(1, .ptr 0 0 0), (19, .ro 2 (x.slots.map slt)), (20, .int .i64 x.slots.length), (21, .int .i64 (i : Nat))], [some (3, [.agg [.bool true, .ro 2 (x.slots.map slt), .str x.text]])]⟩)
    (fun r => r.1 = .exit 0 ∧ lookA r.2.env 1 = .ptr 0 0 0 ∧ r.2.mem = [some (3, [.agg [.bool true, .ro 2 (x.slots.map slt), .str x.text]])]) (fun r => r.1 = .ret ∧ lookA r.2.env 2 = .bool false) ?step ?hit ?last).elim ?main
  case step =>
    rintro i ⟨s, j⟩ hp hi hP _
    obtain ⟨hp, hj⟩ := zip_at hp
    simp only at hp hj hP; subst hj
    rw [List.length_zipIdx] at hi
    have hi1 : (j : Int) < (x.slots.length : Int) := by omega
    have gp : (x.slots.map slt).getD j .undef = .agg [.str s.name, .int .i64 s.ino] := gD_map hp
    have hs := hk3 s (List.mem_of_getElem? hp)
    have e1 := e230 s.name hs
    have e2 := e265 x s.name hk1
    unfold blk at e2
    rw [hd] at e2
    simp only [slotOk] at hP
    cases hb : bare s with
    | true =>
      simp only [bare, Bool.and_eq_true, decide_eq_true_eq] at hb
      obtain ⟨b1, b2⟩ := hb
      simp only [XG, L224_4, h224_4, go_sem, seval, bnd_ite, hi1, gp, b1, b2, Int.natCast_nonneg, w_i64 ((j : Int) + 1) (by omega), e117i, decide_true, Bool.and_self, if_true]
      first | done | rfl
    | false =>
      rw [hb, Bool.false_or, Bool.and_eq_true, Bool.and_eq_true] at hP
      obtain ⟨⟨p1, p2⟩, p3⟩ := hP
      have p4 := (slotOf_at hp (nameOk_ne p1)).2 p3
      simp only [bare] at hb
      have e3 := e227 s.ino
      simp only [XG, L224_4, h224_4, go_sem, seval, bnd_ite, hi1, gp, e1, e2, e3, hb, p1, p2, p4, Int.natCast_nonneg, w_i64 ((j : Int) + 1) (by omega), decide_true, Bool.not_true, Bool.or_self, Bool.and_self, Bool.false_eq_true, if_false]
      first | done | rfl
  case hit =>
    rintro i ⟨s, j⟩ hp hi hP _
    obtain ⟨hp, hj⟩ := zip_at hp
    simp only at hp hj hP; subst hj
    rw [List.length_zipIdx] at hi
    have hi1 : (j : Int) < (x.slots.length : Int) := by omega
    have gp : (x.slots.map slt).getD j .undef = .agg [.str s.name, .int .i64 s.ino] := gD_map hp
    have hs := hk3 s (List.mem_of_getElem? hp)
    have e1 := e230 s.name hs
    have e2 := e265 x s.name hk1
    unfold blk at e2
    rw [hd] at e2
    have e3 := e227 s.ino
    simp only [slotOk, Bool.or_eq_false_iff] at hP
    obtain ⟨hb, hP⟩ := hP
    simp only [bare] at hb
    have hf : (!nameOk s.name || !inside s.ino 1 8 || !decide (slotOf x.slots s.name = (j : Nat))) = true := by
      cases p1 : nameOk s.name with
      | false => rfl
      | true =>
        have p4 := slotOf_at hp (nameOk_ne p1)
        rw [p1, Bool.true_and] at hP
        cases p2 : inside s.ino 1 8 with
        | false => rfl
        | true =>
          rw [p2, Bool.true_and] at hP
          have : ¬ slotOf x.slots s.name = (j : Nat) := fun h => by rw [p4.1 h] at hP; cases hP
          simp [this]
    simp only [XG, L224_4, h224_4, go_sem, seval, bnd_ite, hi1, gp, e1, e2, e3, hb, hf, Int.natCast_nonneg, w_i64 ((j : Int) + 1) (by omega), Bool.false_eq_true, if_false, if_true]
    exact .mk (by simp) ⟨rfl, rfl⟩
  case last =>
    intro _
    simp only [XG, L224_4, h224_4, go_sem, seval, bnd_ite, List.length_zipIdx, Int.lt_irrefl, decide_false]
    exact .mk (by simp) ⟨rfl, rfl, rfl⟩
  case main =>
  rintro ⟨y, e, m⟩ ⟨k1, k2⟩
  have hs : ((0 : Nat) : Int) = 0 := rfl
  simp only [hs] at k1
  unfold blkOk
  rw [hd, if_pos rfl]
  rcases k2 with ⟨h, k2, k3⟩ | ⟨h, k2, k3⟩ <;> simp only at k2 k3 <;> subst k2
  · obtain ⟨k3, rfl⟩ := k3
    have hl : decide ((x.slots.length : Int) = 4) = decide (x.slots.length = 4) := by congr 1; apply propext; omega
    simp only [blk, F224, h224_4, go_sem, seval, bnd_ite, hd, hl, k1, k3, h, Bool.true_and, Bool.not_true, Bool.false_eq_true, if_false]
  · simp only [blk, F224, h224_4, go_sem, seval, bnd_ite, hd, k1, k3, h, Bool.false_and, Bool.not_true, Bool.false_eq_true, if_false]
end Go.Proofs.Ytaaajjinpppgeaa

/- What is right: blocks by the reference, disks. Own work; no condition. -/
set_option linter.unusedVariables false
set_option linter.unusedSimpArgs false
set_option linter.unusedSectionVars false
namespace Go.Proofs.Ytaaajjinpppgeaa
open Go Go.Abs
set_option maxRecDepth 100000
/-- Whether a slot's name is there ahead of it. -/
theorem in221 (x : Blk) (s : Slt) (j : Nat) (hj : j ≤ x.slots.length) (hl : x.slots.length ≤ 4) :
    ∃ r, XL T 0 H221_13 L221_13 ⟨[(1, .ptr 0 0 0), (3, .int .i64 j), (4, .ptr 1 0 0), (5, .int .i64 0)], [some (3, [.agg [.bool true, .ro 2 (x.slots.map slt), .str x.text]]), some (2, [.agg [.str s.name, .int .i64 s.ino]])]⟩ = some r ∧
      (newName x.slots j s = true ∧ (r.1 = .exit 2 ∧ lookA r.2.env 1 = .ptr 0 0 0 ∧ lookA r.2.env 3 = .int .i64 j ∧ lookA r.2.env 4 = .ptr 1 0 0 ∧ r.2.mem = [some (3, [.agg [.bool true, .ro 2 (x.slots.map slt), .str x.text]]), some (2, [.agg [.str s.name, .int .i64 s.ino]])]) ∨
       newName x.slots j s = false ∧ (r.1 = .ret ∧ lookA r.2.env 2 = .bool false)) := by
  have hlt : (x.slots.take j).length = j := by rw [List.length_take]; omega
  refine XL_all (x.slots.take j) (fun q => !decide (q.name = s.name)) (fun i => ⟨[(1, .ptr 0 0 0), (3, .int .i64 j), (4, .ptr 1 0 0), (5, .int .i64 (i : Nat))], [some (3, [.agg [.bool true, .ro 2 (x.slots.map slt), .str x.text]]), some (2, [.agg [.str s.name, .int .i64 s.ino]])]⟩)
    (fun r => r.1 = .exit 2 ∧ lookA r.2.env 1 = .ptr 0 0 0 ∧ lookA r.2.env 3 = .int .i64 j ∧ lookA r.2.env 4 = .ptr 1 0 0 ∧ r.2.mem = [some (3, [.agg [.bool true, .ro 2 (x.slots.map slt), .str x.text]]), some (2, [.agg [.str s.name, .int .i64 s.ino]])])
    (fun r => r.1 = .ret ∧ lookA r.2.env 2 = .bool false) ?step ?hit ?last
  case step =>
    intro i p hp hi hP _
    rw [hlt] at hi
    rw [List.getElem?_take_of_lt hi] at hp
    have hi1 : (i : Int) < (j : Int) := by omega
    have hi2 : (i : Int) < (x.slots.length : Int) := by omega
    have gp : (x.slots.map slt).getD i .undef = .agg [.str p.name, .int .i64 p.ino] := gD_map hp
    have hP : decide (p.name = s.name) = false := by simpa using hP
    simp only [XG, L221_13, h221_13, go_sem, seval, bnd_ite, hi1, hi2, gp, hP, Int.natCast_nonneg, w_i64 ((i : Int) + 1) (by omega), Bool.false_eq_true, if_false]
    first | done | rfl
  case hit =>
    intro i p hp hi hP _
    rw [hlt] at hi
    rw [List.getElem?_take_of_lt hi] at hp
    have hi1 : (i : Int) < (j : Int) := by omega
    have hi2 : (i : Int) < (x.slots.length : Int) := by omega
    have gp : (x.slots.map slt).getD i .undef = .agg [.str p.name, .int .i64 p.ino] := gD_map hp
    have hP : decide (p.name = s.name) = true := by simpa using hP
    simp only [XG, L221_13, h221_13, go_sem, seval, bnd_ite, hi1, hi2, gp, hP, Int.natCast_nonneg, w_i64 ((i : Int) + 1) (by omega), if_true]
    exact .mk (by simp) ⟨rfl, rfl⟩
  case last =>
    intro _
    simp only [XG, L221_13, h221_13, go_sem, seval, bnd_ite, hlt, Int.lt_irrefl, decide_false]
    exact .mk (by simp) ⟨rfl, rfl, rfl, rfl, rfl⟩
theorem e221 (x : Blk) (hk : x.ok) : E T 221 [blk x] [] = some (.bool (blkOk x), []) := by
  rw [E_eq t221 (Nat.le_of_ble_eq_true rfl)]
  obtain ⟨hk1, hk2, hk3⟩ := hk
  unfold maxLen at hk1
  cases hd : x.dir with
  | false =>
    rw [blk_nil hd]
    simp only [blk, F221, h221_6, go_sem, seval, bnd_ite, hd, Bool.not_false, if_true]
    by_cases h1 : x.slots.length = 0 <;> by_cases h2 : x.text.size ≤ 16 <;> simp [h1, h2] <;> omega
  | true =>
  have hl : decide ((x.slots.length : Int) = 4) = decide (x.slots.length = 4) := by congr 1; apply propext; omega
  by_cases hc : (decide (x.slots.length = 4) && decide (x.text = ⟨#[]⟩)) = true
  case neg =>
    have hf : (!decide (x.slots.length = 4) || !decide (x.text = ⟨#[]⟩)) = true := by
      rw [← Bool.not_and, Bool.eq_false_iff.2 hc]; rfl
    have hr : blkOk x = false := by
      unfold blkOk; rw [hd, if_pos rfl, Bool.eq_false_iff.2 hc, Bool.and_false]
    simp only [blk, F221, h221_6, go_sem, seval, bnd_ite, hd, hl, hf, hr, Bool.not_true, Bool.false_eq_true, if_true, if_false]
  have hf : (!decide (x.slots.length = 4) || !decide (x.text = ⟨#[]⟩)) = false := by
    rw [← Bool.not_and, hc]; rfl
  have h2 : x.slots.length = 4 := by simp only [Bool.and_eq_true, decide_eq_true_eq] at hc; exact hc.1
  refine (XL_all (T := T) (b := 0) (hd := H221_6) (x := L221_6) x.slots.zipIdx (fun p => slotOk x.slots p.2 p.1) (fun i => ⟨[(1, .ptr 0 0 0), (3, .int .i64 (i : Nat))], [some (3, [.agg [.bool true, .ro 2 (x.slots.map slt), .str x.text]])]⟩)
    (fun r => r.1 = .exit 0) (fun r => r.1 = .ret ∧ lookA r.2.env 2 = .bool false) ?step ?hit ?last).elim ?main
  case step =>
    rintro i ⟨s, j⟩ hp hi hP _
    obtain ⟨hp, hj⟩ := zip_at hp
    simp only at hp hj hP; subst hj
    rw [List.length_zipIdx] at hi
    have hi1 : (j : Int) < (x.slots.length : Int) := by omega
    have hi2 : (j : Int) < 4 := by omega
    have gp : (x.slots.map slt).getD j .undef = .agg [.str s.name, .int .i64 s.ino] := gD_map hp
    have hs := hk3 s (List.mem_of_getElem? hp)
    have e1 := e222 s.name hs
    simp only [slotOk] at hP
    cases hb : bare s with
    | true =>
      simp only [bare] at hb
      simp only [XG, L221_6, h221_6, go_sem, seval, bnd_ite, hi1, hi2, gp, hb, Int.natCast_nonneg, w_i64 ((j : Int) + 1) (by omega), if_true]
      first | done | rfl
    | false =>
      rw [hb, Bool.false_or, Bool.and_eq_true, Bool.and_eq_true] at hP
      obtain ⟨⟨p1, p2⟩, p3⟩ := hP
      simp only [bare] at hb
      obtain ⟨⟨y, e, m⟩, k1, k2⟩ := in221 x s j (by omega) (by omega)
      rcases k2 with ⟨h, kx, k3, k4, k5, km⟩ | ⟨h, _⟩
      · simp only at kx k3 k4 k5 km; subst kx; subst km
        simp only [XG, L221_6, h221_6, h221_13, go_sem, seval, bnd_ite, hi1, hi2, gp, e1, e116i, hb, p1, p2, k1, k3, k4, k5, Int.natCast_nonneg, w_i64 ((j : Int) + 1) (by omega), Bool.not_true, Bool.or_self, Bool.false_eq_true, if_false]
        first | done | rfl
      · rw [p3] at h; cases h
  case hit =>
    rintro i ⟨s, j⟩ hp hi hP _
    obtain ⟨hp, hj⟩ := zip_at hp
    simp only at hp hj hP; subst hj
    rw [List.length_zipIdx] at hi
    have hi1 : (j : Int) < (x.slots.length : Int) := by omega
    have hi2 : (j : Int) < 4 := by omega
    have gp : (x.slots.map slt).getD j .undef = .agg [.str s.name, .int .i64 s.ino] := gD_map hp
    have hs := hk3 s (List.mem_of_getElem? hp)
    have e1 := e222 s.name hs
    simp only [slotOk, Bool.or_eq_false_iff] at hP
    obtain ⟨hb, hP⟩ := hP
    simp only [bare] at hb
    cases hf : (!nameOk s.name || !inside s.ino 1 8) with
    | true =>
      simp only [XG, L221_6, h221_6, go_sem, seval, bnd_ite, hi1, hi2, gp, e1, e116i, hb, hf, Int.natCast_nonneg, w_i64 ((j : Int) + 1) (by omega), Bool.false_eq_true, if_false, if_true]
      exact .mk (by simp) ⟨rfl, rfl⟩
    | false =>
      obtain ⟨⟨y, e, m⟩, k1, k2⟩ := in221 x s j (by omega) (by omega)
      have p3 : newName x.slots j s = false := by
        rw [← Bool.not_and, Bool.not_eq_false'] at hf
        rw [hf, Bool.true_and] at hP; exact hP
      rcases k2 with ⟨h, _⟩ | ⟨h, kx, k3⟩
      · rw [p3] at h; cases h
      · simp only at kx k3; subst kx
        simp only [XG, L221_6, h221_6, h221_13, go_sem, seval, bnd_ite, hi1, hi2, gp, e1, e116i, hb, hf, k1, k3, Int.natCast_nonneg, w_i64 ((j : Int) + 1) (by omega), Bool.false_eq_true, if_false]
        exact .mk (by simp) ⟨rfl, k3⟩
  case last =>
    intro _
    have hi2 : ¬ (x.slots.length : Int) < 4 := by omega
    simp only [XG, L221_6, h221_6, go_sem, seval, bnd_ite, List.length_zipIdx, hi2, decide_false]
    exact .mk (by simp) rfl
  case main =>
  rintro ⟨y, e, m⟩ ⟨k1, k2⟩
  have hs : ((0 : Nat) : Int) = 0 := rfl
  simp only [hs] at k1
  unfold blkOk
  rw [hd, if_pos rfl, hc, Bool.and_true]
  rcases k2 with ⟨h, k2⟩ | ⟨h, k2, k3⟩ <;> simp only at k2 <;> subst k2
  · simp only [blk, F221, h221_6, go_sem, seval, bnd_ite, hd, hl, hf, k1, h, Bool.not_true, Bool.false_eq_true, if_false]
  · simp only at k3
    simp only [blk, F221, h221_6, go_sem, seval, bnd_ite, hd, hl, hf, k1, k3, h, Bool.not_true, Bool.false_eq_true, if_false]
def dskOk (x : Dsk) : Bool := x.inos.all inoOk && (x.blks.all blkOk && ((decide (x.used.length = 16) && decide (x.taken.length = 8)) && decide (x.inos.length = 8) && decide (x.blks.length = 16)))
end Go.Proofs.Ytaaajjinpppgeaa

/- What is right: disks. Own work; no condition. -/
set_option linter.unusedVariables false
set_option linter.unusedSimpArgs false
set_option linter.unusedSectionVars false
namespace Go.Proofs.Ytaaajjinpppgeaa
open Go Go.Abs
set_option maxRecDepth 100000
def dskV (x : Dsk) : List AV := [.ro 1 (x.used.map bv), .ro 1 (x.taken.map bv), .ro 3 (x.inos.map ino), .ro 3 (x.blks.map blk)]
theorem in155a (x : Dsk) (hk : x.ok) : ∃ r, XL T 0 H155_2 L155_2 ⟨[(1, .ptr 0 0 0), (8, .ro 3 (x.inos.map ino)), (9, .int .i64 x.inos.length), (10, .int .i64 0)], [some (4, [.agg (dskV x)])]⟩ = some r ∧
    (x.inos.all inoOk = true ∧ (r.1 = .exit 0 ∧ lookA r.2.env 1 = .ptr 0 0 0 ∧ r.2.mem = [some (4, [.agg (dskV x)])]) ∨ x.inos.all inoOk = false ∧ (r.1 = .ret ∧ lookA r.2.env 2 = .bool false)) := by
  have hl := hk.inos
  unfold maxLen at hl
  refine XL_all x.inos inoOk (fun i => ⟨[(1, .ptr 0 0 0), (8, .ro 3 (x.inos.map ino)), (9, .int .i64 x.inos.length), (10, .int .i64 (i : Nat))], [some (4, [.agg (dskV x)])]⟩) (fun r => r.1 = .exit 0 ∧ lookA r.2.env 1 = .ptr 0 0 0 ∧ r.2.mem = [some (4, [.agg (dskV x)])]) (fun r => r.1 = .ret ∧ lookA r.2.env 2 = .bool false) ?step ?hit ?last
  case step =>
    intro i p hp hi hP _
    have hi1 : (i : Int) < (x.inos.length : Int) := by omega
    have gp : (x.inos.map ino).getD i .undef = .agg [.int .i64 p.kind, .int .i64 p.links, .ro 1 (p.ptrs.map iv)] := gD_map hp
    have e1 := e223 p (hk.ino p (List.mem_of_getElem? hp))
    unfold ino at e1
    unfold dskV
    simp only [XG, L155_2, h155_2, go_sem, seval, bnd_ite, hi1, gp, e1, hP, Int.natCast_nonneg, w_i64 ((i : Int) + 1) (by omega), Bool.not_true, Bool.false_eq_true, if_false]
    first | done | rfl
  case hit =>
    intro i p hp hi hP _
    have hi1 : (i : Int) < (x.inos.length : Int) := by omega
    have gp : (x.inos.map ino).getD i .undef = .agg [.int .i64 p.kind, .int .i64 p.links, .ro 1 (p.ptrs.map iv)] := gD_map hp
    have e1 := e223 p (hk.ino p (List.mem_of_getElem? hp))
    unfold ino at e1
    unfold dskV
    simp only [XG, L155_2, h155_2, go_sem, seval, bnd_ite, hi1, gp, e1, hP, Int.natCast_nonneg, w_i64 ((i : Int) + 1) (by omega), Bool.not_false, if_true]
    exact .mk (by simp) ⟨rfl, rfl⟩
  case last =>
    intro _
    unfold dskV
    simp only [XG, L155_2, h155_2, go_sem, seval, bnd_ite, Int.lt_irrefl, decide_false]
    exact .mk (by simp) ⟨rfl, rfl, rfl⟩
theorem in155b (x : Dsk) (hk : x.ok) : ∃ r, XL T 0 H155_9 L155_9 ⟨[(1, .ptr 0 0 0), (19, .ro 3 (x.blks.map blk)), (20, .int .i64 x.blks.length), (21, .int .i64 0)], [some (4, [.agg (dskV x)])]⟩ = some r ∧
    (x.blks.all blkOk = true ∧ (r.1 = .exit 2 ∧ lookA r.2.env 1 = .ptr 0 0 0 ∧ r.2.mem = [some (4, [.agg (dskV x)])]) ∨ x.blks.all blkOk = false ∧ (r.1 = .ret ∧ lookA r.2.env 2 = .bool false)) := by
  have hl := hk.blks
  unfold maxLen at hl
  refine XL_all x.blks blkOk (fun i => ⟨[(1, .ptr 0 0 0), (19, .ro 3 (x.blks.map blk)), (20, .int .i64 x.blks.length), (21, .int .i64 (i : Nat))], [some (4, [.agg (dskV x)])]⟩) (fun r => r.1 = .exit 2 ∧ lookA r.2.env 1 = .ptr 0 0 0 ∧ r.2.mem = [some (4, [.agg (dskV x)])]) (fun r => r.1 = .ret ∧ lookA r.2.env 2 = .bool false) ?step ?hit ?last
  case step =>
    intro i p hp hi hP _
    have hi1 : (i : Int) < (x.blks.length : Int) := by omega
    have gp : (x.blks.map blk).getD i .undef = .agg [.bool p.dir, .ro 2 (p.slots.map slt), .str p.text] := gD_map hp
    have e1 := e224 p (hk.blk p (List.mem_of_getElem? hp))
    unfold blk at e1
    unfold dskV
    simp only [XG, L155_9, h155_9, go_sem, seval, bnd_ite, hi1, gp, e1, hP, Int.natCast_nonneg, w_i64 ((i : Int) + 1) (by omega), Bool.not_true, Bool.false_eq_true, if_false]
    first | done | rfl
  case hit =>
    intro i p hp hi hP _
    have hi1 : (i : Int) < (x.blks.length : Int) := by omega
    have gp : (x.blks.map blk).getD i .undef = .agg [.bool p.dir, .ro 2 (p.slots.map slt), .str p.text] := gD_map hp
    have e1 := e224 p (hk.blk p (List.mem_of_getElem? hp))
    unfold blk at e1
    unfold dskV
    simp only [XG, L155_9, h155_9, go_sem, seval, bnd_ite, hi1, gp, e1, hP, Int.natCast_nonneg, w_i64 ((i : Int) + 1) (by omega), Bool.not_false, if_true]
    exact .mk (by simp) ⟨rfl, rfl⟩
  case last =>
    intro _
    unfold dskV
    simp only [XG, L155_9, h155_9, go_sem, seval, bnd_ite, Int.lt_irrefl, decide_false]
    exact .mk (by simp) ⟨rfl, rfl, rfl⟩
theorem e155 (x : Dsk) (hk : x.ok) : E T 155 [dsk x] [] = some (.bool (dskOk x), []) := by
  rw [E_eq t155 (Nat.le_of_ble_eq_true rfl)]
  have c1 : decide ((x.inos.length : Int) = 8) = decide (x.inos.length = 8) := by congr 1; apply propext; omega
  have c2 : decide ((x.blks.length : Int) = 16) = decide (x.blks.length = 16) := by congr 1; apply propext; omega
  obtain ⟨⟨y, e, m⟩, k1, k2⟩ := in155a x hk
  unfold dskOk
  unfold dskV at k1 k2
  rcases k2 with ⟨h, kx, k3, km⟩ | ⟨h, kx, k3⟩
  · simp only at kx k3 km; subst kx; subst km
    obtain ⟨⟨y, e', m⟩, k4, k5⟩ := in155b x hk
    unfold dskV at k4 k5
    rcases k5 with ⟨h', kx, k6, km⟩ | ⟨h', kx, k6⟩
    · simp only at kx k6 km; subst kx; subst km
      have e0 := e225 x.used x.taken
      simp only [dsk, F155, h155_2, h155_9, go_sem, seval, bnd_ite, k1, k3, k4, k6, h, h', c1, c2, e0, Bool.true_and]
    · simp only at kx k6; subst kx
      simp only [dsk, F155, h155_2, h155_9, go_sem, seval, bnd_ite, k1, k3, k4, k6, h, h', Bool.false_and, Bool.and_false]
  · simp only at kx k3; subst kx
    simp only [dsk, F155, h155_2, go_sem, seval, bnd_ite, k1, k3, h, Bool.false_and]
theorem in153a (x : Dsk) (hk : x.ok) : ∃ r, XL T 0 H153_4 L153_4 ⟨[(1, .ptr 0 0 0), (3, .int .i64 0)], [some (4, [.agg (dskV x)])]⟩ = some r ∧
    (x.inos.all inoOk = true ∧ (r.1 = .exit 0 ∧ lookA r.2.env 1 = .ptr 0 0 0 ∧ r.2.mem = [some (4, [.agg (dskV x)])]) ∨ x.inos.all inoOk = false ∧ (r.1 = .ret ∧ lookA r.2.env 2 = .bool false)) := by
  have hl := hk.inos
  unfold maxLen at hl
  refine XL_all x.inos inoOk (fun i => ⟨[(1, .ptr 0 0 0), (3, .int .i64 (i : Nat))], [some (4, [.agg (dskV x)])]⟩) (fun r => r.1 = .exit 0 ∧ lookA r.2.env 1 = .ptr 0 0 0 ∧ r.2.mem = [some (4, [.agg (dskV x)])]) (fun r => r.1 = .ret ∧ lookA r.2.env 2 = .bool false) ?step ?hit ?last
  case step =>
    intro i p hp hi hP _
    have hi1 : (i : Int) < (x.inos.length : Int) := by omega
    have gp : (x.inos.map ino).getD i .undef = .agg [.int .i64 p.kind, .int .i64 p.links, .ro 1 (p.ptrs.map iv)] := gD_map hp
    have e1 := e220 p (hk.ino p (List.mem_of_getElem? hp))
    unfold ino at e1
    unfold dskV
    simp only [XG, L153_4, h153_4, go_sem, seval, bnd_ite, hi1, gp, e1, hP, Int.natCast_nonneg, w_i64 ((i : Int) + 1) (by omega), Bool.not_true, Bool.false_eq_true, if_false]
    first | done | rfl
  case hit =>
    intro i p hp hi hP _
    have hi1 : (i : Int) < (x.inos.length : Int) := by omega
    have gp : (x.inos.map ino).getD i .undef = .agg [.int .i64 p.kind, .int .i64 p.links, .ro 1 (p.ptrs.map iv)] := gD_map hp
    have e1 := e220 p (hk.ino p (List.mem_of_getElem? hp))
    unfold ino at e1
    unfold dskV
    simp only [XG, L153_4, h153_4, go_sem, seval, bnd_ite, hi1, gp, e1, hP, Int.natCast_nonneg, w_i64 ((i : Int) + 1) (by omega), Bool.not_false, if_true]
    exact .mk (by simp) ⟨rfl, rfl⟩
  case last =>
    intro _
    unfold dskV
    simp only [XG, L153_4, h153_4, go_sem, seval, bnd_ite, Int.lt_irrefl, decide_false]
    exact .mk (by simp) ⟨rfl, rfl, rfl⟩
theorem in153b (x : Dsk) (hk : x.ok) : ∃ r, XL T 0 H153_10 L153_10 ⟨[(1, .ptr 0 0 0), (4, .int .i64 0)], [some (4, [.agg (dskV x)])]⟩ = some r ∧
    (x.blks.all blkOk = true ∧ (r.1 = .exit 2) ∨ x.blks.all blkOk = false ∧ (r.1 = .ret ∧ lookA r.2.env 2 = .bool false)) := by
  have hl := hk.blks
  unfold maxLen at hl
  refine XL_all x.blks blkOk (fun i => ⟨[(1, .ptr 0 0 0), (4, .int .i64 (i : Nat))], [some (4, [.agg (dskV x)])]⟩) (fun r => r.1 = .exit 2) (fun r => r.1 = .ret ∧ lookA r.2.env 2 = .bool false) ?step ?hit ?last
  case step =>
    intro i p hp hi hP _
    have hi1 : (i : Int) < (x.blks.length : Int) := by omega
    have gp : (x.blks.map blk).getD i .undef = .agg [.bool p.dir, .ro 2 (p.slots.map slt), .str p.text] := gD_map hp
    have e1 := e221 p (hk.blk p (List.mem_of_getElem? hp))
    unfold blk at e1
    unfold dskV
    simp only [XG, L153_10, h153_10, go_sem, seval, bnd_ite, hi1, gp, e1, hP, Int.natCast_nonneg, w_i64 ((i : Int) + 1) (by omega), Bool.not_true, Bool.false_eq_true, if_false]
    first | done | rfl
  case hit =>
    intro i p hp hi hP _
    have hi1 : (i : Int) < (x.blks.length : Int) := by omega
    have gp : (x.blks.map blk).getD i .undef = .agg [.bool p.dir, .ro 2 (p.slots.map slt), .str p.text] := gD_map hp
    have e1 := e221 p (hk.blk p (List.mem_of_getElem? hp))
    unfold blk at e1
    unfold dskV
    simp only [XG, L153_10, h153_10, go_sem, seval, bnd_ite, hi1, gp, e1, hP, Int.natCast_nonneg, w_i64 ((i : Int) + 1) (by omega), Bool.not_false, if_true]
    exact .mk (by simp) ⟨rfl, rfl⟩
  case last =>
    intro _
    unfold dskV
    simp only [XG, L153_10, h153_10, go_sem, seval, bnd_ite, Int.lt_irrefl, decide_false]
    exact .mk (by simp) rfl
theorem e153 (x : Dsk) (hk : x.ok) : E T 153 [dsk x] [] = some (.bool (dskOk x), []) := by
  rw [E_eq t153 (Nat.le_of_ble_eq_true rfl)]
  have c1 : decide ((x.inos.length : Int) = 8) = decide (x.inos.length = 8) := by congr 1; apply propext; omega
  have c2 : decide ((x.blks.length : Int) = 16) = decide (x.blks.length = 16) := by congr 1; apply propext; omega
  have e0 := e219 x.used x.taken
  by_cases hc : (((decide (x.used.length = 16) && decide (x.taken.length = 8)) && decide (x.inos.length = 8) && decide (x.blks.length = 16))) = true
  case neg =>
    have hr : dskOk x = false := by unfold dskOk; rw [Bool.eq_false_iff.2 hc, Bool.and_false, Bool.and_false]
    have hf : (!(decide (x.used.length = 16) && decide (x.taken.length = 8)) || !decide (x.inos.length = 8) || !decide (x.blks.length = 16)) = true := by
      rw [← Bool.not_and, ← Bool.not_and, Bool.eq_false_iff.2 hc]; rfl
    simp only [dsk, F153, h153_4, go_sem, seval, bnd_ite, e0, c1, c2, hf, hr, if_true]
  have hf : (!(decide (x.used.length = 16) && decide (x.taken.length = 8)) || !decide (x.inos.length = 8) || !decide (x.blks.length = 16)) = false := by
    rw [← Bool.not_and, ← Bool.not_and, hc]; rfl
  obtain ⟨⟨y, e, m⟩, k1, k2⟩ := in153a x hk
  unfold dskOk
  rw [hc, Bool.and_true]
  unfold dskV at k1 k2
  rcases k2 with ⟨h, kx, k3, km⟩ | ⟨h, kx, k3⟩
  · simp only at kx k3 km; subst kx; subst km
    obtain ⟨⟨y, e', m⟩, k4, k5⟩ := in153b x hk
    unfold dskV at k4
    rcases k5 with ⟨h', kx⟩ | ⟨h', kx, k6⟩
    · simp only at kx; subst kx
      simp only [dsk, F153, h153_4, h153_10, go_sem, seval, bnd_ite, k1, k3, k4, h, h', e0, c1, c2, hf, Bool.true_and, Bool.false_eq_true, if_false]
    · simp only at kx k6; subst kx
      simp only [dsk, F153, h153_4, h153_10, go_sem, seval, bnd_ite, k1, k3, k4, k6, h, h', e0, c1, c2, hf, Bool.and_false, Bool.false_eq_true, if_false]
  · simp only at kx k3; subst kx
    simp only [dsk, F153, h153_4, go_sem, seval, bnd_ite, k1, k3, h, e0, c1, c2, hf, Bool.false_and, Bool.false_eq_true, if_false]
end Go.Proofs.Ytaaajjinpppgeaa

/- ImageBlock: copies of blocks. Own work; no condition. -/
set_option linter.unusedVariables false
set_option linter.unusedSimpArgs false
set_option linter.unusedSectionVars false
namespace Go.Proofs.Ytaaajjinpppgeaa
open Go Go.Abs
set_option maxRecDepth 100000
theorem e148 (x : Blk) (h : x.sm) : E T 148 [blk x] [] = some (blkO x, []) := by
  rw [E_eqW t148 (Nat.le_of_ble_eq_true rfl)]
  obtain ⟨a, l, b⟩ := x
  cases l with
  | nil => simp only [blk, F148, go_sem, seval, bnd_ite, blkO]
  | cons y ys =>
    have h : (ys.length + 1) * 24 ≤ 140737488355328 := by unfold Blk.sm at h; simp only [List.length_cons] at h; omega
    simp only [blk, F148, slt, go_sem, seval, bnd_ite, h, blkO]
theorem e147 (x : Blk) (h : x.sm) : E T 147 [blk x] [] = some (blkO x, []) := by
  rw [E_eqW t147 (Nat.le_of_ble_eq_true rfl)]
  obtain ⟨a, l, b⟩ := x
  cases l with
  | nil => simp only [blk, F147, go_sem, seval, bnd_ite, blkO]
  | cons y ys =>
    have h : (ys.length + 1) * 24 ≤ 140737488355328 := by unfold Blk.sm at h; simp only [List.length_cons] at h; omega
    simp only [blk, F147, slt, go_sem, seval, bnd_ite, h, blkO]
end Go.Proofs.Ytaaajjinpppgeaa

/- Shared: what is seen twice. Own work; no condition. -/
set_option linter.unusedVariables false
set_option linter.unusedSimpArgs false
set_option linter.unusedSectionVars false
namespace Go.Proofs.Ytaaajjinpppgeaa
open Go Go.Abs
set_option maxRecDepth 100000
theorem e126 (xs : List Int) (y : Int) (ha : xs.length ≤ maxLen) : E T 126 [.ro 1 (xs.map iv), .int .i64 y] [] = some (.bool (decide (y ∈ xs)), []) := by
  rw [E_eq t126 (Nat.le_of_ble_eq_true rfl)]
  simp only [F126, h126_2, go_sem, seval, bnd_ite]
  unfold maxLen at ha
  refine (XL_inv (T := T) (b := 0) (hd := H126_2) (x := L126_2) (β := Unit) (fun i _ => ⟨[(0, .ro 1 (xs.map iv)), (1, .int .i64 y), (5, .int .i64 (i : Nat))], []⟩)
    (fun i _ => y ∉ xs.take i) xs.length (fun r => (r.1 = .exit 0 ∧ y ∉ xs) ∨ (r.1 = .ret ∧ lookA r.2.env 4 = .bool true ∧ y ∈ xs)) ?step ?last 0 () (by omega) (by simp)).elim ?main
  case step =>
    intro i _ hi hI
    obtain ⟨p, hp⟩ := get_at hi
    have hi1 : (i : Int) < (xs.length : Int) := by omega
    simp only [XG, L126_2, h126_2, go_sem, seval, bnd_ite, hi1, gD_map hp, iv, Int.natCast_nonneg, w_i64 ((i : Int) + 1) (by omega)]
    by_cases he : p = y
    · right
      simp only [he, decide_true, if_true]
      exact .mk (by simp) (.inr ⟨rfl, rfl, he ▸ List.mem_of_getElem? hp⟩)
    · left
      simp only [he, decide_false, Bool.false_eq_true, if_false]
      exact ⟨(), rfl, by rw [take_snoc hp]; simp [hI, Ne.symm he]⟩
  case last =>
    intro _ hI
    rw [List.take_length] at hI
    simp only [XG, L126_2, h126_2, go_sem, seval, bnd_ite, Int.lt_irrefl, decide_false]
    exact .mk (by simp) (.inl ⟨rfl, hI⟩)
  case main =>
  rintro ⟨x, st⟩ ⟨h1, h2, h3⟩
  have hs : ((0 : Nat) : Int) = 0 := rfl
  rw [hs] at h1
  simp only [h1]
  obtain ⟨e, m⟩ := st
  rcases h3 with ⟨hx, h4⟩ | ⟨hx, h4, h5⟩
  · simp only at hx; subst hx
    simp only [go_sem, seval]; simp [h4]
  · simp only at hx h4; subst hx
    simp only [go_sem, seval, h4]; simp [h5]
theorem e215 (xs : List Int) (y : Int) (ha : xs.length ≤ maxLen) : ∃ r : Int, E T 215 [.ro 1 (xs.map iv), .int .i64 y] [] = some (.int .i64 r, []) ∧ (0 ≤ r ↔ y ∈ xs) := by
  rw [E_eq t215 (Nat.le_of_ble_eq_true rfl)]
  simp only [F215, h215_2, go_sem, seval, bnd_ite]
  unfold maxLen at ha
  refine (XL_inv (T := T) (b := 0) (hd := H215_2) (x := L215_2) (β := Unit) (fun i _ => ⟨[(0, .ro 1 (xs.map iv)), (1, .int .i64 y), (7, .int .i64 xs.length), (8, .int .i64 (i : Nat))], []⟩)
    (fun i _ => y ∉ xs.take i) xs.length (fun r => (r.1 = .exit 0 ∧ y ∉ xs) ∨ (r.1 = .ret ∧ ∃ n : Nat, lookA r.2.env 4 = .int .i64 n ∧ y ∈ xs)) ?step ?last 0 () (by omega) (by simp)).elim ?main
  case step =>
    intro i _ hi hI
    obtain ⟨p, hp⟩ := get_at hi
    have hi1 : (i : Int) < (xs.length : Int) := by omega
    simp only [XG, L215_2, h215_2, go_sem, seval, bnd_ite, hi1, gD_map hp, iv, Int.natCast_nonneg, w_i64 ((i : Int) + 1) (by omega)]
    by_cases he : y = p
    · right
      simp only [he, decide_true, if_true]
      exact .mk (by simp) (.inr ⟨rfl, i, rfl, List.mem_of_getElem? hp⟩)
    · left
      simp only [he, decide_false, Bool.false_eq_true, if_false]
      exact ⟨(), rfl, by rw [take_snoc hp]; simp [hI, he]⟩
  case last =>
    intro _ hI
    rw [List.take_length] at hI
    simp only [XG, L215_2, h215_2, go_sem, seval, bnd_ite, Int.lt_irrefl, decide_false]
    exact .mk (by simp) (.inl ⟨rfl, hI⟩)
  case main =>
  rintro ⟨x, st⟩ ⟨h1, h2, h3⟩
  have hs : ((0 : Nat) : Int) = 0 := rfl
  rw [hs] at h1
  simp only [h1]
  obtain ⟨e, m⟩ := st
  rcases h3 with ⟨hx, h4⟩ | ⟨hx, n, h4, h5⟩
  · simp only at hx; subst hx
    simp only [go_sem, seval]; exact ⟨-1, rfl, by simp [h4]⟩
  · simp only at hx h4; subst hx
    simp only [go_sem, seval, h4]; exact ⟨n, rfl, by simp [h5]⟩
theorem e130 (xs : List Int) (y : Int) (ha : xs.length ≤ maxLen) : E T 130 [.ro 1 (xs.map iv), .int .i64 y] [] = some (.bool (decide (y ∈ xs)), []) := by
  rw [E_eq t130 (Nat.le_of_ble_eq_true rfl)]
  obtain ⟨r, h1, h2⟩ := e215 xs y ha
  simp only [F130, go_sem, seval, bnd_ite, h1, ← h2]
end Go.Proofs.Ytaaajjinpppgeaa

/- Inodes and blocks of a disk by their numbers, where they are. Own work; no condition. -/
set_option linter.unusedVariables false
set_option linter.unusedSimpArgs false
set_option linter.unusedSectionVars false
namespace Go.Proofs.Ytaaajjinpppgeaa
open Go Go.Abs
set_option maxRecDepth 100000
def ino0 : Ino := ⟨0, 0, []⟩
theorem getD_at {α : Type} {l : List α} {i : Nat} {p z : α} (h : l[i]? = some p) : l.getD i z = p := by simp [List.getD, h]
theorem e176n (x : Dsk) (i : Int) (hc : inside i 1 x.inos.length = false) : E T 176 [dsk x, .int .i64 i] [] = some (ino ino0, []) := by
  rw [E_eqW t176 (Nat.le_of_ble_eq_true rfl)]
  simp only [dsk, F176, go_sem, seval, bnd_ite, e117i, hc, ino, ino0, List.map_nil]
theorem e176 (x : Dsk) (i : Int) (hl : x.inos.length ≤ 1048576) (hc : inside i 1 x.inos.length = true) (p : Ino) (hp : x.inos[(i - 1).toNat]? = some p) : E T 176 [dsk x, .int .i64 i] [] = some (ino p, []) := by
  rw [E_eqW t176 (Nat.le_of_ble_eq_true rfl)]
  have hc' := hc
  simp only [inside, Bool.and_eq_true, decide_eq_true_eq] at hc'
  have gp : (x.inos.map ino).getD (i - 1).toNat .undef = .agg [.int .i64 p.kind, .int .i64 p.links, .ro 1 (p.ptrs.map iv)] := gD_map hp
  have b1 : 0 ≤ i - 1 := by omega
  have b2 : i - 1 < (x.inos.length : Int) := by omega
  simp only [dsk, F176, go_sem, seval, bnd_ite, e117i, hc, gp, b1, b2, w_i64 (i - 1) (by omega), ino]
end Go.Proofs.Ytaaajjinpppgeaa

/- What is right: one that leans, small functions. Own work; no condition. -/
set_option linter.unusedVariables false
set_option linter.unusedSimpArgs false
set_option linter.unusedSectionVars false
namespace Go.Proofs.Ytaaajjinpppgeaa
open Go Go.Abs
set_option maxRecDepth 100000
def slt0 : Slt := ⟨⟨#[]⟩, 0⟩
structure DskOk (x : Dsk) : Prop where
  ino : ∀ p ∈ x.inos, inoOk p = true
  blk : ∀ p ∈ x.blks, blkOk p = true
  used : x.used.length = 16
  taken : x.taken.length = 8
  inos : x.inos.length = 8
  blks : x.blks.length = 16
theorem dskOk_iff {x : Dsk} : dskOk x = true ↔ DskOk x := by
  unfold dskOk
  simp only [Bool.and_eq_true, List.all_eq_true, decide_eq_true_eq]
  exact ⟨fun ⟨a, b, ⟨⟨c, d⟩, e⟩, f⟩ => ⟨a, b, c, d, e, f⟩, fun ⟨a, b, c, d, e, f⟩ => ⟨a, b, ⟨⟨c, d⟩, e⟩, f⟩⟩
structure InoOk (x : Ino) : Prop where
  kind : 0 ≤ x.kind ∧ x.kind ≤ 2
  links : 0 ≤ x.links ∧ x.links ≤ 200
  two : x.ptrs.length = 2
  ptr : ∀ p ∈ x.ptrs, 0 ≤ p ∧ p ≤ 16 ∧ (x.kind = 0 → p = 0)
  none : x.kind = 0 → x.links = 0
theorem inoOk_iff {x : Ino} : inoOk x = true ↔ InoOk x := by
  unfold inoOk ptrOk inside
  simp only [Bool.and_eq_true, List.all_eq_true, decide_eq_true_eq, Bool.not_eq_true', Bool.and_eq_false_iff, decide_eq_false_iff_not, Bool.or_eq_true]
  constructor
  · rintro ⟨a, ⟨⟨b, c⟩, d⟩, e⟩
    refine ⟨b, c, d, fun p hp => ?_, fun h => ?_⟩
    · have := a p hp; omega
    · omega
  · rintro ⟨b, c, d, a, e⟩
    refine ⟨fun p hp => ?_, ⟨⟨b, c⟩, d⟩, ?_⟩
    · have := a p hp; omega
    · omega
theorem blkOk_dir {x : Blk} (h : blkOk x = true) (hd : x.dir = true) : x.slots.length = 4 ∧ x.text = ⟨#[]⟩ ∧ ∀ (i : Nat) s, x.slots[i]? = some s → slotOk x.slots i s = true := by
  unfold blkOk at h
  rw [hd, if_pos rfl] at h
  simp only [Bool.and_eq_true, List.all_eq_true, decide_eq_true_eq] at h
  obtain ⟨h1, h2, h3⟩ := h
  refine ⟨h2, h3, fun i s hs => ?_⟩
  have := h1 (s, i) (List.mem_of_getElem? (i := i) (by rw [List.getElem?_zipIdx, hs]; simp))
  exact this
theorem blkOk_txt {x : Blk} (h : blkOk x = true) (hd : x.dir = false) : x.slots = [] ∧ x.text.size ≤ 16 := by
  rw [blk_nil hd] at h
  simp only [Bool.and_eq_true, decide_eq_true_eq] at h
  exact ⟨List.eq_nil_of_length_eq_zero h.1, h.2⟩
end Go.Proofs.Ytaaajjinpppgeaa

/- MendNames: the plain law. Own work; no condition. -/
set_option linter.unusedVariables false
set_option linter.unusedSimpArgs false
set_option linter.unusedSectionVars false
namespace Go.Proofs.Ytaaajjinpppgeaa
open Go Go.Abs
set_option maxRecDepth 100000
/-- May a slot stay? -/
def keepS (inos : List Ino) (names : List ByteArray) (dirs : List Int) (s : Slt) : Bool :=
  !(decide (s.ino = 1) || decide ((inos.getD (s.ino - 1).toNat ⟨0, 0, []⟩).kind = 0) || decide (s.ino ∈ dirs)) && !(names.any fun n => decide (n = s.name))
/-- What a walk over slots has come to: the slots behind, the names, the directories. -/
structure NmS where
  out : List Slt
  names : List ByteArray
  dirs : List Int
def slStep (inos : List Ino) (st : NmS) (s : Slt) : NmS :=
  if s.name = ⟨#[]⟩ then { st with out := st.out ++ [s] }
  else if keepS inos st.names st.dirs s then ⟨st.out ++ [s], st.names ++ [s.name], if (inos.getD (s.ino - 1).toNat ⟨0, 0, []⟩).kind = 2 then st.dirs ++ [s.ino] else st.dirs⟩
  else { st with out := st.out ++ [slt0] }
/-- One block: its slots are swept. -/
structure NmB where
  blks : List Blk
  names : List ByteArray
  dirs : List Int
  seen : List Int
def sweep (inos : List Ino) (st : NmB) (p : Int) : NmB :=
  match st.blks[(p - 1).toNat]? with
  | some b =>
    let r := b.slots.foldl (slStep inos) ⟨[], st.names, st.dirs⟩
    ⟨st.blks.set (p - 1).toNat { b with slots := r.out }, r.names, r.dirs, st.seen ++ [p]⟩
  | none => { st with seen := st.seen ++ [p] }
/-- The program's way over the pointers of a directory: all blocks that none had. -/
def stepP (inos : List Ino) (st : NmB) (p : Int) : NmB := if p > 0 ∧ p ∉ st.seen then sweep inos st p else st
/-- The reference's way: blocks of directories that none had. -/
def stepR (inos : List Ino) (st : NmB) (p : Int) : NmB :=
  match st.blks[(p - 1).toNat]? with
  | some b => if p > 0 ∧ b.dir = true ∧ p ∉ st.seen then sweep inos st p else st
  | none => st
def rowsP (inos : List Ino) (st : NmB) (x : Ino) : NmB := if x.kind = 2 then x.ptrs.foldl (stepP inos) { st with names := [] } else st
def rowsR (inos : List Ino) (st : NmB) (x : Ino) : NmB := if x.kind = 2 then x.ptrs.foldl (stepR inos) { st with names := [] } else st
def isDirAt (blks : List Blk) (p : Int) : Bool := match blks[(p - 1).toNat]? with
  | some b => b.dir
  | none => false
/-- Both ways go side by side: the reference has seen those of the program's that are blocks of directories. -/
structure Side (a b : NmB) : Prop where
  blks : a.blks = b.blks
  names : a.names = b.names
  dirs : a.dirs = b.dirs
  seen : ∀ p, isDirAt a.blks p = true → (p ∈ a.seen ↔ p ∈ b.seen)
  bare : ∀ x ∈ a.blks, x.dir = false → x.slots = []
theorem isDir_set (blks : List Blk) (i : Nat) (b : Blk) (l : List Slt) (h : blks[i]? = some b) (p : Int) : isDirAt (blks.set i { b with slots := l }) p = isDirAt blks p := by
  unfold isDirAt
  by_cases e : i = (p - 1).toNat
  · have hi := (List.getElem?_eq_some_iff.1 h).1
    rw [← e, List.getElem?_set_self hi, h]
  · rw [List.getElem?_set_ne e]
theorem side_step (inos : List Ino) {a b : NmB} (h : Side a b) (p : Int) (hp : 0 ≤ p) (hl : p.toNat ≤ a.blks.length) : Side (stepP inos a p) (stepR inos b p) := by
  obtain ⟨h1, h2, h3, h4, h5⟩ := h
  unfold stepP stepR
  rw [← h1]
  cases hb : a.blks[(p - 1).toNat]? with
  | none =>
    have : (p - 1).toNat ≥ a.blks.length := List.getElem?_eq_none_iff.1 hb
    by_cases hz : p > 0
    · omega
    · have n1 : ¬ (p > 0 ∧ p ∉ a.seen) := fun hh => hz hh.1
      rw [if_neg n1]
      exact ⟨h1, h2, h3, h4, h5⟩
  | some x =>
    simp only
    by_cases hz : p > 0
    · by_cases hd : x.dir = true
      · have hdir : isDirAt a.blks p = true := by unfold isDirAt; rw [hb]; exact hd
        by_cases hs : p ∈ a.seen
        · have n1 : ¬ (p > 0 ∧ p ∉ a.seen) := fun hh => hh.2 hs
          have n2 : ¬ (p > 0 ∧ x.dir = true ∧ p ∉ b.seen) := fun hh => hh.2.2 ((h4 p hdir).1 hs)
          rw [if_neg n1, if_neg n2]
          exact ⟨h1, h2, h3, h4, h5⟩
        · have n1 : p > 0 ∧ p ∉ a.seen := ⟨hz, hs⟩
          have n2 : p > 0 ∧ x.dir = true ∧ p ∉ b.seen := ⟨hz, hd, fun hh => hs ((h4 p hdir).2 hh)⟩
          rw [if_pos n1, if_pos n2]
          unfold sweep
          rw [← h1, hb, ← h2, ← h3]
          refine ⟨rfl, rfl, rfl, fun q hq => ?_, fun y hy hyd => ?_⟩
          · rw [isDir_set _ _ _ _ hb] at hq
            simp only [List.mem_append, List.mem_singleton, h4 q hq]
          · rcases List.mem_or_eq_of_mem_set hy with hy | rfl
            · exact h5 y hy hyd
            · rw [hd] at hyd; cases hyd
      · have hbare := h5 x (List.mem_of_getElem? hb) (by simpa using hd)
        have n2 : ¬ (p > 0 ∧ x.dir = true ∧ p ∉ b.seen) := fun hh => hd hh.2.1
        rw [if_neg n2]
        by_cases hs : p ∈ a.seen
        · have n1 : ¬ (p > 0 ∧ p ∉ a.seen) := fun hh => hh.2 hs
          rw [if_neg n1]
          exact ⟨h1, h2, h3, h4, h5⟩
        · have n1 : p > 0 ∧ p ∉ a.seen := ⟨hz, hs⟩
          rw [if_pos n1]
          unfold sweep
          rw [hb]
          simp only [hbare]
          have same : a.blks.set (p - 1).toNat { x with slots := [] } = a.blks := by
            have e : ({ x with slots := [] } : Blk) = x := by cases x; simp only at hbare; subst hbare; rfl
            rw [e]
            obtain ⟨hi, rfl⟩ := List.getElem?_eq_some_iff.1 hb
            exact List.set_getElem_self hi
          simp only [List.foldl_nil, same]
          refine ⟨h1, h2, h3, fun q hq => ?_, h5⟩
          have : q ≠ p := by
            rintro rfl
            unfold isDirAt at hq
            rw [hb] at hq
            exact hd hq
          simp only [List.mem_append, List.mem_singleton, this, or_false]
          exact h4 q hq
    · have n1 : ¬ (p > 0 ∧ p ∉ a.seen) := fun hh => hz hh.1
      have n2 : ¬ (p > 0 ∧ x.dir = true ∧ p ∉ b.seen) := fun hh => hz hh.1
      rw [if_neg n1, if_neg n2]
      exact ⟨h1, h2, h3, h4, h5⟩
theorem stepP_len (inos : List Ino) (a : NmB) (p : Int) : (stepP inos a p).blks.length = a.blks.length := by
  unfold stepP sweep
  split
  · split <;> simp
  · rfl
theorem side_ptrs (inos : List Ino) : ∀ (l : List Int) {a b : NmB}, Side a b → (∀ p ∈ l, 0 ≤ p ∧ p.toNat ≤ a.blks.length) → Side (l.foldl (stepP inos) a) (l.foldl (stepR inos) b) ∧ (l.foldl (stepP inos) a).blks.length = a.blks.length
  | [], _, _, h, _ => ⟨h, rfl⟩
  | p :: l, a, b, h, hl => by
    obtain ⟨h1, h2⟩ := hl p (List.mem_cons_self ..)
    have := side_ptrs inos l (side_step inos h p h1 h2) (fun q hq => by rw [stepP_len]; exact hl q (List.mem_cons_of_mem _ hq))
    rw [stepP_len] at this
    exact this
theorem side_rows (inos : List Ino) : ∀ (l : List Ino) {a b : NmB}, Side a b → (∀ x ∈ l, ∀ p ∈ x.ptrs, 0 ≤ p ∧ p.toNat ≤ a.blks.length) → Side (l.foldl (rowsP inos) a) (l.foldl (rowsR inos) b)
  | [], _, _, h, _ => h
  | x :: l, a, b, h, hl => by
    rw [List.foldl_cons, List.foldl_cons]
    have key : Side (rowsP inos a x) (rowsR inos b x) ∧ (rowsP inos a x).blks.length = a.blks.length := by
      unfold rowsP rowsR
      by_cases hk : x.kind = 2
      · rw [if_pos hk, if_pos hk]
        exact side_ptrs inos x.ptrs (a := { a with names := [] }) (b := { b with names := [] }) ⟨h.blks, rfl, h.dirs, h.seen, h.bare⟩ (hl x (List.mem_cons_self ..))
      · rw [if_neg hk, if_neg hk]; exact ⟨h, rfl⟩
    exact side_rows inos l key.1 (fun y hy p hp => by rw [key.2]; exact hl y (List.mem_cons_of_mem _ hy) p hp)
end Go.Proofs.Ytaaajjinpppgeaa

/- The code of some functions, as the evaluator reads it (printed by a program of ours), checked against the program. Own work; no condition. -/
set_option linter.unusedVariables false
set_option linter.unusedSimpArgs false
set_option linter.unusedSectionVars false
namespace Go.Proofs.Ytaaajjinpppgeaa
open Go Go.Abs
set_option maxRecDepth 100000
def H158_3 : List Vw := [.opn 3 none none 2 3, .tidy [1, 2, 3, 4] [(1, none), (2, none), (3, none), (4, none), (3, some 2)]]
theorem h158_3 (b : Nat) (s : St) : vwL b H158_3 s = vwL b [.opn 3 none none 2 3, .tidy [1, 2, 3, 4] [(1, none), (2, none), (3, none), (4, none), (3, some 2)]] s := rfl
def L158_3 : EC := (.seq (.seq (.region [(.op .mv [(.tmp 4)] (some 10) true), (.op (.faddr 2) [(.tmp 1)] (some 11) true), (.op .load1 [(.tmp 11)] (some 12) true), (.op .len [(.tmp 12)] (some 13) true), (.op (.bin .lss) [(.tmp 10), (.tmp 13)] (some 14) true)] false) (.cond (.tmp 14) .skip (.exit 0))) (.seq (.block 1 (.region [(.op (.faddr 2) [(.tmp 3)] (some 17) false), (.op .load1 [(.tmp 17)] (some 18) false), (.op (.faddr 2) [(.tmp 1)] (some 19) false), (.op .load1 [(.tmp 19)] (some 20) false), (.op .mv [(.tmp 4)] (some 21) false), (.op (.iaddr 3) [(.tmp 20), (.tmp 21)] (some 22) false), (.op (.loadN 3) [(.tmp 22)] (some 23) false), (.pc (.const (.fn 142 [])) [(.tmp 23)] (some 24) false), (.op (.bslice 3 1 (.agg [(.int .i64 0), (.int .i64 0), .nil]) [0]) [(.tmp 24)] (some 25) false), (.op (.append 3 40) [(.tmp 18), (.tmp 25)] (some 26) true), (.op (.faddr 2) [(.tmp 3)] (some 27) true), (.op .store1 [(.tmp 27), (.tmp 26)] none true)] true)) (.region [(.op .mv [(.tmp 4)] (some 15) true), (.op (.bin .add) [(.tmp 15), (.const (.int .i64 1))] (some 16) true), (.op .mv [(.tmp 16)] (some 4) true)] false)))
def H158_8 : List Vw := [.opn 3 none none 3 3, .tidy [1, 2, 3, 5] [(1, none), (2, none), (3, none), (5, none), (3, some 3)]]
theorem h158_8 (b : Nat) (s : St) : vwL b H158_8 s = vwL b [.opn 3 none none 3 3, .tidy [1, 2, 3, 5] [(1, none), (2, none), (3, none), (5, none), (3, some 3)]] s := rfl
def L158_8 : EC := (.seq (.seq (.region [(.op .mv [(.tmp 5)] (some 28) true), (.op (.faddr 3) [(.tmp 1)] (some 29) true), (.op .load1 [(.tmp 29)] (some 30) true), (.op .len [(.tmp 30)] (some 31) true), (.op (.bin .lss) [(.tmp 28), (.tmp 31)] (some 32) true)] false) (.cond (.tmp 32) .skip (.exit 2))) (.seq (.block 3 (.region [(.op (.faddr 3) [(.tmp 3)] (some 35) false), (.op .load1 [(.tmp 35)] (some 36) false), (.op (.faddr 3) [(.tmp 1)] (some 37) false), (.op .load1 [(.tmp 37)] (some 38) false), (.op .mv [(.tmp 5)] (some 39) false), (.op (.iaddr 3) [(.tmp 38), (.tmp 39)] (some 40) false), (.op (.loadN 3) [(.tmp 40)] (some 41) false), (.pc (.const (.fn 147 [])) [(.tmp 41)] (some 42) false), (.op (.bslice 3 1 (.agg [(.bool false), .nil, (.str ⟨#[]⟩)]) [0]) [(.tmp 42)] (some 43) false), (.op (.append 3 48) [(.tmp 36), (.tmp 43)] (some 44) true), (.op (.faddr 3) [(.tmp 3)] (some 45) true), (.op .store1 [(.tmp 45), (.tmp 44)] none true)] true)) (.region [(.op .mv [(.tmp 5)] (some 33) true), (.op (.bin .add) [(.tmp 33), (.const (.int .i64 1))] (some 34) true), (.op .mv [(.tmp 34)] (some 5) true)] false)))
-- spec.l07Copy
def F158 : EF := ⟨(.seq (.region [(.op (.box 4) [(.tmp 0)] (some 1) true), (.op (.alloc (.agg [.nil, .nil, .nil, .nil])) [] (some 2) true)] false) (.seq (.region [(.op (.faddr 0) [(.tmp 1)] (some 6) true), (.op (.loadN 2) [(.tmp 6)] (some 7) true), (.pc (.const (.fn 233 [])) [(.tmp 7)] (some 8) true), (.op (.build [.nil, .nil, .nil, .nil] [(0, 2)]) [(.tmp 8)] (some 9) true), (.op (.alloc (.agg [.nil, .nil, .nil, .nil])) [] (some 3) true), (.op (.storeN 4) [(.tmp 3), (.tmp 9)] none true)] false) (.seq (.seq (.region [(.op .mv [(.const (.int .i64 0))] (some 4) true)] false) (.block 0 (.loop H158_3 L158_3))) (.seq (.seq (.region [(.op .mv [(.const (.int .i64 0))] (some 5) true)] false) (.block 2 (.loop H158_8 L158_8))) (.seq (.view [.opn 3 none none 0 1, .opn 3 none none 1 1, .opn 3 none none 2 3, .opn 3 none none 3 3] (.region [(.op (.loadN 4) [(.tmp 3)] (some 46) true), (.op (.storeN 4) [(.tmp 2), (.tmp 46)] none true)] false)) .ret))))), [(.cell 2 (.loadN 4))], 47, .one, none⟩
theorem t158 : T 158 = some F158 := tab Try.func158 (by kernel_rfl) rfl
def H159_3 : List Vw := [.opn 3 none none 2 3, .tidy [1, 2, 3, 13, 14, 15] [(1, none), (2, none), (3, none), (13, none), (14, none), (15, none), (3, some 2)]]
theorem h159_3 (b : Nat) (s : St) : vwL b H159_3 s = vwL b [.opn 3 none none 2 3, .tidy [1, 2, 3, 13, 14, 15] [(1, none), (2, none), (3, none), (13, none), (14, none), (15, none), (3, some 2)]] s := rfl
def L159_3 : EC := (.seq (.region [(.op (.bin .lss) [(.tmp 15), (.tmp 14)] (some 16) true)] false) (.seq (.cond (.tmp 16) .skip (.exit 0)) (.seq (.block 1 (.seq (.region [(.op (.iaddr 3) [(.tmp 13), (.tmp 15)] (some 17) true), (.op (.loadN 3) [(.tmp 17)] (some 18) true), (.op (.alloc (.agg [(.int .i64 0), (.int .i64 0), .nil])) [] (some 5) true), (.op (.storeN 3) [(.tmp 5), (.tmp 18)] none true)] false) (.region [(.op (.faddr 2) [(.tmp 3)] (some 19) false), (.op .load1 [(.tmp 19)] (some 20) false), (.op (.loadN 3) [(.tmp 5)] (some 21) false), (.pc (.const (.fn 144 [])) [(.tmp 21)] (some 22) false), (.op (.bslice 3 1 (.agg [(.int .i64 0), (.int .i64 0), .nil]) [0]) [(.tmp 22)] (some 23) false), (.op (.append 3 40) [(.tmp 20), (.tmp 23)] (some 24) true), (.op (.faddr 2) [(.tmp 3)] (some 25) true), (.op .store1 [(.tmp 25), (.tmp 24)] none true)] true))) (.region [(.op (.bin .add) [(.tmp 15), (.const (.int .i64 1))] (some 26) true), (.op .mv [(.tmp 26)] (some 15) true)] false))))
def H159_9 : List Vw := [.opn 3 none none 3 3, .tidy [2, 3, 28, 29, 30] [(2, none), (3, none), (28, none), (29, none), (30, none), (3, some 3)]]
theorem h159_9 (b : Nat) (s : St) : vwL b H159_9 s = vwL b [.opn 3 none none 3 3, .tidy [2, 3, 28, 29, 30] [(2, none), (3, none), (28, none), (29, none), (30, none), (3, some 3)]] s := rfl
def L159_9 : EC := (.seq (.region [(.op (.bin .lss) [(.tmp 30), (.tmp 29)] (some 31) true)] false) (.seq (.cond (.tmp 31) .skip (.exit 2)) (.seq (.block 3 (.seq (.region [(.op (.iaddr 3) [(.tmp 28), (.tmp 30)] (some 32) true), (.op (.loadN 3) [(.tmp 32)] (some 33) true), (.op (.alloc (.agg [(.bool false), .nil, (.str ⟨#[]⟩)])) [] (some 7) true), (.op (.storeN 3) [(.tmp 7), (.tmp 33)] none true)] false) (.region [(.op (.faddr 3) [(.tmp 3)] (some 34) false), (.op .load1 [(.tmp 34)] (some 35) false), (.op (.loadN 3) [(.tmp 7)] (some 36) false), (.pc (.const (.fn 148 [])) [(.tmp 36)] (some 37) false), (.op (.bslice 3 1 (.agg [(.bool false), .nil, (.str ⟨#[]⟩)]) [0]) [(.tmp 37)] (some 38) false), (.op (.append 3 48) [(.tmp 35), (.tmp 38)] (some 39) true), (.op (.faddr 3) [(.tmp 3)] (some 40) true), (.op .store1 [(.tmp 40), (.tmp 39)] none true)] true))) (.region [(.op (.bin .add) [(.tmp 30), (.const (.int .i64 1))] (some 41) true), (.op .mv [(.tmp 41)] (some 30) true)] false))))
-- impl.copyDisk
def F159 : EF := ⟨(.seq (.region [(.op (.box 4) [(.tmp 0)] (some 1) true), (.op (.alloc (.agg [.nil, .nil, .nil, .nil])) [] (some 2) true)] false) (.seq (.region [(.op (.faddr 0) [(.tmp 1)] (some 8) true), (.op (.loadN 2) [(.tmp 8)] (some 9) true), (.pc (.const (.fn 199 [])) [(.tmp 9)] (some 10) true), (.op (.build [.nil, .nil, .nil, .nil] [(0, 2)]) [(.tmp 10)] (some 11) true), (.op (.alloc (.agg [.nil, .nil, .nil, .nil])) [] (some 3) true), (.op (.storeN 4) [(.tmp 3), (.tmp 11)] none true)] false) (.seq (.seq (.region [(.op (.faddr 2) [(.tmp 1)] (some 12) true), (.op .load1 [(.tmp 12)] (some 13) true), (.op .len [(.tmp 13)] (some 14) true), (.op .mv [(.const (.int .i64 0))] (some 15) true)] false) (.block 0 (.loop H159_3 L159_3))) (.seq (.seq (.region [(.op (.faddr 3) [(.tmp 1)] (some 27) true), (.op .load1 [(.tmp 27)] (some 28) true), (.op .len [(.tmp 28)] (some 29) true), (.op .mv [(.const (.int .i64 0))] (some 30) true)] false) (.block 2 (.loop H159_9 L159_9))) (.seq (.view [.opn 3 none none 0 1, .opn 3 none none 1 1, .opn 3 none none 2 3, .opn 3 none none 3 3] (.region [(.op (.loadN 4) [(.tmp 3)] (some 42) true), (.op (.storeN 4) [(.tmp 2), (.tmp 42)] none true)] false)) .ret))))), [(.cell 2 (.loadN 4))], 43, .one, none⟩
theorem t159 : T 159 = some F159 := tab Try.func159 (by kernel_rfl) rfl
-- impl.copyBits
def F199 : EF := ⟨(.seq (.region [(.op (.box 2) [(.tmp 0)] (some 1) true), (.op (.alloc (.agg [.nil, .nil])) [] (some 2) true)] false) (.seq (.region [(.op (.faddr 0) [(.tmp 1)] (some 3) false), (.op .load1 [(.tmp 3)] (some 4) false), (.pc (.const (.fn 238 [])) [(.tmp 4)] (some 5) false), (.op (.faddr 1) [(.tmp 1)] (some 6) false), (.op .load1 [(.tmp 6)] (some 7) false), (.pc (.const (.fn 238 [])) [(.tmp 7)] (some 8) true), (.op (.build [.nil, .nil] [(0, 1), (1, 1)]) [(.tmp 5), (.tmp 8)] (some 9) true), (.op (.storeN 2) [(.tmp 2), (.tmp 9)] none true)] true) .ret)), [(.cell 2 (.loadN 2))], 10, (.agg [.row 1 .one, .row 1 .one]), none⟩
theorem t199 : T 199 = some F199 := tab Try.func199 (by kernel_rfl) rfl
-- spec.l05Copy
def F233 : EF := ⟨(.seq (.region [(.op (.box 2) [(.tmp 0)] (some 1) true), (.op (.alloc (.agg [.nil, .nil])) [] (some 2) true)] false) (.seq (.region [(.op (.bslice 1 0 (.bool false) []) [] (some 3) false), (.op (.faddr 0) [(.tmp 1)] (some 4) false), (.op .load1 [(.tmp 4)] (some 5) false), (.op (.append 1 1) [(.tmp 3), (.tmp 5)] (some 6) false), (.op (.bslice 1 0 (.bool false) []) [] (some 7) false), (.op (.faddr 1) [(.tmp 1)] (some 8) false), (.op .load1 [(.tmp 8)] (some 9) false), (.op (.append 1 1) [(.tmp 7), (.tmp 9)] (some 10) true), (.op (.build [.nil, .nil] [(0, 1), (1, 1)]) [(.tmp 6), (.tmp 10)] (some 11) true), (.op (.storeN 2) [(.tmp 2), (.tmp 11)] none true)] true) .ret)), [(.cell 2 (.loadN 2))], 12, (.agg [.row 1 .one, .row 1 .one]), none⟩
theorem t233 : T 233 = some F233 := tab Try.func233 (by kernel_rfl) rfl
-- impl.copyBools
def F238 : EF := ⟨(.seq (.region [(.op .mv [(.const .nil)] (some 2) true)] false) (.seq (.region [(.op (.bslice 1 0 (.bool false) []) [] (some 3) true), (.op .mv [(.tmp 0)] (some 4) true), (.op (.append 1 1) [(.tmp 3), (.tmp 4)] (some 5) true), (.op .mv [(.tmp 5)] (some 2) true)] false) .ret)), [(.tmp 2)], 6, (.row 1 .one), none⟩
theorem t238 : T 238 = some F238 := tab Try.func238 (by kernel_rfl) rfl
-- spec.MemNew
-- impl.MemNew
-- laws.FnExactMemNew
end Go.Proofs.Ytaaajjinpppgeaa

/- Copies of disks. Own work; no condition. -/
set_option linter.unusedVariables false
set_option linter.unusedSimpArgs false
set_option linter.unusedSectionVars false
namespace Go.Proofs.Ytaaajjinpppgeaa
open Go Go.Abs
set_option maxRecDepth 100000
theorem e238 (l : List Bool) (hl : l.length ≤ 1048576) : E T 238 [.ro 1 (l.map bv)] [] = some (.own 1 (l.map bv), []) := by
  rw [E_eqW t238 (Nat.le_of_ble_eq_true rfl)]
  cases l with
  | nil => simp only [F238, go_sem, seval, bnd_ite]
  | cons x xs =>
    have h : (xs.length + 1) * 1 ≤ 140737488355328 := by simp only [List.length_cons] at hl; omega
    simp only [F238, bv, go_sem, seval, bnd_ite, h]
theorem e199 (a b : List Bool) (ha : a.length ≤ 1048576) (hb : b.length ≤ 1048576) : E T 199 [.agg [.ro 1 (a.map bv), .ro 1 (b.map bv)]] [] = some (.agg [.own 1 (a.map bv), .own 1 (b.map bv)], []) := by
  rw [E_eqW t199 (Nat.le_of_ble_eq_true rfl)]
  have e1 := e238 a ha
  have e2 := e238 b hb
  have t1 : (a.map bv).take a.length = a.map bv := List.take_of_length_le (by simp)
  have t2 : (b.map bv).take b.length = b.map bv := List.take_of_length_le (by simp)
  simp only [F199, go_sem, seval, bnd_ite, e1, e2, t1, t2]
theorem e233 (a b : List Bool) (ha : a.length ≤ 1048576) (hb : b.length ≤ 1048576) : E T 233 [.agg [.ro 1 (a.map bv), .ro 1 (b.map bv)]] [] = some (.agg [.own 1 (a.map bv), .own 1 (b.map bv)], []) := by
  rw [E_eqW t233 (Nat.le_of_ble_eq_true rfl)]
  cases a with
  | nil =>
    cases b with
    | nil => simp only [F233, go_sem, seval, bnd_ite]
    | cons y ys =>
      have h : (ys.length + 1) * 1 ≤ 140737488355328 := by simp only [List.length_cons] at hb; omega
      simp only [F233, bv, go_sem, seval, bnd_ite, h]
  | cons x xs =>
    have h1 : (xs.length + 1) * 1 ≤ 140737488355328 := by simp only [List.length_cons] at ha; omega
    cases b with
    | nil => simp only [F233, bv, go_sem, seval, bnd_ite, h1]
    | cons y ys =>
      have h : (ys.length + 1) * 1 ≤ 140737488355328 := by simp only [List.length_cons] at hb; omega
      simp only [F233, bv, go_sem, seval, bnd_ite, h, h1]
theorem take_map {α : Type} {f : α → AV} {l : List α} {i : Nat} {p : α} (hp : l[i]? = some p) : (l.take i).map f ++ [f p] = (l.take (i + 1)).map f := by rw [take_snoc hp, List.map_append]; rfl
theorem takes_len {α : Type} {f : α → AV} {l : List α} {i : Nat} (hi : i ≤ l.length) : ((l.take i).map f).length = i := by rw [List.length_map, List.length_take]; omega
theorem snoc_facts {α : Type} {f : α → AV} (hc : ∀ x, coolX (f x) = true) {l : List α} {i : Nat} {p : α} (hp : l[i]? = some p) :
    ∃ M, (l.take i).map f = M ∧ M.length = i ∧ (∀ g, mapIdL g M = M) ∧ (∀ u, idsL u M = []) ∧ M.take i = M ∧ M ++ [f p] = (l.take (i + 1)).map f := by
  have hi := (List.getElem?_eq_some_iff.1 hp).1
  have hl : ((l.take i).map f).length = i := takes_len (Nat.le_of_lt hi)
  exact ⟨_, rfl, hl, fun g => mi_map g f _ hc, fun u => is_map u f _ hc, List.take_of_length_le (by omega), take_map hp⟩
def cpBox (x : Dsk) : AV := .agg [.ro 1 (x.used.map bv), .ro 1 (x.taken.map bv), .ro 3 (x.inos.map ino), .ro 3 (x.blks.map blk)]
theorem in159a (x : Dsk) (h : x.sm) : ∃ r, XL T 0 H159_3 L159_3 ⟨[(1, .ptr 0 0 0), (2, .ptr 1 0 0), (3, .ptr 2 0 0), (13, .ro 3 (x.inos.map ino)), (14, .int .i64 x.inos.length), (15, .int .i64 0)],
      [some (4, [cpBox x]), some (4, [.agg [.nil, .nil, .nil, .nil]]), some (4, [.agg [.own 1 (x.used.map bv), .own 1 (x.taken.map bv), .sl 3 0 0, .nil]]), some (3, [])]⟩ = some r ∧
    (r.1 = .exit 0 ∧ lookA r.2.env 1 = .ptr 0 0 0 ∧ lookA r.2.env 2 = .ptr 1 0 0 ∧ lookA r.2.env 3 = .ptr 2 0 0 ∧
      r.2.mem = [some (4, [cpBox x]), some (4, [.agg [.nil, .nil, .nil, .nil]]), some (4, [.agg [.own 1 (x.used.map bv), .own 1 (x.taken.map bv), .sl 3 0 x.inos.length, .nil]]), some (3, x.inos.map inoO)]) := by
  have hl := h.inos
  refine XL_each x.inos (fun (_ : Unit) _ => ()) (fun i _ => ⟨[(1, .ptr 0 0 0), (2, .ptr 1 0 0), (3, .ptr 2 0 0), (13, .ro 3 (x.inos.map ino)), (14, .int .i64 x.inos.length), (15, .int .i64 (i : Nat))],
      [some (4, [cpBox x]), some (4, [.agg [.nil, .nil, .nil, .nil]]), some (4, [.agg [.own 1 (x.used.map bv), .own 1 (x.taken.map bv), .sl 3 0 i, .nil]]), some (3, (x.inos.take i).map inoO)]⟩) (fun _ _ => True)
    (fun _ r => r.1 = .exit 0 ∧ lookA r.2.env 1 = .ptr 0 0 0 ∧ lookA r.2.env 2 = .ptr 1 0 0 ∧ lookA r.2.env 3 = .ptr 2 0 0 ∧
      r.2.mem = [some (4, [cpBox x]), some (4, [.agg [.nil, .nil, .nil, .nil]]), some (4, [.agg [.own 1 (x.used.map bv), .own 1 (x.taken.map bv), .sl 3 0 x.inos.length, .nil]]), some (3, x.inos.map inoO)]) ?step ?last () trivial
  case step =>
    intro i _ p hp hi _
    refine ⟨?_, trivial⟩
    have hi1 : (i : Int) < (x.inos.length : Int) := by omega
    have gp : (x.inos.map ino).getD i .undef = .agg [.int .i64 p.kind, .int .i64 p.links, .ro 1 (p.ptrs.map iv)] := gD_map hp
    have e1 := e144 p (h.ino p (List.mem_of_getElem? hp))
    unfold ino inoO at e1
    obtain ⟨M, hM, ml, mi, ms, mt, ma⟩ := snoc_facts inoO_cool hp
    unfold inoO at ma
    have htk : (List.map iv p.ptrs).take p.ptrs.length = List.map iv p.ptrs := List.take_of_length_le (by simp)
    have hap : (i + 1) * 40 ≤ 140737488355328 := by omega
    unfold cpBox
    simp only [hM]
    simp only [XG, L159_3, h159_3, go_sem, seval, bnd_ite, hi1, gp, e1, htk, ml, mi, ms, mt, ma, hap, Int.natCast_nonneg, w_i64 ((i : Int) + 1) (by omega)]
    rfl
  case last =>
    intro _ _
    unfold cpBox
    simp only [XG, L159_3, h159_3, go_sem, seval, bnd_ite, Int.lt_irrefl, decide_false]
    exact .mk (by simp) ⟨rfl, rfl, rfl, rfl, rfl⟩
theorem in159b (x : Dsk) (h : x.sm) : ∃ r, XL T 0 H159_9 L159_9 ⟨[(2, .ptr 0 0 0), (3, .ptr 1 0 0), (28, .ro 3 (x.blks.map blk)), (29, .int .i64 x.blks.length), (30, .int .i64 0)],
      [some (4, [.agg [.nil, .nil, .nil, .nil]]), some (4, [.agg [.own 1 (x.used.map bv), .own 1 (x.taken.map bv), .own 3 (x.inos.map inoO), .sl 2 0 0]]), some (3, [])]⟩ = some r ∧
    (r.1 = .exit 2 ∧ lookA r.2.env 2 = .ptr 0 0 0 ∧ lookA r.2.env 3 = .ptr 1 0 0 ∧
      r.2.mem = [some (4, [.agg [.nil, .nil, .nil, .nil]]), some (4, [.agg [.own 1 (x.used.map bv), .own 1 (x.taken.map bv), .own 3 (x.inos.map inoO), .sl 2 0 x.blks.length]]), some (3, x.blks.map blkO)]) := by
  have hl := h.blks
  refine XL_each x.blks (fun (_ : Unit) _ => ()) (fun i _ => ⟨[(2, .ptr 0 0 0), (3, .ptr 1 0 0), (28, .ro 3 (x.blks.map blk)), (29, .int .i64 x.blks.length), (30, .int .i64 (i : Nat))],
      [some (4, [.agg [.nil, .nil, .nil, .nil]]), some (4, [.agg [.own 1 (x.used.map bv), .own 1 (x.taken.map bv), .own 3 (x.inos.map inoO), .sl 2 0 i]]), some (3, (x.blks.take i).map blkO)]⟩) (fun _ _ => True)
    (fun _ r => r.1 = .exit 2 ∧ lookA r.2.env 2 = .ptr 0 0 0 ∧ lookA r.2.env 3 = .ptr 1 0 0 ∧
      r.2.mem = [some (4, [.agg [.nil, .nil, .nil, .nil]]), some (4, [.agg [.own 1 (x.used.map bv), .own 1 (x.taken.map bv), .own 3 (x.inos.map inoO), .sl 2 0 x.blks.length]]), some (3, x.blks.map blkO)]) ?step ?last () trivial
  case step =>
    intro i _ p hp hi _
    refine ⟨?_, trivial⟩
    have hi1 : (i : Int) < (x.blks.length : Int) := by omega
    have gp : (x.blks.map blk).getD i .undef = .agg [.bool p.dir, .ro 2 (p.slots.map slt), .str p.text] := gD_map hp
    have e1 := e148 p (h.blk p (List.mem_of_getElem? hp))
    unfold blk blkO at e1
    obtain ⟨M, hM, ml, mi, ms, mt, ma⟩ := snoc_facts blkO_cool hp
    unfold blkO at ma
    have htk : (List.map slt p.slots).take p.slots.length = List.map slt p.slots := List.take_of_length_le (by simp)
    have hap : (i + 1) * 48 ≤ 140737488355328 := by omega
    simp only [hM]
    simp only [XG, L159_9, h159_9, go_sem, seval, bnd_ite, hi1, gp, e1, htk, ml, mi, ms, mt, ma, hap, Int.natCast_nonneg, w_i64 ((i : Int) + 1) (by omega)]
    rfl
  case last =>
    intro _ _
    simp only [XG, L159_9, h159_9, go_sem, seval, bnd_ite, Int.lt_irrefl, decide_false]
    exact .mk (by simp) ⟨rfl, rfl, rfl, rfl⟩
theorem e159 (x : Dsk) (h : x.sm) : E T 159 [dsk x] [] = some (dskO x, []) := by
  rw [E_eq t159 (Nat.le_of_ble_eq_true rfl)]
  have e1 := e199 x.used x.taken h.used h.taken
  obtain ⟨⟨y, e, m⟩, k1, kx, k2, k3, k4, km⟩ := in159a x h
  simp only at kx k2 k3 k4 km; subst kx; subst km
  obtain ⟨⟨y, e', m⟩, l1, lx, l2, l3, lm⟩ := in159b x h
  simp only at lx l2 l3 lm; subst lx; subst lm
  unfold cpBox at k1
  have t1 : (x.used.map bv).take x.used.length = x.used.map bv := List.take_of_length_le (by simp)
  have t2 : (x.taken.map bv).take x.taken.length = x.taken.map bv := List.take_of_length_le (by simp)
  have t3 : (x.inos.map inoO).take x.inos.length = x.inos.map inoO := List.take_of_length_le (by simp)
  have t4 : (x.blks.map blkO).take x.blks.length = x.blks.map blkO := List.take_of_length_le (by simp)
  simp only [dsk, F159, cpBox, h159_3, h159_9, go_sem, seval, bnd_ite, e1, k1, k2, k3, k4, l1, l2, l3, dskO, t1, t2, t3, t4]
theorem in158a (x : Dsk) (h : x.sm) : ∃ r, XL T 0 H158_3 L158_3 ⟨[(1, .ptr 0 0 0), (2, .ptr 1 0 0), (3, .ptr 2 0 0), (4, .int .i64 0)],
      [some (4, [cpBox x]), some (4, [.agg [.nil, .nil, .nil, .nil]]), some (4, [.agg [.own 1 (x.used.map bv), .own 1 (x.taken.map bv), .sl 3 0 0, .nil]]), some (3, [])]⟩ = some r ∧
    (r.1 = .exit 0 ∧ lookA r.2.env 1 = .ptr 0 0 0 ∧ lookA r.2.env 2 = .ptr 1 0 0 ∧ lookA r.2.env 3 = .ptr 2 0 0 ∧
      r.2.mem = [some (4, [cpBox x]), some (4, [.agg [.nil, .nil, .nil, .nil]]), some (4, [.agg [.own 1 (x.used.map bv), .own 1 (x.taken.map bv), .sl 3 0 x.inos.length, .nil]]), some (3, x.inos.map inoO)]) := by
  have hl := h.inos
  refine XL_each x.inos (fun (_ : Unit) _ => ()) (fun i _ => ⟨[(1, .ptr 0 0 0), (2, .ptr 1 0 0), (3, .ptr 2 0 0), (4, .int .i64 (i : Nat))],
      [some (4, [cpBox x]), some (4, [.agg [.nil, .nil, .nil, .nil]]), some (4, [.agg [.own 1 (x.used.map bv), .own 1 (x.taken.map bv), .sl 3 0 i, .nil]]), some (3, (x.inos.take i).map inoO)]⟩) (fun _ _ => True)
    (fun _ r => r.1 = .exit 0 ∧ lookA r.2.env 1 = .ptr 0 0 0 ∧ lookA r.2.env 2 = .ptr 1 0 0 ∧ lookA r.2.env 3 = .ptr 2 0 0 ∧
      r.2.mem = [some (4, [cpBox x]), some (4, [.agg [.nil, .nil, .nil, .nil]]), some (4, [.agg [.own 1 (x.used.map bv), .own 1 (x.taken.map bv), .sl 3 0 x.inos.length, .nil]]), some (3, x.inos.map inoO)]) ?step ?last () trivial
  case step =>
    intro i _ p hp hi _
    refine ⟨?_, trivial⟩
    have hi1 : (i : Int) < (x.inos.length : Int) := by omega
    have gp : (x.inos.map ino).getD i .undef = .agg [.int .i64 p.kind, .int .i64 p.links, .ro 1 (p.ptrs.map iv)] := gD_map hp
    have e1 := e142 p (h.ino p (List.mem_of_getElem? hp))
    unfold ino inoO at e1
    obtain ⟨M, hM, ml, mi, ms, mt, ma⟩ := snoc_facts inoO_cool hp
    unfold inoO at ma
    have htk : (List.map iv p.ptrs).take p.ptrs.length = List.map iv p.ptrs := List.take_of_length_le (by simp)
    have hap : (i + 1) * 40 ≤ 140737488355328 := by omega
    unfold cpBox
    simp only [hM]
    simp only [XG, L158_3, h158_3, go_sem, seval, bnd_ite, hi1, gp, e1, htk, ml, mi, ms, mt, ma, hap, Int.natCast_nonneg, w_i64 ((i : Int) + 1) (by omega)]
    rfl
  case last =>
    intro _ _
    unfold cpBox
    simp only [XG, L158_3, h158_3, go_sem, seval, bnd_ite, Int.lt_irrefl, decide_false]
    exact .mk (by simp) ⟨rfl, rfl, rfl, rfl, rfl⟩
theorem in158b (x : Dsk) (h : x.sm) : ∃ r, XL T 0 H158_8 L158_8 ⟨[(1, .ptr 0 0 0), (2, .ptr 1 0 0), (3, .ptr 2 0 0), (5, .int .i64 0)],
      [some (4, [cpBox x]), some (4, [.agg [.nil, .nil, .nil, .nil]]), some (4, [.agg [.own 1 (x.used.map bv), .own 1 (x.taken.map bv), .own 3 (x.inos.map inoO), .sl 3 0 0]]), some (3, [])]⟩ = some r ∧
    (r.1 = .exit 2 ∧ lookA r.2.env 2 = .ptr 1 0 0 ∧ lookA r.2.env 3 = .ptr 2 0 0 ∧
      r.2.mem = [some (4, [cpBox x]), some (4, [.agg [.nil, .nil, .nil, .nil]]), some (4, [.agg [.own 1 (x.used.map bv), .own 1 (x.taken.map bv), .own 3 (x.inos.map inoO), .sl 3 0 x.blks.length]]), some (3, x.blks.map blkO)]) := by
  have hl := h.blks
  refine XL_each x.blks (fun (_ : Unit) _ => ()) (fun i _ => ⟨[(1, .ptr 0 0 0), (2, .ptr 1 0 0), (3, .ptr 2 0 0), (5, .int .i64 (i : Nat))],
      [some (4, [cpBox x]), some (4, [.agg [.nil, .nil, .nil, .nil]]), some (4, [.agg [.own 1 (x.used.map bv), .own 1 (x.taken.map bv), .own 3 (x.inos.map inoO), .sl 3 0 i]]), some (3, (x.blks.take i).map blkO)]⟩) (fun _ _ => True)
    (fun _ r => r.1 = .exit 2 ∧ lookA r.2.env 2 = .ptr 1 0 0 ∧ lookA r.2.env 3 = .ptr 2 0 0 ∧
      r.2.mem = [some (4, [cpBox x]), some (4, [.agg [.nil, .nil, .nil, .nil]]), some (4, [.agg [.own 1 (x.used.map bv), .own 1 (x.taken.map bv), .own 3 (x.inos.map inoO), .sl 3 0 x.blks.length]]), some (3, x.blks.map blkO)]) ?step ?last () trivial
  case step =>
    intro i _ p hp hi _
    refine ⟨?_, trivial⟩
    have hi1 : (i : Int) < (x.blks.length : Int) := by omega
    have gp : (x.blks.map blk).getD i .undef = .agg [.bool p.dir, .ro 2 (p.slots.map slt), .str p.text] := gD_map hp
    have e1 := e147 p (h.blk p (List.mem_of_getElem? hp))
    unfold blk blkO at e1
    obtain ⟨M, hM, ml, mi, ms, mt, ma⟩ := snoc_facts blkO_cool hp
    unfold blkO at ma
    have htk : (List.map slt p.slots).take p.slots.length = List.map slt p.slots := List.take_of_length_le (by simp)
    have hap : (i + 1) * 48 ≤ 140737488355328 := by omega
    unfold cpBox
    simp only [hM]
    simp only [XG, L158_8, h158_8, go_sem, seval, bnd_ite, hi1, gp, e1, htk, ml, mi, ms, mt, ma, hap, Int.natCast_nonneg, w_i64 ((i : Int) + 1) (by omega)]
    rfl
  case last =>
    intro _ _
    unfold cpBox
    simp only [XG, L158_8, h158_8, go_sem, seval, bnd_ite, Int.lt_irrefl, decide_false]
    exact .mk (by simp) ⟨rfl, rfl, rfl, rfl⟩
theorem e158 (x : Dsk) (h : x.sm) : E T 158 [dsk x] [] = some (dskO x, []) := by
  rw [E_eq t158 (Nat.le_of_ble_eq_true rfl)]
  have e1 := e233 x.used x.taken h.used h.taken
  obtain ⟨⟨y, e, m⟩, k1, kx, k2, k3, k4, km⟩ := in158a x h
  simp only at kx k2 k3 k4 km; subst kx; subst km
  obtain ⟨⟨y, e', m⟩, l1, lx, l2, l3, lm⟩ := in158b x h
  simp only at lx l2 l3 lm; subst lx; subst lm
  unfold cpBox at k1 l1
  have t1 : (x.used.map bv).take x.used.length = x.used.map bv := List.take_of_length_le (by simp)
  have t2 : (x.taken.map bv).take x.taken.length = x.taken.map bv := List.take_of_length_le (by simp)
  have t3 : (x.inos.map inoO).take x.inos.length = x.inos.map inoO := List.take_of_length_le (by simp)
  have t4 : (x.blks.map blkO).take x.blks.length = x.blks.map blkO := List.take_of_length_le (by simp)
  simp only [dsk, F158, cpBox, h158_3, h158_8, go_sem, seval, bnd_ite, e1, k1, k2, k3, k4, l1, l2, l3, dskO, t1, t2, t3, t4]
end Go.Proofs.Ytaaajjinpppgeaa

/- The code of some functions, as the evaluator reads it (printed by a program of ours), checked against the program. Own work; no condition. -/
set_option linter.unusedVariables false
set_option linter.unusedSimpArgs false
set_option linter.unusedSectionVars false
namespace Go.Proofs.Ytaaajjinpppgeaa
open Go Go.Abs
set_option maxRecDepth 100000
-- laws.markDepS
-- laws.heldDepS
-- laws.markMem
def F51 : EF := ⟨(.seq (.region [(.op (.box 7) [(.tmp 0)] (some 2) true), (.op .mv [(.const (.int .i64 0))] (some 4) true)] false) (.seq (.region [(.op (.faddr 0) [(.tmp 2)] (some 5) true), (.op (.loadN 4) [(.tmp 5)] (some 6) true), (.op .mv [(.tmp 1)] (some 7) true), (.sc (.const (.fn 63 [])) [(.tmp 6), (.tmp 7)] (some 8) true), (.op .mv [(.tmp 8)] (some 1) true)] false) (.seq (.region [(.op (.faddr 4) [(.tmp 2)] (some 9) true), (.op .load1 [(.tmp 9)] (some 10) true), (.op .mv [(.tmp 1)] (some 11) true), (.sc (.const (.fn 145 [])) [(.tmp 10), (.tmp 11)] (some 12) true), (.op .mv [(.tmp 12)] (some 1) true)] false) (.seq (.region [(.op (.faddr 5) [(.tmp 2)] (some 13) true), (.op .load1 [(.tmp 13)] (some 14) true), (.op .mv [(.tmp 1)] (some 15) true), (.sc (.const (.fn 146 [])) [(.tmp 14), (.tmp 15)] (some 16) true), (.op .mv [(.tmp 16)] (some 1) true)] false) (.seq (.region [(.op .mv [(.tmp 1)] (some 17) true), (.op .mv [(.tmp 17)] (some 4) true)] false) .ret))))), [(.tmp 4)], 18, .one, none⟩
theorem t51 : T 51 = some F51 := tab Try.func51 (by kernel_rfl) rfl
-- laws.heldMem
end Go.Proofs.Ytaaajjinpppgeaa

/- The code of some functions, as the evaluator reads it (printed by a program of ours), checked against the program. Own work; no condition. -/
set_option linter.unusedVariables false
set_option linter.unusedSimpArgs false
set_option linter.unusedSectionVars false
namespace Go.Proofs.Ytaaajjinpppgeaa
open Go Go.Abs
set_option maxRecDepth 100000
def H161_2 : List Vw := [.tidy [0, 1, 5] [(0, none), (1, none), (5, none)]]
theorem h161_2 (b : Nat) (s : St) : vwL b H161_2 s = vwL b [.tidy [0, 1, 5] [(0, none), (1, none), (5, none)]] s := rfl
def L161_2 : EC := (.seq (.seq (.region [(.op .mv [(.tmp 5)] (some 6) true), (.op .mv [(.tmp 0)] (some 7) true), (.op .len [(.tmp 7)] (some 8) true), (.op (.bin .lss) [(.tmp 6), (.tmp 8)] (some 9) true)] false) (.cond (.tmp 9) .skip (.exit 0))) (.seq (.block 1 (.seq (.region [(.op .mv [(.tmp 0)] (some 12) true), (.op .mv [(.tmp 5)] (some 13) true), (.op .mv [(.tmp 1)] (some 14) true), (.op (.iaddr 3) [(.tmp 12), (.tmp 13)] (some 15) true), (.op (.faddr 0) [(.tmp 15)] (some 16) true), (.op .store1 [(.tmp 16), (.tmp 14)] none true)] false) (.seq (.region [(.op .mv [(.tmp 1)] (some 17) true), (.op (.bin .add) [(.tmp 17), (.const (.int .i64 1))] (some 18) true), (.op .mv [(.tmp 18)] (some 1) true)] false) (.seq (.region [(.op .mv [(.tmp 0)] (some 19) true), (.op .mv [(.tmp 5)] (some 20) true), (.op .mv [(.tmp 1)] (some 21) true), (.op (.iaddr 3) [(.tmp 19), (.tmp 20)] (some 22) true), (.op (.faddr 1) [(.tmp 22)] (some 23) true), (.op .store1 [(.tmp 23), (.tmp 21)] none true)] false) (.seq (.region [(.op .mv [(.tmp 1)] (some 24) true), (.op (.bin .add) [(.tmp 24), (.const (.int .i64 1))] (some 25) true), (.op .mv [(.tmp 25)] (some 1) true)] false) (.view [.opn 0 none (some (5, 0)) 2 1] (.region [(.op .mv [(.tmp 0)] (some 26) true), (.op .mv [(.tmp 5)] (some 27) true), (.op (.iaddr 3) [(.tmp 26), (.tmp 27)] (some 28) true), (.op (.faddr 2) [(.tmp 28)] (some 29) true), (.op .load1 [(.tmp 29)] (some 30) true), (.op .mv [(.tmp 1)] (some 31) true), (.sc (.const (.fn 100 [])) [(.tmp 30), (.tmp 31)] (some 32) true), (.op .mv [(.tmp 32)] (some 1) true)] false))))))) (.region [(.op .mv [(.tmp 5)] (some 10) true), (.op (.bin .add) [(.tmp 10), (.const (.int .i64 1))] (some 11) true), (.op .mv [(.tmp 11)] (some 5) true)] false)))
-- laws.markInodeS
def F161 : EF := ⟨(.seq (.region [(.op .mv [(.const (.int .i64 0))] (some 4) true)] false) (.seq (.seq (.region [(.op .mv [(.const (.int .i64 0))] (some 5) true)] false) (.block 0 (.loop H161_2 L161_2))) (.seq (.region [(.op .mv [(.tmp 1)] (some 33) true), (.op .mv [(.tmp 33)] (some 4) true)] false) .ret))), [(.tmp 4)], 34, .one, none⟩
theorem t161 : T 161 = some F161 := tab Try.func161 (by kernel_rfl) rfl
def H162_2 : List Vw := [.tidy [0, 1, 5] [(0, none), (1, none), (5, none)]]
theorem h162_2 (b : Nat) (s : St) : vwL b H162_2 s = vwL b [.tidy [0, 1, 5] [(0, none), (1, none), (5, none)]] s := rfl
def L162_2 : EC := (.seq (.seq (.region [(.op .mv [(.tmp 5)] (some 6) true), (.op .mv [(.tmp 0)] (some 7) true), (.op .len [(.tmp 7)] (some 8) true), (.op (.bin .lss) [(.tmp 6), (.tmp 8)] (some 9) true)] false) (.cond (.tmp 9) .skip (.exit 0))) (.seq (.block 1 (.seq (.region [(.op .mv [(.tmp 0)] (some 12) true), (.op .mv [(.tmp 5)] (some 13) true), (.op .mv [(.tmp 1)] (some 14) true), (.op (.bin .rem) [(.tmp 14), (.const (.int .i64 3))] (some 15) true), (.op (.bin .eql) [(.tmp 15), (.const (.int .i64 0))] (some 16) true), (.op (.iaddr 3) [(.tmp 12), (.tmp 13)] (some 17) true), (.op (.faddr 0) [(.tmp 17)] (some 18) true), (.op .store1 [(.tmp 18), (.tmp 16)] none true)] false) (.seq (.region [(.op .mv [(.tmp 1)] (some 19) true), (.op (.bin .add) [(.tmp 19), (.const (.int .i64 1))] (some 20) true), (.op .mv [(.tmp 20)] (some 1) true)] false) (.seq (.view [.opn 0 none (some (5, 0)) 1 2] (.region [(.op .mv [(.tmp 0)] (some 21) true), (.op .mv [(.tmp 5)] (some 22) true), (.op (.iaddr 3) [(.tmp 21), (.tmp 22)] (some 23) true), (.op (.faddr 1) [(.tmp 23)] (some 24) true), (.op .load1 [(.tmp 24)] (some 25) true), (.op .mv [(.tmp 1)] (some 26) true), (.sc (.const (.fn 151 [])) [(.tmp 25), (.tmp 26)] (some 27) true), (.op .mv [(.tmp 27)] (some 1) true)] false)) (.seq (.region [(.op .mv [(.tmp 0)] (some 28) true), (.op .mv [(.tmp 5)] (some 29) true), (.op .mv [(.tmp 1)] (some 30) true), (.pc (.const (.fn 207 [])) [(.tmp 30)] (some 31) true), (.op (.iaddr 3) [(.tmp 28), (.tmp 29)] (some 32) true), (.op (.faddr 2) [(.tmp 32)] (some 33) true), (.op .store1 [(.tmp 33), (.tmp 31)] none true)] false) (.region [(.op .mv [(.tmp 1)] (some 34) true), (.op (.bin .add) [(.tmp 34), (.const (.int .i64 1))] (some 35) true), (.op .mv [(.tmp 35)] (some 1) true)] false)))))) (.region [(.op .mv [(.tmp 5)] (some 10) true), (.op (.bin .add) [(.tmp 10), (.const (.int .i64 1))] (some 11) true), (.op .mv [(.tmp 11)] (some 5) true)] false)))
-- laws.markBlockS
def F162 : EF := ⟨(.seq (.region [(.op .mv [(.const (.int .i64 0))] (some 4) true)] false) (.seq (.seq (.region [(.op .mv [(.const (.int .i64 0))] (some 5) true)] false) (.block 0 (.loop H162_2 L162_2))) (.seq (.region [(.op .mv [(.tmp 1)] (some 36) true), (.op .mv [(.tmp 36)] (some 4) true)] false) .ret))), [(.tmp 4)], 37, .one, none⟩
theorem t162 : T 162 = some F162 := tab Try.func162 (by kernel_rfl) rfl
def H167_2 : List Vw := [.tidy [0, 1, 5] [(0, none), (1, none), (5, none)]]
theorem h167_2 (b : Nat) (s : St) : vwL b H167_2 s = vwL b [.tidy [0, 1, 5] [(0, none), (1, none), (5, none)]] s := rfl
def L167_2 : EC := (.seq (.seq (.region [(.op .mv [(.tmp 5)] (some 6) true), (.op .mv [(.tmp 0)] (some 7) true), (.op .len [(.tmp 7)] (some 8) true), (.op (.bin .lss) [(.tmp 6), (.tmp 8)] (some 9) true)] false) (.cond (.tmp 9) .skip (.exit 0))) (.seq (.block 1 (.seq (.seq (.region [(.op .mv [(.tmp 0)] (some 12) true), (.op .mv [(.tmp 5)] (some 13) true), (.op (.iaddr 3) [(.tmp 12), (.tmp 13)] (some 14) true), (.op (.faddr 0) [(.tmp 14)] (some 15) true), (.op .load1 [(.tmp 15)] (some 16) true), (.op .mv [(.tmp 1)] (some 17) true), (.op (.bin .neq) [(.tmp 16), (.tmp 17)] (some 18) true)] false) (.cond (.tmp 18) (.seq (.region [(.op .mv [(.const (.int .i64 (-1)))] (some 4) true)] false) .ret) .skip)) (.seq (.region [(.op .mv [(.tmp 1)] (some 19) true), (.op (.bin .add) [(.tmp 19), (.const (.int .i64 1))] (some 20) true), (.op .mv [(.tmp 20)] (some 1) true)] false) (.seq (.seq (.region [(.op .mv [(.tmp 0)] (some 21) true), (.op .mv [(.tmp 5)] (some 22) true), (.op (.iaddr 3) [(.tmp 21), (.tmp 22)] (some 23) true), (.op (.faddr 1) [(.tmp 23)] (some 24) true), (.op .load1 [(.tmp 24)] (some 25) true), (.op .mv [(.tmp 1)] (some 26) true), (.op (.bin .neq) [(.tmp 25), (.tmp 26)] (some 27) true)] false) (.cond (.tmp 27) (.seq (.region [(.op .mv [(.const (.int .i64 (-1)))] (some 4) true)] false) .ret) .skip)) (.seq (.region [(.op .mv [(.tmp 1)] (some 28) true), (.op (.bin .add) [(.tmp 28), (.const (.int .i64 1))] (some 29) true), (.op .mv [(.tmp 29)] (some 1) true)] false) (.seq (.region [(.op .mv [(.tmp 0)] (some 30) true), (.op .mv [(.tmp 5)] (some 31) true), (.op (.iaddr 3) [(.tmp 30), (.tmp 31)] (some 32) true), (.op (.faddr 2) [(.tmp 32)] (some 33) true), (.op .load1 [(.tmp 33)] (some 34) true), (.op .mv [(.tmp 1)] (some 35) true), (.pc (.const (.fn 101 [])) [(.tmp 34), (.tmp 35)] (some 36) true), (.op .mv [(.tmp 36)] (some 1) true)] false) (.seq (.region [(.op .mv [(.tmp 1)] (some 37) true), (.op (.bin .lss) [(.tmp 37), (.const (.int .i64 0))] (some 38) true)] false) (.cond (.tmp 38) (.seq (.region [(.op .mv [(.const (.int .i64 (-1)))] (some 4) true)] false) .ret) .skip)))))))) (.region [(.op .mv [(.tmp 5)] (some 10) true), (.op (.bin .add) [(.tmp 10), (.const (.int .i64 1))] (some 11) true), (.op .mv [(.tmp 11)] (some 5) true)] false)))
-- laws.heldInodeS
def F167 : EF := ⟨(.seq (.region [(.op .mv [(.const (.int .i64 0))] (some 4) true)] false) (.seq (.seq (.region [(.op .mv [(.const (.int .i64 0))] (some 5) true)] false) (.block 0 (.loop H167_2 L167_2))) (.seq (.region [(.op .mv [(.tmp 1)] (some 39) true), (.op .mv [(.tmp 39)] (some 4) true)] false) .ret))), [(.tmp 4)], 40, .one, none⟩
theorem t167 : T 167 = some F167 := tab Try.func167 (by kernel_rfl) rfl
def H168_2 : List Vw := [.tidy [0, 1, 5] [(0, none), (1, none), (5, none)]]
theorem h168_2 (b : Nat) (s : St) : vwL b H168_2 s = vwL b [.tidy [0, 1, 5] [(0, none), (1, none), (5, none)]] s := rfl
def L168_2 : EC := (.seq (.seq (.region [(.op .mv [(.tmp 5)] (some 6) true), (.op .mv [(.tmp 0)] (some 7) true), (.op .len [(.tmp 7)] (some 8) true), (.op (.bin .lss) [(.tmp 6), (.tmp 8)] (some 9) true)] false) (.cond (.tmp 9) .skip (.exit 0))) (.seq (.block 1 (.seq (.seq (.region [(.op .mv [(.tmp 0)] (some 12) true), (.op .mv [(.tmp 5)] (some 13) true), (.op (.iaddr 3) [(.tmp 12), (.tmp 13)] (some 14) true), (.op (.faddr 0) [(.tmp 14)] (some 15) true), (.op .load1 [(.tmp 15)] (some 16) true), (.op .mv [(.tmp 1)] (some 17) true), (.op (.bin .rem) [(.tmp 17), (.const (.int .i64 3))] (some 18) true), (.op (.bin .eql) [(.tmp 18), (.const (.int .i64 0))] (some 19) true), (.op (.binB true) [(.tmp 16), (.tmp 19)] (some 20) true)] false) (.cond (.tmp 20) (.seq (.region [(.op .mv [(.const (.int .i64 (-1)))] (some 4) true)] false) .ret) .skip)) (.seq (.region [(.op .mv [(.tmp 1)] (some 21) true), (.op (.bin .add) [(.tmp 21), (.const (.int .i64 1))] (some 22) true), (.op .mv [(.tmp 22)] (some 1) true)] false) (.seq (.region [(.op .mv [(.tmp 0)] (some 23) true), (.op .mv [(.tmp 5)] (some 24) true), (.op (.iaddr 3) [(.tmp 23), (.tmp 24)] (some 25) true), (.op (.faddr 1) [(.tmp 25)] (some 26) true), (.op .load1 [(.tmp 26)] (some 27) true), (.op .mv [(.tmp 1)] (some 28) true), (.pc (.const (.fn 152 [])) [(.tmp 27), (.tmp 28)] (some 29) true), (.op .mv [(.tmp 29)] (some 1) true)] false) (.seq (.seq (.region [(.op .mv [(.tmp 1)] (some 30) true), (.op (.bin .lss) [(.tmp 30), (.const (.int .i64 0))] (some 31) true)] false) (.cond (.tmp 31) (.seq (.region [(.op .mv [(.const (.int .i64 (-1)))] (some 4) true)] false) .ret) .skip)) (.seq (.seq (.region [(.op .mv [(.tmp 0)] (some 32) false), (.op .mv [(.tmp 5)] (some 33) false), (.op (.iaddr 3) [(.tmp 32), (.tmp 33)] (some 34) false), (.op (.faddr 2) [(.tmp 34)] (some 35) false), (.op .load1 [(.tmp 35)] (some 36) false), (.op .mv [(.tmp 1)] (some 37) false), (.pc (.const (.fn 207 [])) [(.tmp 37)] (some 38) false), (.op (.bin .neq) [(.tmp 36), (.tmp 38)] (some 39) true)] true) (.cond (.tmp 39) (.seq (.region [(.op .mv [(.const (.int .i64 (-1)))] (some 4) true)] false) .ret) .skip)) (.region [(.op .mv [(.tmp 1)] (some 40) true), (.op (.bin .add) [(.tmp 40), (.const (.int .i64 1))] (some 41) true), (.op .mv [(.tmp 41)] (some 1) true)] false))))))) (.region [(.op .mv [(.tmp 5)] (some 10) true), (.op (.bin .add) [(.tmp 10), (.const (.int .i64 1))] (some 11) true), (.op .mv [(.tmp 11)] (some 5) true)] false)))
-- laws.heldBlockS
def F168 : EF := ⟨(.seq (.region [(.op .mv [(.const (.int .i64 0))] (some 4) true)] false) (.seq (.seq (.region [(.op .mv [(.const (.int .i64 0))] (some 5) true)] false) (.block 0 (.loop H168_2 L168_2))) (.seq (.region [(.op .mv [(.tmp 1)] (some 42) true), (.op .mv [(.tmp 42)] (some 4) true)] false) .ret))), [(.tmp 4)], 43, .one, none⟩
theorem t168 : T 168 = some F168 := tab Try.func168 (by kernel_rfl) rfl
-- laws.markBits
def F160 : EF := ⟨(.seq (.region [(.op (.box 2) [(.tmp 0)] (some 2) true), (.op .mv [(.const (.int .i64 0))] (some 4) true)] false) (.seq (.region [(.op (.faddr 0) [(.tmp 2)] (some 5) true), (.op .load1 [(.tmp 5)] (some 6) true), (.op .mv [(.tmp 1)] (some 7) true), (.sc (.const (.fn 145 [])) [(.tmp 6), (.tmp 7)] (some 8) true), (.op .mv [(.tmp 8)] (some 1) true)] false) (.seq (.region [(.op (.faddr 1) [(.tmp 2)] (some 9) true), (.op .load1 [(.tmp 9)] (some 10) true), (.op .mv [(.tmp 1)] (some 11) true), (.sc (.const (.fn 145 [])) [(.tmp 10), (.tmp 11)] (some 12) true), (.op .mv [(.tmp 12)] (some 1) true)] false) (.seq (.region [(.op .mv [(.tmp 1)] (some 13) true), (.op .mv [(.tmp 13)] (some 4) true)] false) .ret)))), [(.tmp 4)], 14, .one, none⟩
theorem t160 : T 160 = some F160 := tab Try.func160 (by kernel_rfl) rfl
-- laws.heldBits
def F166 : EF := ⟨(.seq (.region [(.op (.box 2) [(.tmp 0)] (some 2) true), (.op .mv [(.const (.int .i64 0))] (some 4) true)] false) (.seq (.region [(.op (.faddr 0) [(.tmp 2)] (some 5) true), (.op .load1 [(.tmp 5)] (some 6) true), (.op .mv [(.tmp 1)] (some 7) true), (.pc (.const (.fn 163 [])) [(.tmp 6), (.tmp 7)] (some 8) true), (.op .mv [(.tmp 8)] (some 1) true)] false) (.seq (.seq (.region [(.op .mv [(.tmp 1)] (some 9) true), (.op (.bin .lss) [(.tmp 9), (.const (.int .i64 0))] (some 10) true)] false) (.cond (.tmp 10) (.seq (.region [(.op .mv [(.const (.int .i64 (-1)))] (some 4) true)] false) .ret) .skip)) (.seq (.region [(.op (.faddr 1) [(.tmp 2)] (some 11) true), (.op .load1 [(.tmp 11)] (some 12) true), (.op .mv [(.tmp 1)] (some 13) true), (.pc (.const (.fn 163 [])) [(.tmp 12), (.tmp 13)] (some 14) true), (.op .mv [(.tmp 14)] (some 1) true)] false) (.seq (.seq (.region [(.op .mv [(.tmp 1)] (some 15) true), (.op (.bin .lss) [(.tmp 15), (.const (.int .i64 0))] (some 16) true)] false) (.cond (.tmp 16) (.seq (.region [(.op .mv [(.const (.int .i64 (-1)))] (some 4) true)] false) .ret) .skip)) (.seq (.region [(.op .mv [(.tmp 1)] (some 17) true), (.op .mv [(.tmp 17)] (some 4) true)] false) .ret)))))), [(.tmp 4)], 18, .one, none⟩
theorem t166 : T 166 = some F166 := tab Try.func166 (by kernel_rfl) rfl
-- laws.markDisk
def F63 : EF := ⟨(.seq (.region [(.op (.box 4) [(.tmp 0)] (some 2) true), (.op .mv [(.const (.int .i64 0))] (some 4) true)] false) (.seq (.region [(.op (.faddr 0) [(.tmp 2)] (some 5) true), (.op (.loadN 2) [(.tmp 5)] (some 6) true), (.op .mv [(.tmp 1)] (some 7) true), (.sc (.const (.fn 160 [])) [(.tmp 6), (.tmp 7)] (some 8) true), (.op .mv [(.tmp 8)] (some 1) true)] false) (.seq (.region [(.op (.faddr 2) [(.tmp 2)] (some 9) true), (.op .load1 [(.tmp 9)] (some 10) true), (.op .mv [(.tmp 1)] (some 11) true), (.sc (.const (.fn 161 [])) [(.tmp 10), (.tmp 11)] (some 12) true), (.op .mv [(.tmp 12)] (some 1) true)] false) (.seq (.region [(.op (.faddr 3) [(.tmp 2)] (some 13) true), (.op .load1 [(.tmp 13)] (some 14) true), (.op .mv [(.tmp 1)] (some 15) true), (.sc (.const (.fn 162 [])) [(.tmp 14), (.tmp 15)] (some 16) true), (.op .mv [(.tmp 16)] (some 1) true)] false) (.seq (.region [(.op .mv [(.tmp 1)] (some 17) true), (.op .mv [(.tmp 17)] (some 4) true)] false) .ret))))), [(.tmp 4)], 18, .one, none⟩
theorem t63 : T 63 = some F63 := tab Try.func63 (by kernel_rfl) rfl
-- laws.heldDisk
def F67 : EF := ⟨(.seq (.region [(.op (.box 4) [(.tmp 0)] (some 2) true), (.op .mv [(.const (.int .i64 0))] (some 4) true)] false) (.seq (.region [(.op (.faddr 0) [(.tmp 2)] (some 5) true), (.op (.loadN 2) [(.tmp 5)] (some 6) true), (.op .mv [(.tmp 1)] (some 7) true), (.pc (.const (.fn 166 [])) [(.tmp 6), (.tmp 7)] (some 8) true), (.op .mv [(.tmp 8)] (some 1) true)] false) (.seq (.seq (.region [(.op .mv [(.tmp 1)] (some 9) true), (.op (.bin .lss) [(.tmp 9), (.const (.int .i64 0))] (some 10) true)] false) (.cond (.tmp 10) (.seq (.region [(.op .mv [(.const (.int .i64 (-1)))] (some 4) true)] false) .ret) .skip)) (.seq (.region [(.op (.faddr 2) [(.tmp 2)] (some 11) true), (.op .load1 [(.tmp 11)] (some 12) true), (.op .mv [(.tmp 1)] (some 13) true), (.pc (.const (.fn 167 [])) [(.tmp 12), (.tmp 13)] (some 14) true), (.op .mv [(.tmp 14)] (some 1) true)] false) (.seq (.seq (.region [(.op .mv [(.tmp 1)] (some 15) true), (.op (.bin .lss) [(.tmp 15), (.const (.int .i64 0))] (some 16) true)] false) (.cond (.tmp 16) (.seq (.region [(.op .mv [(.const (.int .i64 (-1)))] (some 4) true)] false) .ret) .skip)) (.seq (.region [(.op (.faddr 3) [(.tmp 2)] (some 17) true), (.op .load1 [(.tmp 17)] (some 18) true), (.op .mv [(.tmp 1)] (some 19) true), (.pc (.const (.fn 168 [])) [(.tmp 18), (.tmp 19)] (some 20) true), (.op .mv [(.tmp 20)] (some 1) true)] false) (.seq (.seq (.region [(.op .mv [(.tmp 1)] (some 21) true), (.op (.bin .lss) [(.tmp 21), (.const (.int .i64 0))] (some 22) true)] false) (.cond (.tmp 22) (.seq (.region [(.op .mv [(.const (.int .i64 (-1)))] (some 4) true)] false) .ret) .skip)) (.seq (.region [(.op .mv [(.tmp 1)] (some 23) true), (.op .mv [(.tmp 23)] (some 4) true)] false) .ret)))))))), [(.tmp 4)], 24, .one, none⟩
theorem t67 : T 67 = some F67 := tab Try.func67 (by kernel_rfl) rfl
end Go.Proofs.Ytaaajjinpppgeaa

/- The code of some functions, as the evaluator reads it (printed by a program of ours), checked against the program. Own work; no condition. -/
set_option linter.unusedVariables false
set_option linter.unusedSimpArgs false
set_option linter.unusedSectionVars false
namespace Go.Proofs.Ytaaajjinpppgeaa
open Go Go.Abs
set_option maxRecDepth 100000
def H207_4 : List Vw := [.tidy [0, 3] [(0, none), (3, none)]]
theorem h207_4 (b : Nat) (s : St) : vwL b H207_4 s = vwL b [.tidy [0, 3] [(0, none), (3, none)]] s := rfl
def L207_4 : EC := (.seq (.seq (.region [(.op .mv [(.tmp 0)] (some 6) true), (.op (.bin .gtr) [(.tmp 6), (.const (.int .i64 0))] (some 7) true)] false) (.cond (.tmp 7) .skip (.exit 0))) (.block 1 (.seq (.region [(.op .mv [(.tmp 0)] (some 8) true), (.op (.bin .rem) [(.tmp 8), (.const (.int .i64 10))] (some 9) true), (.op (.bin .add) [(.const (.int .i64 48)), (.tmp 9)] (some 10) true), (.op (.conv .u8) [(.tmp 10)] (some 11) true), (.op (.bslice 1 1 (.int .u8 0) [0]) [(.tmp 11)] (some 12) true), (.op .b2s [(.tmp 12)] (some 13) true), (.op .mv [(.tmp 3)] (some 14) true), (.op (.bin .add) [(.tmp 13), (.tmp 14)] (some 15) true), (.op .mv [(.tmp 15)] (some 3) true)] false) (.region [(.op .mv [(.tmp 0)] (some 16) true), (.op (.bin .quo) [(.tmp 16), (.const (.int .i64 10))] (some 17) true), (.op .mv [(.tmp 17)] (some 0) true)] false))))
-- laws.markText
def F207 : EF := ⟨(.seq (.region [(.op .mv [(.const (.str ⟨#[]⟩))] (some 2) true)] false) (.seq (.seq (.region [(.op .mv [(.tmp 0)] (some 4) true), (.op (.bin .leq) [(.tmp 4), (.const (.int .i64 0))] (some 5) true)] false) (.cond (.tmp 5) (.seq (.region [(.op .mv [(.const (.str ⟨#[109, 48]⟩))] (some 2) true)] false) .ret) .skip)) (.seq (.region [(.op .mv [(.const (.str ⟨#[]⟩))] (some 3) true)] false) (.seq (.block 0 (.loop H207_4 L207_4)) (.seq (.region [(.op .mv [(.tmp 3)] (some 18) true), (.op (.bin .add) [(.const (.str ⟨#[109]⟩)), (.tmp 18)] (some 19) true), (.op .mv [(.tmp 19)] (some 2) true)] false) .ret))))), [(.tmp 2)], 20, .one, none⟩
theorem t207 : T 207 = some F207 := tab Try.func207 (by kernel_rfl) rfl
def H151_2 : List Vw := [.tidy [0, 1, 5] [(0, none), (1, none), (5, none)]]
theorem h151_2 (b : Nat) (s : St) : vwL b H151_2 s = vwL b [.tidy [0, 1, 5] [(0, none), (1, none), (5, none)]] s := rfl
def L151_2 : EC := (.seq (.seq (.region [(.op .mv [(.tmp 5)] (some 6) true), (.op .mv [(.tmp 0)] (some 7) true), (.op .len [(.tmp 7)] (some 8) true), (.op (.bin .lss) [(.tmp 6), (.tmp 8)] (some 9) true)] false) (.cond (.tmp 9) .skip (.exit 0))) (.seq (.block 1 (.seq (.region [(.op .mv [(.tmp 0)] (some 12) true), (.op .mv [(.tmp 5)] (some 13) true), (.op .mv [(.tmp 1)] (some 14) true), (.pc (.const (.fn 207 [])) [(.tmp 14)] (some 15) true), (.op (.iaddr 2) [(.tmp 12), (.tmp 13)] (some 16) true), (.op (.faddr 0) [(.tmp 16)] (some 17) true), (.op .store1 [(.tmp 17), (.tmp 15)] none true)] false) (.seq (.region [(.op .mv [(.tmp 1)] (some 18) true), (.op (.bin .add) [(.tmp 18), (.const (.int .i64 1))] (some 19) true), (.op .mv [(.tmp 19)] (some 1) true)] false) (.seq (.region [(.op .mv [(.tmp 0)] (some 20) true), (.op .mv [(.tmp 5)] (some 21) true), (.op .mv [(.tmp 1)] (some 22) true), (.op (.iaddr 2) [(.tmp 20), (.tmp 21)] (some 23) true), (.op (.faddr 1) [(.tmp 23)] (some 24) true), (.op .store1 [(.tmp 24), (.tmp 22)] none true)] false) (.region [(.op .mv [(.tmp 1)] (some 25) true), (.op (.bin .add) [(.tmp 25), (.const (.int .i64 1))] (some 26) true), (.op .mv [(.tmp 26)] (some 1) true)] false))))) (.region [(.op .mv [(.tmp 5)] (some 10) true), (.op (.bin .add) [(.tmp 10), (.const (.int .i64 1))] (some 11) true), (.op .mv [(.tmp 11)] (some 5) true)] false)))
-- laws.markSlotS
def F151 : EF := ⟨(.seq (.region [(.op .mv [(.const (.int .i64 0))] (some 4) true)] false) (.seq (.seq (.region [(.op .mv [(.const (.int .i64 0))] (some 5) true)] false) (.block 0 (.loop H151_2 L151_2))) (.seq (.region [(.op .mv [(.tmp 1)] (some 27) true), (.op .mv [(.tmp 27)] (some 4) true)] false) .ret))), [(.tmp 4)], 28, .one, none⟩
theorem t151 : T 151 = some F151 := tab Try.func151 (by kernel_rfl) rfl
def H152_2 : List Vw := [.tidy [0, 1, 5] [(0, none), (1, none), (5, none)]]
theorem h152_2 (b : Nat) (s : St) : vwL b H152_2 s = vwL b [.tidy [0, 1, 5] [(0, none), (1, none), (5, none)]] s := rfl
def L152_2 : EC := (.seq (.seq (.region [(.op .mv [(.tmp 5)] (some 6) true), (.op .mv [(.tmp 0)] (some 7) true), (.op .len [(.tmp 7)] (some 8) true), (.op (.bin .lss) [(.tmp 6), (.tmp 8)] (some 9) true)] false) (.cond (.tmp 9) .skip (.exit 0))) (.seq (.block 1 (.seq (.seq (.region [(.op .mv [(.tmp 0)] (some 12) false), (.op .mv [(.tmp 5)] (some 13) false), (.op (.iaddr 2) [(.tmp 12), (.tmp 13)] (some 14) false), (.op (.faddr 0) [(.tmp 14)] (some 15) false), (.op .load1 [(.tmp 15)] (some 16) false), (.op .mv [(.tmp 1)] (some 17) false), (.pc (.const (.fn 207 [])) [(.tmp 17)] (some 18) false), (.op (.bin .neq) [(.tmp 16), (.tmp 18)] (some 19) true)] true) (.cond (.tmp 19) (.seq (.region [(.op .mv [(.const (.int .i64 (-1)))] (some 4) true)] false) .ret) .skip)) (.seq (.region [(.op .mv [(.tmp 1)] (some 20) true), (.op (.bin .add) [(.tmp 20), (.const (.int .i64 1))] (some 21) true), (.op .mv [(.tmp 21)] (some 1) true)] false) (.seq (.seq (.region [(.op .mv [(.tmp 0)] (some 22) true), (.op .mv [(.tmp 5)] (some 23) true), (.op (.iaddr 2) [(.tmp 22), (.tmp 23)] (some 24) true), (.op (.faddr 1) [(.tmp 24)] (some 25) true), (.op .load1 [(.tmp 25)] (some 26) true), (.op .mv [(.tmp 1)] (some 27) true), (.op (.bin .neq) [(.tmp 26), (.tmp 27)] (some 28) true)] false) (.cond (.tmp 28) (.seq (.region [(.op .mv [(.const (.int .i64 (-1)))] (some 4) true)] false) .ret) .skip)) (.region [(.op .mv [(.tmp 1)] (some 29) true), (.op (.bin .add) [(.tmp 29), (.const (.int .i64 1))] (some 30) true), (.op .mv [(.tmp 30)] (some 1) true)] false))))) (.region [(.op .mv [(.tmp 5)] (some 10) true), (.op (.bin .add) [(.tmp 10), (.const (.int .i64 1))] (some 11) true), (.op .mv [(.tmp 11)] (some 5) true)] false)))
-- laws.heldSlotS
def F152 : EF := ⟨(.seq (.region [(.op .mv [(.const (.int .i64 0))] (some 4) true)] false) (.seq (.seq (.region [(.op .mv [(.const (.int .i64 0))] (some 5) true)] false) (.block 0 (.loop H152_2 L152_2))) (.seq (.region [(.op .mv [(.tmp 1)] (some 31) true), (.op .mv [(.tmp 31)] (some 4) true)] false) .ret))), [(.tmp 4)], 32, .one, none⟩
theorem t152 : T 152 = some F152 := tab Try.func152 (by kernel_rfl) rfl
-- laws.markBlock
-- laws.heldBlock
-- laws.markInode
-- laws.heldInode
def F53 : EF := ⟨(.seq (.region [(.op (.box 3) [(.tmp 0)] (some 2) true), (.op .mv [(.const (.int .i64 0))] (some 4) true)] false) (.seq (.region [(.op (.faddr 2) [(.tmp 2)] (some 5) true), (.op .load1 [(.tmp 5)] (some 6) true), (.op .mv [(.tmp 1)] (some 7) true), (.pc (.const (.fn 101 [])) [(.tmp 6), (.tmp 7)] (some 8) true), (.op .mv [(.tmp 8)] (some 1) true)] false) (.seq (.seq (.region [(.op .mv [(.tmp 1)] (some 9) true), (.op (.bin .lss) [(.tmp 9), (.const (.int .i64 0))] (some 10) true)] false) (.cond (.tmp 10) (.seq (.region [(.op .mv [(.const (.int .i64 (-1)))] (some 4) true)] false) .ret) .skip)) (.seq (.region [(.op .mv [(.tmp 1)] (some 11) true), (.op .mv [(.tmp 11)] (some 4) true)] false) .ret)))), [(.tmp 4)], 12, .one, none⟩
theorem t53 : T 53 = some F53 := tab Try.func53 (by kernel_rfl) rfl
end Go.Proofs.Ytaaajjinpppgeaa

/- The code of some functions, as the evaluator reads it (printed by a program of ours), checked against the program. Own work; no condition. -/
set_option linter.unusedVariables false
set_option linter.unusedSimpArgs false
set_option linter.unusedSectionVars false
namespace Go.Proofs.Ytaaajjinpppgeaa
open Go Go.Abs
set_option maxRecDepth 100000
def H100_2 : List Vw := [.tidy [0, 1, 5] [(0, none), (1, none), (5, none)]]
theorem h100_2 (b : Nat) (s : St) : vwL b H100_2 s = vwL b [.tidy [0, 1, 5] [(0, none), (1, none), (5, none)]] s := rfl
def L100_2 : EC := (.seq (.seq (.region [(.op .mv [(.tmp 5)] (some 6) true), (.op .mv [(.tmp 0)] (some 7) true), (.op .len [(.tmp 7)] (some 8) true), (.op (.bin .lss) [(.tmp 6), (.tmp 8)] (some 9) true)] false) (.cond (.tmp 9) .skip (.exit 0))) (.seq (.block 1 (.seq (.region [(.op .mv [(.tmp 0)] (some 12) true), (.op .mv [(.tmp 5)] (some 13) true), (.op .mv [(.tmp 1)] (some 14) true), (.op (.iaddr 1) [(.tmp 12), (.tmp 13)] (some 15) true), (.op .store1 [(.tmp 15), (.tmp 14)] none true)] false) (.region [(.op .mv [(.tmp 1)] (some 16) true), (.op (.bin .add) [(.tmp 16), (.const (.int .i64 1))] (some 17) true), (.op .mv [(.tmp 17)] (some 1) true)] false))) (.region [(.op .mv [(.tmp 5)] (some 10) true), (.op (.bin .add) [(.tmp 10), (.const (.int .i64 1))] (some 11) true), (.op .mv [(.tmp 11)] (some 5) true)] false)))
-- laws.markIntS
def F100 : EF := ⟨(.seq (.region [(.op .mv [(.const (.int .i64 0))] (some 4) true)] false) (.seq (.seq (.region [(.op .mv [(.const (.int .i64 0))] (some 5) true)] false) (.block 0 (.loop H100_2 L100_2))) (.seq (.region [(.op .mv [(.tmp 1)] (some 18) true), (.op .mv [(.tmp 18)] (some 4) true)] false) .ret))), [(.tmp 4)], 19, .one, none⟩
theorem t100 : T 100 = some F100 := tab Try.func100 (by kernel_rfl) rfl
def H101_2 : List Vw := [.tidy [0, 1, 5] [(0, none), (1, none), (5, none)]]
theorem h101_2 (b : Nat) (s : St) : vwL b H101_2 s = vwL b [.tidy [0, 1, 5] [(0, none), (1, none), (5, none)]] s := rfl
def L101_2 : EC := (.seq (.seq (.region [(.op .mv [(.tmp 5)] (some 6) true), (.op .mv [(.tmp 0)] (some 7) true), (.op .len [(.tmp 7)] (some 8) true), (.op (.bin .lss) [(.tmp 6), (.tmp 8)] (some 9) true)] false) (.cond (.tmp 9) .skip (.exit 0))) (.seq (.block 1 (.seq (.seq (.region [(.op .mv [(.tmp 0)] (some 12) true), (.op .mv [(.tmp 5)] (some 13) true), (.op (.iaddr 1) [(.tmp 12), (.tmp 13)] (some 14) true), (.op .load1 [(.tmp 14)] (some 15) true), (.op .mv [(.tmp 1)] (some 16) true), (.op (.bin .neq) [(.tmp 15), (.tmp 16)] (some 17) true)] false) (.cond (.tmp 17) (.seq (.region [(.op .mv [(.const (.int .i64 (-1)))] (some 4) true)] false) .ret) .skip)) (.region [(.op .mv [(.tmp 1)] (some 18) true), (.op (.bin .add) [(.tmp 18), (.const (.int .i64 1))] (some 19) true), (.op .mv [(.tmp 19)] (some 1) true)] false))) (.region [(.op .mv [(.tmp 5)] (some 10) true), (.op (.bin .add) [(.tmp 10), (.const (.int .i64 1))] (some 11) true), (.op .mv [(.tmp 11)] (some 5) true)] false)))
-- laws.heldIntS
def F101 : EF := ⟨(.seq (.region [(.op .mv [(.const (.int .i64 0))] (some 4) true)] false) (.seq (.seq (.region [(.op .mv [(.const (.int .i64 0))] (some 5) true)] false) (.block 0 (.loop H101_2 L101_2))) (.seq (.region [(.op .mv [(.tmp 1)] (some 20) true), (.op .mv [(.tmp 20)] (some 4) true)] false) .ret))), [(.tmp 4)], 21, .one, none⟩
theorem t101 : T 101 = some F101 := tab Try.func101 (by kernel_rfl) rfl
def H145_2 : List Vw := [.tidy [0, 1, 5] [(0, none), (1, none), (5, none)]]
theorem h145_2 (b : Nat) (s : St) : vwL b H145_2 s = vwL b [.tidy [0, 1, 5] [(0, none), (1, none), (5, none)]] s := rfl
def L145_2 : EC := (.seq (.seq (.region [(.op .mv [(.tmp 5)] (some 6) true), (.op .mv [(.tmp 0)] (some 7) true), (.op .len [(.tmp 7)] (some 8) true), (.op (.bin .lss) [(.tmp 6), (.tmp 8)] (some 9) true)] false) (.cond (.tmp 9) .skip (.exit 0))) (.seq (.block 1 (.seq (.region [(.op .mv [(.tmp 0)] (some 12) true), (.op .mv [(.tmp 5)] (some 13) true), (.op .mv [(.tmp 1)] (some 14) true), (.op (.bin .rem) [(.tmp 14), (.const (.int .i64 3))] (some 15) true), (.op (.bin .eql) [(.tmp 15), (.const (.int .i64 0))] (some 16) true), (.op (.iaddr 1) [(.tmp 12), (.tmp 13)] (some 17) true), (.op .store1 [(.tmp 17), (.tmp 16)] none true)] false) (.region [(.op .mv [(.tmp 1)] (some 18) true), (.op (.bin .add) [(.tmp 18), (.const (.int .i64 1))] (some 19) true), (.op .mv [(.tmp 19)] (some 1) true)] false))) (.region [(.op .mv [(.tmp 5)] (some 10) true), (.op (.bin .add) [(.tmp 10), (.const (.int .i64 1))] (some 11) true), (.op .mv [(.tmp 11)] (some 5) true)] false)))
-- laws.markBoolS
def F145 : EF := ⟨(.seq (.region [(.op .mv [(.const (.int .i64 0))] (some 4) true)] false) (.seq (.seq (.region [(.op .mv [(.const (.int .i64 0))] (some 5) true)] false) (.block 0 (.loop H145_2 L145_2))) (.seq (.region [(.op .mv [(.tmp 1)] (some 20) true), (.op .mv [(.tmp 20)] (some 4) true)] false) .ret))), [(.tmp 4)], 21, .one, none⟩
theorem t145 : T 145 = some F145 := tab Try.func145 (by kernel_rfl) rfl
def H163_2 : List Vw := [.tidy [0, 1, 5] [(0, none), (1, none), (5, none)]]
theorem h163_2 (b : Nat) (s : St) : vwL b H163_2 s = vwL b [.tidy [0, 1, 5] [(0, none), (1, none), (5, none)]] s := rfl
def L163_2 : EC := (.seq (.seq (.region [(.op .mv [(.tmp 5)] (some 6) true), (.op .mv [(.tmp 0)] (some 7) true), (.op .len [(.tmp 7)] (some 8) true), (.op (.bin .lss) [(.tmp 6), (.tmp 8)] (some 9) true)] false) (.cond (.tmp 9) .skip (.exit 0))) (.seq (.block 1 (.seq (.seq (.region [(.op .mv [(.tmp 0)] (some 12) true), (.op .mv [(.tmp 5)] (some 13) true), (.op (.iaddr 1) [(.tmp 12), (.tmp 13)] (some 14) true), (.op .load1 [(.tmp 14)] (some 15) true), (.op .mv [(.tmp 1)] (some 16) true), (.op (.bin .rem) [(.tmp 16), (.const (.int .i64 3))] (some 17) true), (.op (.bin .eql) [(.tmp 17), (.const (.int .i64 0))] (some 18) true), (.op (.binB true) [(.tmp 15), (.tmp 18)] (some 19) true)] false) (.cond (.tmp 19) (.seq (.region [(.op .mv [(.const (.int .i64 (-1)))] (some 4) true)] false) .ret) .skip)) (.region [(.op .mv [(.tmp 1)] (some 20) true), (.op (.bin .add) [(.tmp 20), (.const (.int .i64 1))] (some 21) true), (.op .mv [(.tmp 21)] (some 1) true)] false))) (.region [(.op .mv [(.tmp 5)] (some 10) true), (.op (.bin .add) [(.tmp 10), (.const (.int .i64 1))] (some 11) true), (.op .mv [(.tmp 11)] (some 5) true)] false)))
-- laws.heldBoolS
def F163 : EF := ⟨(.seq (.region [(.op .mv [(.const (.int .i64 0))] (some 4) true)] false) (.seq (.seq (.region [(.op .mv [(.const (.int .i64 0))] (some 5) true)] false) (.block 0 (.loop H163_2 L163_2))) (.seq (.region [(.op .mv [(.tmp 1)] (some 22) true), (.op .mv [(.tmp 22)] (some 4) true)] false) .ret))), [(.tmp 4)], 23, .one, none⟩
theorem t163 : T 163 = some F163 := tab Try.func163 (by kernel_rfl) rfl
end Go.Proofs.Ytaaajjinpppgeaa

/- Marking rows of numbers and of truth values. Own work; no condition. -/
set_option linter.unusedVariables false
set_option linter.unusedSimpArgs false
set_option linter.unusedSectionVars false
namespace Go.Proofs.Ytaaajjinpppgeaa
open Go Go.Abs
set_option maxRecDepth 100000
/-- What a row is behind the first marks: each mark is told by its number. -/
def marks {α : Type} (f : Nat → α) (l : List α) (i : Nat) : List α := (List.range i).map f ++ l.drop i
section
variable {α : Type} {f : Nat → α} {l : List α} {i : Nat}
theorem marks_0 : marks f l 0 = l := by simp [marks]
theorem marks_all : marks f l l.length = (List.range l.length).map f := by simp [marks]
theorem marks_len (h : i ≤ l.length) : (marks f l i).length = l.length := by simp [marks]; omega
theorem marks_get {x : α} (h : l[i]? = some x) : (marks f l i)[i]? = some x := by
  unfold marks
  rw [List.getElem?_append_right (by simp)]
  simp [h]
theorem marks_set (h : i < l.length) : (marks f l i).set i (f i) = marks f l (i + 1) := by
  unfold marks
  rw [List.set_append_right _ _ (by simp)]
  have e : i - ((List.range i).map f).length = 0 := by simp
  rw [e, List.drop_eq_getElem_cons h, List.set_cons_zero, List.range_succ, List.map_append, List.append_assoc]
  rfl
end
theorem set_map {α : Type} {f : α → AV} {l : List α} {i : Nat} {x : α} : (l.map f).set i (f x) = (l.set i x).map f := by rw [List.map_set]
theorem e100 (l : List Int) (k : Int) (h0 : 0 ≤ k) (hk : k ≤ 4611686018427387904) (hl : l.length ≤ 1048576) :
    E T 100 [.sl 0 0 l.length, .int .i64 k] [some (1, l.map iv)] = some (.int .i64 (k + l.length), [some (1, ((List.range l.length).map fun i => k + (i : Nat)).map iv)]) := by
  rw [E_eq t100 (Nat.le_of_ble_eq_true rfl)]
  simp only [F100, h100_2, go_sem, seval, bnd_ite]
  refine (XL_inv (T := T) (b := 1) (hd := H100_2) (x := L100_2) (β := Unit) (fun i _ => ⟨[(0, .sl 0 0 l.length), (1, .int .i64 (k + (i : Nat))), (5, .int .i64 (i : Nat))], [some (1, (marks (fun i => k + (i : Nat)) l i).map iv)]⟩)
    (fun i _ => True) l.length (fun r => r.1 = .exit 0 ∧ r.2.mem = [some (1, (marks (fun i => k + (i : Nat)) l l.length).map iv)] ∧ lookA r.2.env 1 = .int .i64 (k + l.length)) ?step ?last 0 () (by omega) trivial).elim ?main
  case step =>
    intro i _ hi _
    obtain ⟨p, hp⟩ := get_at hi
    have hi1 : (i : Int) < (l.length : Int) := by omega
    left
    refine ⟨(), ?_, trivial⟩
    have ms := marks_set (f := fun i => k + (i : Nat)) hi
    have sm : ∀ m : List Int, (m.map iv).set i (AV.int .i64 (k + (i : Nat))) = (m.set i (k + (i : Nat))).map iv := fun m => set_map (f := iv)
    have hml : (marks (fun i => k + (i : Nat)) l i).length = l.length := marks_len (by omega)
    have gx : ((marks (fun i => k + (i : Nat)) l i).map iv).getD i .undef = AV.int .i64 p := gD_map (marks_get hp)
    simp only [XG, L100_2, h100_2, go_sem, seval, bnd_ite, hi1, hml, hi, gx, Int.natCast_nonneg, w_i64 ((i : Int) + 1) (by omega), w_i64 (k + (i : Int) + 1) (by omega), sm, ms]
    rw [Int.add_assoc]; rfl
  case last =>
    intro _ _
    have hml : (marks (fun i => k + (i : Nat)) l l.length).length = l.length := marks_len (by omega)
    simp only [XG, L100_2, h100_2, go_sem, seval, bnd_ite, hml, Int.lt_irrefl, decide_false]
    exact .mk (by simp) ⟨rfl, rfl, rfl⟩
  case main =>
  rintro ⟨x, e, m⟩ ⟨h1, h2, h3, h4, h5⟩
  have hs : ((0 : Nat) : Int) = 0 := rfl
  rw [marks_0, hs, Int.add_zero] at h1
  simp only at h3 h4 h5; subst h3; subst h4
  simp only [h1, go_sem, seval, h5, marks_all]
/-- The mark of a truth value. -/
def mb (k : Int) : Bool := decide (k.tmod 3 = 0)
theorem e145 (l : List Bool) (k : Int) (h0 : 0 ≤ k) (hk : k ≤ 4611686018427387904) (hl : l.length ≤ 1048576) :
    E T 145 [.sl 0 0 l.length, .int .i64 k] [some (1, l.map bv)] = some (.int .i64 (k + l.length), [some (1, ((List.range l.length).map fun i => mb (k + (i : Nat))).map bv)]) := by
  rw [E_eq t145 (Nat.le_of_ble_eq_true rfl)]
  simp only [F145, h145_2, go_sem, seval, bnd_ite]
  refine (XL_inv (T := T) (b := 1) (hd := H145_2) (x := L145_2) (β := Unit) (fun i _ => ⟨[(0, .sl 0 0 l.length), (1, .int .i64 (k + (i : Nat))), (5, .int .i64 (i : Nat))], [some (1, (marks (fun i => mb (k + (i : Nat))) l i).map bv)]⟩)
    (fun i _ => True) l.length (fun r => r.1 = .exit 0 ∧ r.2.mem = [some (1, (marks (fun i => mb (k + (i : Nat))) l l.length).map bv)] ∧ lookA r.2.env 1 = .int .i64 (k + l.length)) ?step ?last 0 () (by omega) trivial).elim ?main
  case step =>
    intro i _ hi _
    obtain ⟨p, hp⟩ := get_at hi
    have hi1 : (i : Int) < (l.length : Int) := by omega
    left
    refine ⟨(), ?_, trivial⟩
    have ms := marks_set (f := fun i => mb (k + (i : Nat))) hi
    have sm : ∀ m : List Bool, (m.map bv).set i (AV.bool (decide ((k + (i : Nat)).tmod 3 = 0))) = (m.set i (mb (k + (i : Nat)))).map bv := fun m => set_map (f := bv)
    have hml : (marks (fun i => mb (k + (i : Nat))) l i).length = l.length := marks_len (by omega)
    have gx : ((marks (fun i => mb (k + (i : Nat))) l i).map bv).getD i .undef = AV.bool p := gD_map (marks_get hp)
    simp only [XG, L145_2, h145_2, go_sem, seval, bnd_ite, hi1, hml, hi, gx, Int.natCast_nonneg, w_i64 ((i : Int) + 1) (by omega), w_i64 (k + (i : Int) + 1) (by omega), sm, ms]
    rw [Int.add_assoc]; rfl
  case last =>
    intro _ _
    have hml : (marks (fun i => mb (k + (i : Nat))) l l.length).length = l.length := marks_len (by omega)
    simp only [XG, L145_2, h145_2, go_sem, seval, bnd_ite, hml, Int.lt_irrefl, decide_false]
    exact .mk (by simp) ⟨rfl, rfl, rfl⟩
  case main =>
  rintro ⟨x, e, m⟩ ⟨h1, h2, h3, h4, h5⟩
  have hs : ((0 : Nat) : Int) = 0 := rfl
  rw [marks_0, hs, Int.add_zero] at h1
  simp only at h3 h4 h5; subst h3; subst h4
  simp only [h1, go_sem, seval, h5, marks_all]
theorem range_at {α : Type} (f : Nat → α) {n i : Nat} (h : i < n) : ((List.range n).map f)[i]? = some (f i) := by simp [h]
theorem e101 (n : Nat) (k : Int) (h0 : 0 ≤ k) (hk : k ≤ 4611686018427387904) (hl : n ≤ 1048576) :
    E T 101 [.ro 1 (((List.range n).map fun i => k + (i : Nat)).map iv), .int .i64 k] [] = some (.int .i64 (k + n), []) := by
  rw [E_eq t101 (Nat.le_of_ble_eq_true rfl)]
  simp only [F101, h101_2, go_sem, seval, bnd_ite]
  generalize hL : ((List.range n).map fun i => k + (i : Nat)) = L
  have hln : L.length = n := by rw [← hL]; simp
  refine (XL_inv (T := T) (b := 0) (hd := H101_2) (x := L101_2) (β := Unit) (fun i _ => ⟨[(0, .ro 1 (L.map iv)), (1, .int .i64 (k + (i : Nat))), (5, .int .i64 (i : Nat))], []⟩)
    (fun i _ => True) n (fun r => r.1 = .exit 0 ∧ lookA r.2.env 1 = .int .i64 (k + n)) ?step ?last 0 () (by omega) trivial).elim ?main
  case step =>
    intro i _ hi _
    have hi1 : (i : Int) < (n : Int) := by omega
    have hat : L[i]? = some (k + (i : Nat)) := by rw [← hL]; exact range_at _ hi
    left
    refine ⟨(), ?_, trivial⟩
    simp only [XG, L101_2, h101_2, go_sem, seval, bnd_ite, hln, hi1, hi, gD_map hat, iv, bdec, bne_dec, decide_true, Bool.not_true, Bool.false_eq_true, if_false, Int.natCast_nonneg, w_i64 ((i : Int) + 1) (by omega), w_i64 (k + (i : Int) + 1) (by omega)]
    rw [Int.add_assoc]; rfl
  case last =>
    intro _ _
    simp only [XG, L101_2, h101_2, go_sem, seval, bnd_ite, hln, Int.lt_irrefl, decide_false]
    exact .mk (by simp) ⟨rfl, rfl⟩
  case main =>
  rintro ⟨x, e, m⟩ ⟨h1, h2, h3, h4⟩
  have hs : ((0 : Nat) : Int) = 0 := rfl
  rw [hs, Int.add_zero] at h1
  simp only at h3 h4; subst h3
  simp only [h1, go_sem, seval, h4]
theorem e163 (n : Nat) (k : Int) (h0 : 0 ≤ k) (hk : k ≤ 4611686018427387904) (hl : n ≤ 1048576) :
    E T 163 [.ro 1 (((List.range n).map fun i => mb (k + (i : Nat))).map bv), .int .i64 k] [] = some (.int .i64 (k + n), []) := by
  rw [E_eq t163 (Nat.le_of_ble_eq_true rfl)]
  simp only [F163, h163_2, go_sem, seval, bnd_ite]
  generalize hL : ((List.range n).map fun i => mb (k + (i : Nat))) = L
  have hln : L.length = n := by rw [← hL]; simp
  refine (XL_inv (T := T) (b := 0) (hd := H163_2) (x := L163_2) (β := Unit) (fun i _ => ⟨[(0, .ro 1 (L.map bv)), (1, .int .i64 (k + (i : Nat))), (5, .int .i64 (i : Nat))], []⟩)
    (fun i _ => True) n (fun r => r.1 = .exit 0 ∧ lookA r.2.env 1 = .int .i64 (k + n)) ?step ?last 0 () (by omega) trivial).elim ?main
  case step =>
    intro i _ hi _
    have hi1 : (i : Int) < (n : Int) := by omega
    have hat : L[i]? = some (mb (k + (i : Nat))) := by rw [← hL]; exact range_at _ hi
    left
    refine ⟨(), ?_, trivial⟩
    simp only [XG, L163_2, h163_2, go_sem, seval, bnd_ite, hln, hi1, hi, gD_map hat, bv, mb, bdec, bne_dec, decide_true, Bool.not_true, Bool.false_eq_true, if_false, Int.natCast_nonneg, w_i64 ((i : Int) + 1) (by omega), w_i64 (k + (i : Int) + 1) (by omega)]
    rw [Int.add_assoc]; rfl
  case last =>
    intro _ _
    simp only [XG, L163_2, h163_2, go_sem, seval, bnd_ite, hln, Int.lt_irrefl, decide_false]
    exact .mk (by simp) ⟨rfl, rfl⟩
  case main =>
  rintro ⟨x, e, m⟩ ⟨h1, h2, h3, h4⟩
  have hs : ((0 : Nat) : Int) = 0 := rfl
  rw [hs, Int.add_zero] at h1
  simp only at h3 h4; subst h3
  simp only [h1, go_sem, seval, h4]
end Go.Proofs.Ytaaajjinpppgeaa

/- Marking texts and slots. Own work; no condition. -/
set_option linter.unusedVariables false
set_option linter.unusedSimpArgs false
set_option linter.unusedSectionVars false
namespace Go.Proofs.Ytaaajjinpppgeaa
open Go Go.Abs
set_option maxRecDepth 100000
theorem e207' (k : Int) (h0 : 0 ≤ k) (hk : k ≤ 4611686018427387904) : ∃ s, E T 207 [.int .i64 k] [] = some (.str s, []) := by
  rw [E_eq t207 (Nat.le_of_ble_eq_true rfl)]
  simp only [F207, h207_4, go_sem, seval, bnd_ite]
  by_cases c1 : k ≤ 0
  · rw [if_pos c1]; exact ⟨_, rfl⟩
  rw [if_neg c1]
  refine (XL_inv (T := T) (b := 0) (hd := H207_4) (x := L207_4) (β := Int × ByteArray) (fun i a => ⟨[(0, .int .i64 a.1), (3, .str a.2)], []⟩)
    (fun i a => 0 ≤ a.1 ∧ a.1 + i ≤ k ∧ a.2.size ≤ i) k.toNat (fun r => r.1 = .exit 0 ∧ ∃ s : ByteArray, lookA r.2.env 3 = .str s ∧ (s.size : Int) ≤ k) ?step ?last 0 (k, ⟨#[]⟩) (by omega) ⟨h0, by simp, Nat.le_refl 0⟩).elim ?main
  case step =>
    intro i a hi ⟨hI1, hI2, hI3⟩
    by_cases hp : 0 < a.1
    · left
      have hq : a.1.tdiv 10 = a.1 / 10 := Int.tdiv_eq_ediv_of_nonneg hI1
      simp only [XG, L207_4, h207_4, go_sem, seval, bnd_ite, hp, decide_true, hq, w_i64 (a.1 / 10) (by omega)]
      have sz : ∀ c : UInt8, (⟨#[c]⟩ : ByteArray).size = 1 := fun _ => rfl
      rw [if_pos (by first | (rw [sz]; omega) | (simp only [List.size_toArray, List.length_cons, List.length_nil]; omega))]
      exact ⟨(_, _), rfl, by show 0 ≤ a.1 / 10; omega, by show a.1 / 10 + ((i + 1 : Nat) : Int) ≤ k; omega, by rw [ByteArray.size_append, sz]; omega⟩
    · right
      simp only [XG, L207_4, h207_4, go_sem, seval, bnd_ite, hp, decide_false, Bool.false_eq_true, if_false]
      exact .mk (by simp) ⟨rfl, a.2, rfl, by omega⟩
  case last =>
    intro a ⟨hI1, hI2, hI3⟩
    have hp : ¬ 0 < a.1 := by omega
    simp only [XG, L207_4, h207_4, go_sem, seval, bnd_ite, hp, decide_false, Bool.false_eq_true, if_false]
    exact .mk (by simp) ⟨rfl, a.2, rfl, by omega⟩
  case main =>
  rintro ⟨x, e, m⟩ ⟨h1, h2, h3, s, h4, h5⟩
  simp only at h1 h3 h4; subst h3
  have sz : ∀ c : UInt8, (⟨#[c]⟩ : ByteArray).size = 1 := fun _ => rfl
  simp only [h1, go_sem, seval, h4]
  rw [if_pos (by first | (rw [sz]; omega) | (simp only [List.size_toArray, List.length_cons, List.length_nil]; omega))]
  simp only [go_sem, seval]
  exact ⟨_, rfl⟩
/-- The text of a mark. -/
noncomputable def mtext (k : Int) : ByteArray := match E T 207 [.int .i64 k] [] with
  | some (.str s, _) => s
  | _ => ⟨#[]⟩
theorem e207 (k : Int) (h0 : 0 ≤ k) (hk : k ≤ 4611686018427387904) : E T 207 [.int .i64 k] [] = some (.str (mtext k), []) := by
  obtain ⟨s, h⟩ := e207' k h0 hk
  unfold mtext; rw [h]
end Go.Proofs.Ytaaajjinpppgeaa

/- Marking rows of structs; slots. Own work; no condition. -/
set_option linter.unusedVariables false
set_option linter.unusedSimpArgs false
set_option linter.unusedSectionVars false
namespace Go.Proofs.Ytaaajjinpppgeaa
open Go Go.Abs
set_option maxRecDepth 100000
section
variable {α : Type} (st : Int → α → α) (cost : α → Nat)
/-- A row that is marked from a number on; what one thing takes up of the numbers. -/
def mkL : Int → List α → List α
  | _, [] => []
  | k, x :: xs => st k x :: mkL (k + cost x) xs
def costL : List α → Nat
  | [] => 0
  | x :: xs => cost x + costL xs
def mkP (k : Int) (l : List α) (i : Nat) : List α := mkL st cost k (l.take i) ++ l.drop i
variable {st cost} {k : Int} {l : List α} {i : Nat} {x : α}
theorem mkL_len : ∀ {k : Int} {l : List α}, (mkL st cost k l).length = l.length := by
  intro k l
  induction l generalizing k with
  | nil => rfl
  | cons x xs ih => simp [mkL, ih]
theorem costL_app (a b : List α) : costL cost (a ++ b) = costL cost a + costL cost b := by
  induction a with
  | nil => simp [costL]
  | cons x xs ih => simp [costL, ih]; omega
theorem mkL_app (a b : List α) : ∀ k, mkL st cost k (a ++ b) = mkL st cost k a ++ mkL st cost (k + costL cost a) b := by
  induction a with
  | nil => intro k; simp [mkL, costL]
  | cons x xs ih =>
    intro k
    simp only [List.cons_append, mkL, costL, ih]
    rw [show k + ((cost x + costL cost xs : Nat) : Int) = k + (cost x : Int) + (costL cost xs : Int) by omega]
theorem costL_succ (h : l[i]? = some x) : costL cost (l.take (i + 1)) = costL cost (l.take i) + cost x := by
  rw [take_snoc h, costL_app]; simp [costL]
theorem costL_le {C : Nat} : ∀ {l : List α}, (∀ x ∈ l, cost x ≤ C) → costL cost l ≤ l.length * C := by
  intro l
  induction l with
  | nil => intro _; simp [costL]
  | cons x xs ih =>
    intro h
    have h1 := ih (fun y hy => h y (List.mem_cons_of_mem _ hy))
    have h2 := h x (List.mem_cons_self ..)
    simp only [costL, List.length_cons, Nat.add_mul, Nat.one_mul]; omega
theorem mkP_0 : mkP st cost k l 0 = l := by simp [mkP, mkL]
theorem mkP_all : mkP st cost k l l.length = mkL st cost k l := by simp [mkP]
theorem mkP_len : (mkP st cost k l i).length = l.length := by simp [mkP, mkL_len]; omega
theorem mkP_get (h : l[i]? = some x) : (mkP st cost k l i)[i]? = some x := by
  have hi := (List.getElem?_eq_some_iff.1 h).1
  unfold mkP
  rw [List.getElem?_append_right (by rw [mkL_len, List.length_take]; exact Nat.min_le_left ..)]
  simp [mkL_len, Nat.min_eq_left (Nat.le_of_lt hi), h]
theorem mkP_set (h : l[i]? = some x) : (mkP st cost k l i).set i (st (k + costL cost (l.take i)) x) = mkP st cost k l (i + 1) := by
  have hi := (List.getElem?_eq_some_iff.1 h).1
  obtain ⟨_, hx⟩ := List.getElem?_eq_some_iff.1 h
  unfold mkP
  rw [take_snoc h, mkL_app, List.set_append_right _ _ (by rw [mkL_len, List.length_take]; exact Nat.min_le_left ..)]
  have e : i - (mkL st cost k (l.take i)).length = 0 := by rw [mkL_len]; simp; omega
  rw [e, List.drop_eq_getElem_cons hi, List.set_cons_zero, List.append_assoc]
  rfl
theorem mkL_at : ∀ {l : List α} {k : Int} {i : Nat} {x : α}, l[i]? = some x → (mkL st cost k l)[i]? = some (st (k + costL cost (l.take i)) x) := by
  intro l
  induction l with
  | nil => intro k i x h; simp at h
  | cons y ys ih =>
    intro k i x h
    cases i with
    | zero => simp only [List.getElem?_cons_zero, Option.some.injEq] at h; subst h; simp [mkL, costL]
    | succ i =>
      simp only [List.getElem?_cons_succ] at h
      simp only [mkL, List.getElem?_cons_succ, ih h, List.take_succ_cons, costL]
      rw [show k + ((cost y + costL cost (ys.take i) : Nat) : Int) = k + (cost y : Int) + (costL cost (ys.take i) : Int) by omega]
end
theorem getD_set {l : List AV} {i : Nat} (h : i < l.length) (v : AV) : (l.set i v).getD i .undef = v := by simp [h]
noncomputable def mkSlt (k : Int) (_ : Slt) : Slt := ⟨mtext k, k + 1⟩
theorem e151 (l : List Slt) (k : Int) (h0 : 0 ≤ k) (hk : k ≤ 1152921504606846976) (hl : l.length ≤ 1048576) :
    E T 151 [.sl 0 0 l.length, .int .i64 k] [some (2, l.map slt)] = some (.int .i64 (k + costL (fun _ => 2) l), [some (2, (mkL mkSlt (fun _ => 2) k l).map slt)]) := by
  rw [E_eq t151 (Nat.le_of_ble_eq_true rfl)]
  simp only [F151, h151_2, go_sem, seval, bnd_ite]
  have hc : ∀ i, costL (fun _ => 2) (l.take i) ≤ 2097152 := fun i => by
    have h1 := costL_le (cost := fun _ : Slt => 2) (C := 2) (l := l.take i) (fun _ _ => Nat.le_refl _)
    have h2 : (l.take i).length ≤ l.length := by simp; omega
    omega
  refine (XL_inv (T := T) (b := 1) (hd := H151_2) (x := L151_2) (β := Unit) (fun i _ => ⟨[(0, .sl 0 0 l.length), (1, .int .i64 (k + (costL (fun _ => 2) (l.take i) : Nat))), (5, .int .i64 (i : Nat))], [some (2, (mkP mkSlt (fun _ => 2) k l i).map slt)]⟩)
    (fun i _ => True) l.length (fun r => r.1 = .exit 0 ∧ r.2.mem = [some (2, (mkL mkSlt (fun _ => 2) k l).map slt)] ∧ lookA r.2.env 1 = .int .i64 (k + (costL (fun _ => 2) l : Nat))) ?step ?last 0 () (by omega) trivial).elim ?main
  case step =>
    intro i _ hi _
    obtain ⟨p, hp⟩ := get_at hi
    have hi1 : (i : Int) < (l.length : Int) := by omega
    have hci := hc i
    left
    refine ⟨(), ?_, trivial⟩
    have ms := mkP_set (st := mkSlt) (cost := fun _ => 2) (k := k) hp
    have cs := costL_succ (cost := fun _ : Slt => 2) hp
    have gx : ((mkP mkSlt (fun _ => 2) k l i).map slt).getD i .undef = slt p := gD_map (mkP_get hp)
    generalize hR : mkP mkSlt (fun _ => 2) k l i = R at *
    have hml : R.length = l.length := by rw [← hR]; exact mkP_len
    have hmi : i < (R.map slt).length := by rw [List.length_map, hml]; exact hi
    have e1 := e207 (k + (costL (fun _ => 2) (l.take i) : Nat)) (by omega) (by omega)
    generalize hK : k + (costL (fun _ => 2) (l.take i) : Int) = K at *
    have sm : (R.map slt).set i (.agg [.str (mtext K), .int .i64 (K + 1)]) = (mkP mkSlt (fun _ => 2) k l (i + 1)).map slt := by rw [← ms]; exact set_map (f := slt) (x := mkSlt K p)
    have e2 : k + ((costL (fun _ => 2) (l.take (i + 1)) : Nat) : Int) = K + 1 + 1 := by rw [cs]; omega
    simp only [XG, L151_2, h151_2, go_sem, seval, bnd_ite, hi1, hml, hi, gx, sm, slt, e1, getD_set hmi, List.set_set, Int.natCast_nonneg, w_i64 ((i : Int) + 1) (by omega), w_i64 (K + 1) (by omega), w_i64 (K + 1 + 1) (by omega)]
    rw [e2]; rfl
  case last =>
    intro _ _
    have hml : (mkP mkSlt (fun _ => 2) k l l.length).length = l.length := mkP_len
    simp only [XG, L151_2, h151_2, go_sem, seval, bnd_ite, hml, Int.lt_irrefl, decide_false]
    exact .mk (by simp) ⟨rfl, by rw [mkP_all], rfl⟩
  case main =>
  rintro ⟨x, e, m⟩ ⟨h1, h2, h3, h4, h5⟩
  have hs : ((0 : Nat) : Int) = 0 := rfl
  simp only [mkP_0, List.take_zero, costL, hs, Int.add_zero] at h1
  simp only at h3 h4 h5; subst h3; subst h4
  simp only [h1, go_sem, seval, h5]
theorem e152 (l : List Slt) (k : Int) (h0 : 0 ≤ k) (hk : k ≤ 1152921504606846976) (hl : l.length ≤ 1048576) :
    E T 152 [.ro 2 ((mkL mkSlt (fun _ => 2) k l).map slt), .int .i64 k] [] = some (.int .i64 (k + costL (fun _ => 2) l), []) := by
  rw [E_eq t152 (Nat.le_of_ble_eq_true rfl)]
  simp only [F152, h152_2, go_sem, seval, bnd_ite]
  have hc : ∀ i, costL (fun _ => 2) (l.take i) ≤ 2097152 := fun i => by
    have h1 := costL_le (cost := fun _ : Slt => 2) (C := 2) (l := l.take i) (fun _ _ => Nat.le_refl _)
    have h2 : (l.take i).length ≤ l.length := by simp; omega
    omega
  generalize hL : mkL mkSlt (fun _ => 2) k l = L
  have hln : L.length = l.length := by rw [← hL]; exact mkL_len
  refine (XL_inv (T := T) (b := 0) (hd := H152_2) (x := L152_2) (β := Unit) (fun i _ => ⟨[(0, .ro 2 (L.map slt)), (1, .int .i64 (k + (costL (fun _ => 2) (l.take i) : Nat))), (5, .int .i64 (i : Nat))], []⟩)
    (fun i _ => True) l.length (fun r => r.1 = .exit 0 ∧ lookA r.2.env 1 = .int .i64 (k + (costL (fun _ => 2) l : Nat))) ?step ?last 0 () (by omega) trivial).elim ?main
  case step =>
    intro i _ hi _
    obtain ⟨p, hp⟩ := get_at hi
    have hi1 : (i : Int) < (l.length : Int) := by omega
    have hci := hc i
    left
    refine ⟨(), ?_, trivial⟩
    have cs := costL_succ (cost := fun _ : Slt => 2) hp
    have hat : L[i]? = some (mkSlt (k + costL (fun _ => 2) (l.take i)) p) := by rw [← hL]; exact mkL_at hp
    have e1 := e207 (k + (costL (fun _ => 2) (l.take i) : Nat)) (by omega) (by omega)
    generalize hK : k + (costL (fun _ => 2) (l.take i) : Int) = K at *
    have gx : (L.map slt).getD i .undef = .agg [.str (mtext K), .int .i64 (K + 1)] := gD_map hat
    have e2 : k + ((costL (fun _ => 2) (l.take (i + 1)) : Nat) : Int) = K + 1 + 1 := by rw [cs]; omega
    simp only [XG, L152_2, h152_2, go_sem, seval, bnd_ite, hi1, hln, hi, gx, e1, decide_true, Bool.not_true, Bool.false_eq_true, if_false, Int.natCast_nonneg, w_i64 ((i : Int) + 1) (by omega), w_i64 (K + 1) (by omega), w_i64 (K + 1 + 1) (by omega)]
    rw [e2]; rfl
  case last =>
    intro _ _
    simp only [XG, L152_2, h152_2, go_sem, seval, bnd_ite, hln, Int.lt_irrefl, decide_false]
    exact .mk (by simp) ⟨rfl, rfl⟩
  case main =>
  rintro ⟨x, e, m⟩ ⟨h1, h2, h3, h4⟩
  have hs : ((0 : Nat) : Int) = 0 := rfl
  simp only [List.take_zero, costL, hs, Int.add_zero] at h1
  simp only at h3 h4; subst h3
  simp only [h1, go_sem, seval, h4]
end Go.Proofs.Ytaaajjinpppgeaa

