/- What is right: inodes; the place of a name. Own work; no condition. -/
import Derived.Test.YtaaajjinpppgeaaGreatOa
set_option linter.unusedVariables false
set_option linter.unusedSimpArgs false
set_option linter.unusedSectionVars false
namespace Go.Proofs.YtaaajjinpppgeaaGreat
open Go Go.Abs
set_option maxRecDepth 100000
def ptrOk (k p : Int) : Bool := inside p 0 16 && !(decide (k = 0) && decide (p ≠ 0))
def inoOk (x : Ino) : Bool := x.ptrs.all (ptrOk x.kind) && (inside x.kind 0 2 && inside x.links 0 200 && decide (x.ptrs.length = 2) && (!decide (x.kind = 0) || decide (x.links = 0)))
theorem e180 (x : Ino) (hk : x.ok) : E T 180 [ino x] [] = some (.bool (inoOk x), []) := by
  rw [E_eq t180 (Nat.le_of_ble_eq_true rfl)]
  unfold Ino.ok maxLen at hk
  refine (XL_all (T := T) (b := 0) (hd := H180_2) (x := L180_2) x.ptrs (ptrOk x.kind) (fun i => ⟨[(1, .ptr 0 0 0), (6, .ro 1 (x.ptrs.map iv)), (7, .int .i64 x.ptrs.length), (8, .int .i64 (i : Nat))], [some (3, [.agg [.int .i64 x.kind, .int .i64 x.links, .ro 1 (x.ptrs.map iv)]])]⟩)
    (fun r => r.1 = .exit 0 ∧ lookA r.2.env 1 = .ptr 0 0 0 ∧ r.2.mem = [some (3, [.agg [.int .i64 x.kind, .int .i64 x.links, .ro 1 (x.ptrs.map iv)]])]) (fun r => r.1 = .ret ∧ lookA r.2.env 2 = .bool false) ?step ?hit ?last).elim ?main
  case step =>
    intro i p hp hi hP _
    have hi1 : (i : Int) < (x.ptrs.length : Int) := by omega
    have gp : (x.ptrs.map iv).getD i .undef = .int .i64 p := gD_map hp
    have hf : (!inside p 0 16 || !decide (p = 0) && decide (x.kind = 0)) = false := by
      simp only [ptrOk, Bool.and_eq_true, Bool.not_eq_true'] at hP
      rw [hP.1]; rw [Bool.and_comm]; simpa using hP.2
    simp only [XG, L180_2, h180_2, go_sem, seval, bnd_ite, hi1, gp, Int.natCast_nonneg, w_i64 ((i : Int) + 1) (by omega), e105i, hf, Bool.false_eq_true, if_false]
    rfl
  case hit =>
    intro i p hp hi hP _
    have hi1 : (i : Int) < (x.ptrs.length : Int) := by omega
    have gp : (x.ptrs.map iv).getD i .undef = .int .i64 p := gD_map hp
    have hf : (!inside p 0 16 || !decide (p = 0) && decide (x.kind = 0)) = true := by
      unfold ptrOk at hP
      cases h1 : inside p 0 16 with
      | false => rfl
      | true => rw [h1, Bool.true_and] at hP; rw [Bool.and_comm]; simpa using hP
    simp only [XG, L180_2, h180_2, go_sem, seval, bnd_ite, hi1, gp, Int.natCast_nonneg, w_i64 ((i : Int) + 1) (by omega), e105i, hf, if_true]
    exact .mk (by simp) ⟨rfl, rfl⟩
  case last =>
    intro _
    simp only [XG, L180_2, h180_2, go_sem, seval, bnd_ite, Int.lt_irrefl, decide_false]
    exact .mk (by simp) ⟨rfl, rfl, rfl⟩
  case main =>
  rintro ⟨y, e, m⟩ ⟨k1, k2⟩
  have hs : ((0 : Nat) : Int) = 0 := rfl
  simp only [hs] at k1
  unfold inoOk
  rcases k2 with ⟨h, k2, k3⟩ | ⟨h, k2, k3⟩ <;> simp only at k2 k3 <;> subst k2
  · obtain ⟨k3, rfl⟩ := k3
    simp only [ino, F180, h180_2, go_sem, seval, bnd_ite, k1, k3, e105i, h, Bool.true_and]
    have hl : decide ((x.ptrs.length : Int) = 2) = decide (x.ptrs.length = 2) := by congr 1; apply propext; omega
    rw [hl]
  · simp only [ino, F180, h180_2, go_sem, seval, bnd_ite, k1, k3, h, Bool.false_and]
theorem e173 (x : Ino) (hk : x.ok) : E T 173 [ino x] [] = some (.bool (inoOk x), []) := by
  rw [E_eq t173 (Nat.le_of_ble_eq_true rfl)]
  unfold Ino.ok maxLen at hk
  have hl : decide ((x.ptrs.length : Int) = 2) = decide (x.ptrs.length = 2) := by congr 1; apply propext; omega
  by_cases hc : (inside x.kind 0 2 && inside x.links 0 200 && decide (x.ptrs.length = 2)) = true
  case neg =>
    have hf : (!inside x.kind 0 2 || !inside x.links 0 200 || !decide (x.ptrs.length = 2)) = true := by
      rw [← Bool.not_and, ← Bool.not_and, Bool.eq_false_iff.2 hc]; rfl
    have hr : inoOk x = false := by
      have hc : (inside x.kind 0 2 && inside x.links 0 200 && decide (x.ptrs.length = 2)) = false := Bool.eq_false_iff.2 hc
      unfold inoOk; rw [hc]; simp
    simp only [ino, F173, h173_4, go_sem, seval, bnd_ite, e108i, hl, hf, hr, if_true]
  have hf : (!inside x.kind 0 2 || !inside x.links 0 200 || !decide (x.ptrs.length = 2)) = false := by
    rw [← Bool.not_and, ← Bool.not_and, hc]; rfl
  have h2 : x.ptrs.length = 2 := by simp only [Bool.and_eq_true, decide_eq_true_eq] at hc; exact hc.2
  refine (XL_all (T := T) (b := 0) (hd := H173_4) (x := L173_4) x.ptrs (ptrOk x.kind) (fun i => ⟨[(1, .ptr 0 0 0), (3, .int .i64 (i : Nat))], [some (3, [.agg [.int .i64 x.kind, .int .i64 x.links, .ro 1 (x.ptrs.map iv)]])]⟩)
    (fun r => r.1 = .exit 0 ∧ lookA r.2.env 1 = .ptr 0 0 0 ∧ r.2.mem = [some (3, [.agg [.int .i64 x.kind, .int .i64 x.links, .ro 1 (x.ptrs.map iv)]])]) (fun r => r.1 = .ret ∧ lookA r.2.env 2 = .bool false) ?step ?hit ?last).elim ?main
  case step =>
    intro i p hp hi hP _
    have hi1 : (i : Int) < (x.ptrs.length : Int) := by omega
    have hi2 : (i : Int) < 2 := by omega
    have gp : (x.ptrs.map iv).getD i .undef = .int .i64 p := gD_map hp
    have hf : (!inside p 0 16 || decide (x.kind = 0) && !decide (p = 0)) = false := by
      simp only [ptrOk, Bool.and_eq_true, Bool.not_eq_true'] at hP
      rw [hP.1]; simpa using hP.2
    simp only [XG, L173_4, h173_4, go_sem, seval, bnd_ite, hi1, hi2, gp, Int.natCast_nonneg, w_i64 ((i : Int) + 1) (by omega), e108i, hf, Bool.false_eq_true, if_false]
    rfl
  case hit =>
    intro i p hp hi hP _
    have hi1 : (i : Int) < (x.ptrs.length : Int) := by omega
    have hi2 : (i : Int) < 2 := by omega
    have gp : (x.ptrs.map iv).getD i .undef = .int .i64 p := gD_map hp
    have hf : (!inside p 0 16 || decide (x.kind = 0) && !decide (p = 0)) = true := by
      unfold ptrOk at hP
      cases h1 : inside p 0 16 with
      | false => rfl
      | true => rw [h1, Bool.true_and] at hP; simpa using hP
    simp only [XG, L173_4, h173_4, go_sem, seval, bnd_ite, hi1, hi2, gp, Int.natCast_nonneg, w_i64 ((i : Int) + 1) (by omega), e108i, hf, if_true]
    exact .mk (by simp) ⟨rfl, rfl⟩
  case last =>
    intro _
    have hi2 : ¬ (x.ptrs.length : Int) < 2 := by omega
    simp only [XG, L173_4, h173_4, go_sem, seval, bnd_ite, hi2, decide_false]
    exact .mk (by simp) ⟨rfl, rfl, rfl⟩
  case main =>
  rintro ⟨y, e, m⟩ ⟨k1, k2⟩
  have hs : ((0 : Nat) : Int) = 0 := rfl
  simp only [hs] at k1
  unfold inoOk
  rcases k2 with ⟨h, k2, k3⟩ | ⟨h, k2, k3⟩ <;> simp only at k2 k3 <;> subst k2
  · obtain ⟨k3, rfl⟩ := k3
    simp only [ino, F173, h173_4, go_sem, seval, bnd_ite, k1, k3, e108i, hl, hf, hc, h, Bool.true_and, Bool.false_eq_true, if_false]
  · simp only [ino, F173, h173_4, go_sem, seval, bnd_ite, k1, k3, e108i, hl, hf, hc, h, Bool.false_and, Bool.false_eq_true, if_false]
/-- The place of a name in a row of slots: -1 where it is not there. -/
def slotOf (l : List Slt) (s : ByteArray) : Int := if s.size = 0 then -1 else (match l.findIdx? (fun x => decide (x.name = s)) with | some i => (i : Nat) | none => -1)
theorem e263 (x : Slt) (s : ByteArray) : E T 263 [slt x, .rop [.str s]] [] = some (.bool (decide (x.name = s)), []) := by
  rw [E_eq t263 (Nat.le_of_ble_eq_true rfl)]
  simp only [slt, F263, go_sem, seval, bnd_ite]
theorem e262 (l : List Slt) (s : ByteArray) (hl : l.length ≤ maxLen) : E T 262 [.ro 2 (l.map slt), .fn 263 [.rop [.str s]]] [] = some (.int .i64 (match l.findIdx? (fun x => decide (x.name = s)) with | some i => (i : Nat) | none => -1), []) := by
  rw [E_eq t262 (Nat.le_of_ble_eq_true rfl)]
  unfold maxLen at hl
  refine (XL_find (T := T) (b := 0) (hd := H262_2) (x := L262_2) l (fun x => decide (x.name = s)) (fun i => ⟨[(0, .ro 2 (l.map slt)), (1, .fn 263 [.rop [.str s]]), (7, .int .i64 l.length), (8, .int .i64 (i : Nat))], []⟩)
    (fun o r => match o with | some i => r.1 = .ret ∧ lookA r.2.env 4 = .int .i64 (i : Nat) | none => r.1 = .exit 0) ?step ?hit ?last).elim ?main
  case step =>
    intro i p hp hi hP _
    have hi1 : (i : Int) < (l.length : Int) := by omega
    have gp : (l.map slt).getD i .undef = .agg [.str p.name, .int .i64 p.ino] := gD_map hp
    have e1 := e263 p s
    unfold slt at e1
    simp only [XG, L262_2, h262_2, go_sem, seval, bnd_ite, hi1, gp, Int.natCast_nonneg, w_i64 ((i : Int) + 1) (by omega), e1, hP, Bool.false_eq_true, if_false]
    rfl
  case hit =>
    intro i p hp hi hP _
    have hi1 : (i : Int) < (l.length : Int) := by omega
    have gp : (l.map slt).getD i .undef = .agg [.str p.name, .int .i64 p.ino] := gD_map hp
    have e1 := e263 p s
    unfold slt at e1
    simp only [XG, L262_2, h262_2, go_sem, seval, bnd_ite, hi1, gp, Int.natCast_nonneg, w_i64 ((i : Int) + 1) (by omega), e1, hP, if_true]
    exact .mk (by simp) ⟨rfl, rfl⟩
  case last =>
    intro _
    simp only [XG, L262_2, h262_2, go_sem, seval, bnd_ite, Int.lt_irrefl, decide_false]
    exact .mk (by simp) rfl
  case main =>
  rintro ⟨y, e, m⟩ ⟨k1, k2⟩
  have hs : ((0 : Nat) : Int) = 0 := rfl
  simp only [hs] at k1
  split at k2
  · rename_i o i heq
    obtain ⟨k2, k3⟩ := k2
    simp only at k2 k3; subst k2
    simp only [F262, h262_2, go_sem, seval, bnd_ite, k1, k3, heq]
  · rename_i o heq
    simp only at k2; subst k2
    simp only [F262, h262_2, go_sem, seval, bnd_ite, k1, heq]
theorem e235 (x : Blk) (s : ByteArray) (hl : x.slots.length ≤ maxLen) : E T 235 [blk x, .str s] [] = some (.int .i64 (slotOf x.slots s), []) := by
  rw [E_eq t235 (Nat.le_of_ble_eq_true rfl)]
  have e1 := e262 x.slots s hl
  unfold slotOf
  by_cases h : s = ⟨#[]⟩
  · subst h
    simp only [blk, F235, go_sem, seval, bnd_ite, decide_true, if_true]
    rfl
  · have h2 : ¬ s.size = 0 := fun hh => h (by cases s with | mk a => congr 1; exact Array.eq_empty_of_size_eq_zero hh)
    simp only [blk, F235, go_sem, seval, bnd_ite, h, h2, e1, decide_false, if_false]
end Go.Proofs.YtaaajjinpppgeaaGreat
