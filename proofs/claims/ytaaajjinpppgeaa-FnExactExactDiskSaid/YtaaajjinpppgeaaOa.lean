/- What is right: names, inodes. Own work; no condition. -/
import Derived.Test.YtaaajjinpppgeaaFt
import Derived.Test.YtaaajjinpppgeaaIa
import Derived.Test.YtaaajjinpppgeaaLp
set_option linter.unusedVariables false
set_option linter.unusedSimpArgs false
set_option linter.unusedSectionVars false
namespace Go.Proofs.Ytaaajjinpppgeaa
open Go Go.Abs
set_option maxRecDepth 100000
theorem e219 (a b : List Bool) : E T 219 [.agg [.ro 1 (a.map bv), .ro 1 (b.map bv)]] [] = some (.bool (decide (a.length = 16) && decide (b.length = 8)), []) := by
  rw [E_eq t219 (Nat.le_of_ble_eq_true rfl)]
  simp only [F219, go_sem, seval, bnd_ite]
  by_cases h1 : a.length = 16 <;> by_cases h2 : b.length = 8 <;> simp [h1, h2] <;> omega
theorem e225 (a b : List Bool) : E T 225 [.agg [.ro 1 (a.map bv), .ro 1 (b.map bv)]] [] = some (.bool (decide (a.length = 16) && decide (b.length = 8)), []) := by
  rw [E_eq t225 (Nat.le_of_ble_eq_true rfl)]
  simp only [F225, go_sem, seval, bnd_ite]
  by_cases h1 : a.length = 16 <;> by_cases h2 : b.length = 8 <;> simp [h1, h2] <;> omega
theorem e226 (x : Int) : E T 226 [.int .i64 x] [] = some (.bool (inside x 1 16), []) := by
  rw [E_eq t226 (Nat.le_of_ble_eq_true rfl)]
  simp only [F226, go_sem, seval, bnd_ite, e117i]
theorem e227 (x : Int) : E T 227 [.int .i64 x] [] = some (.bool (inside x 1 8), []) := by
  rw [E_eq t227 (Nat.le_of_ble_eq_true rfl)]
  simp only [F227, go_sem, seval, bnd_ite, e117i]
/-- A sign of a name. -/
def sgn (c : UInt8) : Bool := inside c.toNat 97 122 || inside c.toNat 48 57
def nameOk (s : ByteArray) : Bool := s.data.toList.all sgn && inside s.size 1 6
theorem ba_len (s : ByteArray) : s.data.toList.length = s.size := Array.length_toList
theorem e222 (s : ByteArray) (hl : s.size ≤ maxLen) : E T 222 [.str s] [] = some (.bool (nameOk s), []) := by
  rw [E_eq t222 (Nat.le_of_ble_eq_true rfl)]
  have hn := ba_len s
  unfold maxLen at hl
  refine (XL_all (T := T) (b := 0) (hd := H222_2) (x := L222_2) s.data.toList sgn (fun i => ⟨[(0, .str s), (3, .int .i64 (i : Nat))], []⟩)
    (fun r => r.1 = .exit 0 ∧ lookA r.2.env 0 = .str s) (fun r => r.1 = .ret ∧ lookA r.2.env 2 = .bool false) ?step ?hit ?last).elim ?main
  case step =>
    intro i c hc hi hp _
    have hi1 : (i : Int) < (s.size : Int) := by omega
    have gc : s.data.toList.getD i 0 = c := by simp [List.getD, hc]
    simp only [XG, L222_2, h222_2, go_sem, seval, bnd_ite, hi1, Int.toNat_natCast, gc, Int.natCast_nonneg, w_i64 ((i : Int) + 1) (by omega)]
    have hf : ((decide ((c.toNat : Int) < 97) || decide (122 < (c.toNat : Int))) && (decide ((c.toNat : Int) < 48) || decide (57 < (c.toNat : Int)))) = false := by
      rw [← Bool.not_eq_true]; intro h
      simp only [sgn, inside, Bool.or_eq_true, Bool.and_eq_true, decide_eq_true_eq] at hp h
      omega
    rw [hf]; simp only [Bool.false_eq_true, if_false]
    rfl
  case hit =>
    intro i c hc hi hp _
    have hi1 : (i : Int) < (s.size : Int) := by omega
    have gc : s.data.toList.getD i 0 = c := by simp [List.getD, hc]
    have hf : ((decide ((c.toNat : Int) < 97) || decide (122 < (c.toNat : Int))) && (decide ((c.toNat : Int) < 48) || decide (57 < (c.toNat : Int)))) = true := by
      simp only [sgn, inside, Bool.or_eq_false_iff, Bool.and_eq_false_iff, decide_eq_false_iff_not] at hp
      simp only [Bool.or_eq_true, Bool.and_eq_true, decide_eq_true_eq]
      omega
    simp only [XG, L222_2, h222_2, go_sem, seval, bnd_ite, hi1, Int.toNat_natCast, gc, Int.natCast_nonneg, w_i64 ((i : Int) + 1) (by omega), hf, if_true]
    exact .mk (by simp) ⟨rfl, rfl⟩
  case last =>
    intro _
    simp only [XG, L222_2, h222_2, go_sem, seval, bnd_ite, hn, Int.lt_irrefl, decide_false]
    exact .mk (by simp) ⟨rfl, rfl⟩
  case main =>
  rintro ⟨y, e, m⟩ ⟨k1, k2⟩
  have hs : ((0 : Nat) : Int) = 0 := rfl
  simp only [hs] at k1
  unfold nameOk
  rcases k2 with ⟨h, k2, k3⟩ | ⟨h, k2, k3⟩ <;> simp only at k2 k3 <;> subst k2
  · simp only [F222, h222_2, go_sem, seval, bnd_ite, k1, k3, e116i, h, Bool.true_and]
  · simp only [F222, h222_2, go_sem, seval, bnd_ite, k1, k3, h, Bool.false_and]
theorem e230 (s : ByteArray) (hl : s.size ≤ maxLen) : E T 230 [.str s] [] = some (.bool (nameOk s), []) := by
  rw [E_eq t230 (Nat.le_of_ble_eq_true rfl)]
  have hn := ba_len s
  unfold maxLen at hl
  refine (XL_all (T := T) (b := 0) (hd := H230_2) (x := L230_2) s.data.toList sgn (fun i => ⟨[(0, .str s), (5, .int .i64 s.size), (6, .int .i64 (i : Nat))], []⟩)
    (fun r => r.1 = .exit 0 ∧ lookA r.2.env 0 = .str s) (fun r => r.1 = .ret ∧ lookA r.2.env 2 = .bool false) ?step ?hit ?last).elim ?main
  case step =>
    intro i c hc hi hp _
    have hi1 : (i : Int) < (s.size : Int) := by omega
    have gc : s.data.toList.getD i 0 = c := by simp [List.getD, hc]
    have hw : (c.toNat : Int) ≤ 255 := by have := c.toNat_lt; omega
    simp only [sgn] at hp
    have hf : (!inside (c.toNat : Int) 97 122 && !inside (c.toNat : Int) 48 57) = false := by
      rw [← Bool.not_or, hp]; rfl
    simp only [XG, L230_2, h230_2, go_sem, seval, bnd_ite, hi1, Int.toNat_natCast, gc, Int.natCast_nonneg, w_i64 (c.toNat : Int) (by omega), w_i64 ((i : Int) + 1) (by omega), e117i, hf, Bool.false_eq_true, if_false]
    rfl
  case hit =>
    intro i c hc hi hp _
    have hi1 : (i : Int) < (s.size : Int) := by omega
    have gc : s.data.toList.getD i 0 = c := by simp [List.getD, hc]
    have hw : (c.toNat : Int) ≤ 255 := by have := c.toNat_lt; omega
    simp only [sgn] at hp
    have hf : (!inside (c.toNat : Int) 97 122 && !inside (c.toNat : Int) 48 57) = true := by
      rw [← Bool.not_or, hp]; rfl
    simp only [XG, L230_2, h230_2, go_sem, seval, bnd_ite, hi1, Int.toNat_natCast, gc, Int.natCast_nonneg, w_i64 (c.toNat : Int) (by omega), w_i64 ((i : Int) + 1) (by omega), e117i, hf, if_true]
    exact .mk (by simp) ⟨rfl, rfl⟩
  case last =>
    intro _
    simp only [XG, L230_2, h230_2, go_sem, seval, bnd_ite, hn, Int.lt_irrefl, decide_false]
    exact .mk (by simp) ⟨rfl, rfl⟩
  case main =>
  rintro ⟨y, e, m⟩ ⟨k1, k2⟩
  have hs : ((0 : Nat) : Int) = 0 := rfl
  simp only [hs] at k1
  unfold nameOk
  rcases k2 with ⟨h, k2, k3⟩ | ⟨h, k2, k3⟩ <;> simp only at k2 k3 <;> subst k2
  · simp only [F230, h230_2, go_sem, seval, bnd_ite, k1, k3, e117i, h, Bool.true_and]
  · simp only [F230, h230_2, go_sem, seval, bnd_ite, k1, k3, h, Bool.false_and]
end Go.Proofs.Ytaaajjinpppgeaa
