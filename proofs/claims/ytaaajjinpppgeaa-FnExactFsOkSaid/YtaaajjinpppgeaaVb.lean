/- Devices and file systems: what is right; FsOk. Own work; no condition. -/
import Derived.Test.YtaaajjinpppgeaaVa
import Derived.Test.YtaaajjinpppgeaaOi
import Derived.Test.YtaaajjinpppgeaaPb
set_option linter.unusedVariables false
set_option linter.unusedSimpArgs false
set_option linter.unusedSectionVars false
namespace Go.Proofs.Ytaaajjinpppgeaa
open Go Go.Abs
set_option maxRecDepth 100000
def dvc (l : List ByteArray) : AV := .agg [.ro 1 (l.map sv)]
def dvcO (l : List ByteArray) : AV := .agg [.own 1 (l.map sv)]
def dvcSm (l : List ByteArray) : Prop := l.length ≤ 1048576
def dvcOk' (l : List ByteArray) : Prop := l.length ≤ maxLen ∧ ∀ x ∈ l, x.size ≤ maxLen
theorem e169 (l : List ByteArray) (n : Int) (h0 : 0 ≤ n) (hn : n ≤ 1048576) (hl : dvcOk' l) : ∃ r : Int, E T 169 [dvc l, .int .i64 n] [] = some (.int .i64 r, []) ∧ -1 ≤ r ∧ r ≤ n ∧ (0 ≤ r → dvcSm l) := by
  rw [E_eq t169 (Nat.le_of_ble_eq_true rfl)]
  obtain ⟨r, h1, h2, h3, h4⟩ := e234 l n h0 hn hl.1 hl.2
  simp only [dvc, F169, go_sem, seval, bnd_ite, h1]
  by_cases c1 : r < 0
  · rw [if_pos c1]; exact ⟨_, rfl, by omega, by omega, fun h => by omega⟩
  rw [if_neg c1]; exact ⟨_, rfl, by omega, by omega, fun h => h4 (by omega)⟩
theorem e171 (l : List ByteArray) (h : dvcSm l) : E T 171 [dvc l] [] = some (dvcO l, []) := by
  rw [E_eq t171 (Nat.le_of_ble_eq_true rfl)]
  have e1 := e235 l h
  simp only [dvc, dvcO, F171, go_sem, seval, bnd_ite, e1, tk_len]
theorem e173 (a b : List ByteArray) (h : dvcOk' a) : E T 173 [dvc a, dvc b] [] = some (.bool (decide (a = b)), []) := by
  rw [E_eq t173 (Nat.le_of_ble_eq_true rfl)]
  have e1 := e236 a b h.1
  simp only [dvc, F173, go_sem, seval, bnd_ite, e1]
  by_cases h : a = b <;> simp [h]
def short (s : ByteArray) : Bool := decide (s.size ≤ 60)
def dvcOk (l : List ByteArray) : Bool := l.all short && decide (l.length = 21)
theorem e170 (l : List ByteArray) (hl : l.length ≤ maxLen) : E T 170 [dvc l] [] = some (.bool (dvcOk l), []) := by
  rw [E_eq t170 (Nat.le_of_ble_eq_true rfl)]
  unfold maxLen at hl
  refine (XL_all (T := T) (b := 0) (hd := H170_2) (x := L170_2) l short (fun i => ⟨[(1, .ptr 0 0 0), (3, .int .i64 (i : Nat))], [some (1, [.agg [.ro 1 (l.map sv)]])]⟩)
    (fun r => r.1 = .exit 0 ∧ lookA r.2.env 1 = .ptr 0 0 0 ∧ r.2.mem = [some (1, [.agg [.ro 1 (l.map sv)]])]) (fun r => r.1 = .ret ∧ lookA r.2.env 2 = .bool false) ?step ?hit ?last).elim ?main
  case step =>
    intro i p hp hi hP _
    have hi1 : (i : Int) < (l.length : Int) := by omega
    have gp : (l.map sv).getD i .undef = .str p := gD_map hp
    simp only [short, decide_eq_true_eq] at hP
    have hf : ¬ (60 : Int) < (p.size : Int) := by omega
    simp only [XG, L170_2, h170_2, go_sem, seval, bnd_ite, hi1, gp, hf, Int.natCast_nonneg, w_i64 ((i : Int) + 1) (by omega), decide_false, Bool.false_eq_true, if_false]
    first | done | rfl
  case hit =>
    intro i p hp hi hP _
    have hi1 : (i : Int) < (l.length : Int) := by omega
    have gp : (l.map sv).getD i .undef = .str p := gD_map hp
    simp only [short, decide_eq_false_iff_not] at hP
    have hf : (60 : Int) < (p.size : Int) := by omega
    simp only [XG, L170_2, h170_2, go_sem, seval, bnd_ite, hi1, gp, hf, Int.natCast_nonneg, w_i64 ((i : Int) + 1) (by omega), decide_true, if_true]
    exact .mk (by simp) ⟨rfl, rfl⟩
  case last =>
    intro _
    simp only [XG, L170_2, h170_2, go_sem, seval, bnd_ite, Int.lt_irrefl, decide_false]
    exact .mk (by simp) ⟨rfl, rfl, rfl⟩
  case main =>
  rintro ⟨y, e, m⟩ ⟨k1, k2⟩
  have hs : ((0 : Nat) : Int) = 0 := rfl
  simp only [hs] at k1
  unfold dvcOk
  have hc : decide ((l.length : Int) = 21) = decide (l.length = 21) := by congr 1; apply propext; omega
  rcases k2 with ⟨h, k2, k3⟩ | ⟨h, k2, k3⟩ <;> simp only at k2 k3 <;> subst k2
  · obtain ⟨k3, rfl⟩ := k3
    simp only [dvc, F170, h170_2, go_sem, seval, bnd_ite, k1, k3, h, hc, Bool.true_and]
  · simp only [dvc, F170, h170_2, go_sem, seval, bnd_ite, k1, k3, h, Bool.false_and]
theorem e172 (l : List ByteArray) (hl : l.length ≤ maxLen) : E T 172 [dvc l] [] = some (.bool (dvcOk l), []) := by
  rw [E_eq t172 (Nat.le_of_ble_eq_true rfl)]
  unfold maxLen at hl
  refine (XL_all (T := T) (b := 0) (hd := H172_2) (x := L172_2) l short (fun i => ⟨[(1, .ptr 0 0 0), (6, .ro 1 (l.map sv)), (7, .int .i64 l.length), (8, .int .i64 (i : Nat))], [some (1, [.agg [.ro 1 (l.map sv)]])]⟩)
    (fun r => r.1 = .exit 0 ∧ lookA r.2.env 1 = .ptr 0 0 0 ∧ r.2.mem = [some (1, [.agg [.ro 1 (l.map sv)]])]) (fun r => r.1 = .ret ∧ lookA r.2.env 2 = .bool false) ?step ?hit ?last).elim ?main
  case step =>
    intro i p hp hi hP _
    have hi1 : (i : Int) < (l.length : Int) := by omega
    have gp : (l.map sv).getD i .undef = .str p := gD_map hp
    simp only [short, decide_eq_true_eq] at hP
    have hf : ¬ (60 : Int) < (p.size : Int) := by omega
    simp only [XG, L172_2, h172_2, go_sem, seval, bnd_ite, hi1, gp, hf, Int.natCast_nonneg, w_i64 ((i : Int) + 1) (by omega), decide_false, Bool.false_eq_true, if_false]
    first | done | rfl
  case hit =>
    intro i p hp hi hP _
    have hi1 : (i : Int) < (l.length : Int) := by omega
    have gp : (l.map sv).getD i .undef = .str p := gD_map hp
    simp only [short, decide_eq_false_iff_not] at hP
    have hf : (60 : Int) < (p.size : Int) := by omega
    simp only [XG, L172_2, h172_2, go_sem, seval, bnd_ite, hi1, gp, hf, Int.natCast_nonneg, w_i64 ((i : Int) + 1) (by omega), decide_true, if_true]
    exact .mk (by simp) ⟨rfl, rfl⟩
  case last =>
    intro _
    simp only [XG, L172_2, h172_2, go_sem, seval, bnd_ite, Int.lt_irrefl, decide_false]
    exact .mk (by simp) ⟨rfl, rfl, rfl⟩
  case main =>
  rintro ⟨y, e, m⟩ ⟨k1, k2⟩
  have hs : ((0 : Nat) : Int) = 0 := rfl
  simp only [hs] at k1
  unfold dvcOk
  have hc : decide ((l.length : Int) = 21) = decide (l.length = 21) := by congr 1; apply propext; omega
  rcases k2 with ⟨h, k2, k3⟩ | ⟨h, k2, k3⟩ <;> simp only at k2 k3 <;> subst k2
  · obtain ⟨k3, rfl⟩ := k3
    simp only [dvc, F172, h172_2, go_sem, seval, bnd_ite, k1, k3, h, hc, Bool.true_and]
  · simp only [dvc, F172, h172_2, go_sem, seval, bnd_ite, k1, k3, h, Bool.false_and]

structure Fsy where
  mem : Mm
  units : List ByteArray
  deriving DecidableEq
def fsy (x : Fsy) : AV := .agg [.ro 1 (x.mem.disk.used.map bv), .ro 1 (x.mem.disk.taken.map bv), .ro 3 (x.mem.disk.inos.map ino), .ro 3 (x.mem.disk.blks.map blk), .ro 1 (x.mem.dirty.map bv), .ro 11 (x.mem.deps.map dp), .int .i64 x.mem.next, .ro 1 (x.units.map sv)]
def fsyO (x : Fsy) : AV := .agg [.own 1 (x.mem.disk.used.map bv), .own 1 (x.mem.disk.taken.map bv), .own 3 (x.mem.disk.inos.map inoO), .own 3 (x.mem.disk.blks.map blkO), .own 1 (x.mem.dirty.map bv), .own 11 (x.mem.deps.map dpO), .int .i64 x.mem.next, .own 1 (x.units.map sv)]
structure Fsy.ok (x : Fsy) : Prop where
  mem : x.mem.ok
  dev : dvcOk' x.units
structure Fsy.sm (x : Fsy) : Prop where
  mem : x.mem.sm
  dev : dvcSm x.units
theorem e68 (x : Fsy) (n : Int) (h0 : 0 ≤ n) (hn : n ≤ 1048576) (hk : x.ok) : ∃ r : Int, E T 68 [fsy x, .int .i64 n] [] = some (.int .i64 r, []) ∧ -1 ≤ r ∧ r ≤ n ∧ (0 ≤ r → x.sm) := by
  rw [E_eq t68 (Nat.le_of_ble_eq_true rfl)]
  obtain ⟨r, h1, h2, h3, h4⟩ := e43 x.mem n h0 hn hk.mem
  unfold mm at h1
  simp only [fsy, F68, go_sem, seval, bnd_ite, h1]
  by_cases c1 : r < 0
  · rw [if_pos c1]; exact ⟨_, rfl, by omega, by omega, fun h => by omega⟩
  obtain ⟨r2, g1, g2, g3, g4⟩ := e169 x.units r (by omega) (by omega) hk.dev
  unfold dvc at g1
  rw [if_neg c1]
  simp only [go_sem, seval, bnd_ite, g1]
  by_cases c2 : r2 < 0
  · rw [if_pos c2]; exact ⟨_, rfl, by omega, by omega, fun h => by omega⟩
  rw [if_neg c2]; exact ⟨_, rfl, by omega, by omega, fun h => ⟨h4 (by omega), g4 (by omega)⟩⟩
theorem e70 (x : Fsy) (h : x.sm) : E T 70 [fsy x] [] = some (fsyO x, []) := by
  rw [E_eq t70 (Nat.le_of_ble_eq_true rfl)]
  have e1 := e45 x.mem h.mem
  have e2 := e171 x.units h.dev
  unfold mm mmO at e1
  unfold dvc dvcO at e2
  simp only [fsy, fsyO, F70, go_sem, seval, bnd_ite, e1, e2, tk_len]
theorem e72 (x y : Fsy) (h : x.ok) : E T 72 [fsy x, fsy y] [] = some (.bool (decide (x = y)), []) := by
  rw [E_eq t72 (Nat.le_of_ble_eq_true rfl)]
  have e1 := e47 x.mem y.mem h.mem
  have e2 := e173 x.units y.units h.dev
  unfold mm at e1
  unfold dvc at e2
  simp only [fsy, F72, go_sem, seval, bnd_ite, e1, e2]
  cases x with | mk a b =>
  cases y with | mk c d =>
  by_cases h1 : a = c <;> by_cases h2 : b = d <;> simp_all
def fsyOk (x : Fsy) : Bool := memOk x.mem && dvcOk x.units
theorem e69 (x : Fsy) (h : x.ok) : E T 69 [fsy x] [] = some (.bool (fsyOk x), []) := by
  rw [E_eq t69 (Nat.le_of_ble_eq_true rfl)]
  have e1 := e59 x.mem h.mem
  have e2 := e170 x.units h.dev.1
  unfold mm at e1
  unfold dvc at e2
  simp only [fsy, F69, go_sem, seval, bnd_ite, e1, e2, fsyOk]
theorem e71 (x : Fsy) (h : x.ok) : E T 71 [fsy x] [] = some (.bool (fsyOk x), []) := by
  rw [E_eq t71 (Nat.le_of_ble_eq_true rfl)]
  have e1 := e60 x.mem h.mem
  have e2 := e172 x.units h.dev.1
  unfold mm at e1
  unfold dvc at e2
  simp only [fsy, F71, go_sem, seval, bnd_ite, e1, e2, fsyOk]
theorem e12 (x : Fsy) (h : x.ok) : E T 12 [fsy x] [] = some (.bool true, []) := by
  rw [E_eq t12 (Nat.le_of_ble_eq_true rfl)]
  obtain ⟨r, h1, h2, h3, h4⟩ := e68 x 1048576 (by omega) (by omega) h
  have c70 := fun h => e70 x h
  have c69 := e69 x h
  have c71 := e71 x h
  have c72 := e72 x x h
  simp only [fsy, fsyO] at h1 c70 c69 c71 c72 ⊢
  simp only [F12, go_sem, seval, bnd_ite, h1]
  by_cases c1 : r < 0
  · rw [if_pos c1]
  rw [if_neg c1]
  have hm := h4 (by omega)
  simp only [go_sem, seval, bnd_ite, c70 hm, c69, c71, c72]
  cases fsyOk x <;> simp
end Go.Proofs.Ytaaajjinpppgeaa
