/- Settled: both answers are alike. Own work; no condition. -/
import Derived.Test.YtaaajjinpppgeaaMa
set_option linter.unusedVariables false
set_option linter.unusedSimpArgs false
set_option linter.unusedSectionVars false
namespace Go.Proofs.Ytaaajjinpppgeaa
open Go Go.Abs
set_option maxRecDepth 100000
theorem e216 (xs : List Bool) (y : Bool) (ha : xs.length ≤ maxLen) : ∃ r : Int, E T 216 [.ro 1 (xs.map bv), .bool y] [] = some (.int .i64 r, []) ∧ (0 ≤ r ↔ y ∈ xs) := by
  rw [E_eq t216 (Nat.le_of_ble_eq_true rfl)]
  simp only [F216, h216_2, go_sem, seval, bnd_ite]
  unfold maxLen at ha
  refine (XL_inv (T := T) (b := 0) (hd := H216_2) (x := L216_2) (β := Unit) (fun i _ => ⟨[(0, .ro 1 (xs.map bv)), (1, .bool y), (7, .int .i64 xs.length), (8, .int .i64 (i : Nat))], []⟩)
    (fun i _ => y ∉ xs.take i) xs.length (fun r => (r.1 = .exit 0 ∧ y ∉ xs) ∨ (r.1 = .ret ∧ ∃ n : Nat, lookA r.2.env 4 = .int .i64 n ∧ y ∈ xs)) ?step ?last 0 () (by omega) (by simp)).elim ?main
  case step =>
    intro i _ hi hI
    obtain ⟨p, hp⟩ := get_at hi
    have hi1 : (i : Int) < (xs.length : Int) := by omega
    simp only [XG, L216_2, h216_2, go_sem, seval, bnd_ite, hi1, gD_map hp, bv, bdec, bne_dec, Int.natCast_nonneg, w_i64 ((i : Int) + 1) (by omega)]
    by_cases he : y = p
    · right
      simp only [he, decide_true, if_true]
      exact .mk (by simp) (.inr ⟨rfl, i, rfl, List.mem_of_getElem? hp⟩)
    · left
      simp only [he, decide_false, Bool.false_eq_true, if_false]
      exact ⟨(), rfl, by rw [take_snoc hp]; simp [hI, he]⟩
  case last =>
    intro _ hI
    rw [List.take_length] at hI
    simp only [XG, L216_2, h216_2, go_sem, seval, bnd_ite, Int.lt_irrefl, decide_false]
    exact .mk (by simp) (.inl ⟨rfl, hI⟩)
  case main =>
  rintro ⟨x, st⟩ ⟨h1, h2, h3⟩
  have hs : ((0 : Nat) : Int) = 0 := rfl
  rw [hs] at h1
  simp only [h1]
  obtain ⟨e, m⟩ := st
  rcases h3 with ⟨hx, h4⟩ | ⟨hx, n, h4, h5⟩
  · simp only at hx; subst hx
    simp only [go_sem, seval]; exact ⟨-1, rfl, by simp [h4]⟩
  · simp only at hx h4; subst hx
    simp only [go_sem, seval, h4]; exact ⟨n, rfl, by simp [h5]⟩
theorem e138 (xs : List Bool) (y : Bool) (ha : xs.length ≤ maxLen) : E T 138 [.ro 1 (xs.map bv), .bool y] [] = some (.bool (decide (y ∈ xs)), []) := by
  rw [E_eq t138 (Nat.le_of_ble_eq_true rfl)]
  obtain ⟨r, h1, h2⟩ := e216 xs y ha
  simp only [F138, go_sem, seval, bnd_ite, h1, ← h2]
def settled (x : Mm) : Bool := !decide (true ∈ x.dirty) && decide ((x.deps.length : Int) = 0)
theorem e46 (x : Mm) (h : x.ok) : E T 46 [mm x] [] = some (.bool (settled x), []) := by
  rw [E_eq t46 (Nat.le_of_ble_eq_true rfl)]
  simp only [mm, F46, go_sem, seval, bnd_ite, e138 x.dirty true h.dirty]
  unfold settled
  cases decide (true ∈ x.dirty) <;> simp
theorem e44 (x : Mm) (h : x.sm) : E T 44 [mm x] [] = some (.bool (settled x), []) := by
  rw [E_eq t44 (Nat.le_of_ble_eq_true rfl)]
  have hl := h.dirty
  refine (XL_inv (T := T) (b := 0) (hd := H44_2) (x := L44_2) (β := Unit) (fun i _ => ⟨[(1, .ptr 0 0 0), (3, .int .i64 (i : Nat))], [some (7, [mm x])]⟩)
    (fun i _ => true ∉ x.dirty.take i) x.dirty.length (fun r => (r.1 = .exit 0 ∧ true ∉ x.dirty ∧ r.2.mem = [some (7, [mm x])] ∧ lookA r.2.env 1 = .ptr 0 0 0) ∨ (r.1 = .ret ∧ lookA r.2.env 2 = .bool false ∧ true ∈ x.dirty)) ?step ?last 0 () (by omega) (by simp)).elim ?main
  case step =>
    intro i _ hi hI
    obtain ⟨p, hp⟩ := get_at hi
    have hi1 : (i : Int) < (x.dirty.length : Int) := by omega
    simp only [XG, L44_2, h44_2, mm, go_sem, seval, bnd_ite, hi1, gD_map hp, bv, Int.natCast_nonneg, w_i64 ((i : Int) + 1) (by omega)]
    cases p
    · left
      simp only [Bool.false_eq_true, if_false]
      exact ⟨(), rfl, by rw [take_snoc hp]; simp [hI]⟩
    · right
      simp only [if_true]
      exact .mk (by simp) (.inr ⟨rfl, rfl, List.mem_of_getElem? hp⟩)
  case last =>
    intro _ hI
    rw [List.take_length] at hI
    simp only [XG, L44_2, h44_2, mm, go_sem, seval, bnd_ite, Int.lt_irrefl, decide_false]
    exact .mk (by simp) (.inl ⟨rfl, hI, rfl, rfl⟩)
  case main =>
  rintro ⟨y, e, m⟩ ⟨h1, h2, h3⟩
  have hs : ((0 : Nat) : Int) = 0 := rfl
  simp only [hs, mm] at h1
  simp only [mm, F44, h44_2, go_sem, seval, bnd_ite, h1]
  unfold settled
  rcases h3 with ⟨hx, h4, h5, h6⟩ | ⟨hx, h4, h5⟩
  · simp only at hx h5 h6; subst hx; subst h5
    simp only [mm, go_sem, seval, h6]; simp [h4]
  · simp only at hx h4; subst hx
    simp only [go_sem, seval, h4]; simp [h5]
theorem e6 (x : Mm) (h : x.ok) : E T 6 [mm x] [] = some (.bool true, []) := by
  rw [E_eq t6 (Nat.le_of_ble_eq_true rfl)]
  obtain ⟨r, h1, h2, h3, h4⟩ := e43 x 1048576 (by omega) (by omega) h
  have c45 := fun h => e45 x h
  have c44 := fun h => e44 x h
  have c46 := e46 x h
  have c47 := e47 x x h
  simp only [mm, mmO] at h1 c45 c44 c46 c47 ⊢
  simp only [F6, go_sem, seval, bnd_ite, h1]
  by_cases c1 : r < 0
  · rw [if_pos c1]
  rw [if_neg c1]
  have hm := h4 (by omega)
  simp only [go_sem, seval, bnd_ite, c45 hm, c44 hm, c46, c47]
  cases settled x <;> simp
end Go.Proofs.Ytaaajjinpppgeaa
