/- Marking rows of numbers and of truth values. Own work; no condition. -/
import Derived.Test.YtaaajjinpppgeaaGreatFl
import Derived.Test.YtaaajjinpppgeaaGreatDc
set_option linter.unusedVariables false
set_option linter.unusedSimpArgs false
set_option linter.unusedSectionVars false
namespace Go.Proofs.YtaaajjinpppgeaaGreat
open Go Go.Abs
set_option maxRecDepth 100000
/-- What a row is behind the first marks: each mark is told by its number. -/
def marks {α : Type} (f : Nat → α) (l : List α) (i : Nat) : List α := (List.range i).map f ++ l.drop i
section
variable {α : Type} {f : Nat → α} {l : List α} {i : Nat}
theorem marks_0 : marks f l 0 = l := by simp [marks]
theorem marks_all : marks f l l.length = (List.range l.length).map f := by simp [marks]
theorem marks_len (h : i ≤ l.length) : (marks f l i).length = l.length := by simp [marks]; omega
theorem marks_get {x : α} (h : l[i]? = some x) : (marks f l i)[i]? = some x := by
  unfold marks
  rw [List.getElem?_append_right (by simp)]
  simp [h]
theorem marks_set (h : i < l.length) : (marks f l i).set i (f i) = marks f l (i + 1) := by
  unfold marks
  rw [List.set_append_right _ _ (by simp)]
  have e : i - ((List.range i).map f).length = 0 := by simp
  rw [e, List.drop_eq_getElem_cons h, List.set_cons_zero, List.range_succ, List.map_append, List.append_assoc]
  rfl
end
theorem set_map {α : Type} {f : α → AV} {l : List α} {i : Nat} {x : α} : (l.map f).set i (f x) = (l.set i x).map f := by rw [List.map_set]
theorem e189 (l : List Int) (k : Int) (h0 : 0 ≤ k) (hk : k ≤ 4611686018427387904) (hl : l.length ≤ 1048576) :
    E T 189 [.sl 0 0 l.length, .int .i64 k] [some (1, l.map iv)] = some (.int .i64 (k + l.length), [some (1, ((List.range l.length).map fun i => k + (i : Nat)).map iv)]) := by
  rw [E_eq t189 (Nat.le_of_ble_eq_true rfl)]
  simp only [F189, h189_2, go_sem, seval, bnd_ite]
  refine (XL_inv (T := T) (b := 1) (hd := H189_2) (x := L189_2) (β := Unit) (fun i _ => ⟨[(0, .sl 0 0 l.length), (1, .int .i64 (k + (i : Nat))), (5, .int .i64 (i : Nat))], [some (1, (marks (fun i => k + (i : Nat)) l i).map iv)]⟩)
    (fun i _ => True) l.length (fun r => r.1 = .exit 0 ∧ r.2.mem = [some (1, (marks (fun i => k + (i : Nat)) l l.length).map iv)] ∧ lookA r.2.env 1 = .int .i64 (k + l.length)) ?step ?last 0 () (by omega) trivial).elim ?main
  case step =>
    intro i _ hi _
    obtain ⟨p, hp⟩ := get_at hi
    have hi1 : (i : Int) < (l.length : Int) := by omega
    left
    refine ⟨(), ?_, trivial⟩
    have ms := marks_set (f := fun i => k + (i : Nat)) hi
    have sm : ∀ m : List Int, (m.map iv).set i (AV.int .i64 (k + (i : Nat))) = (m.set i (k + (i : Nat))).map iv := fun m => set_map (f := iv)
    have hml : (marks (fun i => k + (i : Nat)) l i).length = l.length := marks_len (by omega)
    have gx : ((marks (fun i => k + (i : Nat)) l i).map iv).getD i .undef = AV.int .i64 p := gD_map (marks_get hp)
    simp only [XG, L189_2, h189_2, go_sem, seval, bnd_ite, hi1, hml, hi, gx, Int.natCast_nonneg, w_i64 ((i : Int) + 1) (by omega), w_i64 (k + (i : Int) + 1) (by omega), sm, ms]
    rw [Int.add_assoc]; rfl
  case last =>
    intro _ _
    have hml : (marks (fun i => k + (i : Nat)) l l.length).length = l.length := marks_len (by omega)
    simp only [XG, L189_2, h189_2, go_sem, seval, bnd_ite, hml, Int.lt_irrefl, decide_false]
    exact .mk (by simp) ⟨rfl, rfl, rfl⟩
  case main =>
  rintro ⟨x, e, m⟩ ⟨h1, h2, h3, h4, h5⟩
  have hs : ((0 : Nat) : Int) = 0 := rfl
  rw [marks_0, hs, Int.add_zero] at h1
  simp only at h3 h4 h5; subst h3; subst h4
  simp only [h1, go_sem, seval, h5, marks_all]
/-- The mark of a truth value. -/
def mb (k : Int) : Bool := decide (k.tmod 3 = 0)
theorem e163 (l : List Bool) (k : Int) (h0 : 0 ≤ k) (hk : k ≤ 4611686018427387904) (hl : l.length ≤ 1048576) :
    E T 163 [.sl 0 0 l.length, .int .i64 k] [some (1, l.map bv)] = some (.int .i64 (k + l.length), [some (1, ((List.range l.length).map fun i => mb (k + (i : Nat))).map bv)]) := by
  rw [E_eq t163 (Nat.le_of_ble_eq_true rfl)]
  simp only [F163, h163_2, go_sem, seval, bnd_ite]
  refine (XL_inv (T := T) (b := 1) (hd := H163_2) (x := L163_2) (β := Unit) (fun i _ => ⟨[(0, .sl 0 0 l.length), (1, .int .i64 (k + (i : Nat))), (5, .int .i64 (i : Nat))], [some (1, (marks (fun i => mb (k + (i : Nat))) l i).map bv)]⟩)
    (fun i _ => True) l.length (fun r => r.1 = .exit 0 ∧ r.2.mem = [some (1, (marks (fun i => mb (k + (i : Nat))) l l.length).map bv)] ∧ lookA r.2.env 1 = .int .i64 (k + l.length)) ?step ?last 0 () (by omega) trivial).elim ?main
  case step =>
    intro i _ hi _
    obtain ⟨p, hp⟩ := get_at hi
    have hi1 : (i : Int) < (l.length : Int) := by omega
    left
    refine ⟨(), ?_, trivial⟩
    have ms := marks_set (f := fun i => mb (k + (i : Nat))) hi
    have sm : ∀ m : List Bool, (m.map bv).set i (AV.bool (decide ((k + (i : Nat)).tmod 3 = 0))) = (m.set i (mb (k + (i : Nat)))).map bv := fun m => set_map (f := bv)
    have hml : (marks (fun i => mb (k + (i : Nat))) l i).length = l.length := marks_len (by omega)
    have gx : ((marks (fun i => mb (k + (i : Nat))) l i).map bv).getD i .undef = AV.bool p := gD_map (marks_get hp)
    simp only [XG, L163_2, h163_2, go_sem, seval, bnd_ite, hi1, hml, hi, gx, Int.natCast_nonneg, w_i64 ((i : Int) + 1) (by omega), w_i64 (k + (i : Int) + 1) (by omega), sm, ms]
    rw [Int.add_assoc]; rfl
  case last =>
    intro _ _
    have hml : (marks (fun i => mb (k + (i : Nat))) l l.length).length = l.length := marks_len (by omega)
    simp only [XG, L163_2, h163_2, go_sem, seval, bnd_ite, hml, Int.lt_irrefl, decide_false]
    exact .mk (by simp) ⟨rfl, rfl, rfl⟩
  case main =>
  rintro ⟨x, e, m⟩ ⟨h1, h2, h3, h4, h5⟩
  have hs : ((0 : Nat) : Int) = 0 := rfl
  rw [marks_0, hs, Int.add_zero] at h1
  simp only at h3 h4 h5; subst h3; subst h4
  simp only [h1, go_sem, seval, h5, marks_all]
theorem range_at {α : Type} (f : Nat → α) {n i : Nat} (h : i < n) : ((List.range n).map f)[i]? = some (f i) := by simp [h]
theorem e191 (n : Nat) (k : Int) (h0 : 0 ≤ k) (hk : k ≤ 4611686018427387904) (hl : n ≤ 1048576) :
    E T 191 [.ro 1 (((List.range n).map fun i => k + (i : Nat)).map iv), .int .i64 k] [] = some (.int .i64 (k + n), []) := by
  rw [E_eq t191 (Nat.le_of_ble_eq_true rfl)]
  simp only [F191, h191_2, go_sem, seval, bnd_ite]
  generalize hL : ((List.range n).map fun i => k + (i : Nat)) = L
  have hln : L.length = n := by rw [← hL]; simp
  refine (XL_inv (T := T) (b := 0) (hd := H191_2) (x := L191_2) (β := Unit) (fun i _ => ⟨[(0, .ro 1 (L.map iv)), (1, .int .i64 (k + (i : Nat))), (5, .int .i64 (i : Nat))], []⟩)
    (fun i _ => True) n (fun r => r.1 = .exit 0 ∧ lookA r.2.env 1 = .int .i64 (k + n)) ?step ?last 0 () (by omega) trivial).elim ?main
  case step =>
    intro i _ hi _
    have hi1 : (i : Int) < (n : Int) := by omega
    have hat : L[i]? = some (k + (i : Nat)) := by rw [← hL]; exact range_at _ hi
    left
    refine ⟨(), ?_, trivial⟩
    simp only [XG, L191_2, h191_2, go_sem, seval, bnd_ite, hln, hi1, hi, gD_map hat, iv, bdec, bne_dec, decide_true, Bool.not_true, Bool.false_eq_true, if_false, Int.natCast_nonneg, w_i64 ((i : Int) + 1) (by omega), w_i64 (k + (i : Int) + 1) (by omega)]
    rw [Int.add_assoc]; rfl
  case last =>
    intro _ _
    simp only [XG, L191_2, h191_2, go_sem, seval, bnd_ite, hln, Int.lt_irrefl, decide_false]
    exact .mk (by simp) ⟨rfl, rfl⟩
  case main =>
  rintro ⟨x, e, m⟩ ⟨h1, h2, h3, h4⟩
  have hs : ((0 : Nat) : Int) = 0 := rfl
  rw [hs, Int.add_zero] at h1
  simp only at h3 h4; subst h3
  simp only [h1, go_sem, seval, h4]
theorem e165 (n : Nat) (k : Int) (h0 : 0 ≤ k) (hk : k ≤ 4611686018427387904) (hl : n ≤ 1048576) :
    E T 165 [.ro 1 (((List.range n).map fun i => mb (k + (i : Nat))).map bv), .int .i64 k] [] = some (.int .i64 (k + n), []) := by
  rw [E_eq t165 (Nat.le_of_ble_eq_true rfl)]
  simp only [F165, h165_2, go_sem, seval, bnd_ite]
  generalize hL : ((List.range n).map fun i => mb (k + (i : Nat))) = L
  have hln : L.length = n := by rw [← hL]; simp
  refine (XL_inv (T := T) (b := 0) (hd := H165_2) (x := L165_2) (β := Unit) (fun i _ => ⟨[(0, .ro 1 (L.map bv)), (1, .int .i64 (k + (i : Nat))), (5, .int .i64 (i : Nat))], []⟩)
    (fun i _ => True) n (fun r => r.1 = .exit 0 ∧ lookA r.2.env 1 = .int .i64 (k + n)) ?step ?last 0 () (by omega) trivial).elim ?main
  case step =>
    intro i _ hi _
    have hi1 : (i : Int) < (n : Int) := by omega
    have hat : L[i]? = some (mb (k + (i : Nat))) := by rw [← hL]; exact range_at _ hi
    left
    refine ⟨(), ?_, trivial⟩
    simp only [XG, L165_2, h165_2, go_sem, seval, bnd_ite, hln, hi1, hi, gD_map hat, bv, mb, bdec, bne_dec, decide_true, Bool.not_true, Bool.false_eq_true, if_false, Int.natCast_nonneg, w_i64 ((i : Int) + 1) (by omega), w_i64 (k + (i : Int) + 1) (by omega)]
    rw [Int.add_assoc]; rfl
  case last =>
    intro _ _
    simp only [XG, L165_2, h165_2, go_sem, seval, bnd_ite, hln, Int.lt_irrefl, decide_false]
    exact .mk (by simp) ⟨rfl, rfl⟩
  case main =>
  rintro ⟨x, e, m⟩ ⟨h1, h2, h3, h4⟩
  have hs : ((0 : Nat) : Int) = 0 := rfl
  rw [hs, Int.add_zero] at h1
  simp only at h3 h4; subst h3
  simp only [h1, go_sem, seval, h4]
end Go.Proofs.YtaaajjinpppgeaaGreat
