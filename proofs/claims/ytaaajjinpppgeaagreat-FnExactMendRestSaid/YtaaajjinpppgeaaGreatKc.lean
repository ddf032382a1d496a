/- Marking texts and slots. Own work; no condition. -/
import Derived.Test.YtaaajjinpppgeaaGreatFl
import Derived.Test.YtaaajjinpppgeaaGreatKa
set_option linter.unusedVariables false
set_option linter.unusedSimpArgs false
set_option linter.unusedSectionVars false
namespace Go.Proofs.YtaaajjinpppgeaaGreat
open Go Go.Abs
set_option maxRecDepth 100000
theorem e162' (k : Int) (h0 : 0 ≤ k) (hk : k ≤ 4611686018427387904) : ∃ s, E T 162 [.int .i64 k] [] = some (.str s, []) := by
  rw [E_eq t162 (Nat.le_of_ble_eq_true rfl)]
  simp only [F162, h162_4, go_sem, seval, bnd_ite]
  by_cases c1 : k ≤ 0
  · rw [if_pos c1]; exact ⟨_, rfl⟩
  rw [if_neg c1]
  refine (XL_inv (T := T) (b := 0) (hd := H162_4) (x := L162_4) (β := Int × ByteArray) (fun i a => ⟨[(0, .int .i64 a.1), (3, .str a.2)], []⟩)
    (fun i a => 0 ≤ a.1 ∧ a.1 + i ≤ k ∧ a.2.size ≤ i) k.toNat (fun r => r.1 = .exit 0 ∧ ∃ s : ByteArray, lookA r.2.env 3 = .str s ∧ (s.size : Int) ≤ k) ?step ?last 0 (k, ⟨#[]⟩) (by omega) ⟨h0, by simp, Nat.le_refl 0⟩).elim ?main
  case step =>
    intro i a hi ⟨hI1, hI2, hI3⟩
    by_cases hp : 0 < a.1
    · left
      have hq : a.1.tdiv 10 = a.1 / 10 := Int.tdiv_eq_ediv_of_nonneg hI1
      simp only [XG, L162_4, h162_4, go_sem, seval, bnd_ite, hp, decide_true, hq, w_i64 (a.1 / 10) (by omega)]
      have sz : ∀ c : UInt8, (⟨#[c]⟩ : ByteArray).size = 1 := fun _ => rfl
      rw [if_pos (by first | (rw [sz]; omega) | (simp only [List.size_toArray, List.length_cons, List.length_nil]; omega))]
      exact ⟨(_, _), rfl, by show 0 ≤ a.1 / 10; omega, by show a.1 / 10 + ((i + 1 : Nat) : Int) ≤ k; omega, by rw [ByteArray.size_append, sz]; omega⟩
    · right
      simp only [XG, L162_4, h162_4, go_sem, seval, bnd_ite, hp, decide_false, Bool.false_eq_true, if_false]
      exact .mk (by simp) ⟨rfl, a.2, rfl, by omega⟩
  case last =>
    intro a ⟨hI1, hI2, hI3⟩
    have hp : ¬ 0 < a.1 := by omega
    simp only [XG, L162_4, h162_4, go_sem, seval, bnd_ite, hp, decide_false, Bool.false_eq_true, if_false]
    exact .mk (by simp) ⟨rfl, a.2, rfl, by omega⟩
  case main =>
  rintro ⟨x, e, m⟩ ⟨h1, h2, h3, s, h4, h5⟩
  simp only at h1 h3 h4; subst h3
  have sz : ∀ c : UInt8, (⟨#[c]⟩ : ByteArray).size = 1 := fun _ => rfl
  simp only [h1, go_sem, seval, h4]
  rw [if_pos (by first | (rw [sz]; omega) | (simp only [List.size_toArray, List.length_cons, List.length_nil]; omega))]
  simp only [go_sem, seval]
  exact ⟨_, rfl⟩
/-- The text of a mark. -/
noncomputable def mtext (k : Int) : ByteArray := match E T 162 [.int .i64 k] [] with
  | some (.str s, _) => s
  | _ => ⟨#[]⟩
theorem e162 (k : Int) (h0 : 0 ≤ k) (hk : k ≤ 4611686018427387904) : E T 162 [.int .i64 k] [] = some (.str (mtext k), []) := by
  obtain ⟨s, h⟩ := e162' k h0 hk
  unfold mtext; rw [h]
set_option maxRecDepth 100000
section
variable {α : Type} (st : Int → α → α) (cost : α → Nat)
/-- A row that is marked from a number on; what one thing takes up of the numbers. -/
def mkL : Int → List α → List α
  | _, [] => []
  | k, x :: xs => st k x :: mkL (k + cost x) xs
def costL : List α → Nat
  | [] => 0
  | x :: xs => cost x + costL xs
def mkP (k : Int) (l : List α) (i : Nat) : List α := mkL st cost k (l.take i) ++ l.drop i
variable {st cost} {k : Int} {l : List α} {i : Nat} {x : α}
theorem mkL_len : ∀ {k : Int} {l : List α}, (mkL st cost k l).length = l.length := by
  intro k l
  induction l generalizing k with
  | nil => rfl
  | cons x xs ih => simp [mkL, ih]
theorem costL_app (a b : List α) : costL cost (a ++ b) = costL cost a + costL cost b := by
  induction a with
  | nil => simp [costL]
  | cons x xs ih => simp [costL, ih]; omega
theorem mkL_app (a b : List α) : ∀ k, mkL st cost k (a ++ b) = mkL st cost k a ++ mkL st cost (k + costL cost a) b := by
  induction a with
  | nil => intro k; simp [mkL, costL]
  | cons x xs ih =>
    intro k
    simp only [List.cons_append, mkL, costL, ih]
    rw [show k + ((cost x + costL cost xs : Nat) : Int) = k + (cost x : Int) + (costL cost xs : Int) by omega]
theorem costL_succ (h : l[i]? = some x) : costL cost (l.take (i + 1)) = costL cost (l.take i) + cost x := by
  rw [take_snoc h, costL_app]; simp [costL]
theorem costL_le {C : Nat} : ∀ {l : List α}, (∀ x ∈ l, cost x ≤ C) → costL cost l ≤ l.length * C := by
  intro l
  induction l with
  | nil => intro _; simp [costL]
  | cons x xs ih =>
    intro h
    have h1 := ih (fun y hy => h y (List.mem_cons_of_mem _ hy))
    have h2 := h x (List.mem_cons_self ..)
    simp only [costL, List.length_cons, Nat.add_mul, Nat.one_mul]; omega
theorem mkP_0 : mkP st cost k l 0 = l := by simp [mkP, mkL]
theorem mkP_all : mkP st cost k l l.length = mkL st cost k l := by simp [mkP]
theorem mkP_len : (mkP st cost k l i).length = l.length := by simp [mkP, mkL_len]; omega
theorem mkP_get (h : l[i]? = some x) : (mkP st cost k l i)[i]? = some x := by
  have hi := (List.getElem?_eq_some_iff.1 h).1
  unfold mkP
  rw [List.getElem?_append_right (by rw [mkL_len, List.length_take]; exact Nat.min_le_left ..)]
  simp [mkL_len, Nat.min_eq_left (Nat.le_of_lt hi), h]
theorem mkP_set (h : l[i]? = some x) : (mkP st cost k l i).set i (st (k + costL cost (l.take i)) x) = mkP st cost k l (i + 1) := by
  have hi := (List.getElem?_eq_some_iff.1 h).1
  obtain ⟨_, hx⟩ := List.getElem?_eq_some_iff.1 h
  unfold mkP
  rw [take_snoc h, mkL_app, List.set_append_right _ _ (by rw [mkL_len, List.length_take]; exact Nat.min_le_left ..)]
  have e : i - (mkL st cost k (l.take i)).length = 0 := by rw [mkL_len]; simp; omega
  rw [e, List.drop_eq_getElem_cons hi, List.set_cons_zero, List.append_assoc]
  rfl
theorem mkL_at : ∀ {l : List α} {k : Int} {i : Nat} {x : α}, l[i]? = some x → (mkL st cost k l)[i]? = some (st (k + costL cost (l.take i)) x) := by
  intro l
  induction l with
  | nil => intro k i x h; simp at h
  | cons y ys ih =>
    intro k i x h
    cases i with
    | zero => simp only [List.getElem?_cons_zero, Option.some.injEq] at h; subst h; simp [mkL, costL]
    | succ i =>
      simp only [List.getElem?_cons_succ] at h
      simp only [mkL, List.getElem?_cons_succ, ih h, List.take_succ_cons, costL]
      rw [show k + ((cost y + costL cost (ys.take i) : Nat) : Int) = k + (cost y : Int) + (costL cost (ys.take i) : Int) by omega]
end
theorem getD_set {l : List AV} {i : Nat} (h : i < l.length) (v : AV) : (l.set i v).getD i .undef = v := by simp [h]
noncomputable def mkSlt (k : Int) (_ : Slt) : Slt := ⟨mtext k, k + 1⟩
theorem e190 (l : List Slt) (k : Int) (h0 : 0 ≤ k) (hk : k ≤ 1152921504606846976) (hl : l.length ≤ 1048576) :
    E T 190 [.sl 0 0 l.length, .int .i64 k] [some (2, l.map slt)] = some (.int .i64 (k + costL (fun _ => 2) l), [some (2, (mkL mkSlt (fun _ => 2) k l).map slt)]) := by
  rw [E_eq t190 (Nat.le_of_ble_eq_true rfl)]
  simp only [F190, h190_2, go_sem, seval, bnd_ite]
  have hc : ∀ i, costL (fun _ => 2) (l.take i) ≤ 2097152 := fun i => by
    have h1 := costL_le (cost := fun _ : Slt => 2) (C := 2) (l := l.take i) (fun _ _ => Nat.le_refl _)
    have h2 : (l.take i).length ≤ l.length := by simp; omega
    omega
  refine (XL_inv (T := T) (b := 1) (hd := H190_2) (x := L190_2) (β := Unit) (fun i _ => ⟨[(0, .sl 0 0 l.length), (1, .int .i64 (k + (costL (fun _ => 2) (l.take i) : Nat))), (5, .int .i64 (i : Nat))], [some (2, (mkP mkSlt (fun _ => 2) k l i).map slt)]⟩)
    (fun i _ => True) l.length (fun r => r.1 = .exit 0 ∧ r.2.mem = [some (2, (mkL mkSlt (fun _ => 2) k l).map slt)] ∧ lookA r.2.env 1 = .int .i64 (k + (costL (fun _ => 2) l : Nat))) ?step ?last 0 () (by omega) trivial).elim ?main
  case step =>
    intro i _ hi _
    obtain ⟨p, hp⟩ := get_at hi
    have hi1 : (i : Int) < (l.length : Int) := by omega
    have hci := hc i
    left
    refine ⟨(), ?_, trivial⟩
    have ms := mkP_set (st := mkSlt) (cost := fun _ => 2) (k := k) hp
    have cs := costL_succ (cost := fun _ : Slt => 2) hp
    have gx : ((mkP mkSlt (fun _ => 2) k l i).map slt).getD i .undef = slt p := gD_map (mkP_get hp)
    generalize hR : mkP mkSlt (fun _ => 2) k l i = R at *
    have hml : R.length = l.length := by rw [← hR]; exact mkP_len
    have hmi : i < (R.map slt).length := by rw [List.length_map, hml]; exact hi
    have e1 := e162 (k + (costL (fun _ => 2) (l.take i) : Nat)) (by omega) (by omega)
    generalize hK : k + (costL (fun _ => 2) (l.take i) : Int) = K at *
    have sm : (R.map slt).set i (.agg [.str (mtext K), .int .i64 (K + 1)]) = (mkP mkSlt (fun _ => 2) k l (i + 1)).map slt := by rw [← ms]; exact set_map (f := slt) (x := mkSlt K p)
    have e2 : k + ((costL (fun _ => 2) (l.take (i + 1)) : Nat) : Int) = K + 1 + 1 := by rw [cs]; omega
    simp only [XG, L190_2, h190_2, go_sem, seval, bnd_ite, hi1, hml, hi, gx, sm, slt, e1, getD_set hmi, List.set_set, Int.natCast_nonneg, w_i64 ((i : Int) + 1) (by omega), w_i64 (K + 1) (by omega), w_i64 (K + 1 + 1) (by omega)]
    rw [e2]; rfl
  case last =>
    intro _ _
    have hml : (mkP mkSlt (fun _ => 2) k l l.length).length = l.length := mkP_len
    simp only [XG, L190_2, h190_2, go_sem, seval, bnd_ite, hml, Int.lt_irrefl, decide_false]
    exact .mk (by simp) ⟨rfl, by rw [mkP_all], rfl⟩
  case main =>
  rintro ⟨x, e, m⟩ ⟨h1, h2, h3, h4, h5⟩
  have hs : ((0 : Nat) : Int) = 0 := rfl
  simp only [mkP_0, List.take_zero, costL, hs, Int.add_zero] at h1
  simp only at h3 h4 h5; subst h3; subst h4
  simp only [h1, go_sem, seval, h5]
theorem e192 (l : List Slt) (k : Int) (h0 : 0 ≤ k) (hk : k ≤ 1152921504606846976) (hl : l.length ≤ 1048576) :
    E T 192 [.ro 2 ((mkL mkSlt (fun _ => 2) k l).map slt), .int .i64 k] [] = some (.int .i64 (k + costL (fun _ => 2) l), []) := by
  rw [E_eq t192 (Nat.le_of_ble_eq_true rfl)]
  simp only [F192, h192_2, go_sem, seval, bnd_ite]
  have hc : ∀ i, costL (fun _ => 2) (l.take i) ≤ 2097152 := fun i => by
    have h1 := costL_le (cost := fun _ : Slt => 2) (C := 2) (l := l.take i) (fun _ _ => Nat.le_refl _)
    have h2 : (l.take i).length ≤ l.length := by simp; omega
    omega
  generalize hL : mkL mkSlt (fun _ => 2) k l = L
  have hln : L.length = l.length := by rw [← hL]; exact mkL_len
  refine (XL_inv (T := T) (b := 0) (hd := H192_2) (x := L192_2) (β := Unit) (fun i _ => ⟨[(0, .ro 2 (L.map slt)), (1, .int .i64 (k + (costL (fun _ => 2) (l.take i) : Nat))), (5, .int .i64 (i : Nat))], []⟩)
    (fun i _ => True) l.length (fun r => r.1 = .exit 0 ∧ lookA r.2.env 1 = .int .i64 (k + (costL (fun _ => 2) l : Nat))) ?step ?last 0 () (by omega) trivial).elim ?main
  case step =>
    intro i _ hi _
    obtain ⟨p, hp⟩ := get_at hi
    have hi1 : (i : Int) < (l.length : Int) := by omega
    have hci := hc i
    left
    refine ⟨(), ?_, trivial⟩
    have cs := costL_succ (cost := fun _ : Slt => 2) hp
    have hat : L[i]? = some (mkSlt (k + costL (fun _ => 2) (l.take i)) p) := by rw [← hL]; exact mkL_at hp
    have e1 := e162 (k + (costL (fun _ => 2) (l.take i) : Nat)) (by omega) (by omega)
    generalize hK : k + (costL (fun _ => 2) (l.take i) : Int) = K at *
    have gx : (L.map slt).getD i .undef = .agg [.str (mtext K), .int .i64 (K + 1)] := gD_map hat
    have e2 : k + ((costL (fun _ => 2) (l.take (i + 1)) : Nat) : Int) = K + 1 + 1 := by rw [cs]; omega
    simp only [XG, L192_2, h192_2, go_sem, seval, bnd_ite, hi1, hln, hi, gx, e1, decide_true, Bool.not_true, Bool.false_eq_true, if_false, Int.natCast_nonneg, w_i64 ((i : Int) + 1) (by omega), w_i64 (K + 1) (by omega), w_i64 (K + 1 + 1) (by omega)]
    rw [e2]; rfl
  case last =>
    intro _ _
    simp only [XG, L192_2, h192_2, go_sem, seval, bnd_ite, hln, Int.lt_irrefl, decide_false]
    exact .mk (by simp) ⟨rfl, rfl⟩
  case main =>
  rintro ⟨x, e, m⟩ ⟨h1, h2, h3, h4⟩
  have hs : ((0 : Nat) : Int) = 0 := rfl
  simp only [List.take_zero, costL, hs, Int.add_zero] at h1
  simp only at h3 h4; subst h3
  simp only [h1, go_sem, seval, h4]
end Go.Proofs.YtaaajjinpppgeaaGreat
