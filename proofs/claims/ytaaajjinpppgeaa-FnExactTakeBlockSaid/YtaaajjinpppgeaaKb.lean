/- Marking texts and slots. Own work; no condition. -/
import Derived.Test.YtaaajjinpppgeaaFl
import Derived.Test.YtaaajjinpppgeaaKa
set_option linter.unusedVariables false
set_option linter.unusedSimpArgs false
set_option linter.unusedSectionVars false
namespace Go.Proofs.Ytaaajjinpppgeaa
open Go Go.Abs
set_option maxRecDepth 100000
theorem e207' (k : Int) (h0 : 0 ≤ k) (hk : k ≤ 4611686018427387904) : ∃ s, E T 207 [.int .i64 k] [] = some (.str s, []) := by
  rw [E_eq t207 (Nat.le_of_ble_eq_true rfl)]
  simp only [F207, h207_4, go_sem, seval, bnd_ite]
  by_cases c1 : k ≤ 0
  · rw [if_pos c1]; exact ⟨_, rfl⟩
  rw [if_neg c1]
  refine (XL_inv (T := T) (b := 0) (hd := H207_4) (x := L207_4) (β := Int × ByteArray) (fun i a => ⟨[(0, .int .i64 a.1), (3, .str a.2)], []⟩)
    (fun i a => 0 ≤ a.1 ∧ a.1 + i ≤ k ∧ a.2.size ≤ i) k.toNat (fun r => r.1 = .exit 0 ∧ ∃ s : ByteArray, lookA r.2.env 3 = .str s ∧ (s.size : Int) ≤ k) ?step ?last 0 (k, ⟨#[]⟩) (by omega) ⟨h0, by simp, Nat.le_refl 0⟩).elim ?main
  case step =>
    intro i a hi ⟨hI1, hI2, hI3⟩
    by_cases hp : 0 < a.1
    · left
      have hq : a.1.tdiv 10 = a.1 / 10 := Int.tdiv_eq_ediv_of_nonneg hI1
      simp only [XG, L207_4, h207_4, go_sem, seval, bnd_ite, hp, decide_true, hq, w_i64 (a.1 / 10) (by omega)]
      have sz : ∀ c : UInt8, (⟨#[c]⟩ : ByteArray).size = 1 := fun _ => rfl
      rw [if_pos (by first | (rw [sz]; omega) | (simp only [List.size_toArray, List.length_cons, List.length_nil]; omega))]
      exact ⟨(_, _), rfl, by show 0 ≤ a.1 / 10; omega, by show a.1 / 10 + ((i + 1 : Nat) : Int) ≤ k; omega, by rw [ByteArray.size_append, sz]; omega⟩
    · right
      simp only [XG, L207_4, h207_4, go_sem, seval, bnd_ite, hp, decide_false, Bool.false_eq_true, if_false]
      exact .mk (by simp) ⟨rfl, a.2, rfl, by omega⟩
  case last =>
    intro a ⟨hI1, hI2, hI3⟩
    have hp : ¬ 0 < a.1 := by omega
    simp only [XG, L207_4, h207_4, go_sem, seval, bnd_ite, hp, decide_false, Bool.false_eq_true, if_false]
    exact .mk (by simp) ⟨rfl, a.2, rfl, by omega⟩
  case main =>
  rintro ⟨x, e, m⟩ ⟨h1, h2, h3, s, h4, h5⟩
  simp only at h1 h3 h4; subst h3
  have sz : ∀ c : UInt8, (⟨#[c]⟩ : ByteArray).size = 1 := fun _ => rfl
  simp only [h1, go_sem, seval, h4]
  rw [if_pos (by first | (rw [sz]; omega) | (simp only [List.size_toArray, List.length_cons, List.length_nil]; omega))]
  simp only [go_sem, seval]
  exact ⟨_, rfl⟩
/-- The text of a mark. -/
noncomputable def mtext (k : Int) : ByteArray := match E T 207 [.int .i64 k] [] with
  | some (.str s, _) => s
  | _ => ⟨#[]⟩
theorem e207 (k : Int) (h0 : 0 ≤ k) (hk : k ≤ 4611686018427387904) : E T 207 [.int .i64 k] [] = some (.str (mtext k), []) := by
  obtain ⟨s, h⟩ := e207' k h0 hk
  unfold mtext; rw [h]
end Go.Proofs.Ytaaajjinpppgeaa
