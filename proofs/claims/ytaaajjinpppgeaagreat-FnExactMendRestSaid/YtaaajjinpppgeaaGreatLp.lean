/- Loops over a row: what is carried, what is looked for. Own work; no condition. -/
import Derived.Test.YtaaajjinpppgeaaGreatGs
set_option linter.unusedVariables false
set_option linter.unusedSimpArgs false
set_option linter.unusedSectionVars false
namespace Go.Proofs.YtaaajjinpppgeaaGreat
open Go Go.Abs
section
variable {T : FuncId → Option EF} {b : Nat} {hd : List Vw} {x : EC} {α β : Type}
/-- A loop over a row that turns what is carried, and leaves behind the last one. -/
theorem XL_each (l : List α) (f : β → α → β) (S : Nat → β → St) (I : Nat → β → Prop) (Q : β → AX × St → Prop)
    (step : ∀ i a p, l[i]? = some p → i < l.length → I i a → XG T b hd x (S i a) = some (.normal, S (i + 1) (f a p)) ∧ I (i + 1) (f a p))
    (last : ∀ a, I l.length a → Stops (XG T b hd x (S l.length a)) (Q a)) (a : β) (ha : I 0 a) : ∃ r, XL T b hd x (S 0 a) = some r ∧ Q (l.foldl f a) r := by
  have key : ∀ k i a, i + k = l.length → I i a → ∃ r, XL T b hd x (S i a) = some r ∧ Q ((l.drop i).foldl f a) r := by
    intro k
    induction k with
    | zero =>
      intro i a hi hI
      have : i = l.length := by omega
      subst this
      obtain ⟨r, h1, h2, h3⟩ := last a hI
      exact ⟨r, XL_out h1 h2, by simpa using h3⟩
    | succ k ih =>
      intro i a hi hI
      have hlt : i < l.length := by omega
      obtain ⟨h1, h2⟩ := step i a l[i] (by simp [hlt]) hlt hI
      obtain ⟨r, h3, h4⟩ := ih (i + 1) (f a l[i]) (by omega) h2
      refine ⟨r, by rw [XL_eq, h1]; exact h3, ?_⟩
      rw [List.drop_eq_getElem_cons hlt]; exact h4
  obtain ⟨r, h1, h2⟩ := key l.length 0 a (by omega) ha
  exact ⟨r, h1, by simpa using h2⟩
/-- A loop over a row that looks for the first one that fits. -/
theorem XL_find (l : List α) (P : α → Bool) (S : Nat → St) (Q : Option Nat → AX × St → Prop)
    (step : ∀ i p, l[i]? = some p → i < l.length → P p = false → (∀ q ∈ l.take i, P q = false) → XG T b hd x (S i) = some (.normal, S (i + 1)))
    (hit : ∀ i p, l[i]? = some p → i < l.length → P p = true → (∀ q ∈ l.take i, P q = false) → Stops (XG T b hd x (S i)) (Q (some i)))
    (last : (∀ q ∈ l, P q = false) → Stops (XG T b hd x (S l.length)) (Q none)) : ∃ r, XL T b hd x (S 0) = some r ∧ Q (l.findIdx? P) r := by
  have key : ∀ k i, i + k = l.length → (∀ q ∈ l.take i, P q = false) → ∃ r, XL T b hd x (S i) = some r ∧ Q (((l.drop i).findIdx? P).map (· + i)) r := by
    intro k
    induction k with
    | zero =>
      intro i hi hp
      have : i = l.length := by omega
      subst this
      rw [List.take_length] at hp
      obtain ⟨r, h1, h2, h3⟩ := last hp
      exact ⟨r, XL_out h1 h2, by simpa using h3⟩
    | succ k ih =>
      intro i hi hp
      have hlt : i < l.length := by omega
      have hg : l[i]? = some l[i] := by simp [hlt]
      rw [List.drop_eq_getElem_cons hlt, List.findIdx?_cons]
      cases hP : P l[i] with
      | true =>
        obtain ⟨r, h1, h2, h3⟩ := hit i l[i] hg hlt hP hp
        exact ⟨r, XL_out h1 h2, by simpa [hP] using h3⟩
      | false =>
        have h1 := step i l[i] hg hlt hP hp
        obtain ⟨r, h3, h4⟩ := ih (i + 1) (by omega) (fun q hq => by
          rw [take_snoc hg, List.mem_append, List.mem_singleton] at hq
          rcases hq with hq | rfl
          · exact hp q hq
          · exact hP)
        refine ⟨r, by rw [XL_eq, h1]; exact h3, ?_⟩
        rw [if_neg (by simp)]
        have e : ((((l.drop (i + 1)).findIdx? P).map (· + 1)).map (· + i)) = ((l.drop (i + 1)).findIdx? P).map (· + (i + 1)) := by
          cases (l.drop (i + 1)).findIdx? P with
          | none => rfl
          | some n => simp only [Option.map_some]; congr 1; omega
        rw [e]; exact h4
  obtain ⟨r, h1, h2⟩ := key l.length 0 (by omega) (by simp)
  refine ⟨r, h1, ?_⟩
  have e : ((l.drop 0).findIdx? P).map (· + 0) = l.findIdx? P := by cases h : l.findIdx? P <;> simp [h]
  rw [e] at h2; exact h2
end
/-- A loop over a row that looks whether all are right. -/
theorem XL_all {T : FuncId → Option EF} {b : Nat} {hd : List Vw} {x : EC} {α : Type} (l : List α) (P : α → Bool) (S : Nat → St) (Qx Qr : AX × St → Prop)
    (step : ∀ i p, l[i]? = some p → i < l.length → P p = true → (∀ q ∈ l.take i, P q = true) → XG T b hd x (S i) = some (.normal, S (i + 1)))
    (hit : ∀ i p, l[i]? = some p → i < l.length → P p = false → (∀ q ∈ l.take i, P q = true) → Stops (XG T b hd x (S i)) Qr)
    (last : (∀ q ∈ l, P q = true) → Stops (XG T b hd x (S l.length)) Qx) : ∃ r, XL T b hd x (S 0) = some r ∧ (l.all P = true ∧ Qx r ∨ l.all P = false ∧ Qr r) := by
  obtain ⟨r, h1, h2⟩ := XL_find (T := T) (b := b) (hd := hd) (x := x) l (fun p => !P p) S (fun o r => (o = none → Qx r) ∧ (o ≠ none → Qr r))
    (fun i p h1 h2 h3 h4 => step i p h1 h2 (by simpa using h3) (fun q hq => by simpa using h4 q hq))
    (fun i p h1 h2 h3 h4 => by
      obtain ⟨r, k1, k2, k3⟩ := hit i p h1 h2 (by simpa using h3) (fun q hq => by simpa using h4 q hq)
      exact ⟨r, k1, k2, by simp, fun _ => k3⟩)
    (fun h => by
      obtain ⟨r, k1, k2, k3⟩ := last (fun q hq => by simpa using h q hq)
      exact ⟨r, k1, k2, fun _ => k3, by simp⟩)
  refine ⟨r, h1, ?_⟩
  cases e : l.all P with
  | true => exact .inl ⟨rfl, h2.1 (by simpa using e)⟩
  | false => exact .inr ⟨rfl, h2.2 (by simpa using e)⟩
theorem find_none {α : Type} {l : List α} {P : α → Bool} : l.findIdx? P = none ↔ ∀ q ∈ l, P q = false := by simp
theorem stops_none {Φ : AX × St → Prop} : ¬ Stops none Φ := by rintro ⟨r, h, _⟩; cases h
end Go.Proofs.YtaaajjinpppgeaaGreat
