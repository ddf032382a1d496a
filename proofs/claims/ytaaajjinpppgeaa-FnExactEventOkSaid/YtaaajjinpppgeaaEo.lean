/- The functions of EventOk: what they come to, and that both answer alike. Own work; no condition. -/
import Derived.Test.YtaaajjinpppgeaaFe
set_option linter.unusedVariables false
set_option linter.unusedSimpArgs false
set_option linter.unusedSectionVars false
namespace Go.Proofs.Ytaaajjinpppgeaa
open Go Go.Abs
set_option maxRecDepth 100000
def in_ (x a b : Int) : Bool := decide (a ≤ x) && decide (x ≤ b)
theorem e117 (x a b : Int) : E T 117 [.int .i64 x, .int .i64 a, .int .i64 b] [] = some (.bool (in_ x a b), []) := by
  rw [E_eq t117 (Nat.le_of_ble_eq_true rfl)]; simp only [F117, go_sem, seval]; rfl
theorem e116 (x a b : Int) : E T 116 [.int .i64 x, .int .i64 a, .int .i64 b] [] = some (.bool (in_ x a b), []) := by
  rw [E_eq t116 (Nat.le_of_ble_eq_true rfl)]; simp only [F116, go_sem, seval]; rfl
theorem e118 (x : Int) : E T 118 [.int .i64 x] [] = some (.bool (in_ x 0 20), []) := by
  rw [E_eq t118 (Nat.le_of_ble_eq_true rfl)]; simp only [F118, go_sem, seval, e117]
/-- What is left after some lengths; -1 where it is less than nothing. -/
def left3 (n b c e : Int) : Int := if n - b < 0 then -1 else if n - b - c < 0 then -1 else if n - b - c - e < 0 then -1 else n - b - c - e
theorem e29 (a : Int) (b c : ByteArray) (d : Int) (e : ByteArray) (hb : b.size ≤ maxLen) (hc : c.size ≤ maxLen) (he : e.size ≤ maxLen) :
    E T 29 [.agg [.int .i64 a, .str b, .str c, .int .i64 d, .str e], .int .i64 1048576] [] = some (.int .i64 (left3 1048576 b.size c.size e.size), []) := by
  rw [E_eq t29 (Nat.le_of_ble_eq_true rfl)]
  simp only [F29, go_sem, seval, bnd_ite]
  simp only [maxLen] at hb hc he
  rw [w_i64 _ (by omega)]
  unfold left3
  split
  · rfl
  · rw [w_i64 (1048576 - (b.size : Int) - (c.size : Int)) (by omega)]
    split
    · rfl
    · rw [w_i64 _ (by omega)]
      split <;> rfl
theorem e31 (a : Int) (b c : ByteArray) (d : Int) (e : ByteArray) : E T 31 [.agg [.int .i64 a, .str b, .str c, .int .i64 d, .str e]] [] = some (.agg [.int .i64 a, .str b, .str c, .int .i64 d, .str e], []) := by
  rw [E_eq t31 (Nat.le_of_ble_eq_true rfl)]; simp only [F31, go_sem, seval]
def eventOk (a : Int) (b c : ByteArray) (d : Int) (e : ByteArray) : Bool :=
  if (!in_ a 1 8 || decide (30 < (b.size : Int)) || !decide (b = ⟨#[]⟩) && decide (6 ≤ a)) = true then false
  else if a = 6 then in_ d 0 20 && (decide (c = ⟨#[]⟩) || decide (a = 5) && decide ((c.size : Int) ≤ 30)) && (decide (e = ⟨#[]⟩) || decide (a = 3) && decide ((e.size : Int) ≤ 30))
  else if a = 3 then in_ d 0 9 && (decide (c = ⟨#[]⟩) || decide (a = 5) && decide ((c.size : Int) ≤ 30)) && (decide (e = ⟨#[]⟩) || decide (a = 3) && decide ((e.size : Int) ≤ 30))
  else decide (d = 0) && (decide (c = ⟨#[]⟩) || decide (a = 5) && decide ((c.size : Int) ≤ 30)) && (decide (e = ⟨#[]⟩) || decide (a = 3) && decide ((e.size : Int) ≤ 30))
theorem e32 (a : Int) (b c : ByteArray) (d : Int) (e : ByteArray) : E T 32 [.agg [.int .i64 a, .str b, .str c, .int .i64 d, .str e]] [] = some (.bool (eventOk a b c d e), []) := by
  rw [E_eq t32 (Nat.le_of_ble_eq_true rfl)]
  simp only [F32, go_sem, seval, bnd_ite, e117, e118]
  unfold eventOk
  (repeat' split) <;> rfl
theorem ite_dec {α : Type} (p : Prop) [Decidable p] (x y : α) : (if p then x else y) = bif decide p then x else y := by by_cases h : p <;> simp [h]
theorem e30 (a : Int) (b c : ByteArray) (d : Int) (e : ByteArray) : E T 30 [.agg [.int .i64 a, .str b, .str c, .int .i64 d, .str e]] [] = some (.bool (eventOk a b c d e), []) := by
  rw [E_eq t30 (Nat.le_of_ble_eq_true rfl)]
  simp only [F30, go_sem, seval, bnd_ite, e116]
  have hle : ∀ x : ByteArray, decide ((x.size : Int) ≤ 30) = !decide (30 < (x.size : Int)) := fun x => by
    by_cases h : (x.size : Int) ≤ 30
    · simp [h, show ¬ 30 < (x.size : Int) by omega]
    · simp [h, show 30 < (x.size : Int) by omega]
  have hem : ∀ x : ByteArray, decide (x = ⟨#[]⟩) = true → decide (30 < (x.size : Int)) = false := fun x h => by
    have h : x = ⟨#[]⟩ := by simpa using h
    subst h; rfl
  have h36 : decide (a = 6) = true → decide (a = 3) = false := fun h => by
    have : a = 6 := by simpa using h
    subst this; rfl
  have h56 : decide (a = 6) = true → decide (a = 5) = false := fun h => by
    have : a = 6 := by simpa using h
    subst this; rfl
  unfold eventOk
  rw [hle, hle]
  simp only [ite_dec, Bool.decide_eq_true]
  have h1 := hem c
  have h2 := hem e
  generalize decide (c = ⟨#[]⟩) = ce at *
  generalize decide (e = ⟨#[]⟩) = ee at *
  generalize decide (30 < (c.size : Int)) = C at *
  generalize decide (30 < (e.size : Int)) = E at *
  generalize decide (30 < (b.size : Int)) = B at *
  generalize decide (b = ⟨#[]⟩) = be at *
  generalize in_ a 1 8 = p1
  generalize in_ d 0 20 = q1
  generalize in_ d 0 9 = q2
  generalize decide (d = 0) = q3
  generalize decide (6 ≤ a) = a6
  generalize decide (a = 6) = e6 at *
  generalize decide (a = 5) = a5 at *
  generalize decide (a = 3) = a3 at *
  revert h1 h2 h36 h56
  cases p1 <;> cases B <;> cases be <;> cases a6 <;> cases e6 <;> cases a3 <;> cases a5 <;> cases ce <;> cases ee <;> cases C <;> cases E <;> simp
theorem e3 (a : Int) (b c : ByteArray) (d : Int) (e : ByteArray) (hb : b.size ≤ maxLen) (hc : c.size ≤ maxLen) (he : e.size ≤ maxLen) :
    E T 3 [.agg [.int .i64 a, .str b, .str c, .int .i64 d, .str e]] [] = some (.bool true, []) := by
  rw [E_eq t3 (Nat.le_of_ble_eq_true rfl)]
  simp only [F3, go_sem, seval, bnd_ite, e29 a b c d e hb hc he, e30, e31, e32]
  simp
end Go.Proofs.Ytaaajjinpppgeaa
