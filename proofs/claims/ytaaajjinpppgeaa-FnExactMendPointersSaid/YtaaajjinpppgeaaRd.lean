/- MendPointers: both answers are alike. Own work; no condition. -/
import Derived.Test.YtaaajjinpppgeaaRc
import Derived.Test.YtaaajjinpppgeaaKf
set_option linter.unusedVariables false
set_option linter.unusedSimpArgs false
set_option linter.unusedSectionVars false
namespace Go.Proofs.Ytaaajjinpppgeaa
open Go Go.Abs
set_option maxRecDepth 100000
theorem mpOut_two {x : Dsk} (m : List (Ino × Nat)) : ∀ st : List Ino × List Int, (∀ e ∈ m, e.1.ptrs.length = 2) → (∀ p ∈ st.1, p.ptrs.length = 2) → ∀ p ∈ (m.foldl (mpOut x) st).1, p.ptrs.length = 2 := by
  induction m with
  | nil => intro st _ h; exact h
  | cons e m ih =>
    intro st hm h
    rw [List.foldl_cons]
    refine ih _ (fun f hf => hm f (List.mem_cons_of_mem _ hf)) ?_
    unfold mpOut
    split
    · exact h
    · intro p hp
      rcases List.mem_or_eq_of_mem_set hp with h1 | h1
      · exact h p h1
      · subst h1
        have := (mpFold (x := x) (k := e.1.kind) (q0 := e.1.ptrs) (had := st.2)).len
        show (List.foldl (mpStep x e.1.kind) (e.1.ptrs, st.2) e.1.ptrs.zipIdx).1.length = 2
        rw [this]; exact hm e (List.mem_cons_self ..)
theorem mendPtrs_two {x : Dsk} (h : DskOk x) : ∀ p ∈ (mendPtrs x).inos, p.ptrs.length = 2 := by
  have h1 := mendIn_ptrs h
  refine mpOut_two _ _ (fun e he => ?_) (fun p hp => (h1 p hp).1)
  obtain ⟨i, hi⟩ := List.mem_iff_getElem?.1 he
  obtain ⟨h2, _⟩ := zip_at (p := e) hi
  exact (h1 e.1 (List.mem_of_getElem? h2)).1
theorem mendPtrs_len {x : Dsk} : (mendPtrs x).inos.length = x.inos.length := by
  show ((mendIn x).zipIdx.foldl (mpOut x) (mendIn x, [])).1.length = _
  rw [mendFold_len x (mendIn x)]; exact mendIn_len x
def mendP (x : Dsk) : Dsk := if dskOk x then mendPtrs x else x
theorem mendP_sm {x : Dsk} (h : x.sm) : (mendP x).sm := by
  unfold mendP
  split
  · rename_i hd
    have hx := dskOk_iff.1 hd
    refine ⟨h.used, h.taken, ?_, h.blks, fun p hp => ?_, h.blk⟩
    · rw [mendPtrs_len]; exact h.inos
    · have := mendPtrs_two hx p hp
      unfold Ino.sm; omega
  · exact h
theorem mendP_ok {x : Dsk} (h : x.ok) (hs : x.sm) : (mendP x).ok := by
  have h2 := mendP_sm hs
  have hb : (mendP x).blks = x.blks := by unfold mendP; split <;> rfl
  have : ∀ n : Nat, n ≤ 1048576 → n ≤ maxLen := fun n h => by unfold maxLen; omega
  exact ⟨this _ h2.used, this _ h2.taken, this _ h2.inos, this _ h2.blks, fun y hy => this _ (h2.ino y hy), by rw [hb]; exact h.blk⟩
set_option maxHeartbeats 4000000 in
theorem e11 (x : Dsk) (h : x.ok) : E T 11 [dsk x] [] = some (.bool true, []) := by
  rw [E_eq t11 (Nat.le_of_ble_eq_true rfl)]
  obtain ⟨r, h1, h2, h3, h4⟩ := e38 x 1048576 (by omega) (by omega) h
  have c40 := fun h => e40 x h
  have c42 := e42 x x h
  have c65 : x.sm → E T 65 [dsk x] [] = some (dskO (mendP x), []) := fun hs => e65 x h hs
  have c66 : x.sm → E T 66 [dsk x] [] = some (dskO (mendP x), []) := fun hs => e66 x h hs
  have c63x := fun h => e63 x 1 (by omega) (by omega) h
  have cs := fun h => mendP_sm (x := x) h
  have ck := fun hs => mendP_ok h hs
  generalize mendP x = N at *
  have c42n := fun k => e42 N N k
  have c63 := fun h => e63 N 1 (by omega) (by omega) h
  have c67 := fun h => e67 N 1 (by omega) (by omega) h
  simp only [dsk, dskO, dskR, mkDsk, List.cons_append, List.nil_append] at h1 c40 c42 c42n c65 c66 c63 c63x c67 ⊢
  simp only [F11, go_sem, seval, bnd_ite, h1]
  by_cases c1 : r < 0
  · rw [if_pos c1]
  rw [if_neg c1]
  have hm := h4 (by omega)
  have hs := cs hm
  have hk := ck hm
  have n1 : ¬ (1 + (coDsk x : Int)) < 0 := by omega
  have n2 : ¬ (1 + (coDsk N : Int)) < 0 := by omega
  simp only [go_sem, seval, bnd_ite, c40 hm, c42, c42n hk, c65 hm, c66 hm, c63 hs, c63x hm, c67 hs, mkB_len, mkL_len, tk_len, n1, n2, decide_true, decide_false, Bool.not_true, Bool.false_eq_true, if_false]
end Go.Proofs.Ytaaajjinpppgeaa
