/- ImageBlock: both answers are alike. Own work; no condition. -/
import Derived.Test.YtaaajjinpppgeaaJd
import Derived.Test.YtaaajjinpppgeaaKf
set_option linter.unusedVariables false
set_option linter.unusedSimpArgs false
set_option linter.unusedSectionVars false
namespace Go.Proofs.Ytaaajjinpppgeaa
open Go Go.Abs
set_option maxRecDepth 100000
theorem e57 (x : Blk) (k : Int) (h0 : 0 ≤ k) (hk : k ≤ 562949953421312) (h : x.sm) :
    E T 57 [.agg [.bool x.dir, .sl 0 0 x.slots.length, .str x.text], .int .i64 k] [some (2, x.slots.map slt)] = some (.int .i64 (k + costL (fun _ => 2) x.slots), [some (2, (mkL mkSlt (fun _ => 2) k x.slots).map slt)]) := by
  rw [E_eq t57 (Nat.le_of_ble_eq_true rfl)]
  have e1 := e151 x.slots k h0 (by omega) h
  generalize hM : mkL mkSlt (fun _ => 2) k x.slots = M at *
  simp only [F57, go_sem, seval, bnd_ite, e1]
theorem e58 (a : Bool) (b : ByteArray) (l : List Slt) (k : Int) (h0 : 0 ≤ k) (hk : k ≤ 562949953421312) (h : l.length ≤ 1048576) :
    E T 58 [.agg [.bool a, .ro 2 ((mkL mkSlt (fun _ => 2) k l).map slt), .str b], .int .i64 k] [] = some (.int .i64 (k + costL (fun _ => 2) l), []) := by
  rw [E_eq t58 (Nat.le_of_ble_eq_true rfl)]
  have e1 := e152 l k h0 (by omega) h
  generalize hM : mkL mkSlt (fun _ => 2) k l = M at *
  have n1 : ¬ k + (costL (fun _ => 2) l : Int) < 0 := by omega
  simp only [F58, go_sem, seval, bnd_ite, e1, n1, if_false]
theorem imageBlk_sm (x : Mm) (h : x.sm) (i : Int) : (imageBlk x i).sm := by
  unfold imageBlk
  split
  · split
    · rename_i p hp
      show (x.deps.foldl (ibStep i) p.slots).length ≤ 1048576
      rw [ibFold_len]; exact h.disk.blk p (List.mem_of_getElem? hp)
    · exact (by decide : (0 : Nat) ≤ 1048576)
  · exact (by decide : (0 : Nat) ≤ 1048576)
theorem imageBlk_out {x : Mm} {i : Int} (h : inside i 1 x.disk.blks.length = false) : imageBlk x i = blk0 := by
  unfold imageBlk; rw [if_neg (by rw [h]; simp)]
theorem ibFold_name (i : Int) (n : Nat) (l : List Dp) : ∀ ss : List Slt, (∀ s ∈ ss, s.name.size ≤ n) → (∀ d ∈ l, d.name.size ≤ n) → ∀ s ∈ l.foldl (ibStep i) ss, s.name.size ≤ n := by
  induction l with
  | nil => intro ss h _; exact h
  | cons d l ih =>
    intro ss h hd
    rw [List.foldl_cons]
    refine ih _ ?_ (fun y hy => hd y (List.mem_cons_of_mem _ hy))
    intro s hs
    unfold ibStep at hs
    have h1 := hd d (List.mem_cons_self ..)
    split at hs
    · split at hs
      · rcases List.mem_or_eq_of_mem_set hs with h2 | h2
        · exact h s h2
        · rw [h2]; exact Nat.zero_le _
      · split at hs
        · rcases List.mem_or_eq_of_mem_set hs with h2 | h2
          · exact h s h2
          · rw [h2]; exact h1
        · exact h s hs
    · exact h s hs
theorem imageBlk_ok (x : Mm) (h : x.ok) (hs : x.sm) (i : Int) : (imageBlk x i).ok := by
  have h1 := imageBlk_sm x hs i
  refine ⟨by unfold Blk.sm at h1; unfold maxLen; omega, ?_, ?_⟩
  · unfold imageBlk
    split
    · split
      · rename_i p hp; exact (h.disk.blk p (List.mem_of_getElem? hp)).2.1
      · exact Nat.zero_le _
    · exact Nat.zero_le _
  · unfold imageBlk
    split
    · split
      · rename_i p hp
        exact ibFold_name i maxLen x.deps p.slots (h.disk.blk p (List.mem_of_getElem? hp)).2.2 (fun d hd => (h.dep d hd).1)
      · intro s hs; cases hs
    · intro s hs; cases hs
set_option maxHeartbeats 4000000 in
theorem e8 (x : Mm) (h : x.ok) (i : Int) (hi : -9223372036854775808 ≤ i ∧ i ≤ 9223372036854775807) : E T 8 [mm x, .int .i64 i] [] = some (.bool true, []) := by
  rw [E_eq t8 (Nat.le_of_ble_eq_true rfl)]
  obtain ⟨r, h1, h2, h3, h4⟩ := e43 x 1048576 (by omega) (by omega) h
  have c47 := e47 x x h
  have c45 := fun h => e45 x h
  have c54 := fun h => e54 x h i hi
  have c55 := fun h => e55 x h i hi
  have c51 := fun h => e51 x 1 (by omega) (by omega) h
  have cI := fun h => imageBlk_sm x h i
  have cK := fun hs => imageBlk_ok x h hs i
  have cO := imageBlk_out (x := x) (i := i)
  generalize imageBlk x i = I at *
  have c56 := e56 I I
  have c57 := fun h => e57 I 1 (by omega) (by omega) h
  have c58 := fun h => e58 I.dir I.text I.slots 1 (by omega) (by omega) h
  simp only [mm, mmO, mmR, dskR, mkMm, mkDsk, blk, blkO, List.cons_append, List.nil_append] at h1 c45 c47 c54 c55 c56 c51 ⊢
  simp only [F8, go_sem, seval, bnd_ite, h1]
  by_cases c1 : r < 0
  · rw [if_pos c1]
  rw [if_neg c1]
  have hm := h4 (by omega)
  have hI := cI hm
  have hok : I.ok := cK hm
  have c57 := c57 hI
  have c58 := c58 hI
  generalize hM : mkL mkSlt (fun _ => 2) 1 I.slots = M at *
  have hml : M.length = I.slots.length := by rw [← hM]; exact mkL_len
  have htk : (List.map slt M).take I.slots.length = List.map slt M := List.take_of_length_le (by simp [hml])
  have n1 : ¬ (1 + (coMm x : Int)) < 0 := by omega
  have n2 : ¬ (1 + (costL (fun _ => 2) I.slots : Int)) < 0 := by omega
  simp only [go_sem, seval, bnd_ite, c45 hm, c54 hm, c55 hm, c47, c56 hok, c51 hm, c57, c58, mkB_len, mkL_len, hml, htk, n1, n2, decide_true, decide_false, Bool.not_true, Bool.false_eq_true, if_false]
end Go.Proofs.Ytaaajjinpppgeaa
