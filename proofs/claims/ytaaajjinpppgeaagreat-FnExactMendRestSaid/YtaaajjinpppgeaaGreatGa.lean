/- What is reached of a disk's root: two ways to find it. Own work; no condition. -/
import Derived.Test.YtaaajjinpppgeaaGreatLa
set_option linter.unusedVariables false
set_option linter.unusedSimpArgs false
set_option linter.unusedSectionVars false
namespace Go.Proofs.YtaaajjinpppgeaaGreat
open Go Go.Abs
set_option maxRecDepth 100000
def good (x : Dsk) (j : Int) : Bool := !decide ((inoOf x j).kind = 0)
theorem good_in {x : Dsk} {j : Int} (h : good x j = true) : inside j 1 x.inos.length = true := by
  cases hc : inside j 1 x.inos.length with
  | true => rfl
  | false => unfold good inoOf at h; rw [hc] at h; simp [ino0] at h
inductive Reach (x : Dsk) : Int → Prop
  | root : Reach x 1
  | step {i : Int} {s : Slt} : Reach x i → s ∈ slotsAt x i → good x s.ino = true → Reach x s.ino
theorem reach_in {x : Dsk} (hn : 0 < x.inos.length) {i : Int} (h : Reach x i) : 1 ≤ i ∧ i ≤ (x.inos.length : Int) := by
  cases h with
  | root => omega
  | step _ _ h => simpa [inside] using good_in h
def numL (n : Nat) : List Int := (List.range n).map fun (k : Nat) => (k : Int) + 1
theorem mem_numL {n : Nat} {i : Int} : i ∈ numL n ↔ 1 ≤ i ∧ i ≤ (n : Int) := by
  unfold numL
  simp only [List.mem_map, List.mem_range]
  exact ⟨fun ⟨k, h1, h2⟩ => by omega, fun h => ⟨(i - 1).toNat, by omega, by omega⟩⟩
theorem numL_lt (n : Nat) : (numL n).Pairwise (· < ·) := by
  unfold numL
  rw [List.pairwise_map]
  exact List.Pairwise.imp (fun h => by omega) (List.pairwise_lt_range (n := n))
open Classical in
noncomputable def reachL (x : Dsk) : List Int := (numL x.inos.length).filter fun i => decide (Reach x i)
open Classical in
theorem mem_reachL {x : Dsk} {i : Int} : i ∈ reachL x ↔ (1 ≤ i ∧ i ≤ (x.inos.length : Int)) ∧ Reach x i := by
  unfold reachL; rw [List.mem_filter, mem_numL, decide_eq_true_eq]
theorem reachL_lt (x : Dsk) : (reachL x).Pairwise (· < ·) := (numL_lt _).filter _
theorem reachL_nodup (x : Dsk) : (reachL x).Nodup := (reachL_lt x).imp fun h => by omega
theorem reachL_len (x : Dsk) : (reachL x).length ≤ x.inos.length := Nat.le_trans (List.length_filter_le ..) (by simp [numL])
/-- Rows of distinct numbers. -/
theorem nodup_len {n : Nat} {l : List Int} (h : l.Nodup) (hi : ∀ i ∈ l, 1 ≤ i ∧ i ≤ (n : Int)) : l.length ≤ n := by
  have hp : l.Perm ((numL n).filter fun i => decide (i ∈ l)) :=
    (List.perm_ext_iff_of_nodup h (((numL_lt n).imp fun h => by omega).filter _)).2 fun i => by
      rw [List.mem_filter, mem_numL, decide_eq_true_eq]; exact ⟨fun h => ⟨hi i h, h⟩, fun h => h.2⟩
  rw [hp.length_eq]
  exact Nat.le_trans (List.length_filter_le ..) (by simp [numL])
theorem sort_reach {x : Dsk} {l : List Int} (h : l.Nodup) (hm : ∀ i, i ∈ l ↔ i ∈ reachL x) : sortI l = reachL x := by
  have hp : (sortI l).Perm (reachL x) := (List.mergeSort_perm l _).trans ((List.perm_ext_iff_of_nodup h (reachL_nodup x)).2 hm)
  refine List.Perm.eq_of_pairwise (le := fun a b : Int => a ≤ b) (fun a b _ _ h1 h2 => by omega) ?_ ((reachL_lt x).imp fun h => by omega) hp
  have := List.pairwise_mergeSort (le := fun a b : Int => decide (a ≤ b)) (fun a b c h1 h2 => by simp at *; omega) (fun a b => by simp; omega) l
  exact this.imp fun h => by simpa using h
/-! ### The program's way -/
def bfsStep (x : Dsk) (L : List Int) (s : Slt) : List Int := if good x s.ino = true ∧ ¬ s.ino ∈ L then L ++ [s.ino] else L
theorem bfs_fold (x : Dsk) (l : List Slt) : ∀ L : List Int, L.Nodup →
    (l.foldl (bfsStep x) L).Nodup ∧ (∃ t, l.foldl (bfsStep x) L = L ++ t) ∧ (∀ s ∈ l, good x s.ino = true → s.ino ∈ l.foldl (bfsStep x) L) ∧
      ∀ j ∈ l.foldl (bfsStep x) L, j ∈ L ∨ ∃ s ∈ l, good x s.ino = true ∧ s.ino = j := by
  induction l with
  | nil => intro L h; exact ⟨h, ⟨[], by simp⟩, by simp, fun j hj => .inl hj⟩
  | cons s l ih =>
    intro L h
    rw [List.foldl_cons]
    have hs : (bfsStep x L s).Nodup ∧ (∃ t, bfsStep x L s = L ++ t) ∧ (good x s.ino = true → s.ino ∈ bfsStep x L s) ∧ ∀ j ∈ bfsStep x L s, j ∈ L ∨ good x s.ino = true ∧ s.ino = j := by
      unfold bfsStep
      by_cases c : good x s.ino = true ∧ ¬ s.ino ∈ L
      · rw [if_pos c]
        refine ⟨?_, ⟨_, rfl⟩, fun _ => by simp, fun j hj => ?_⟩
        · rw [List.nodup_append]
          exact ⟨h, by simp, fun a ha b hb => by simp at hb; subst hb; intro e; subst e; exact c.2 ha⟩
        · rw [List.mem_append, List.mem_singleton] at hj
          rcases hj with hj | rfl
          · exact .inl hj
          · exact .inr ⟨c.1, rfl⟩
      · rw [if_neg c]
        exact ⟨h, ⟨[], by simp⟩, fun hg => Classical.byContradiction fun hc => c ⟨hg, hc⟩, fun j hj => .inl hj⟩
    obtain ⟨s1, ⟨t, s2⟩, s3, s4⟩ := hs
    obtain ⟨h1, ⟨t2, h2⟩, h3, h4⟩ := ih _ s1
    refine ⟨h1, ⟨t ++ t2, by rw [h2, s2, List.append_assoc]⟩, fun a ha hg => ?_, fun j hj => ?_⟩
    · rw [List.mem_cons] at ha
      rcases ha with rfl | ha
      · rw [h2]; exact List.mem_append_left _ (s3 hg)
      · exact h3 a ha hg
    · rcases h4 j hj with hj | ⟨a, ha, hg⟩
      · rcases s4 j hj with hj | hg
        · exact .inl hj
        · exact .inr ⟨s, by simp, hg⟩
      · exact .inr ⟨a, List.mem_cons_of_mem _ ha, hg⟩
structure BInv (x : Dsk) (k : Nat) (L : List Int) : Prop where
  nodup : L.Nodup
  root : (1 : Int) ∈ L
  sound : ∀ i ∈ L, Reach x i
  done : ∀ i ∈ L.take k, ∀ s ∈ slotsAt x i, good x s.ino = true → s.ino ∈ L
  le : k ≤ L.length
theorem BInv.start (x : Dsk) : BInv x 0 [1] := ⟨by simp, by simp, fun i hi => by simp at hi; subst hi; exact .root, by simp, by simp⟩
theorem BInv.step {x : Dsk} {k : Nat} {L : List Int} (h : BInv x k L) {i : Int} (hi : L[k]? = some i) : BInv x (k + 1) ((slotsAt x i).foldl (bfsStep x) L) := by
  obtain ⟨h1, ⟨t, h2⟩, h3, h4⟩ := bfs_fold x (slotsAt x i) L h.nodup
  have hk : k < L.length := by
    obtain ⟨h, _⟩ := List.getElem?_eq_some_iff.1 hi
    exact h
  refine ⟨h1, by rw [h2]; exact List.mem_append_left _ h.root, fun j hj => ?_, fun j hj s hs hg => ?_, by rw [h2, List.length_append]; omega⟩
  · rcases h4 j hj with hj | ⟨s, hs, hg, rfl⟩
    · exact h.sound j hj
    · exact .step (h.sound i (List.mem_of_getElem? hi)) hs hg
  · rw [h2, List.take_append_of_le_length (by omega), take_snoc hi, List.mem_append, List.mem_singleton] at hj
    rcases hj with hj | rfl
    · rw [h2]; exact List.mem_append_left _ (h.done j hj s hs hg)
    · exact h3 s hs hg
theorem BInv.len {x : Dsk} {k : Nat} {L : List Int} (h : BInv x k L) (hn : 0 < x.inos.length) : L.length ≤ x.inos.length := nodup_len h.nodup fun i hi => reach_in hn (h.sound i hi)
theorem BInv.stop {x : Dsk} {k : Nat} {L : List Int} (h : BInv x k L) (hn : 0 < x.inos.length) (hk : L.length ≤ k) : sortI L = reachL x := by
  refine sort_reach h.nodup fun i => ⟨fun hi => mem_reachL.2 ⟨reach_in hn (h.sound i hi), h.sound i hi⟩, fun hi => ?_⟩
  have hr := (mem_reachL.1 hi).2
  clear hi
  have hd := h.done
  rw [List.take_of_length_le hk] at hd
  induction hr with
  | root => exact h.root
  | step _ hs hg ih => exact hd _ ih _ hs hg
/-! ### The reference's way -/
def hasStep (x : Dsk) (h : List Bool) (s : Slt) : List Bool := if good x s.ino = true then h.set (s.ino - 1).toNat true else h
def hasIno (x : Dsk) (h : List Bool) (i : Nat) : List Bool := if h.getD i false = true then (slotsAt x ((i : Int) + 1)).foldl (hasStep x) h else h
def hasRound (x : Dsk) (h : List Bool) : List Bool := (List.range x.inos.length).foldl (hasIno x) h
def leB (a b : List Bool) : Prop := a.length = b.length ∧ ∀ i : Nat, a.getD i false = true → b.getD i false = true
theorem leB.refl (a : List Bool) : leB a a := ⟨rfl, fun _ h => h⟩
theorem leB.trans {a b c : List Bool} (h1 : leB a b) (h2 : leB b c) : leB a c := ⟨h1.1.trans h2.1, fun i h => h2.2 i (h1.2 i h)⟩
theorem leB.antisymm {a b : List Bool} (h1 : leB a b) (h2 : leB b a) : a = b := by
  refine List.ext_getElem h1.1 fun i p q => ?_
  have e1 := h1.2 i; have e2 := h2.2 i
  simp only [List.getD_eq_getElem?_getD, List.getElem?_eq_getElem p, List.getElem?_eq_getElem q, Option.getD_some] at e1 e2
  cases ha : a[i] <;> cases hb : b[i] <;> simp_all
theorem leB_fold {α : Type} (f : List Bool → α → List Bool) (hf : ∀ h a, leB h (f h a)) (l : List α) : ∀ h, leB h (l.foldl f h) := by
  induction l with
  | nil => intro h; exact .refl h
  | cons a l ih => intro h; exact (hf h a).trans (ih _)
theorem fix_fold {α : Type} (f : List Bool → α → List Bool) (hf : ∀ h a, leB h (f h a)) (l : List α) : ∀ h, l.foldl f h = h → ∀ a ∈ l, f h a = h := by
  induction l with
  | nil => intro h _ a ha; simp at ha
  | cons b l ih =>
    intro h e a ha
    rw [List.foldl_cons] at e
    have e1 : f h b = h := leB.antisymm (by have := leB_fold f hf l (f h b); rw [e] at this; exact this) (hf h b)
    rw [List.mem_cons] at ha
    rcases ha with rfl | ha
    · exact e1
    · rw [e1] at e; exact ih h e a ha
theorem gD_setB (h : List Bool) (k i : Nat) : (h.set k true).getD i false = if i = k ∧ k < h.length then true else h.getD i false := by
  simp only [List.getD_eq_getElem?_getD, List.getElem?_set]
  by_cases c : k = i
  · subst c
    by_cases c2 : k < h.length
    · simp [c2]
    · have : h[k]? = none := List.getElem?_eq_none (by omega)
      simp [c2, this]
  · rw [if_neg c, if_neg (by omega)]
theorem hasStep_le (x : Dsk) (h : List Bool) (s : Slt) : leB h (hasStep x h s) := by
  unfold hasStep; split
  · exact ⟨by simp, fun i hi => by rw [gD_setB]; split <;> simp_all⟩
  · exact .refl h
theorem hasIno_le (x : Dsk) (h : List Bool) (i : Nat) : leB h (hasIno x h i) := by
  unfold hasIno; split
  · exact leB_fold _ (hasStep_le x) _ h
  · exact .refl h
theorem hasRound_le (x : Dsk) (h : List Bool) : leB h (hasRound x h) := leB_fold _ (hasIno_le x) _ h
theorem count_le : ∀ {a b : List Bool}, leB a b → a.count true ≤ b.count true ∧ (a.count true = b.count true → a = b) := by
  intro a
  induction a with
  | nil => intro b h; have := h.1; cases b with
    | nil => simp
    | cons => simp at this
  | cons p a ih =>
    intro b h
    cases b with
    | nil => have := h.1; simp at this
    | cons q b =>
      have hab : leB a b := ⟨by have := h.1; simpa using this, fun i hi => by have := h.2 (i + 1); simpa using this (by simpa using hi)⟩
      obtain ⟨h1, h2⟩ := ih hab
      have h0 := h.2 0
      simp only [List.getD_cons_zero] at h0
      cases p with
      | true =>
        have : q = true := h0 rfl
        subst this
        simp only [List.count_cons_self]
        exact ⟨by omega, fun e => by rw [h2 (by omega)]⟩
      | false =>
        cases q with
        | true => simp only [List.count_cons_self, List.count_cons_of_ne (show (false : Bool) ≠ true by decide)]; exact ⟨by omega, fun e => by omega⟩
        | false => simp only [List.count_cons_of_ne (show (false : Bool) ≠ true by decide)]; exact ⟨h1, fun e => by rw [h2 e]⟩
def hasN (x : Dsk) (h : List Bool) : Nat → List Bool
  | 0 => h
  | n + 1 => hasRound x (hasN x h n)
theorem hasN_fold (x : Dsk) (n : Nat) : ∀ h, (List.range n).foldl (fun h _ => hasRound x h) h = hasN x h n := by
  intro h
  induction n with
  | zero => rfl
  | succ n ih => rw [List.range_succ, List.foldl_append, ih]; rfl
theorem hasN_grow (x : Dsk) (h : List Bool) (h1 : 1 ≤ h.count true) (n : Nat) : hasRound x (hasN x h n) = hasN x h n ∨ n + 1 ≤ (hasN x h n).count true := by
  induction n with
  | zero => exact .inr h1
  | succ n ih =>
    have hle := hasRound_le x (hasN x h n)
    rcases ih with ih | ih
    · left; show hasRound x (hasRound x (hasN x h n)) = hasRound x (hasN x h n); rw [ih, ih]
    · obtain ⟨k1, k2⟩ := count_le hle
      by_cases c : (hasN x h n).count true = (hasRound x (hasN x h n)).count true
      · left; have := k2 c; show hasRound x (hasRound x (hasN x h n)) = hasRound x (hasN x h n); rw [← this, ← this]
      · right; show n + 1 + 1 ≤ (hasRound x (hasN x h n)).count true; omega
def has0 (x : Dsk) : List Bool := (List.replicate x.inos.length false).set 0 true
def hasF (x : Dsk) : List Bool := hasN x (has0 x) x.inos.length
theorem hasN_le (x : Dsk) (h : List Bool) (n : Nat) : leB h (hasN x h n) := by
  induction n with
  | zero => exact .refl h
  | succ n ih => exact ih.trans (hasRound_le x _)
theorem hasF_len (x : Dsk) : (hasF x).length = x.inos.length := by
  have := (hasN_le x (has0 x) x.inos.length).1
  unfold hasF; rw [← this]; simp [has0]
def soundB (x : Dsk) (h : List Bool) : Prop := h.length = x.inos.length ∧ ∀ i : Nat, h.getD i false = true → Reach x ((i : Int) + 1)
theorem hasStep_sound {x : Dsk} {h : List Bool} (hs : soundB x h) {i : Int} (hi : Reach x i) {s : Slt} (hm : s ∈ slotsAt x i) : soundB x (hasStep x h s) := by
  unfold hasStep; split
  next hg =>
    refine ⟨by simp [hs.1], fun j hj => ?_⟩
    rw [gD_setB] at hj
    split at hj
    next c =>
      have := good_in hg
      simp only [inside, Bool.and_eq_true, decide_eq_true_eq] at this
      have e : (j : Int) + 1 = s.ino := by omega
      rw [e]; exact .step hi hm hg
    next c => exact hs.2 j hj
  next => exact hs
theorem hasIno_sound {x : Dsk} {h : List Bool} (hs : soundB x h) (i : Nat) : soundB x (hasIno x h i) := by
  unfold hasIno; split
  next hi =>
    have hr := hs.2 i hi
    have key : ∀ (l : List Slt), (∀ s ∈ l, s ∈ slotsAt x ((i : Int) + 1)) → ∀ h, soundB x h → soundB x (l.foldl (hasStep x) h) := by
      intro l
      induction l with
      | nil => intro _ h hs; exact hs
      | cons s l ih => intro hm h hs; exact ih (fun a ha => hm a (List.mem_cons_of_mem _ ha)) _ (hasStep_sound hs hr (hm s (by simp)))
    exact key _ (fun _ h => h) h hs
  next => exact hs
theorem hasRound_sound {x : Dsk} {h : List Bool} (hs : soundB x h) : soundB x (hasRound x h) := by
  have key : ∀ (l : List Nat) h, soundB x h → soundB x (l.foldl (hasIno x) h) := by
    intro l
    induction l with
    | nil => intro h hs; exact hs
    | cons s l ih => intro h hs; exact ih _ (hasIno_sound hs s)
  exact key _ h hs
theorem hasN_sound {x : Dsk} {h : List Bool} (hs : soundB x h) (n : Nat) : soundB x (hasN x h n) := by
  induction n with
  | zero => exact hs
  | succ n ih => exact hasRound_sound ih
theorem has0_at (x : Dsk) (i : Nat) : (has0 x).getD i false = true ↔ i = 0 ∧ 0 < x.inos.length := by
  unfold has0; rw [gD_setB]
  have : (List.replicate x.inos.length false).getD i false = false := by
    rw [List.getD_eq_getElem?_getD, List.getElem?_replicate]; split <;> rfl
  rw [this]; simp
theorem hasF_reach {x : Dsk} (hn : 0 < x.inos.length) {i : Int} (hr : Reach x i) : (hasF x).getD (i - 1).toNat false = true := by
  have hfix : hasRound x (hasF x) = hasF x := by
    have h1 : 1 ≤ (has0 x).count true := by
      unfold has0
      cases h : x.inos.length with
      | zero => omega
      | succ n => simp [List.replicate_succ]
    rcases hasN_grow x (has0 x) h1 x.inos.length with h | h
    · exact h
    · have h2 : (hasF x).count true ≤ (hasF x).length := List.count_le_length ..
      rw [hasF_len] at h2
      unfold hasF at h2; omega
  induction hr with
  | root => exact (hasN_le x (has0 x) x.inos.length).2 0 ((has0_at x 0).2 ⟨rfl, hn⟩)
  | @step i s hi hs hg ih =>
    have hri := reach_in hn hi
    have e1 := fix_fold _ (hasIno_le x) _ _ hfix (i - 1).toNat (List.mem_range.2 (by omega))
    unfold hasIno at e1
    rw [if_pos ih] at e1
    have e2 : (((i - 1).toNat : Nat) : Int) + 1 = i := by omega
    rw [e2] at e1
    have e3 := fix_fold _ (hasStep_le x) _ _ e1 s hs
    unfold hasStep at e3
    rw [if_pos hg] at e3
    have hin := good_in hg
    simp only [inside, Bool.and_eq_true, decide_eq_true_eq] at hin
    rw [← e3, gD_setB, if_pos ⟨rfl, by rw [hasF_len]; omega⟩]
def outStep (h : List Bool) (L : List Int) (i : Nat) : List Int := if h.getD i false = true then L ++ [(i : Int) + 1] else L
theorem out_fold (h : List Bool) (n : Nat) : (List.range n).foldl (outStep h) [] = (numL n).filter fun i => h.getD (i - 1).toNat false := by
  unfold numL
  induction n with
  | zero => rfl
  | succ n ih =>
    rw [List.range_succ, List.foldl_append, ih, List.map_append, List.filter_append]
    simp only [List.foldl_cons, List.foldl_nil, List.map_cons, List.map_nil, outStep]
    have e : ((n : Int) + 1 - 1).toNat = n := by omega
    cases hc : h.getD n false with
    | true => simp only [List.filter_cons, e, hc, if_true, List.filter_nil]
    | false => simp only [List.filter_cons, e, hc, Bool.false_eq_true, if_false, List.filter_nil, List.append_nil]
open Classical in
theorem out_reach {x : Dsk} (hn : 0 < x.inos.length) : (List.range x.inos.length).foldl (outStep (hasF x)) [] = reachL x := by
  rw [out_fold]
  unfold reachL
  refine List.filter_congr fun i hi => ?_
  rw [mem_numL] at hi
  have hs : soundB x (has0 x) := ⟨by simp [has0], fun j hj => by rw [((has0_at x j).1 hj).1]; exact .root⟩
  have h1 := (hasN_sound hs x.inos.length).2 (i - 1).toNat
  have e2 : (((i - 1).toNat : Nat) : Int) + 1 = i := by omega
  rw [e2] at h1
  cases hc : (hasF x).getD (i - 1).toNat false with
  | true => exact (decide_eq_true (h1 hc)).symm
  | false =>
    refine (decide_eq_false fun hr => ?_).symm
    rw [hasF_reach hn hr] at hc; cases hc
end Go.Proofs.YtaaajjinpppgeaaGreat
