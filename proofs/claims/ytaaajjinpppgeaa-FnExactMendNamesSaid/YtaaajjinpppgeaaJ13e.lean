/- The last part of the texts of a claim, joined by a program of ours; at its end stands the row: the law returns true for every input, and leaves it as it was. No condition. -/
import Derived.Test.YtaaajjinpppgeaaJ13d
import GoSem.ClaimOpenFrom
import GoSem.ClaimJoined
import Derived.JoinedOf
import Derived.ProofKit
import Derived.KernelRfl
import Derived.Test.YtaaajjinpppgeaaRows
set_option linter.unusedVariables false
set_option linter.unusedSimpArgs false
set_option linter.unusedSectionVars false
/- The sweep over names: the program's list of blocks is the plain law's. Own work; no condition. -/
set_option linter.unusedVariables false
set_option linter.unusedSimpArgs false
set_option linter.unusedSectionVars false
namespace Go.Proofs.Ytaaajjinpppgeaa
open Go Go.Abs
theorem sweep_seen (inos : List Ino) (st : NmB) (p : Int) (l : List Int) : sweep inos { st with seen := l } p = { sweep inos st p with seen := l ++ [p] } := by
  unfold sweep
  simp only
  cases st.blks[(p - 1).toNat]? <;> rfl
/-- Behind the first pointers: what was taken up so far stands in the list, and was swept. -/
theorem dir_step (inos : List Ino) (ahead : List Int) : ∀ (ps l : List Int) (st a : NmB), a = { l.foldl (sweep inos) st with seen := ahead ++ l } →
    ps.foldl (stepP inos) a = { (ps.foldl (dirStep 2 ahead) l).foldl (sweep inos) st with seen := ahead ++ ps.foldl (dirStep 2 ahead) l }
  | [], l, st, a, h => h
  | p :: ps, l, st, a, h => by
    rw [List.foldl_cons, List.foldl_cons]
    refine dir_step inos ahead ps (dirStep 2 ahead l p) st (stepP inos a p) ?_
    subst h
    by_cases hc : p > 0 ∧ ¬ (p ∈ ahead ∨ p ∈ l)
    · have hc1 : p > 0 ∧ p ∉ ahead ++ l := ⟨hc.1, fun h => hc.2 (List.mem_append.1 h)⟩
      have hc2 : dirStep 2 ahead l p = l ++ [p] := by
        unfold dirStep
        rw [if_pos]
        simp only [Bool.and_eq_true, Bool.not_eq_true', decide_eq_true_eq, decide_eq_false_iff_not]
        exact ⟨⟨⟨trivial, hc.1⟩, fun h => hc.2 (.inl h)⟩, fun h => hc.2 (.inr h)⟩
      unfold stepP
      rw [if_pos hc1, hc2, sweep_seen, List.foldl_append, List.append_assoc]
      rfl
    · have hc1 : ¬ (p > 0 ∧ p ∉ ahead ++ l) := fun h => hc ⟨h.1, fun h2 => h.2 (List.mem_append.2 h2)⟩
      have hc2 : dirStep 2 ahead l p = l := by
        unfold dirStep
        rw [if_neg]
        simp only [Bool.and_eq_true, Bool.not_eq_true', decide_eq_true_eq, decide_eq_false_iff_not]
        rintro ⟨⟨⟨_, h1⟩, h2⟩, h3⟩
        exact hc ⟨h1, fun h => h.elim h2 h3⟩
      unfold stepP
      rw [if_neg hc1, hc2]
end Go.Proofs.Ytaaajjinpppgeaa

/- The sweep over names: the program's rows are the plain law's. Own work; no condition. -/
set_option linter.unusedVariables false
set_option linter.unusedSimpArgs false
set_option linter.unusedSectionVars false
namespace Go.Proofs.Ytaaajjinpppgeaa
open Go Go.Abs
theorem dir_none (k : Int) (hk : k ≠ 2) (ahead : List Int) : ∀ ps l : List Int, ps.foldl (dirStep k ahead) l = l
  | [], l => rfl
  | p :: ps, l => by
    rw [List.foldl_cons]
    have : dirStep k ahead l p = l := by
      unfold dirStep
      rw [decide_eq_false hk]
      rfl
    rw [this]; exact dir_none k hk ahead ps l
structure SameR (a : List Int × NmB) (b : NmB) : Prop where
  blks : a.2.blks = b.blks
  dirs : a.2.dirs = b.dirs
  seen : b.seen = a.1
theorem row_one (inos : List Ino) (y : Ino) {a : List Int × NmB} {b : NmB} (h : SameR a b) : SameR (a.1 ++ dirB y a.1, (dirB y a.1).foldl (sweep inos) { a.2 with names := [] }) (rowsP inos b y) := by
  obtain ⟨h1, h2, h3⟩ := h
  obtain ⟨ah, st⟩ := a
  simp only at h1 h2 h3
  unfold rowsP
  by_cases hk : y.kind = 2
  · rw [if_pos hk]
    unfold dirB
    rw [hk, dir_step inos ah y.ptrs [] { st with names := [] } { b with names := [] } (by
      obtain ⟨c1, c2, c3, c4⟩ := b
      obtain ⟨e1, e2, e3, e4⟩ := st
      simp only at h1 h2 h3
      subst h1; subst h2; subst h3
      simp)]
    exact ⟨rfl, rfl, rfl⟩
  · rw [if_neg hk]
    unfold dirB
    rw [dir_none y.kind hk]
    exact ⟨h1, h2, by simp [h3]⟩
theorem rows_all (x : Dsk) : ∀ n, n ≤ x.inos.length → SameR ((List.range n).foldl (rowF x) ([], ⟨x.blks, [], [], []⟩)) ((x.inos.take n).foldl (rowsP x.inos) ⟨x.blks, [], [], []⟩)
  | 0, _ => ⟨rfl, rfl, rfl⟩
  | n + 1, hn => by
    obtain ⟨y, hy⟩ := get_at (show n < x.inos.length by omega)
    have hin : inoOf x ((n : Int) + 1) = y := by
      unfold inoOf
      rw [if_pos (by simp [inside]; omega), show ((n : Int) + 1 - 1).toNat = n by omega, List.getD, hy]; rfl
    have ih := rows_all x n (by omega)
    rw [List.range_succ, List.foldl_append, List.take_add_one, hy, List.foldl_append]
    have := row_one x.inos y ih
    show SameR (rowF x _ n) (rowsP x.inos _ y)
    unfold rowF
    rw [hin]; exact this
theorem mnB_eq (x : Dsk) (h8 : x.inos.length = 8) : mnB x = (x.inos.foldl (rowsP x.inos) ⟨x.blks, [], [], []⟩).blks := by
  have := (rows_all x 8 (by omega)).blks
  rw [List.take_of_length_le (by omega)] at this
  exact this
end Go.Proofs.Ytaaajjinpppgeaa

/- MendNames: both answers are alike. Own work; no condition. -/
set_option linter.unusedVariables false
set_option linter.unusedSimpArgs false
set_option linter.unusedSectionVars false
namespace Go.Proofs.Ytaaajjinpppgeaa
open Go Go.Abs
set_option maxRecDepth 100000
def rowsB (x : Dsk) : List Blk := (x.inos.foldl (rowsR x.inos) ⟨x.blks, [], [], []⟩).blks
def mendN (x : Dsk) : Dsk := if dskOk x then { x with blks := rowsB x } else x
def okB (b : Blk) : Prop := b.slots.length ≤ 4 ∧ b.text.size ≤ 16 ∧ ∀ s ∈ b.slots, s.name.size ≤ 6
def okBs (st : NmB) : Prop := st.blks.length = 16 ∧ ∀ b ∈ st.blks, okB b
theorem fold_out (inos : List Ino) : ∀ (l : List Slt) (a : NmS), ∀ s ∈ (l.foldl (slStep inos) a).out, s ∈ a.out ∨ s ∈ l ∨ s = slt0
  | [], a, s, hs => .inl hs
  | t :: l, a, s, hs => by
    rw [List.foldl_cons] at hs
    rcases fold_out inos l (slStep inos a t) s hs with h | h | h
    · unfold slStep at h
      split at h
      · rcases List.mem_append.1 h with h | h
        · exact .inl h
        · rw [List.mem_singleton.1 h]; exact .inr (.inl (List.mem_cons_self ..))
      · split at h
        · rcases List.mem_append.1 h with h | h
          · exact .inl h
          · rw [List.mem_singleton.1 h]; exact .inr (.inl (List.mem_cons_self ..))
        · rcases List.mem_append.1 h with h | h
          · exact .inl h
          · exact .inr (.inr (List.mem_singleton.1 h))
    · exact .inr (.inl (List.mem_cons_of_mem _ h))
    · exact .inr (.inr h)
theorem sweep_okB (inos : List Ino) {st : NmB} (h : okBs st) (p : Int) : okBs (sweep inos st p) := by
  unfold sweep
  split
  · rename_i b hb
    refine ⟨by simp [h.1], fun c hc => ?_⟩
    rcases List.mem_or_eq_of_mem_set hc with hc | rfl
    · exact h.2 c hc
    · have hbo := h.2 b (List.mem_of_getElem? hb)
      have hl := (fold_len inos b.slots ⟨[], st.names, st.dirs⟩).1
      simp only [List.length_nil, Nat.zero_add] at hl
      refine ⟨by show (b.slots.foldl (slStep inos) ⟨[], st.names, st.dirs⟩).out.length ≤ 4; rw [hl]; exact hbo.1, hbo.2.1, fun s hs => ?_⟩
      rcases fold_out inos b.slots ⟨[], st.names, st.dirs⟩ s hs with h | h | h
      · cases h
      · exact hbo.2.2 s h
      · subst h; exact Nat.zero_le _
  · exact ⟨h.1, h.2⟩
theorem rows_okB (inos : List Ino) : ∀ (l : List Ino) {st : NmB}, okBs st → okBs (l.foldl (rowsR inos) st) := by
  have one : ∀ (ps : List Int) {st : NmB}, okBs st → okBs (ps.foldl (stepR inos) st) := by
    intro ps
    induction ps with
    | nil => intro st h; exact h
    | cons p ps ih =>
      intro st h
      rw [List.foldl_cons]
      refine ih ?_
      unfold stepR
      split
      · split
        · exact sweep_okB inos h p
        · exact h
      · exact h
  intro l
  induction l with
  | nil => intro st h; exact h
  | cons y l ih =>
    intro st h
    rw [List.foldl_cons]
    refine ih ?_
    unfold rowsR
    split
    · exact one y.ptrs (st := { st with names := [] }) h
    · exact h
theorem blk_okB {b : Blk} (h : blkOk b = true) : okB b := by
  cases hd : b.dir with
  | false =>
    obtain ⟨h1, h2⟩ := blkOk_txt h hd
    refine ⟨by rw [h1]; simp, h2, fun s hs => by rw [h1] at hs; cases hs⟩
  | true =>
    obtain ⟨h1, h2, h3⟩ := blkOk_dir h hd
    refine ⟨by omega, by rw [h2]; exact Nat.zero_le _, fun s hs => ?_⟩
    obtain ⟨i, hi⟩ := List.getElem?_of_mem hs
    have := h3 i s hi
    unfold slotOk bare nameOk at this
    simp only [Bool.or_eq_true, Bool.and_eq_true, decide_eq_true_eq] at this
    rcases this with h | h
    · rw [h.1]; exact Nat.zero_le _
    · have := h.1.1.2
      simp only [inside, Bool.and_eq_true, decide_eq_true_eq] at this
      omega
theorem rowsB_ok {x : Dsk} (h : DskOk x) : (rowsB x).length = 16 ∧ ∀ b ∈ rowsB x, okB b := rows_okB x.inos x.inos (st := ⟨x.blks, [], [], []⟩) ⟨h.blks, fun b hb => blk_okB (h.blk b hb)⟩
theorem mendN_sm {x : Dsk} (h : x.sm) : (mendN x).sm := by
  unfold mendN
  split
  · rename_i hd
    obtain ⟨h1, h2⟩ := rowsB_ok (dskOk_iff.1 hd)
    exact ⟨h.used, h.taken, h.inos, by show (rowsB x).length ≤ _; omega, h.ino, fun b hb => by
      have := (h2 b hb).1
      unfold Blk.sm; omega⟩
  · exact h
theorem mendN_ok {x : Dsk} (h : x.ok) : (mendN x).ok := by
  unfold mendN
  split
  · rename_i hd
    obtain ⟨h1, h2⟩ := rowsB_ok (dskOk_iff.1 hd)
    refine ⟨h.used, h.taken, h.inos, by show (rowsB x).length ≤ _; unfold maxLen; omega, h.ino, fun b hb => ?_⟩
    obtain ⟨k1, k2, k3⟩ := h2 b hb
    exact ⟨by unfold maxLen; omega, by unfold maxLen; omega, fun s hs => by have := k3 s hs; unfold Slt.ok maxLen; omega⟩
  · exact h
theorem mnB_rows {x : Dsk} (h : DskOk x) : mnB x = rowsB x := by
  rw [mnB_eq x h.inos]
  have := side_rows x.inos x.inos (a := ⟨x.blks, [], [], []⟩) (b := ⟨x.blks, [], [], []⟩) ⟨rfl, rfl, rfl, fun _ _ => Iff.rfl, fun b hb hd => (blkOk_txt (h.blk b hb) hd).1⟩ (fun y hy p hp => by
    have := (inoOk_iff.1 (h.ino y hy)).ptr p hp
    refine ⟨this.1, ?_⟩
    show p.toNat ≤ x.blks.length
    rw [h.blks]; omega)
  exact this.blks
theorem e73' (x : Dsk) (h : x.sm) (hk : x.ok) : E TN 73 [dsk x] [] = some (dskO (mendN x), []) := e73 x h hk
theorem e74' (x : Dsk) (h : x.sm) (hk : x.ok) : E TN 74 [dsk x] [] = some (dskO (mendN x), []) := by
  rw [e74 x h hk]
  unfold mendN
  by_cases hd : dskOk x = true
  · rw [if_pos hd, if_pos hd, mnB_rows (dskOk_iff.1 hd)]
  · rw [if_neg hd, if_neg hd]
set_option maxHeartbeats 4000000 in
theorem e13 (x : Dsk) (h : x.ok) : E TN 13 [dsk x] [] = some (.bool true, []) := by
  rw [E_eq t13 (Nat.le_of_ble_eq_true rfl)]
  obtain ⟨r, h1, h2, h3, h4⟩ := e38 x 1048576 (by omega) (by omega) h
  rw [← eN rfl t38] at h1
  have c40 : x.sm → E TN 40 [dsk x] [] = some (dskO x, []) := fun h => by rw [eN rfl t40]; exact e40 x h
  have c42 := e42 x x h
  rw [← eN rfl t42] at c42
  have c73 := fun hs => e73' x hs h
  have c74 := fun hs => e74' x hs h
  have c63x : x.sm → E TN 63 [.agg [.sl 0 0 x.used.length, .sl 1 0 x.taken.length, .sl 2 0 x.inos.length, .sl 3 0 x.blks.length], .int .i64 1] (dskR x) = some (.int .i64 (1 + coDsk x), dskR (mkDsk 1 x)) := fun h => by rw [eN rfl t63]; exact e63 x 1 (by omega) (by omega) h
  have cs := fun h => mendN_sm (x := x) h
  have ck := mendN_ok h
  generalize mendN x = N at *
  have c42n := e42 N N ck
  rw [← eN rfl t42] at c42n
  have c63 : N.sm → E TN 63 [.agg [.sl 0 0 N.used.length, .sl 1 0 N.taken.length, .sl 2 0 N.inos.length, .sl 3 0 N.blks.length], .int .i64 1] (dskR N) = some (.int .i64 (1 + coDsk N), dskR (mkDsk 1 N)) := fun h => by rw [eN rfl t63]; exact e63 N 1 (by omega) (by omega) h
  have c67 : N.sm → E TN 67 [dsk (mkDsk 1 N), .int .i64 1] [] = some (.int .i64 (1 + coDsk N), []) := fun h => by rw [eN rfl t67]; exact e67 N 1 (by omega) (by omega) h
  simp only [dsk, dskO, dskR, mkDsk, List.cons_append, List.nil_append] at h1 c40 c42 c42n c73 c74 c63 c63x c67 ⊢
  simp only [F13, go_sem, seval, bnd_ite, h1]
  by_cases c1 : r < 0
  · rw [if_pos c1]
  rw [if_neg c1]
  have hm := h4 (by omega)
  have hs := cs hm
  have n1 : ¬ (1 + (coDsk x : Int)) < 0 := by omega
  have n2 : ¬ (1 + (coDsk N : Int)) < 0 := by omega
  simp only [go_sem, seval, bnd_ite, c40 hm, c42, c42n, c73 hm, c74 hm, c63 hs, c63x hm, c67 hs, mkB_len, mkL_len, tk_len, n1, n2, decide_true, decide_false, Bool.not_true, Bool.false_eq_true, if_false]
end Go.Proofs.Ytaaajjinpppgeaa

/- FnExactMendNames answers true for all arguments. Own work; no condition. -/
set_option linter.unusedVariables false
namespace Go.Proofs.Ytaaajjinpppgeaa
open Go Go.Abs
def shFnExactMendNames : List Shp := [shD]
theorem isFnExactMendNames {avs : List AV} (h : IsAs shFnExactMendNames avs) : E TN 13 avs [] = some (.bool true, []) := by
  cases h with | cons h1 h =>
  cases h
  obtain ⟨x1, rfl, hx1⟩ := isD h1
  exact e13 x1 hx1
end Go.Proofs.Ytaaajjinpppgeaa

/- The words of a program's head, split without waste. Own work; no condition. -/
set_option linter.unusedVariables false
set_option linter.unusedSimpArgs false
set_option linter.unusedSectionVars false
namespace Go.Abs
open Go
def wAcc : List Char → List Char → List (List Char) → List (List Char)
  | [], cur, acc => (cur.reverse :: acc).reverse
  | c :: r, cur, acc => if c.toNat = 32 then wAcc r [] (cur.reverse :: acc) else wAcc r (c :: cur) acc
def joinW (cur : List Char) : List (List Char) → List (List Char)
  | w :: ws => (cur ++ w) :: ws
  | [] => [cur]
theorem ws_c (c : Char) (r : List Char) : wordsSigns (c :: r) = if c.toNat = 32 then [] :: wordsSigns r else joinW [c] (wordsSigns r) := by
  by_cases h : c.toNat = 32
  · rw [if_pos h]
    have : c = Char.ofNat 32 := by
      apply Char.ext
      apply UInt32.toNat_inj.1
      exact h
    subst this; rfl
  · rw [if_neg h]
    rw [wordsSigns.eq_3 _ _ (fun e => h (by rw [e]; rfl))]
    cases wordsSigns r <;> rfl
theorem ws_ne (l : List Char) : wordsSigns l ≠ [] := by
  cases l with
  | nil => simp [wordsSigns]
  | cons c r =>
    rw [ws_c]
    split
    · simp
    · cases wordsSigns r <;> simp [joinW]
theorem wAcc_eq : ∀ (l cur : List Char) (acc : List (List Char)), wAcc l cur acc = acc.reverse ++ joinW cur.reverse (wordsSigns l) := by
  intro l
  induction l with
  | nil => intro cur acc; simp [wAcc, wordsSigns, joinW]
  | cons c r ih =>
    intro cur acc
    simp only [wAcc]
    rw [ws_c]
    by_cases h : c.toNat = 32
    · rw [if_pos h, if_pos h, ih]
      cases hr : wordsSigns r with
      | nil => exact absurd hr (ws_ne r)
      | cons w ws => simp [joinW]
    · rw [if_neg h, if_neg h, ih]
      cases wordsSigns r <;> simp [joinW]
theorem words_eq (l : List Char) : wordsSigns l = wAcc l [] [] := by
  rw [wAcc_eq]
  have := ws_ne l
  cases h : wordsSigns l with
  | nil => exact absurd h this
  | cons w ws => simp [joinW]
theorem strip_cut (r : List (List Char)) : stripLifts liftWords ("cut".toList :: r) = ([], "cut".toList :: r) := by kernel_rfl
theorem lifts_of {P : Program} {r : List (List Char)} (h : behindMainWord (wordsSigns P.initOrder.toList) = "cut".toList :: r) : P.headLifts = [] := by
  unfold Program.headLifts
  rw [h, strip_cut]; kernel_rfl
theorem liftsFinal_of {P : Program} {r : List (List Char)} (h : behindMainWord (wordsSigns P.initOrder.toList) = "cut".toList :: r) : P.liftsFinal = false := by
  unfold Program.liftsFinal
  rw [h, lifts_of h]; kernel_rfl
theorem make_of {P : Program} {r : List (List Char)} (h : behindMainWord (wordsSigns P.initOrder.toList) = "cut".toList :: r) : P.make = some .cut := by
  unfold Program.make
  rw [h]; kernel_rfl
theorem mayEnter_of {P : Program} {r : List (List Char)} (h : behindMainWord (wordsSigns P.initOrder.toList) = "cut".toList :: r) (h1 : P.laysLater = false) (h2 : P.bearsReflect = false) (h3 : P.doorFits [] = true) : P.mayEnter = true := by
  unfold Program.mayEnter
  rw [h]
  simp only [strip_cut, h1, h2, h3]
  kernel_rfl
open Go.RowKit in
/-- The closed facts of a row, one by one. -/
theorem facts_of {P : Program} {f : FuncId} {fn : Func} {s : ChangeSpec} {c : OpenClaim} (a1 : c.wf (OpenSpec.ofChange s) = true) (a2 : laidOutB P = true) (a3 : mapsRowed P = true)
    (a4 : fn.params.all (P.readableRec ·) = true) (a5 : namedTie P c.named s.vars = true) (a6 : (c.stops == []) = true) (a7 : (P.stops == []) = true) (a8 : (c.knobs == []) = true) (a9 : (P.stopKnobs == []) = true)
    (a10 : (c.inPlace == P.inPlace f) = true) (a11 : (c.unfollowed == P.unfollowed f) = true) (a12 : (c.recurses == P.recurses f) = true) (a13 : (c.named == P.varsNamed f) = true)
    (a14 : (c.maps == (fn.params.toList ++ s.plain.varTypes P).any (P.mapsRec ·)) = true) (a15 : (c.ifaces == (fn.params.toList ++ s.plain.varTypes P).any (P.ifacesRec ·)) = true) (a16 : (c.mapsOut == P.mapsAmong fn.resultTypes.toList) = true)
    (a17 : (c.loops == (fn.params.toList ++ s.plain.varTypes P).any (P.loopsFrom ·)) = true) (a18 : (c.wideKeys == (fn.params.toList ++ s.plain.varTypes P ++ fn.resultTypes.toList).any (P.wideKeysFrom ·)) = true)
    (a19 : s.vars.all (P.varReadable ·) = true) (a20 : fn.resultTypes.all (fun t => P.readableRec t && decide (t < P.types.size)) = true) (a21 : (c.ifacesOut == fn.resultTypes.toList.any (P.ifacesRec ·)) = true)
    (a22 : (c.loopsOut == fn.resultTypes.toList.any (P.loopsFrom ·)) = true) (a23 : (c.plainKeys == P.plainKeys) = true) (a24 : c.shortTexts.isNone = true) (a25 : P.stopsHeard = true) (a26 : P.mayEnter = true)
    (a27 : (c.lifted == P.liftsFinal) = true) (a28 : (P.make == some c.make) = true)
    (a29 : c.domain.isEmpty = true) (a29' : c.kinds = []) (a30 : (c.pinned == c.pinnedBy) = true)
    (a31 : (c.veiled == (fn.params.toList ++ s.plain.varTypes P ++ fn.resultTypes.toList).any (P.veiledRec ·)) = true) (a32 : c.veiledFits P fn.params.toList (fn.params.toList ++ s.plain.varTypes P ++ fn.resultTypes.toList) = true) :
    joinedFacts P f fn s c = true := by
  unfold joinedFacts
  rw [a1, a2, a3, a4, a5, a6, a7, a8, a9, a10, a11, a12, a13, a14, a15, a16, a17, a18, a19, a20, a21, a22, a23, a24, a25, a26, a27, a28, a29, a29', a30, a31, a32]
  rfl
end Go.Abs

/- The words of the program's head, and the facts that hang on them. Own work; no condition. -/
namespace Go.Proofs.Ytaaajjinpppgeaa
open Go Go.RowKit
set_option maxRecDepth 100000
def headSigns : List Char := [.ofNat 104, .ofNat 97, .ofNat 114, .ofNat 110, .ofNat 101, .ofNat 115, .ofNat 115, .ofNat 32, .ofNat 52, .ofNat 98, .ofNat 53, .ofNat 51, .ofNat 53, .ofNat 101, .ofNat 99, .ofNat 100, .ofNat 102, .ofNat 57, .ofNat 49, .ofNat 100, .ofNat 98, .ofNat 56, .ofNat 56, .ofNat 56, .ofNat 52, .ofNat 101, .ofNat 99, .ofNat 51, .ofNat 56, .ofNat 57, .ofNat 101, .ofNat 56, .ofNat 100, .ofNat 100, .ofNat 99, .ofNat 53, .ofNat 52, .ofNat 98, .ofNat 54, .ofNat 49, .ofNat 51, .ofNat 48, .ofNat 48, .ofNat 97, .ofNat 102, .ofNat 99, .ofNat 48, .ofNat 53, .ofNat 48, .ofNat 48, .ofNat 55, .ofNat 56, .ofNat 48, .ofNat 101, .ofNat 101, .ofNat 102, .ofNat 98, .ofNat 102, .ofNat 55, .ofNat 101, .ofNat 53, .ofNat 102, .ofNat 51, .ofNat 54, .ofNat 97, .ofNat 52, .ofNat 48, .ofNat 57, .ofNat 101, .ofNat 100, .ofNat 100, .ofNat 53, .ofNat 32, .ofNat 99, .ofNat 117, .ofNat 116, .ofNat 32, .ofNat 97, .ofNat 116, .ofNat 32, .ofNat 108, .ofNat 111, .ofNat 111, .ofNat 112, .ofNat 46, .ofNat 101, .ofNat 120, .ofNat 97, .ofNat 109, .ofNat 112, .ofNat 108, .ofNat 101, .ofNat 47, .ofNat 103, .ofNat 48, .ofNat 48, .ofNat 50, .ofNat 51, .ofNat 53, .ofNat 47, .ofNat 108, .ofNat 97, .ofNat 119, .ofNat 115, .ofNat 46, .ofNat 70, .ofNat 110, .ofNat 69, .ofNat 120, .ofNat 97, .ofNat 99, .ofNat 116, .ofNat 69, .ofNat 118, .ofNat 101, .ofNat 110, .ofNat 116, .ofNat 79, .ofNat 107, .ofNat 32, .ofNat 108, .ofNat 111, .ofNat 111, .ofNat 112, .ofNat 46, .ofNat 101, .ofNat 120, .ofNat 97, .ofNat 109, .ofNat 112, .ofNat 108, .ofNat 101, .ofNat 47, .ofNat 103, .ofNat 48, .ofNat 48, .ofNat 50, .ofNat 51, .ofNat 53, .ofNat 47, .ofNat 108, .ofNat 97, .ofNat 119, .ofNat 115, .ofNat 46, .ofNat 70, .ofNat 110, .ofNat 69, .ofNat 120, .ofNat 97, .ofNat 99, .ofNat 116, .ofNat 83, .ofNat 97, .ofNat 109, .ofNat 101, .ofNat 84, .ofNat 114, .ofNat 101, .ofNat 101, .ofNat 32, .ofNat 108, .ofNat 111, .ofNat 111, .ofNat 112, .ofNat 46, .ofNat 101, .ofNat 120, .ofNat 97, .ofNat 109, .ofNat 112, .ofNat 108, .ofNat 101, .ofNat 47, .ofNat 103, .ofNat 48, .ofNat 48, .ofNat 50, .ofNat 51, .ofNat 53, .ofNat 47, .ofNat 108, .ofNat 97, .ofNat 119, .ofNat 115, .ofNat 46, .ofNat 70, .ofNat 110, .ofNat 69, .ofNat 120, .ofNat 97, .ofNat 99, .ofNat 116, .ofNat 83, .ofNat 104, .ofNat 97, .ofNat 114, .ofNat 101, .ofNat 100, .ofNat 32, .ofNat 108, .ofNat 111, .ofNat 111, .ofNat 112, .ofNat 46, .ofNat 101, .ofNat 120, .ofNat 97, .ofNat 109, .ofNat 112, .ofNat 108, .ofNat 101, .ofNat 47, .ofNat 103, .ofNat 48, .ofNat 48, .ofNat 50, .ofNat 51, .ofNat 53, .ofNat 47, .ofNat 108, .ofNat 97, .ofNat 119, .ofNat 115, .ofNat 46, .ofNat 70, .ofNat 110, .ofNat 69, .ofNat 120, .ofNat 97, .ofNat 99, .ofNat 116, .ofNat 83, .ofNat 101, .ofNat 116, .ofNat 116, .ofNat 108, .ofNat 101, .ofNat 100, .ofNat 32, .ofNat 108, .ofNat 111, .ofNat 111, .ofNat 112, .ofNat 46, .ofNat 101, .ofNat 120, .ofNat 97, .ofNat 109, .ofNat 112, .ofNat 108, .ofNat 101, .ofNat 47, .ofNat 103, .ofNat 48, .ofNat 48, .ofNat 50, .ofNat 51, .ofNat 53, .ofNat 47, .ofNat 108, .ofNat 97, .ofNat 119, .ofNat 115, .ofNat 46, .ofNat 70, .ofNat 110, .ofNat 69, .ofNat 120, .ofNat 97, .ofNat 99, .ofNat 116, .ofNat 73, .ofNat 109, .ofNat 97, .ofNat 103, .ofNat 101, .ofNat 73, .ofNat 110, .ofNat 111, .ofNat 100, .ofNat 101, .ofNat 32, .ofNat 108, .ofNat 111, .ofNat 111, .ofNat 112, .ofNat 46, .ofNat 101, .ofNat 120, .ofNat 97, .ofNat 109, .ofNat 112, .ofNat 108, .ofNat 101, .ofNat 47, .ofNat 103, .ofNat 48, .ofNat 48, .ofNat 50, .ofNat 51, .ofNat 53, .ofNat 47, .ofNat 108, .ofNat 97, .ofNat 119, .ofNat 115, .ofNat 46, .ofNat 70, .ofNat 110, .ofNat 69, .ofNat 120, .ofNat 97, .ofNat 99, .ofNat 116, .ofNat 73, .ofNat 109, .ofNat 97, .ofNat 103, .ofNat 101, .ofNat 66, .ofNat 108, .ofNat 111, .ofNat 99, .ofNat 107, .ofNat 32, .ofNat 108, .ofNat 111, .ofNat 111, .ofNat 112, .ofNat 46, .ofNat 101, .ofNat 120, .ofNat 97, .ofNat 109, .ofNat 112, .ofNat 108, .ofNat 101, .ofNat 47, .ofNat 103, .ofNat 48, .ofNat 48, .ofNat 50, .ofNat 51, .ofNat 53, .ofNat 47, .ofNat 108, .ofNat 97, .ofNat 119, .ofNat 115, .ofNat 46, .ofNat 70, .ofNat 110, .ofNat 69, .ofNat 120, .ofNat 97, .ofNat 99, .ofNat 116, .ofNat 77, .ofNat 101, .ofNat 109, .ofNat 79, .ofNat 107, .ofNat 32, .ofNat 108, .ofNat 111, .ofNat 111, .ofNat 112, .ofNat 46, .ofNat 101, .ofNat 120, .ofNat 97, .ofNat 109, .ofNat 112, .ofNat 108, .ofNat 101, .ofNat 47, .ofNat 103, .ofNat 48, .ofNat 48, .ofNat 50, .ofNat 51, .ofNat 53, .ofNat 47, .ofNat 108, .ofNat 97, .ofNat 119, .ofNat 115, .ofNat 46, .ofNat 70, .ofNat 110, .ofNat 69, .ofNat 120, .ofNat 97, .ofNat 99, .ofNat 116, .ofNat 77, .ofNat 101, .ofNat 109, .ofNat 78, .ofNat 101, .ofNat 119, .ofNat 32, .ofNat 108, .ofNat 111, .ofNat 111, .ofNat 112, .ofNat 46, .ofNat 101, .ofNat 120, .ofNat 97, .ofNat 109, .ofNat 112, .ofNat 108, .ofNat 101, .ofNat 47, .ofNat 103, .ofNat 48, .ofNat 48, .ofNat 50, .ofNat 51, .ofNat 53, .ofNat 47, .ofNat 108, .ofNat 97, .ofNat 119, .ofNat 115, .ofNat 46, .ofNat 70, .ofNat 110, .ofNat 69, .ofNat 120, .ofNat 97, .ofNat 99, .ofNat 116, .ofNat 77, .ofNat 101, .ofNat 110, .ofNat 100, .ofNat 80, .ofNat 111, .ofNat 105, .ofNat 110, .ofNat 116, .ofNat 101, .ofNat 114, .ofNat 115, .ofNat 32, .ofNat 108, .ofNat 111, .ofNat 111, .ofNat 112, .ofNat 46, .ofNat 101, .ofNat 120, .ofNat 97, .ofNat 109, .ofNat 112, .ofNat 108, .ofNat 101, .ofNat 47, .ofNat 103, .ofNat 48, .ofNat 48, .ofNat 50, .ofNat 51, .ofNat 53, .ofNat 47, .ofNat 108, .ofNat 97, .ofNat 119, .ofNat 115, .ofNat 46, .ofNat 70, .ofNat 110, .ofNat 69, .ofNat 120, .ofNat 97, .ofNat 99, .ofNat 116, .ofNat 70, .ofNat 115, .ofNat 79, .ofNat 107, .ofNat 32, .ofNat 108, .ofNat 111, .ofNat 111, .ofNat 112, .ofNat 46, .ofNat 101, .ofNat 120, .ofNat 97, .ofNat 109, .ofNat 112, .ofNat 108, .ofNat 101, .ofNat 47, .ofNat 103, .ofNat 48, .ofNat 48, .ofNat 50, .ofNat 51, .ofNat 53, .ofNat 47, .ofNat 108, .ofNat 97, .ofNat 119, .ofNat 115, .ofNat 46, .ofNat 70, .ofNat 110, .ofNat 69, .ofNat 120, .ofNat 97, .ofNat 99, .ofNat 116, .ofNat 77, .ofNat 101, .ofNat 110, .ofNat 100, .ofNat 78, .ofNat 97, .ofNat 109, .ofNat 101, .ofNat 115, .ofNat 32, .ofNat 108, .ofNat 111, .ofNat 111, .ofNat 112, .ofNat 46, .ofNat 101, .ofNat 120, .ofNat 97, .ofNat 109, .ofNat 112, .ofNat 108, .ofNat 101, .ofNat 47, .ofNat 103, .ofNat 48, .ofNat 48, .ofNat 50, .ofNat 51, .ofNat 53, .ofNat 47, .ofNat 108, .ofNat 97, .ofNat 119, .ofNat 115, .ofNat 46, .ofNat 70, .ofNat 110, .ofNat 69, .ofNat 120, .ofNat 97, .ofNat 99, .ofNat 116, .ofNat 68, .ofNat 97, .ofNat 110, .ofNat 103, .ofNat 108, .ofNat 105, .ofNat 110, .ofNat 103, .ofNat 32, .ofNat 108, .ofNat 111, .ofNat 111, .ofNat 112, .ofNat 46, .ofNat 101, .ofNat 120, .ofNat 97, .ofNat 109, .ofNat 112, .ofNat 108, .ofNat 101, .ofNat 47, .ofNat 103, .ofNat 48, .ofNat 48, .ofNat 50, .ofNat 51, .ofNat 53, .ofNat 47, .ofNat 108, .ofNat 97, .ofNat 119, .ofNat 115, .ofNat 46, .ofNat 70, .ofNat 110, .ofNat 69, .ofNat 120, .ofNat 97, .ofNat 99, .ofNat 116, .ofNat 76, .ofNat 105, .ofNat 110, .ofNat 107, .ofNat 115, .ofNat 79, .ofNat 102, .ofNat 32, .ofNat 108, .ofNat 111, .ofNat 111, .ofNat 112, .ofNat 46, .ofNat 101, .ofNat 120, .ofNat 97, .ofNat 109, .ofNat 112, .ofNat 108, .ofNat 101, .ofNat 47, .ofNat 103, .ofNat 48, .ofNat 48, .ofNat 50, .ofNat 51, .ofNat 53, .ofNat 47, .ofNat 108, .ofNat 97, .ofNat 119, .ofNat 115, .ofNat 46, .ofNat 70, .ofNat 110, .ofNat 69, .ofNat 120, .ofNat 97, .ofNat 99, .ofNat 116, .ofNat 87, .ofNat 114, .ofNat 111, .ofNat 110, .ofNat 103, .ofNat 75, .ofNat 105, .ofNat 110, .ofNat 100, .ofNat 32, .ofNat 108, .ofNat 111, .ofNat 111, .ofNat 112, .ofNat 46, .ofNat 101, .ofNat 120, .ofNat 97, .ofNat 109, .ofNat 112, .ofNat 108, .ofNat 101, .ofNat 47, .ofNat 103, .ofNat 48, .ofNat 48, .ofNat 50, .ofNat 51, .ofNat 53, .ofNat 47, .ofNat 108, .ofNat 97, .ofNat 119, .ofNat 115, .ofNat 46, .ofNat 70, .ofNat 110, .ofNat 69, .ofNat 120, .ofNat 97, .ofNat 99, .ofNat 116, .ofNat 83, .ofNat 104, .ofNat 111, .ofNat 114, .ofNat 116, .ofNat 32, .ofNat 108, .ofNat 111, .ofNat 111, .ofNat 112, .ofNat 46, .ofNat 101, .ofNat 120, .ofNat 97, .ofNat 109, .ofNat 112, .ofNat 108, .ofNat 101, .ofNat 47, .ofNat 103, .ofNat 48, .ofNat 48, .ofNat 50, .ofNat 51, .ofNat 53, .ofNat 47, .ofNat 108, .ofNat 97, .ofNat 119, .ofNat 115, .ofNat 46, .ofNat 70, .ofNat 110, .ofNat 69, .ofNat 120, .ofNat 97, .ofNat 99, .ofNat 116, .ofNat 85, .ofNat 110, .ofNat 109, .ofNat 97, .ofNat 114, .ofNat 107, .ofNat 101, .ofNat 100, .ofNat 32, .ofNat 108, .ofNat 111, .ofNat 111, .ofNat 112, .ofNat 46, .ofNat 101, .ofNat 120, .ofNat 97, .ofNat 109, .ofNat 112, .ofNat 108, .ofNat 101, .ofNat 47, .ofNat 103, .ofNat 48, .ofNat 48, .ofNat 50, .ofNat 51, .ofNat 53, .ofNat 47, .ofNat 108, .ofNat 97, .ofNat 119, .ofNat 115, .ofNat 46, .ofNat 70, .ofNat 110, .ofNat 69, .ofNat 120, .ofNat 97, .ofNat 99, .ofNat 116, .ofNat 80, .ofNat 117, .ofNat 116, .ofNat 68, .ofNat 101, .ofNat 112, .ofNat 32, .ofNat 108, .ofNat 111, .ofNat 111, .ofNat 112, .ofNat 46, .ofNat 101, .ofNat 120, .ofNat 97, .ofNat 109, .ofNat 112, .ofNat 108, .ofNat 101, .ofNat 47, .ofNat 103, .ofNat 48, .ofNat 48, .ofNat 50, .ofNat 51, .ofNat 53, .ofNat 47, .ofNat 108, .ofNat 97, .ofNat 119, .ofNat 115, .ofNat 46, .ofNat 70, .ofNat 110, .ofNat 69, .ofNat 120, .ofNat 97, .ofNat 99, .ofNat 116, .ofNat 68, .ofNat 114, .ofNat 111, .ofNat 112, .ofNat 68, .ofNat 101, .ofNat 112, .ofNat 32, .ofNat 108, .ofNat 111, .ofNat 111, .ofNat 112, .ofNat 46, .ofNat 101, .ofNat 120, .ofNat 97, .ofNat 109, .ofNat 112, .ofNat 108, .ofNat 101, .ofNat 47, .ofNat 103, .ofNat 48, .ofNat 48, .ofNat 50, .ofNat 51, .ofNat 53, .ofNat 47, .ofNat 108, .ofNat 97, .ofNat 119, .ofNat 115, .ofNat 46, .ofNat 70, .ofNat 110, .ofNat 69, .ofNat 120, .ofNat 97, .ofNat 99, .ofNat 116, .ofNat 84, .ofNat 97, .ofNat 107, .ofNat 101, .ofNat 66, .ofNat 108, .ofNat 111, .ofNat 99, .ofNat 107, .ofNat 32, .ofNat 108, .ofNat 111, .ofNat 111, .ofNat 112, .ofNat 46, .ofNat 101, .ofNat 120, .ofNat 97, .ofNat 109, .ofNat 112, .ofNat 108, .ofNat 101, .ofNat 47, .ofNat 103, .ofNat 48, .ofNat 48, .ofNat 50, .ofNat 51, .ofNat 53, .ofNat 47, .ofNat 108, .ofNat 97, .ofNat 119, .ofNat 115, .ofNat 46, .ofNat 70, .ofNat 110, .ofNat 69, .ofNat 120, .ofNat 97, .ofNat 99, .ofNat 116, .ofNat 84, .ofNat 97, .ofNat 107, .ofNat 101, .ofNat 73, .ofNat 110, .ofNat 111, .ofNat 32, .ofNat 108, .ofNat 111, .ofNat 111, .ofNat 112, .ofNat 46, .ofNat 101, .ofNat 120, .ofNat 97, .ofNat 109, .ofNat 112, .ofNat 108, .ofNat 101, .ofNat 47, .ofNat 103, .ofNat 48, .ofNat 48, .ofNat 50, .ofNat 51, .ofNat 53, .ofNat 47, .ofNat 108, .ofNat 97, .ofNat 119, .ofNat 115, .ofNat 46, .ofNat 70, .ofNat 110, .ofNat 69, .ofNat 120, .ofNat 97, .ofNat 99, .ofNat 116, .ofNat 82, .ofNat 101, .ofNat 97, .ofNat 99, .ofNat 104, .ofNat 101, .ofNat 100, .ofNat 32, .ofNat 108, .ofNat 111, .ofNat 111, .ofNat 112, .ofNat 46, .ofNat 101, .ofNat 120, .ofNat 97, .ofNat 109, .ofNat 112, .ofNat 108, .ofNat 101, .ofNat 47, .ofNat 103, .ofNat 48, .ofNat 48, .ofNat 50, .ofNat 51, .ofNat 53, .ofNat 47, .ofNat 108, .ofNat 97, .ofNat 119, .ofNat 115, .ofNat 46, .ofNat 70, .ofNat 110, .ofNat 69, .ofNat 120, .ofNat 97, .ofNat 99, .ofNat 116, .ofNat 70, .ofNat 115, .ofNat 78, .ofNat 101, .ofNat 119, .ofNat 32, .ofNat 108, .ofNat 111, .ofNat 111, .ofNat 112, .ofNat 46, .ofNat 101, .ofNat 120, .ofNat 97, .ofNat 109, .ofNat 112, .ofNat 108, .ofNat 101, .ofNat 47, .ofNat 103, .ofNat 48, .ofNat 48, .ofNat 50, .ofNat 51, .ofNat 53, .ofNat 47, .ofNat 108, .ofNat 97, .ofNat 119, .ofNat 115, .ofNat 46, .ofNat 70, .ofNat 110, .ofNat 69, .ofNat 120, .ofNat 97, .ofNat 99, .ofNat 116, .ofNat 73, .ofNat 109, .ofNat 97, .ofNat 103, .ofNat 101, .ofNat 85, .ofNat 110, .ofNat 105, .ofNat 116, .ofNat 32, .ofNat 108, .ofNat 111, .ofNat 111, .ofNat 112, .ofNat 46, .ofNat 101, .ofNat 120, .ofNat 97, .ofNat 109, .ofNat 112, .ofNat 108, .ofNat 101, .ofNat 47, .ofNat 103, .ofNat 48, .ofNat 48, .ofNat 50, .ofNat 51, .ofNat 53, .ofNat 47, .ofNat 108, .ofNat 97, .ofNat 119, .ofNat 115, .ofNat 46, .ofNat 70, .ofNat 110, .ofNat 69, .ofNat 120, .ofNat 97, .ofNat 99, .ofNat 116, .ofNat 83, .ofNat 97, .ofNat 102, .ofNat 101, .ofNat 68, .ofNat 105, .ofNat 115, .ofNat 107, .ofNat 32, .ofNat 108, .ofNat 111, .ofNat 111, .ofNat 112, .ofNat 46, .ofNat 101, .ofNat 120, .ofNat 97, .ofNat 109, .ofNat 112, .ofNat 108, .ofNat 101, .ofNat 47, .ofNat 103, .ofNat 48, .ofNat 48, .ofNat 50, .ofNat 51, .ofNat 53, .ofNat 47, .ofNat 108, .ofNat 97, .ofNat 119, .ofNat 115, .ofNat 46, .ofNat 70, .ofNat 110, .ofNat 69, .ofNat 120, .ofNat 97, .ofNat 99, .ofNat 116, .ofNat 84, .ofNat 114, .ofNat 101, .ofNat 101, .ofNat 79, .ofNat 102, .ofNat 32, .ofNat 108, .ofNat 111, .ofNat 111, .ofNat 112, .ofNat 46, .ofNat 101, .ofNat 120, .ofNat 97, .ofNat 109, .ofNat 112, .ofNat 108, .ofNat 101, .ofNat 47, .ofNat 103, .ofNat 48, .ofNat 48, .ofNat 50, .ofNat 51, .ofNat 53, .ofNat 47, .ofNat 108, .ofNat 97, .ofNat 119, .ofNat 115, .ofNat 46, .ofNat 70, .ofNat 110, .ofNat 69, .ofNat 120, .ofNat 97, .ofNat 99, .ofNat 116, .ofNat 69, .ofNat 120, .ofNat 97, .ofNat 99, .ofNat 116, .ofNat 68, .ofNat 105, .ofNat 115, .ofNat 107]
theorem head_text : Try.prog.initOrder = String.ofList headSigns := by kernel_rfl
theorem head_words : wordsSigns Try.prog.initOrder.toList = Go.Abs.wAcc headSigns [] [] := by
  rw [head_text, String.toList_ofList, Go.Abs.words_eq]
theorem head_behind : behindMainWord (wordsSigns Try.prog.initOrder.toList) = "cut".toList :: (Go.Abs.wAcc headSigns [] []).drop 3 := by
  rw [head_words]; kernel_rfl
theorem f_lays : Try.prog.laysLater = false := by kernel_rfl
theorem f_refl : Try.prog.bearsReflect = false := by kernel_rfl
theorem f_door : Try.prog.doorFits [] = true := by kernel_rfl
theorem f_mayEnter : Try.prog.mayEnter = true := Go.Abs.mayEnter_of head_behind f_lays f_refl f_door
theorem f_liftsFinal : Try.prog.liftsFinal = false := Go.Abs.liftsFinal_of head_behind
theorem f_make : Try.prog.make = some .cut := Go.Abs.make_of head_behind
theorem laidOut : laidOutB Try.prog = true := by kernel_rfl
theorem f_maps : mapsRowed Try.prog = true := by kernel_rfl
theorem f_stops : (Try.prog.stops == []) = true := by kernel_rfl
theorem f_knobs : (Try.prog.stopKnobs == []) = true := by kernel_rfl
theorem f_plain : (true == Try.prog.plainKeys) = true := by kernel_rfl
theorem f_heard : Try.prog.stopsHeard = true := by kernel_rfl
theorem own : ownKnob Try.prog.godebug = none := by kernel_rfl
end Go.Proofs.Ytaaajjinpppgeaa

/- FnExactMendNames returns true for every input, and leaves it as it was. No condition. -/
set_option linter.unusedVariables false
set_option linter.unusedSimpArgs false
set_option linter.unusedSectionVars false
namespace Go.Proofs.Ytaaajjinpppgeaa
open Go Go.Abs Go.ChangeShapes Go.WideShapes Go.ChangeAt Go.RowKit
set_option maxRecDepth 100000 in
theorem liftedFnExactMendNames (os : Os) (started : os.Started) (H : Type) (enc : TypeId × Value → H) :
    ReturnsInHanded {} Try.checked os 13 .any (Rows.fnExactMendNamesSpec.pre6 enc Try.prog Try.f13 Rows.fnExactMendNamesRow.domain false) (Rows.fnExactMendNamesSpec.post enc Try.prog Try.f13 false true false false) := by
  refine returnsInHanded_of_change (C := Try.checked) own started (by kernel_rfl) Try.func13
    (ChangeSpec.witness6 (enc := enc) (C := Try.checked) false ⟨#[], #[.agg #[.slice none 0 0, .slice none 0 0, .slice none 0 0, .slice none 0 0]], []⟩ 8 (by kernel_rfl) (by kernel_rfl) (by kernel_rfl) (by kernel_rfl)) ?_
  intro W base args ds gs before hval hW _ _
  obtain ⟨p, q, hA, hV, e, _, _⟩ := id hW
  refine (row_calls (P := Try.prog) (W := W) (n := 12) (shps := shFnExactMendNames) (fun avs h => callsN (isFnExactMendNames h)) (ts := Try.f13.params.toList) (by kernel_rfl) (fun j t v h1 h2 => hval j t v (by simpa using h1) h2) hA).mono fun e W' ⟨he, hb⟩ => ?_
  refine ⟨_, he, row_post (tb := Try.f13.resultTypes.toList.headD 0) laidOut ?_ rfl (by kernel_rfl) (by kernel_rfl) ?_ hW hb⟩
  · exact List.all_eq_true.1 (show Try.f13.params.toList.all (fun t => Try.prog.readableRec t && decide (t < Try.prog.types.size)) = true by kernel_rfl) |> fun h t ht => by simpa using h t ht
  · have hl := trod_len hA
    match ds, hl with
    | [d0], _ => rfl
set_option maxHeartbeats 4000000 in
theorem factsFnExactMendNames : joinedFacts Try.prog 13 Try.f13 Rows.fnExactMendNamesSpec Rows.fnExactMendNamesRow = true :=
  facts_of (by kernel_rfl) laidOut f_maps (by kernel_rfl) (by kernel_rfl) rfl f_stops rfl f_knobs (by as_aux_lemma => kernel_rfl) (by as_aux_lemma => kernel_rfl) (by as_aux_lemma => kernel_rfl) (by as_aux_lemma => kernel_rfl)
    (by kernel_rfl) (by kernel_rfl) (by kernel_rfl) (by kernel_rfl) (by kernel_rfl) rfl (by kernel_rfl) (by kernel_rfl) (by kernel_rfl) f_plain rfl f_heard f_mayEnter (by rw [f_liftsFinal]; rfl) (by rw [f_make]; rfl) rfl rfl rfl (by kernel_rfl) (by kernel_rfl)
theorem wrapFnExactMendNames : Try.f13.isWrapper Try.prog Rows.fnExactMendNamesRow.wrapper Rows.fnExactMendNamesRow.mainSum := by
  unfold Func.isWrapper; rw [if_neg (by decide +kernel)]; exact ⟨rfl, rfl⟩
set_option maxHeartbeats 4000000 in
theorem overFnExactMendNames : Rows.fnExactMendNamesRow.holds Try.pinned (OpenSpec.ofChange Rows.fnExactMendNamesSpec) :=
  OpenClaim.holds_of_wide 13 Try.f13 rfl rfl rfl rfl rfl rfl rfl ⟨rfl, rfl, rfl, rfl, rfl⟩ rfl rfl rfl rfl rfl (by as_aux_lemma => kernel_rfl) Try.func13 factsFnExactMendNames
    (by as_aux_lemma => exact of_decide_eq_true (by kernel_rfl)) wrapFnExactMendNames
    (fun os started H enc _ => liftedFnExactMendNames os started H enc)
theorem FnExactMendNames_holds : Rows.FnExactMendNamesSaid := overFnExactMendNames
end Go.Proofs.Ytaaajjinpppgeaa

