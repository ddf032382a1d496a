/- Shared: both answers are alike. Own work; no condition. -/
import Derived.Test.YtaaajjinpppgeaaDd
set_option linter.unusedVariables false
set_option linter.unusedSimpArgs false
set_option linter.unusedSectionVars false
namespace Go.Proofs.Ytaaajjinpppgeaa
open Go Go.Abs
set_option maxRecDepth 100000
def shStep (s : Int × List Int) (p : Int) : Int × List Int := if p ≤ 0 then s else (if p ∈ s.2 then IntKind.i64.wrap (s.1 + 1) else s.1, s.2 ++ [p])
def shIno (s : Int × List Int) (x : Ino) : Int × List Int := if x.kind = 0 then s else x.ptrs.foldl shStep s
def shared (x : Dsk) : Int := (x.inos.foldl shIno (0, [])).1
theorem shStep_len (s : Int × List Int) (p : Int) : (shStep s p).2.length ≤ s.2.length + 1 := by
  unfold shStep; split
  · omega
  · simp
theorem shFold_len (l : List Int) : ∀ s : Int × List Int, (l.foldl shStep s).2.length ≤ s.2.length + l.length := by
  induction l with
  | nil => intro s; exact Nat.le_refl _
  | cons p l ih =>
    intro s
    have h1 := ih (shStep s p)
    have h2 := shStep_len s p
    simp only [List.foldl_cons, List.length_cons]; omega
theorem shIno_len (s : Int × List Int) (x : Ino) (h : x.sm) : (shIno s x).2.length ≤ s.2.length + 1048576 := by
  unfold shIno; split
  · omega
  · have := shFold_len x.ptrs s; unfold Ino.sm at h; omega
theorem foldl_take {α β : Type} {f : β → α → β} {l : List α} {i : Nat} {x : α} {a : β} (h : l[i]? = some x) : (l.take (i + 1)).foldl f a = f ((l.take i).foldl f a) x := by
  rw [take_snoc h, List.foldl_append]; rfl

def shMem (x : Dsk) (s : Int × List Int) : Mem := [some (4, [dsk x]), some (1, s.2.map iv)]
/-- The inner loop of the reference. -/
theorem in39 (x : Dsk) (i : Nat) (p : Ino) (hp : x.inos[i]? = some p) (hs : p.sm) (s : Int × List Int) (hl : s.2.length ≤ 1099511627776) :
    ∃ e, XL T 0 H39_7 L39_7 ⟨[(1, .ptr 0 0 0), (3, .int .i64 s.1), (4, .sl 1 0 s.2.length), (5, .int .i64 (i : Nat)), (6, .int .i64 0)], shMem x s⟩ = some (.exit 2, ⟨e, shMem x (shIno s p)⟩) ∧
      lookA e 1 = .ptr 0 0 0 ∧ lookA e 3 = .int .i64 (shIno s p).1 ∧ lookA e 4 = .sl 1 0 (shIno s p).2.length ∧ lookA e 5 = .int .i64 (i : Nat) := by
  have hpt := hs
  unfold Ino.sm at hpt
  have hi0 : i < x.inos.length := (List.getElem?_eq_some_iff.1 hp).1
  have hi1 : (i : Int) < (x.inos.length : Int) := by omega
  have gp : (x.inos.map ino).getD i .undef = .agg [.int .i64 p.kind, .int .i64 p.links, .ro 1 (p.ptrs.map iv)] := gD_map hp
  have hd : shMem x s = [some (4, [.agg [.ro 1 (x.used.map bv), .ro 1 (x.taken.map bv), .ro 3 (x.inos.map ino), .ro 3 (x.blks.map blk)]]), some (1, s.2.map iv)] := rfl
  by_cases hk : p.kind = 0
  · have e1 : shIno s p = s := if_pos hk
    rw [e1]
    by_cases hn : 0 < (p.ptrs.length : Int)
    · refine ⟨_, XL_out (by
        simp only [XG, L39_7, h39_7, hd, go_sem, seval, bnd_ite, gp, hk, hi1, hn, Int.natCast_nonneg]
        rfl) (by simp), ?_⟩
      exact ⟨rfl, rfl, rfl, rfl⟩
    · refine ⟨_, XL_out (by
        simp only [XG, L39_7, h39_7, hd, go_sem, seval, bnd_ite, gp, hk, hi1, hn, Int.natCast_nonneg]
        rfl) (by simp), ?_⟩
      exact ⟨rfl, rfl, rfl, rfl⟩
  have e1 : shIno s p = p.ptrs.foldl shStep s := if_neg hk
  rw [e1]
  refine (XL_inv (T := T) (b := 0) (hd := H39_7) (x := L39_7) (β := Int × List Int) (fun j a => ⟨[(1, .ptr 0 0 0), (3, .int .i64 a.1), (4, .sl 1 0 a.2.length), (5, .int .i64 (i : Nat)), (6, .int .i64 (j : Nat))], [some (4, [.agg [.ro 1 (x.used.map bv), .ro 1 (x.taken.map bv), .ro 3 (x.inos.map ino), .ro 3 (x.blks.map blk)]]), some (1, a.2.map iv)]⟩)
    (fun j a => a = (p.ptrs.take j).foldl shStep s ∧ a.2.length ≤ s.2.length + j) p.ptrs.length (fun r => r.1 = .exit 2 ∧ r.2.mem = shMem x (p.ptrs.foldl shStep s) ∧
      lookA r.2.env 1 = .ptr 0 0 0 ∧ lookA r.2.env 3 = .int .i64 (p.ptrs.foldl shStep s).1 ∧ lookA r.2.env 4 = .sl 1 0 (p.ptrs.foldl shStep s).2.length ∧ lookA r.2.env 5 = .int .i64 (i : Nat)) ?step ?last 0 s (by omega) ⟨rfl, by omega⟩).elim ?main
  case step =>
    intro j a hj ⟨hI1, hI2⟩
    obtain ⟨q, hq⟩ := get_at hj
    have hj1 : (j : Int) < (p.ptrs.length : Int) := by omega
    have gq : (p.ptrs.map iv).getD j .undef = .int .i64 q := gD_map hq
    have hap : (a.2.length + 1) * 8 ≤ 140737488355328 := by omega
    have hsl := shStep_len a q
    left
    refine ⟨shStep a q, ?_, by rw [foldl_take hq, hI1], by omega⟩
    simp only [XG, L39_7, h39_7, go_sem, seval, bnd_ite, gp, gq, hk, hj1, hi1, hap, Int.natCast_nonneg, w_i64 ((j : Int) + 1) (by omega), e126 a.2 q (by unfold maxLen; omega)]
    rw [if_pos (by decide)]
    unfold shStep
    by_cases c1 : q ≤ 0
    · simp only [c1, if_true]; rfl
    by_cases c2 : q ∈ a.2
    · simp only [c1, c2, if_true, if_false, List.map_append, List.length_append]; rfl
    · simp only [c1, c2, if_true, if_false, List.map_append, List.length_append]; rfl
  case last =>
    intro _ ⟨hI, _⟩
    rw [List.take_length] at hI
    simp only [XG, L39_7, h39_7, go_sem, seval, bnd_ite, Int.lt_irrefl, decide_false, gp, hi1, Int.natCast_nonneg]
    exact .mk (by simp) ⟨rfl, by rw [← hI]; rfl, rfl, by rw [← hI]; rfl, by rw [← hI]; rfl, rfl⟩
  case main =>
    rintro ⟨xx, e, m⟩ ⟨h1, h2, h3, h4, h5⟩
    simp only at h3 h4; subst h3; subst h4
    exact ⟨e, h1, h5⟩
theorem shFold_all (l : List Ino) (h : ∀ y ∈ l, y.sm) : (l.foldl shIno (0, [])).2.length ≤ l.length * 1048576 := by
  have key : ∀ (l : List Ino) (s : Int × List Int), (∀ y ∈ l, y.sm) → (l.foldl shIno s).2.length ≤ s.2.length + l.length * 1048576 := by
    intro l
    induction l with
    | nil => intro s _; simp
    | cons p l ih =>
      intro s h
      have h1 := ih (shIno s p) (fun y hy => h y (List.mem_cons_of_mem _ hy))
      have h2 := shIno_len s p (h p (List.mem_cons_self ..))
      simp only [List.foldl_cons, List.length_cons]; omega
  have := key l (0, []) h
  simpa using this
theorem e39 (x : Dsk) (h : x.sm) : E T 39 [dsk x] [] = some (.int .i64 (shared x), []) := by
  rw [E_eq t39 (Nat.le_of_ble_eq_true rfl)]
  have hl := h.inos
  refine (XL_inv (T := T) (b := 0) (hd := H39_4) (x := L39_4) (β := Int × List Int) (fun i a => ⟨[(1, .ptr 0 0 0), (3, .int .i64 a.1), (4, .sl 1 0 a.2.length), (5, .int .i64 (i : Nat))], shMem x a⟩)
    (fun i a => a = (x.inos.take i).foldl shIno (0, [])) x.inos.length (fun r => r.1 = .exit 0 ∧ lookA r.2.env 3 = .int .i64 (shared x)) ?step ?last 0 (0, []) (by omega) rfl).elim ?main
  case step =>
    intro i a hi hI
    obtain ⟨p, hp⟩ := get_at hi
    have hi1 : (i : Int) < (x.inos.length : Int) := by omega
    have hsm := h.ino p (List.mem_of_getElem? hp)
    have hal : a.2.length ≤ 1099511627776 := by
      have := shFold_all (x.inos.take i) (fun y hy => h.ino y (List.mem_of_mem_take hy))
      rw [← hI] at this
      have h2 : (x.inos.take i).length ≤ i := by rw [List.length_take]; exact Nat.min_le_left _ _
      omega
    obtain ⟨e, h1, h2, h3, h4, h5⟩ := in39 x i p hp hsm a hal
    have hd : ∀ s, shMem x s = [some (4, [.agg [.ro 1 (x.used.map bv), .ro 1 (x.taken.map bv), .ro 3 (x.inos.map ino), .ro 3 (x.blks.map blk)]]), some (1, s.2.map iv)] := fun _ => rfl
    left
    refine ⟨shIno a p, ?_, by rw [foldl_take hp, hI]⟩
    rw [hd] at h1
    simp only [XG, L39_4, h39_4, hd, h39_7, go_sem, seval, bnd_ite, hi1, Int.natCast_nonneg, w_i64 ((i : Int) + 1) (by omega)]
    rw [h1]
    simp only [hd, h39_4, go_sem, seval, h2, h3, h4, h5, w_i64 ((i : Int) + 1) (by omega)]
    rfl
  case last =>
    intro a hI
    rw [List.take_length] at hI
    have hd : ∀ s, shMem x s = [some (4, [.agg [.ro 1 (x.used.map bv), .ro 1 (x.taken.map bv), .ro 3 (x.inos.map ino), .ro 3 (x.blks.map blk)]]), some (1, s.2.map iv)] := fun _ => rfl
    simp only [XG, L39_4, h39_4, hd, go_sem, seval, bnd_ite, Int.lt_irrefl, decide_false]
    exact .mk (by simp) ⟨rfl, by rw [shared, ← hI]; rfl⟩
  case main =>
  rintro ⟨y, e, m⟩ ⟨h1, h2, h3, h4⟩
  have hs : ((0 : Nat) : Int) = 0 := rfl
  rw [hs] at h1
  have hd : ∀ s, shMem x s = [some (4, [.agg [.ro 1 (x.used.map bv), .ro 1 (x.taken.map bv), .ro 3 (x.inos.map ino), .ro 3 (x.blks.map blk)]]), some (1, s.2.map iv)] := fun _ => rfl
  simp only [hd, List.map_nil, List.length_nil] at h1
  simp only at h3 h4; subst h3
  simp only [dsk, F39, h39_4, go_sem, seval, bnd_ite, h1, h4]
end Go.Proofs.Ytaaajjinpppgeaa
