/- Shared: the program's answer, and that both are alike. Own work; no condition. -/
import Derived.Test.YtaaajjinpppgeaaDe
set_option linter.unusedVariables false
set_option linter.unusedSimpArgs false
set_option linter.unusedSectionVars false
namespace Go.Proofs.Ytaaajjinpppgeaa
open Go Go.Abs
set_option maxRecDepth 100000
/-- The inner loop of the program. -/
theorem in41 (x : Dsk) (i : Nat) (p : Ino) (hp : x.inos[i]? = some p) (hs : p.sm) (s : Int × List Int) (hl : s.2.length ≤ 1099511627776) :
    ∃ e m, XL T 0 H41_8 L41_8 ⟨[(3, .int .i64 s.1), (4, .sl 0 0 s.2.length), (6, .ptr 1 0 0), (11, .ro 3 (x.inos.map ino)), (12, .int .i64 x.inos.length), (13, .int .i64 (i : Nat)), (18, .ro 1 (p.ptrs.map iv)), (19, .int .i64 p.ptrs.length), (20, .int .i64 0)],
        [some (1, s.2.map iv), some (3, [.agg [.int .i64 p.kind, .int .i64 p.links, .ro 1 (p.ptrs.map iv)]])]⟩ = some (.exit 2, ⟨e, some (1, (shIno s p).2.map iv) :: m⟩) ∧
      lookA e 3 = .int .i64 (shIno s p).1 ∧ lookA e 4 = .sl 0 0 (shIno s p).2.length ∧ lookA e 11 = .ro 3 (x.inos.map ino) ∧ lookA e 12 = .int .i64 x.inos.length ∧ lookA e 13 = .int .i64 (i : Nat) := by
  have hpt := hs
  unfold Ino.sm at hpt
  refine (XL_inv (T := T) (b := 0) (hd := H41_8) (x := L41_8) (β := Int × List Int) (fun j a => ⟨[(3, .int .i64 a.1), (4, .sl 0 0 a.2.length), (6, .ptr 1 0 0), (11, .ro 3 (x.inos.map ino)), (12, .int .i64 x.inos.length), (13, .int .i64 (i : Nat)), (18, .ro 1 (p.ptrs.map iv)), (19, .int .i64 p.ptrs.length), (20, .int .i64 (j : Nat))],
        [some (1, a.2.map iv), some (3, [.agg [.int .i64 p.kind, .int .i64 p.links, .ro 1 (p.ptrs.map iv)]])]⟩)
    (fun j a => (a = if p.kind = 0 then s else (p.ptrs.take j).foldl shStep s) ∧ a.2.length ≤ s.2.length + j) p.ptrs.length (fun r => r.1 = .exit 2 ∧ (∃ m, r.2.mem = some (1, (shIno s p).2.map iv) :: m) ∧
      lookA r.2.env 3 = .int .i64 (shIno s p).1 ∧ lookA r.2.env 4 = .sl 0 0 (shIno s p).2.length ∧ lookA r.2.env 11 = .ro 3 (x.inos.map ino) ∧ lookA r.2.env 12 = .int .i64 x.inos.length ∧ lookA r.2.env 13 = .int .i64 (i : Nat)) ?step ?last 0 s (by omega) ⟨by split <;> rfl, by omega⟩).elim ?main
  case step =>
    intro j a hj ⟨hI1, hI2⟩
    obtain ⟨q, hq⟩ := get_at hj
    have hj1 : (j : Int) < (p.ptrs.length : Int) := by omega
    have gq : (p.ptrs.map iv).getD j .undef = .int .i64 q := gD_map hq
    have hap : (a.2.length + 1) * 8 ≤ 140737488355328 := by omega
    have hsl := shStep_len a q
    left
    refine ⟨if p.kind = 0 then s else shStep a q, ?_, by split <;> simp_all [foldl_take hq], by split <;> omega⟩
    simp only [XG, L41_8, h41_8, go_sem, seval, bnd_ite, gq, hj1, hap, Int.natCast_nonneg, w_i64 ((j : Int) + 1) (by omega), e130 a.2 q (by unfold maxLen; omega)]
    by_cases hk : p.kind = 0
    · simp only [hk, if_true] at hI1; subst hI1
      simp only [hk, decide_true, Bool.true_or, if_true]; rfl
    unfold shStep
    by_cases c1 : q ≤ 0
    · simp only [hk, c1, decide_true, Bool.or_true, if_true, if_false]; rfl
    by_cases c2 : q ∈ a.2
    · simp only [hk, c1, c2, decide_false, Bool.or_self, Bool.false_eq_true, if_true, if_false, List.map_append, List.length_append]; rfl
    · simp only [hk, c1, c2, decide_false, Bool.or_self, Bool.false_eq_true, if_true, if_false, List.map_append, List.length_append]; rfl
  case last =>
    intro a ⟨hI, _⟩
    rw [List.take_length] at hI
    have hI : a = shIno s p := hI
    subst hI
    simp only [XG, L41_8, h41_8, go_sem, seval, bnd_ite, Int.lt_irrefl, decide_false, Int.natCast_nonneg]
    exact .mk (by simp) ⟨rfl, ⟨_, rfl⟩, rfl, rfl, rfl, rfl, rfl⟩
  case main =>
    rintro ⟨xx, e, m⟩ ⟨h1, h2, h3, ⟨m', h4⟩, h5⟩
    simp only at h3 h4; subst h3; subst h4
    exact ⟨e, m', h1, h5⟩
theorem e41 (x : Dsk) (h : x.sm) : E T 41 [dsk x] [] = some (.int .i64 (shared x), []) := by
  rw [E_eq t41 (Nat.le_of_ble_eq_true rfl)]
  have hl := h.inos
  refine (XL_inv (T := T) (b := 0) (hd := H41_4) (x := L41_4) (β := Int × List Int) (fun i a => ⟨[(3, .int .i64 a.1), (4, .sl 0 0 a.2.length), (11, .ro 3 (x.inos.map ino)), (12, .int .i64 x.inos.length), (13, .int .i64 (i : Nat))], [some (1, a.2.map iv)]⟩)
    (fun i a => a = (x.inos.take i).foldl shIno (0, [])) x.inos.length (fun r => r.1 = .exit 0 ∧ lookA r.2.env 3 = .int .i64 (shared x)) ?step ?last 0 (0, []) (by omega) rfl).elim ?main
  case step =>
    intro i a hi hI
    obtain ⟨p, hp⟩ := get_at hi
    have hi1 : (i : Int) < (x.inos.length : Int) := by omega
    have hsm := h.ino p (List.mem_of_getElem? hp)
    have hal : a.2.length ≤ 1099511627776 := by
      have := shFold_all (x.inos.take i) (fun y hy => h.ino y (List.mem_of_mem_take hy))
      rw [← hI] at this
      have h2 : (x.inos.take i).length ≤ i := by rw [List.length_take]; exact Nat.min_le_left _ _
      omega
    obtain ⟨e, m, h1, h2, h3, h4, h5, h6⟩ := in41 x i p hp hsm a hal
    have gp : (x.inos.map ino).getD i .undef = .agg [.int .i64 p.kind, .int .i64 p.links, .ro 1 (p.ptrs.map iv)] := gD_map hp
    left
    refine ⟨shIno a p, ?_, by rw [foldl_take hp, hI]⟩
    simp only [XG, L41_4, h41_4, h41_8, go_sem, seval, bnd_ite, hi1, gp, Int.natCast_nonneg, w_i64 ((i : Int) + 1) (by omega)]
    rw [h1]
    simp only [h41_4, go_sem, seval, h2, h3, h4, h5, h6, w_i64 ((i : Int) + 1) (by omega)]
    rfl
  case last =>
    intro a hI
    rw [List.take_length] at hI
    simp only [XG, L41_4, h41_4, go_sem, seval, bnd_ite, Int.lt_irrefl, decide_false]
    exact .mk (by simp) ⟨rfl, by rw [shared, ← hI]; rfl⟩
  case main =>
  rintro ⟨y, e, m⟩ ⟨h1, h2, h3, h4⟩
  have hs : ((0 : Nat) : Int) = 0 := rfl
  simp only [hs, List.map_nil, List.length_nil] at h1
  simp only at h3 h4; subst h3
  simp only [dsk, F41, h41_4, go_sem, seval, bnd_ite, h1, h4]
/-- What a copy of a disk, frozen again, is. -/
theorem dskO_ice (x : Dsk) : ice (dskO x) = dsk x := by simp only [dskO, dsk, go_sem]
theorem e5 (x : Dsk) (h : x.ok) : E T 5 [dsk x] [] = some (.bool true, []) := by
  rw [E_eq t5 (Nat.le_of_ble_eq_true rfl)]
  obtain ⟨r, h1, h2, h3, h4⟩ := e38 x 1048576 (by omega) (by omega) h
  have c40 := fun h => e40 x h
  have c39 := fun h => e39 x h
  have c41 := fun h => e41 x h
  have c42 := e42 x x h
  simp only [dsk, dskO] at h1 c40 c39 c41 c42 ⊢
  simp only [F5, go_sem, seval, bnd_ite, h1]
  by_cases c1 : r < 0
  · rw [if_pos c1]
  rw [if_neg c1]
  have hm := h4 (by omega)
  simp only [go_sem, seval, bnd_ite, c40 hm, c39 hm, c41 hm, c42]
  simp
end Go.Proofs.Ytaaajjinpppgeaa
