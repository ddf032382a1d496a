/- The pointers of a small disk, counted all together. Own work; no condition. -/
import Derived.Test.YtaaajjinpppgeaaGreatGa
set_option linter.unusedVariables false
set_option linter.unusedSimpArgs false
set_option linter.unusedSectionVars false
namespace Go.Proofs.YtaaajjinpppgeaaGreat
open Go Go.Abs
set_option maxRecDepth 100000
theorem gszc {α : Type} {enc : α → AV} {s n f k : Nat} {ok : α → Prop} {cst : α → Nat} (ht : T k = some (Fsz s n f)) (henc : ∀ x, AV.agg ((enc x).cells.take n) = enc x) (hln : ∀ x, n ≤ (enc x).cells.length) (hcl : ∀ x, (enc x).cells.all closedC = true) (hd : ∀ x, isDef (enc x) = true)
    (hf : ∀ x (r : Int), ok x → 0 ≤ r → r ≤ 1048576 → ∃ v : Int, E T f [enc x, .int .i64 r] [] = some (.int .i64 v, []) ∧ (0 ≤ v → v + (cst x : Nat) ≤ r))
    (l : List α) (c : Int) (h0 : 0 ≤ c) (hn : c ≤ 1048576) (hl : l.length ≤ maxLen) (hok : ∀ x ∈ l, ok x) :
    ∃ r : Int, E T k [.ro s (l.map enc), .int .i64 c] [] = some (.int .i64 r, []) ∧ (0 ≤ r → r + ((l.map cst).sum : Nat) ≤ c) := by
  rw [E_eq ht (Nat.le_of_ble_eq_true rfl)]
  simp only [Fsz, hsz, go_sem, seval, bnd_ite]
  unfold maxLen at hl
  rw [w_i64 (c - (l.length : Int)) (by omega)]
  by_cases c1 : c - (l.length : Int) < 0
  · rw [if_pos c1]; exact ⟨_, rfl, fun h => by omega⟩
  rw [if_neg c1]
  refine (XL_inv (T := T) (b := 0) (hd := Hsz) (x := Lsz s n f) (β := Int) (fun i r => ⟨[(0, .ro s (l.map enc)), (1, .int .i64 r), (5, .int .i64 (i : Nat))], []⟩)
    (fun i r => 0 ≤ r ∧ r + (((l.take i).map cst).sum : Nat) ≤ c) l.length (fun r => (r.1 = .exit 0 ∧ ∃ v : Int, lookA r.2.env 1 = .int .i64 v ∧ v + ((l.map cst).sum : Nat) ≤ c) ∨ (r.1 = .ret ∧ lookA r.2.env 4 = .int .i64 (-1))) ?step ?last 0 (c - (l.length : Int)) (by omega) ⟨by omega, by simp; omega⟩).elim ?main
  case step =>
    intro i r hi ⟨hI0, hI1⟩
    obtain ⟨p, hp⟩ := get_at hi
    have hi1 : (i : Int) < (l.length : Int) := by omega
    obtain ⟨v, hv, hv1⟩ := hf p r (hok p (List.mem_of_getElem? hp)) hI0 (by omega)
    simp only [XG, Lsz, hsz, go_sem, seval, bnd_ite, hi1, gD_map hp, hln p, henc, hcl, hd, hv, Int.natCast_nonneg, w_i64 ((i : Int) + 1) (by omega)]
    by_cases c : v < 0
    · right; rw [if_pos c]
      exact .mk (by simp) (.inr ⟨rfl, rfl⟩)
    · left; rw [if_neg c]
      refine ⟨v, by simp, by omega, ?_⟩
      have := hv1 (by omega)
      rw [take_snoc hp, List.map_append, List.sum_append]
      simp only [List.map_cons, List.map_nil, List.sum_cons, List.sum_nil]
      omega
  case last =>
    intro r ⟨hI0, hI1⟩
    simp only [XG, Lsz, hsz, go_sem, seval, bnd_ite, Int.lt_irrefl, decide_false]
    exact .mk (by simp) (.inl ⟨rfl, r, rfl, by rwa [List.take_length] at hI1⟩)
  case main =>
  rintro ⟨x, st⟩ ⟨h1, h2, h3⟩
  have hs : (0 : Int) = ((0 : Nat) : Int) := rfl
  rw [hs] at *
  simp only [h1]
  obtain ⟨e, m⟩ := st
  rcases h3 with ⟨hx, v, h4, h5⟩ | ⟨hx, h4⟩
  · simp only at hx h4; subst hx
    simp only [go_sem, seval, h4]
    exact ⟨v, rfl, fun _ => h5⟩
  · simp only at hx h4; subst hx
    simp only [go_sem, seval, h4]
    exact ⟨-1, rfl, fun h => by omega⟩
theorem e169c (x : Ino) (n : Int) (hl : x.ok) (h0 : 0 ≤ n) (hn : n ≤ 1048576) :
    ∃ r : Int, E T 169 [ino x, .int .i64 n] [] = some (.int .i64 r, []) ∧ (0 ≤ r → r + (x.ptrs.length : Nat) ≤ n) := by
  have e231c : ∃ r : Int, E T 231 [.ro 1 (x.ptrs.map iv), .int .i64 n] [] = some (.int .i64 r, []) ∧ (0 ≤ r → r + (x.ptrs.length : Nat) ≤ n) := by
    rw [E_eq t231 (Nat.le_of_ble_eq_true rfl)]
    simp only [F231, go_sem, seval, bnd_ite]
    unfold Ino.ok maxLen at hl
    rw [w_i64 (n - (x.ptrs.length : Int)) (by omega)]
    by_cases c1 : n - (x.ptrs.length : Int) < 0
    · rw [if_pos c1]; exact ⟨_, rfl, fun h => by omega⟩
    rw [if_neg c1]; exact ⟨_, rfl, fun h => by omega⟩
  rw [E_eq t169 (Nat.le_of_ble_eq_true rfl)]
  obtain ⟨r, h1, h2⟩ := e231c
  simp only [ino, F169, go_sem, seval, bnd_ite, h1]
  by_cases c1 : r < 0
  · rw [if_pos c1]; exact ⟨_, rfl, fun h => by omega⟩
  rw [if_neg c1]; exact ⟨_, rfl, h2⟩
def tot (x : Dsk) : Nat := (x.inos.map fun p => p.ptrs.length).sum
theorem e19c (x : Dsk) (n : Int) (h0 : 0 ≤ n) (hn : n ≤ 1048576) (hk : x.ok) :
    ∃ r : Int, E T 19 [dsk x, .int .i64 n] [] = some (.int .i64 r, []) ∧ (0 ≤ r → tot x ≤ 1048576) := by
  rw [E_eq t19 (Nat.le_of_ble_eq_true rfl)]
  obtain ⟨r, h1, h2, h3, h4⟩ := e71 x.used x.taken n h0 hn hk.used hk.taken
  simp only [dsk, F19, go_sem, seval, bnd_ite, h1]
  by_cases c1 : r < 0
  · rw [if_pos c1]; exact ⟨_, rfl, fun h => by omega⟩
  obtain ⟨r2, g1, g2, g3, g4⟩ := e72 x.inos r (by omega) (by omega) hk.inos hk.ino
  obtain ⟨r2', k1, k2⟩ := gszc (ok := Ino.ok) (cst := fun p : Ino => p.ptrs.length) t72 (fun _ => rfl) (fun _ => Nat.le_refl _) (fun _ => rfl) (fun _ => rfl) (fun x r h h0 h1 => e169c x r h h0 h1) x.inos r (by omega) (by omega) hk.inos hk.ino
  have e : r2 = r2' := by
    have := g1.symm.trans k1
    injection this with this; injection this with this; injection this
  subst e
  rw [if_neg c1]
  simp only [go_sem, seval, bnd_ite, g1]
  by_cases c2 : r2 < 0
  · rw [if_pos c2]; exact ⟨_, rfl, fun h => by omega⟩
  obtain ⟨r3, f1, f2, f3, f4⟩ := e73 x.blks r2 (by omega) (by omega) hk.blks hk.blk
  rw [if_neg c2]
  simp only [go_sem, seval, bnd_ite, f1]
  have := k2 (by omega)
  by_cases c3 : r3 < 0
  · rw [if_pos c3]; exact ⟨_, rfl, fun h => by omega⟩
  rw [if_neg c3]; exact ⟨_, rfl, fun h => by unfold tot; omega⟩
theorem e19t (x : Dsk) (hk : x.ok) : ∃ r : Int, E T 19 [dsk x, .int .i64 1048576] [] = some (.int .i64 r, []) ∧ (0 ≤ r → x.sm ∧ tot x ≤ 1048576) := by
  obtain ⟨r, h1, h2, h3, h4⟩ := e19 x 1048576 (by omega) (by omega) hk
  obtain ⟨r2, k1, k2⟩ := e19c x 1048576 (by omega) (by omega) hk
  have e : r = r2 := by
    have := h1.symm.trans k1
    injection this with this; injection this with this; injection this
  subst e
  exact ⟨r, h1, fun h => ⟨h4 h, k2 h⟩⟩
def ptrsSum (x : Dsk) (l : List Int) : Nat := (l.map (ptrsN x)).sum
theorem sum_filter {α : Type} (f : α → Nat) (P : α → Bool) (l : List α) : ((l.filter P).map f).sum ≤ (l.map f).sum := by
  induction l with
  | nil => simp
  | cons a l ih => rw [List.filter_cons]; split <;> simp only [List.map_cons, List.sum_cons] <;> omega
theorem ptrs_reach {x : Dsk} (h : tot x ≤ 1048576) : ptrsSum x (reachL x) ≤ 1048576 := by
  refine Nat.le_trans (sum_filter ..) (Nat.le_trans (Nat.le_of_eq ?_) h)
  unfold tot numL
  congr 1
  refine List.ext_getElem (by simp) fun i h1 h2 => ?_
  simp only [List.length_map, List.length_range] at h1
  simp only [List.getElem_map, List.getElem_range]
  have hc : inside ((i : Int) + 1) 1 x.inos.length = true := by simp only [inside, Bool.and_eq_true, decide_eq_true_eq]; omega
  have := inoOf_mem hc
  have e2 : ((i : Int) + 1 - 1).toNat = i := by omega
  rw [e2, List.getElem?_eq_getElem h1] at this
  injection this with this
  unfold ptrsN; rw [this]
theorem ptrs_one {x : Dsk} (h : x.sm) (i : Int) : ptrsSum x [i] ≤ 1048576 := by
  have := inoOf_sm h i
  unfold Ino.sm at this
  unfold ptrsSum ptrsN; simpa using this
end Go.Proofs.YtaaajjinpppgeaaGreat
