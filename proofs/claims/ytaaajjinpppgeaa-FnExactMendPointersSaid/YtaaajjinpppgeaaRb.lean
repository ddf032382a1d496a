/- MendPointers: the program's. Own work; no condition. -/
import Derived.Test.YtaaajjinpppgeaaRa
set_option linter.unusedVariables false
set_option linter.unusedSimpArgs false
set_option linter.unusedSectionVars false
namespace Go.Proofs.Ytaaajjinpppgeaa
open Go Go.Abs
set_option maxRecDepth 100000
theorem zip_fold {α β : Type} {f : β → α × Nat → β} {I : Nat → β → Prop} (l : List α) (step : ∀ j p st, l[j]? = some p → I j st → I (j + 1) (f st (p, j))) (a : β) (h : I 0 a) : I l.length (l.zipIdx.foldl f a) := by
  have key : ∀ (r : List α) (k : Nat) (a : β), l.drop k = r → I k a → k + r.length = l.length → I l.length ((r.zipIdx k).foldl f a) := by
    intro r
    induction r with
    | nil => intro k a _ h hk; simpa [show k = l.length by simpa using hk] using h
    | cons p r ih =>
      intro k a hd h hk
      rw [List.zipIdx_cons, List.foldl_cons]
      have hp : l[k]? = some p := by
        have := congrArg (fun m => m[0]?) hd
        simpa using this
      refine ih (k + 1) _ ?_ (step k p a hp h) (by simp only [List.length_cons] at hk; omega)
      have := congrArg List.tail hd
      simpa using this
  exact key l 0 a rfl h (by simp)
def mpOut (x : Dsk) (st : List Ino × List Int) (e : Ino × Nat) : List Ino × List Int :=
  if e.1.kind = 0 then st else
    (st.1.set e.2 ⟨e.1.kind, e.1.links, (e.1.ptrs.zipIdx.foldl (mpStep x e.1.kind) (e.1.ptrs, st.2)).1⟩, (e.1.ptrs.zipIdx.foldl (mpStep x e.1.kind) (e.1.ptrs, st.2)).2)
structure MoI (l0 : List Ino) (i : Nat) (st : List Ino × List Int) : Prop where
  len : st.1.length = l0.length
  rest : ∀ k, i ≤ k → st.1[k]? = l0[k]?
  had : st.2.length ≤ 2 * i
theorem mpFold {x : Dsk} {k : Int} {q0 had : List Int} : MpI q0 had.length q0.length (q0.zipIdx.foldl (mpStep x k) (q0, had)) :=
  zip_fold (I := fun j st => MpI q0 had.length j st) q0 (fun j p st _ h => mpStep_inv h) (q0, had) ⟨rfl, fun _ _ => rfl, by show had.length ≤ _; omega⟩
theorem mpOut_inv {x : Dsk} {l0 : List Ino} {i : Nat} {st : List Ino × List Int} {p : Ino} (hp : p.ptrs.length = 2) (h : MoI l0 i st) : MoI l0 (i + 1) (mpOut x st (p, i)) := by
  obtain ⟨h1, h2, h3⟩ := h
  unfold mpOut
  split
  · exact ⟨h1, fun k hk => h2 k (by omega), by omega⟩
  · have hf := mpFold (x := x) (k := p.kind) (q0 := p.ptrs) (had := st.2)
    refine ⟨by simpa using h1, fun k hk => ?_, ?_⟩
    · rw [List.getElem?_set_ne (by show i ≠ k; omega)]; exact h2 k (by omega)
    · have := hf.had; rw [hp] at this; show (List.foldl (mpStep x p.kind) (p.ptrs, st.2) p.ptrs.zipIdx).2.length ≤ 2 * (i + 1); omega
def ptrsOk (l : List Ino) : Prop := ∀ p ∈ l, p.ptrs.length = 2 ∧ ∀ q ∈ p.ptrs, 0 ≤ q ∧ q ≤ 16
def mo66 (x : Dsk) (st : List Ino × List Int) : Mem :=
  [some (4, [cpBox x]), some (4, [.agg [.nil, .nil, .nil, .nil]]), some (4, [.agg [.own 1 (x.used.map bv), .own 1 (x.taken.map bv), .sl 4 0 8, .own 3 (x.blks.map blkO)]]), some (1, st.2.map iv), some (3, st.1.map inoO)]
theorem in66a (x : Dsk) (hx : DskOk x) (l0 : List Ino) (hl : l0.length = 8) (hp : ptrsOk l0) :
    ∃ r, XL T 0 H66_8 L66_8 ⟨[(1, .ptr 0 0 0), (2, .ptr 1 0 0), (3, .ptr 2 0 0), (4, .sl 3 0 0), (27, .sl 4 0 8), (28, .int .i64 8), (29, .int .i64 0)], mo66 x (l0, [])⟩ = some r ∧
      r.1 = .exit 0 ∧ lookA r.2.env 2 = .ptr 1 0 0 ∧ lookA r.2.env 3 = .ptr 2 0 0 ∧ r.2.mem = mo66 x (l0.zipIdx.foldl (mpOut x) (l0, [])) := by
  refine XL_each l0.zipIdx (mpOut x) (fun i st => ⟨[(1, .ptr 0 0 0), (2, .ptr 1 0 0), (3, .ptr 2 0 0), (4, .sl 3 0 st.2.length), (27, .sl 4 0 8), (28, .int .i64 8), (29, .int .i64 (i : Nat))], mo66 x st⟩) (fun i st => MoI l0 i st)
    (fun st r => r.1 = .exit 0 ∧ lookA r.2.env 2 = .ptr 1 0 0 ∧ lookA r.2.env 3 = .ptr 2 0 0 ∧ r.2.mem = mo66 x st) ?step ?last (l0, []) ⟨rfl, fun _ _ => rfl, by show (0 : Nat) ≤ _; omega⟩
  case step =>
    rintro i st ⟨p, ii⟩ he hi hI
    obtain ⟨hpi, hii⟩ := zip_at he
    simp only at hpi hii; subst hii
    have hpp := hp p (List.mem_of_getElem? hpi)
    refine ⟨?_, mpOut_inv hpp.1 hI⟩
    rw [List.length_zipIdx, hl] at hi
    obtain ⟨h1, h2, h3⟩ := hI
    obtain ⟨Q, had⟩ := st
    simp only at h1 h2 h3
    have i1 : (ii : Int) < 8 := by omega
    have hQ := (h2 ii (Nat.le_refl _)).trans hpi
    have g1 : (Q.map inoO).getD ii .undef = .agg [.int .i64 p.kind, .int .i64 p.links, .own 1 (p.ptrs.map iv)] := gD_map hQ
    have i2 : ii < Q.length := by omega
    have hw := w_i64 ((ii : Int) + 1) (by omega)
    unfold mo66
    unfold mpOut
    have sq : ∀ q : List Int, (Q.map inoO).set ii (.agg [.int .i64 p.kind, .int .i64 p.links, .own 1 (q.map iv)]) = (Q.set ii ⟨p.kind, p.links, q⟩).map inoO := fun q => set_map' (f := inoO) (x := (⟨p.kind, p.links, q⟩ : Ino))
    by_cases c0 : p.kind = 0
    · have s0 := sq p.ptrs
      rw [show (⟨p.kind, p.links, p.ptrs⟩ : Ino) = p from rfl, set_self hQ] at s0
      have tk : (p.ptrs.map iv).take p.ptrs.length = p.ptrs.map iv := List.take_of_length_le (by simp)
      rw [if_pos c0]
      have c0 : decide (p.kind = 0) = true := by simpa using c0
      simp only [cpBox, XG, L66_8, h66_8, go_sem, seval, bnd_ite, is_set, ite_self, Int.add_zero, gD_set, List.set_set, i1, i2, g1, hw, c0, s0, tk, Int.natCast_nonneg, if_true]
      first | done | rfl
    · rw [if_neg c0]
      have c0 : decide (p.kind = 0) = false := by simpa using c0
      obtain ⟨⟨y, e, m⟩, k1, kx, k2, k3, k4, k5, k6, k7, k8, km⟩ := in66b x hx Q ii p.kind p.links p.ptrs hpp.1 hpp.2 had (by omega)
      simp only at kx k2 k3 k4 k5 k6 k7 k8 km; subst kx; subst km
      have hf := (mpFold (x := x) (k := p.kind) (q0 := p.ptrs) (had := had)).len
      generalize hF : p.ptrs.zipIdx.foldl (mpStep x p.kind) (p.ptrs, had) = F at *
      obtain ⟨q, hd⟩ := F
      have hq2 : q.length = 2 := by rw [hpp.1] at hf; exact hf
      have tk : (q.map iv).take 2 = q.map iv := List.take_of_length_le (by rw [List.length_map]; simp only at hf; omega)
      unfold mp66 cpBox at k1
      simp only [hpp.1] at k1
      simp only [cpBox, XG, L66_8, h66_8, h66_13, go_sem, seval, bnd_ite, is_set, ite_self, Int.add_zero, gD_set, List.set_set, i1, i2, g1, hw, c0, hpp.1, hq2, k1, k2, k3, k4, k5, k6, k7, k8, tk, sq, Int.natCast_nonneg, Bool.false_eq_true, if_false]
      first | done | rfl
  case last =>
    intro st hI
    rw [List.length_zipIdx, hl]
    unfold mo66
    have j1 : ¬ ((8 : Nat) : Int) < 8 := by omega
    simp only [cpBox, XG, L66_8, h66_8, go_sem, seval, bnd_ite, j1, decide_false]
    exact .mk (by simp) ⟨rfl, rfl, rfl, rfl⟩
def mendIn (x : Dsk) : List Ino := if (x.inos.getD 0 ino0).kind = 2 then x.inos else x.inos.set 0 ⟨2, 1, [0, 0]⟩
def mendPtrs (x : Dsk) : Dsk := ⟨x.used, x.taken, ((mendIn x).zipIdx.foldl (mpOut x) (mendIn x, [])).1, x.blks⟩
theorem mendIn_len (x : Dsk) : (mendIn x).length = x.inos.length := by unfold mendIn; split <;> simp
theorem mendIn_ptrs {x : Dsk} (h : DskOk x) : ptrsOk (mendIn x) := by
  have base : ptrsOk x.inos := fun p hp => by
    have := inoOk_iff.1 (h.ino p hp)
    exact ⟨this.two, fun q hq => ⟨(this.ptr q hq).1, (this.ptr q hq).2.1⟩⟩
  unfold mendIn; split
  · exact base
  · intro p hp
    rcases List.mem_or_eq_of_mem_set hp with h1 | h1
    · exact base p h1
    · subst h1
      refine ⟨rfl, fun q hq => ?_⟩
      have : q = 0 := by simpa using hq
      omega
theorem mendFold_len (x : Dsk) (l : List Ino) : ∀ (st : List Ino × List Int) (m : List (Ino × Nat)), (m.foldl (mpOut x) st).1.length = st.1.length := by
  intro st m
  induction m generalizing st with
  | nil => rfl
  | cons e m ih => rw [List.foldl_cons, ih]; unfold mpOut; split <;> simp
set_option maxHeartbeats 1000000 in
theorem e66 (x : Dsk) (hk : x.ok) (h : x.sm) : E T 66 [dsk x] [] = some (dskO (if dskOk x then mendPtrs x else x), []) := by
  rw [E_eq t66 (Nat.le_of_ble_eq_true rfl)]
  have e1 := e159 x h
  have e2 := e155 x hk
  have t1 : (x.used.map bv).take x.used.length = x.used.map bv := List.take_of_length_le (by simp)
  have t2 : (x.taken.map bv).take x.taken.length = x.taken.map bv := List.take_of_length_le (by simp)
  have t3 : (x.inos.map inoO).take x.inos.length = x.inos.map inoO := List.take_of_length_le (by simp)
  have t4 : (x.blks.map blkO).take x.blks.length = x.blks.map blkO := List.take_of_length_le (by simp)
  unfold dsk dskO at e1
  unfold dsk at e2
  cases hd : dskOk x with
  | false =>
    simp only [dsk, F66, go_sem, seval, bnd_ite, e1, e2, hd, t1, t2, t3, t4, dskO, Bool.not_false, if_true, Bool.false_eq_true, if_false]
  | true =>
  rw [if_pos rfl]
  have hx := dskOk_iff.1 hd
  have n1 := hx.inos
  obtain ⟨⟨y, e, m⟩, k1, kx, k2, k3, km⟩ := in66a x hx (mendIn x) ((mendIn_len x).trans n1) (mendIn_ptrs hx)
  simp only at kx k2 k3 km; subst kx; subst km
  have hfl := mendFold_len x (mendIn x) (mendIn x, []) (mendIn x).zipIdx
  have hml := (mendIn_len x).trans n1
  unfold mendPtrs
  unfold mo66 cpBox at k1
  generalize hF : (mendIn x).zipIdx.foldl (mpOut x) (mendIn x, []) = F at *
  obtain ⟨Q, had⟩ := F
  have hQ : Q.length = 8 := hfl.trans hml
  have tq : (Q.map inoO).take 8 = Q.map inoO := List.take_of_length_le (by simp [hQ])
  obtain ⟨p, hp⟩ := get_at (show 0 < x.inos.length by omega)
  have gp : (x.inos.map inoO).getD 0 .undef = .agg [.int .i64 p.kind, .int .i64 p.links, .own 1 (p.ptrs.map iv)] := gD_map hp
  have g0 : x.inos.getD 0 ino0 = p := getD_at hp
  by_cases c : p.kind = 2
  · have hm : mendIn x = x.inos := by unfold mendIn; rw [g0, if_pos c]
    rw [hm] at k1
    simp only [List.map_nil] at k1
    have c : decide (p.kind = 2) = true := by simpa using c
    simp only [dsk, F66, cpBox, mo66, h66_8, go_sem, seval, bnd_ite, e1, e2, hd, n1, t1, t2, t3, t4, gp, c, k1, k2, k3, dskO, tq, hQ, Bool.not_true, Bool.false_eq_true, if_false, List.map_nil, List.length_nil]
    done
  · have hm : mendIn x = x.inos.set 0 ⟨2, 1, [0, 0]⟩ := by unfold mendIn; rw [g0, if_neg c]
    rw [hm] at k1
    simp only [List.map_nil] at k1
    have c : decide (p.kind = 2) = false := by simpa using c
    have e3 := e143k 2
    have sq : (x.inos.map inoO).set 0 (.agg [.int .i64 2, .int .i64 1, .own 1 [.int .i64 0, .int .i64 0]]) = (x.inos.set 0 ⟨2, 1, [0, 0]⟩).map inoO := set_map' (f := inoO) (x := (⟨2, 1, [0, 0]⟩ : Ino))
    simp only [dsk, F66, cpBox, mo66, h66_8, go_sem, seval, bnd_ite, e1, e2, e3, hd, n1, t1, t2, t3, t4, gp, c, sq, k1, k2, k3, dskO, tq, hQ, is_set, ite_self, gD_set, List.set_set, Bool.not_true, Bool.not_false, Bool.false_eq_true, if_false, if_true, List.map_nil, List.length_nil]
    done
end Go.Proofs.Ytaaajjinpppgeaa
