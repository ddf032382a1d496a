/- The last part of the texts of a claim, joined by a program of ours; at its end stands the row: the law returns true for every input, and leaves it as it was. No condition. -/
import Derived.Test.YtaaajjinpppgeaaP27ah
import GoSem.ClaimOpenFrom
import GoSem.ClaimJoined
import Derived.JoinedOf
import Derived.ProofKit
import Derived.KernelRfl
import Derived.Test.YtaaajjinpppgeaaRows
set_option linter.unusedVariables false
set_option linter.unusedSimpArgs false
set_option linter.unusedSectionVars false
namespace Go.Proofs.Ytaaajjinpppgeaa
open Go Go.Abs
set_option maxRecDepth 100000
theorem XL_go {T : FuncId → Option EF} {b : Nat} {hd : List Vw} {x : EC} {β : Type} (S : β → St) (I : β → Prop) (μ : β → Nat) (Q : AX × St → Prop)
    (h : ∀ a, I a → (∃ a', XG T b hd x (S a) = some (.normal, S a') ∧ I a' ∧ μ a' < μ a) ∨ Stops (XG T b hd x (S a)) Q) : ∀ a, I a → ∃ r, XL T b hd x (S a) = some r ∧ Q r := by
  have key : ∀ n a, μ a ≤ n → I a → ∃ r, XL T b hd x (S a) = some r ∧ Q r := by
    intro n
    induction n with
    | zero =>
      intro a hn ha
      rcases h a ha with ⟨a', _, _, h3⟩ | ⟨r, h1, h2, h3⟩
      · omega
      · exact ⟨r, XL_out h1 h2, h3⟩
    | succ n ih =>
      intro a hn ha
      rcases h a ha with ⟨a', h1, h2, h3⟩ | ⟨r, h1, h2, h3⟩
      · obtain ⟨r, k1, k2⟩ := ih a' (by omega) h2
        exact ⟨r, by rw [XL_eq, h1]; exact k1, k2⟩
      · exact ⟨r, XL_out h1 h2, h3⟩
  exact fun a => key (μ a) a (Nat.le_refl _)
theorem gtrP (a b : Nd) : binV .gtr (.str a.path) (.str b.path) = some (.bool (ltP b a)) := by
  rw [← gt_lt a b]; rfl
theorem sort_ins {A B : List Nd} {x : Nd} (hs : (A ++ B).Pairwise fun a b => leP a b = true) (hB : ∀ b ∈ B, leP x b = true) (hA : ∀ a ∈ A, leP a x = true) : (A ++ x :: B).Pairwise fun a b => leP a b = true := by
  rw [List.pairwise_append] at hs ⊢
  refine ⟨hs.1, List.pairwise_cons.2 ⟨hB, hs.2.1⟩, fun a ha b hb => ?_⟩
  rcases List.mem_cons.1 hb with rfl | hb
  · exact hA a ha
  · exact hs.2.2 a ha b hb
theorem in201 (x : Nd) (C : List Nd) (m : Nat) (i : Int) : ∀ (A B : List Nd), (A ++ B).Pairwise (fun a b => leP a b = true) → (∀ b ∈ B, leP x b = true) → (A ++ x :: B ++ C).length = m → m ≤ 1048576 →
    ∃ r, XL T 0 H201_6 L201_6 ⟨[(3, .sl 0 0 m), (4, .int .i64 i), (5, .int .i64 (A.length : Nat))], [some (4, (A ++ x :: B ++ C).map nd)]⟩ = some r ∧
      (r.1 = .exit 2 ∧ lookA r.2.env 3 = .sl 0 0 m ∧ lookA r.2.env 4 = .int .i64 i ∧ ∃ M, r.2.mem = [some (4, (M ++ C).map nd)] ∧ M.Perm (A ++ x :: B) ∧ M.Pairwise fun a b => leP a b = true) := by
  intro A0 B0 h1 h2 h3 h4
  refine XL_go (T := T) (b := 0) (hd := H201_6) (x := L201_6) (fun a : List Nd × List Nd => ⟨[(3, .sl 0 0 m), (4, .int .i64 i), (5, .int .i64 (a.1.length : Nat))], [some (4, (a.1 ++ x :: a.2 ++ C).map nd)]⟩)
    (fun a => (a.1 ++ a.2).Pairwise (fun a b => leP a b = true) ∧ (∀ b ∈ a.2, leP x b = true) ∧ (a.1 ++ x :: a.2 ++ C).length = m ∧ (a.1 ++ x :: a.2).Perm (A0 ++ x :: B0)) (fun a => a.1.length)
    (fun r => r.1 = .exit 2 ∧ lookA r.2.env 3 = .sl 0 0 m ∧ lookA r.2.env 4 = .int .i64 i ∧ ∃ M, r.2.mem = [some (4, (M ++ C).map nd)] ∧ M.Perm (A0 ++ x :: B0) ∧ M.Pairwise fun a b => leP a b = true) ?_ (A0, B0) ⟨h1, h2, h3, .refl _⟩
  rintro ⟨A, B⟩ ⟨i1, i2, i3, i4⟩
  simp only at i1 i2 i3 i4
  rcases List.eq_nil_or_concat A with rfl | ⟨A', a, rfl⟩
  · right
    have tk : ((([] : List Nd) ++ x :: B ++ C).map nd).take m = (([] : List Nd) ++ x :: B ++ C).map nd := tkN i3
    have c0 : (([] : List Nd).length : Int) = 0 := rfl
    simp only [c0]
    generalize hM : ([] : List Nd) ++ x :: B ++ C = M at *
    simp only [XG, L201_6, h201_6, go_sem, seval, bnd_ite, Int.lt_irrefl, decide_false, tk, Bool.false_eq_true, if_false]
    first | exact .mk (by simp) ⟨rfl, rfl, rfl, x :: B, by rw [← hM]; rfl, i4, sort_ins (A := []) i1 i2 (fun a h => by cases h)⟩ | trace_state
  · have ha : (A'.concat a) = A' ++ [a] := List.concat_eq_append
    rw [ha] at i1 i3 i4 ⊢
    have hlen : (A' ++ [a]).length = A'.length + 1 := by simp
    have e0 : A' ++ [a] ++ x :: B ++ C = A' ++ a :: x :: (B ++ C) := by simp
    have kp : (0 : Int) < ((A'.length + 1 : Nat) : Int) := by omega
    have wk : IntKind.i64.wrap (((A'.length + 1 : Nat) : Int) - 1) = (A'.length : Nat) := by
      have : A'.length + 1 ≤ m := by rw [← i3]; simp only [List.length_append, List.length_cons]; omega
      have h9 : (((A'.length + 1 : Nat) : Int) - 1) = (A'.length : Nat) := by omega
      rw [h9, w_i64 _ (by omega)]
    simp only [hlen]
    rw [e0] at i3 ⊢
    have hm1 : A'.length + 1 < m := by rw [← i3]; simp
    have hm2 : ((A'.length + 1 : Nat) : Int) < (m : Int) := by omega
    have hm3 : (A'.length : Int) < (m : Int) := by omega
    have hm4 : A'.length < m := by omega
    have g1 : (A' ++ a :: x :: (B ++ C))[A'.length]? = some a := by simp
    have g2 : (A' ++ a :: x :: (B ++ C))[A'.length + 1]? = some x := by simp
    have s1 : ((A' ++ a :: x :: (B ++ C)).set (A'.length + 1) a).set A'.length x = A' ++ x :: a :: (B ++ C) := by simp
    have s0 : (A' ++ a :: x :: (B ++ C)).length = m := i3
    have e1 : A' ++ x :: (a :: B) ++ C = A' ++ x :: a :: (B ++ C) := by simp
    have hg := gtrP a x
    have agg : ∀ y : Nd, nd y = .agg [.str y.path, .bool y.dir, .str y.head, .str y.tail] := fun y => rfl
    have hset : ∀ (M : List Nd) (k : Nat) (y : Nd), (M.map nd).set k (.agg [.str y.path, .bool y.dir, .str y.head, .str y.tail]) = (M.set k y).map nd := fun M k y => by rw [← agg y]; exact set_map (f := nd)
    have gx0 : ((A' ++ a :: x :: (B ++ C)).map nd).getD A'.length .undef = .agg [.str a.path, .bool a.dir, .str a.head, .str a.tail] := gD_map g1
    have gx1 : ((A' ++ a :: x :: (B ++ C)).map nd).getD (A'.length + 1) .undef = .agg [.str x.path, .bool x.dir, .str x.head, .str x.tail] := gD_map g2
    have g3 : (((A' ++ a :: x :: (B ++ C)).set (A'.length + 1) a).map nd).getD A'.length .undef = .agg [.str a.path, .bool a.dir, .str a.head, .str a.tail] := gD_map (by rw [List.getElem?_set_ne (by omega)]; exact g1)
    have tk0 : ((A' ++ a :: x :: (B ++ C)).map nd).take m = (A' ++ a :: x :: (B ++ C)).map nd := tkN s0
    have sl : ((A' ++ a :: x :: (B ++ C)).set (A'.length + 1) a).length = m := by rw [List.length_set]; exact s0
    have tk1 : ((A' ++ x :: a :: (B ++ C)).map nd).take m = (A' ++ x :: a :: (B ++ C)).map nd := tkN (by rw [← s1, List.length_set, List.length_set]; exact s0)
    have sl2 : (A' ++ x :: a :: (B ++ C)).length = m := by rw [← s1, List.length_set, List.length_set]; exact s0
    generalize hM0 : A' ++ a :: x :: (B ++ C) = M0 at *
    generalize hM1 : A' ++ x :: a :: (B ++ C) = M1 at *
    generalize hM2 : M0.set (A'.length + 1) a = M2 at *
    cases hlt : ltP x a with
    | true =>
      rw [hlt] at hg
      left
      refine ⟨(A', a :: B), ?_, ⟨by simpa using i1, fun b hb => ?_, by simp only [e1]; exact sl2, ?_⟩, by simp⟩
      · simp only [e1]
        simp only [XG, L201_6, h201_6, go_sem, seval, bnd_ite, kp, wk, hg, gx0, gx1, g3, hset, hm1, hm2, hm3, hm4, hM2, s0, s1, sl, sl2, tk0, tk1, decide_true, Bool.not_true, Bool.false_eq_true, if_false, if_true, Int.natCast_nonneg, Int.toNat_natCast, List.length_map]
        first | done | rfl | trace_state
      · rcases List.mem_cons.1 hb with rfl | hb
        · exact leP_iff.2 (ltP_asym hlt)
        · exact i2 b hb
      · refine .trans ?_ i4
        simp only [List.append_assoc, List.singleton_append]
        exact List.Perm.append_left _ (List.Perm.swap _ _ _)
    | false =>
      rw [hlt] at hg
      right
      simp only [XG, L201_6, h201_6, go_sem, seval, bnd_ite, kp, wk, hg, gx0, gx1, hm1, hm2, hm3, hm4, s0, tk0, decide_true, Bool.not_false, Bool.false_eq_true, if_false, if_true, Int.natCast_nonneg, Int.toNat_natCast, List.length_map]
      first | exact .mk (by simp) ⟨rfl, rfl, rfl, A' ++ [a] ++ x :: B, by rw [← hM0]; simp, i4, sort_ins i1 i2 (fun b hb => by
        rw [List.pairwise_append] at i1
        have h5 : leP a x = true := leP_iff.2 hlt
        rcases List.mem_append.1 hb with hb | hb
        · exact leP_trans ((List.pairwise_append.1 i1.1).2.2 b hb a (List.mem_singleton.2 rfl)) h5
        · rw [List.mem_singleton.1 hb]; exact h5)⟩ | trace_state
theorem nd_mi1 (g : Bool → Nat → Nat → Nat → AV) (a : Nd) : mapId g (nd a) = nd a := by
  have := nd_mi g [a]
  simpa [mapIdL] using this
theorem nd_is1 (u : Bool → Nat → Nat → Nat → List Nat) (a : Nd) : idsV u (nd a) = [] := by
  have := nd_is u [a]
  simpa [idsL] using this
theorem nd_okC1 (lv : Live) (a : Nd) : ((nd a).cells.all (okC lv)) = true := rfl
theorem e201 (l : List Nd) (hl : l.length ≤ 1048576) : ∃ M : List Nd, E T 201 [.ro 4 (l.map nd)] [] = some (.own 4 (M.map nd), []) ∧ M.Perm l ∧ M.Pairwise fun a b => leP a b = true := by
  rw [E_eqW t201 (Nat.le_of_ble_eq_true rfl)]
  have hap : l.length * 56 ≤ 140737488355328 := by omega
  have hm : ∀ {M : List Nd}, M.Perm l → M.length = l.length := fun h => h.length_eq
  obtain ⟨⟨y, e, m⟩, k1, k0, k2, k3, M, k4, k5, k6⟩ := XL_inv (T := T) (b := 0) (hd := H201_3) (x := L201_3) (β := List Nd) (fun i M => ⟨[(3, .sl 0 0 l.length), (4, .int .i64 ((i : Nat) + 1))], [some (4, M.map nd)]⟩)
    (fun i M => M.Perm l ∧ (M.take (i + 1)).Pairwise fun a b => leP a b = true) (l.length - 1) (fun r => r.1 = .exit 0 ∧ lookA r.2.env 3 = .sl 0 0 l.length ∧ ∃ M : List Nd, r.2.mem = [some (4, M.map nd)] ∧ M.Perm l ∧ M.Pairwise fun a b => leP a b = true)
    (by
      intro i M hi ⟨h1, h2⟩
      left
      have hM := hm h1
      have i1 : (i : Int) + 1 < (l.length : Int) := by omega
      obtain ⟨x, hx⟩ := get_at (show i + 1 < M.length by omega)
      have hsp : M = M.take (i + 1) ++ x :: ([] : List Nd) ++ M.drop (i + 2) := by
        obtain ⟨hlt, hx2⟩ := List.getElem?_eq_some_iff.1 hx
        have h5 := List.take_append_drop (i + 1) M
        rw [List.drop_eq_getElem_cons hlt, hx2] at h5
        rw [List.append_assoc]
        exact h5.symm
      have hln : (M.take (i + 1)).length = i + 1 := by rw [List.length_take]; omega
      obtain ⟨⟨y, e, m⟩, r1, r2, r3, r4, N, r5, r6, r7⟩ := in201 x (M.drop (i + 2)) l.length ((i : Int) + 1) (M.take (i + 1)) [] (by simpa using h2) (fun b h => by cases h) (by rw [← hsp]; exact hM) hl
      simp only at r2 r3 r4 r5
      subst r2 r5
      rw [hln, ← hsp] at r1
      have hc : ((i + 1 : Nat) : Int) = (i : Int) + 1 := by omega
      rw [hc] at r1
      have hNp : (N ++ M.drop (i + 2)).Perm l := by
        refine .trans ?_ h1
        refine .trans (List.Perm.append_right _ r6) ?_
        rw [← hsp]
      have hNl : N.length = i + 2 := by rw [r6.length_eq]; simp; omega
      have hw := w_i64 ((i : Int) + 1 + 1) (by omega)
      refine ⟨N ++ M.drop (i + 2), ?_, hNp, ?_⟩
      · have hNM := hm hNp
        generalize N ++ M.drop (i + 2) = K at *
        have tk0 : (M.map nd).take l.length = M.map nd := tkN hM
        have tk1 : (K.map nd).take l.length = K.map nd := tkN hNM
        rw [hc]
        simp only [XG, L201_3, h201_3, h201_6, go_sem, seval, bnd_ite, i1, hM, hNM, r1, r3, r4, hw, tk0, tk1, decide_true, Bool.not_true, Bool.false_eq_true, if_false, if_true, Int.natCast_nonneg, List.length_map]
        first | done | rfl | trace_state
      · rw [List.take_append_of_le_length (by omega), List.take_of_length_le (by omega)]
        exact r7)
    (by
      intro M ⟨h1, h2⟩
      have hM := hm h1
      have c1 : ¬ (((l.length - 1 : Nat) : Int) + 1 < (l.length : Int)) := by omega
      have tk0 : (M.map nd).take l.length = M.map nd := tkN hM
      simp only [XG, L201_3, h201_3, go_sem, seval, bnd_ite, c1, hM, tk0, decide_false, List.length_map]
      first | exact .mk (by simp) ⟨rfl, rfl, M, rfl, h1, by rwa [List.take_of_length_le (by omega)] at h2⟩ | trace_state) 0 l (Nat.zero_le _) ⟨.refl _, by
        match l with
        | [] => exact .nil
        | [a] => exact List.pairwise_singleton ..
        | a :: b :: l => exact List.pairwise_singleton ..⟩
  simp only at k2 k3 k4
  subst k2 k4
  refine ⟨M, ?_, k5, k6⟩
  have hM := hm k5
  have c0 : ((0 : Nat) : Int) + 1 = 1 := rfl
  simp only [c0] at k1
  have tk0 : (l.map nd).take l.length = l.map nd := tkO
  have tk1 : (M.map nd).take l.length = M.map nd := tkN hM
  have wnd : (M.map nd).map (wid .one) = M.map nd := by rw [List.map_map]; exact List.map_congr_left fun x _ => rfl
  cases l with
  | nil =>
    have hM0 : M = [] := List.eq_nil_of_length_eq_zero hM
    subst hM0
    simp only [List.map_nil, List.length_nil] at k1 k3 ⊢
    simp only [F201, h201_3, go_sem, seval, bnd_ite, k1, k3, wnd, List.map_nil, List.length_nil]
    first | done | rfl | trace_state
  | cons a l =>
    have hML : l.length + 1 ≤ M.length := by rw [hM]; exact Nat.le_refl _
    simp only [List.map_cons, List.length_cons] at k1 k3 hap tk1
    simp only [F201, h201_3, go_sem, seval, bnd_ite, hap, nd_okC, nd_okC1, nd_mi1, nd_is1, k1, k3, tk1, hML, wnd, List.map_cons, List.length_cons]
    first | done | rfl | trace_state
end Go.Proofs.Ytaaajjinpppgeaa
namespace Go.Proofs.Ytaaajjinpppgeaa
open Go Go.Abs
set_option maxRecDepth 100000
noncomputable def mkNd (k : Int) (_ : Nd) : Nd := ⟨mtext k, mb (k + 1), mtext (k + 1 + 1), mtext (k + 1 + 1 + 1)⟩
theorem nd_cost (l : List Nd) : costL (fun _ => 4) l = 4 * l.length := by
  induction l with
  | nil => rfl
  | cons x l ih => unfold costL; rw [ih, List.length_cons]; omega
theorem e112 (l : List Nd) (k : Int) (h0 : 0 ≤ k) (hk : k ≤ 1152921504606846976) (hl : l.length ≤ 1048576) :
    E T 112 [.sl 0 0 l.length, .int .i64 k] [some (4, l.map nd)] = some (.int .i64 (k + costL (fun _ => 4) l), [some (4, (mkL mkNd (fun _ => 4) k l).map nd)]) := by
  rw [E_eq t112 (Nat.le_of_ble_eq_true rfl)]
  simp only [F112, h112_2, go_sem, seval, bnd_ite]
  have hc : ∀ i, costL (fun _ => 4) (l.take i) ≤ 4194304 := fun i => by
    rw [nd_cost]
    have h2 : (l.take i).length ≤ l.length := by simp; omega
    omega
  refine (XL_inv (T := T) (b := 1) (hd := H112_2) (x := L112_2) (β := Unit) (fun i _ => ⟨[(0, .sl 0 0 l.length), (1, .int .i64 (k + (costL (fun _ => 4) (l.take i) : Nat))), (5, .int .i64 (i : Nat))], [some (4, (mkP mkNd (fun _ => 4) k l i).map nd)]⟩)
    (fun i _ => True) l.length (fun r => r.1 = .exit 0 ∧ r.2.mem = [some (4, (mkL mkNd (fun _ => 4) k l).map nd)] ∧ lookA r.2.env 1 = .int .i64 (k + (costL (fun _ => 4) l : Nat))) ?step ?last 0 () (by omega) trivial).elim ?main
  case step =>
    intro i _ hi _
    obtain ⟨p, hp⟩ := get_at hi
    have hi1 : (i : Int) < (l.length : Int) := by omega
    have hci := hc i
    left
    refine ⟨(), ?_, trivial⟩
    have ms := mkP_set (st := mkNd) (cost := fun _ => 4) (k := k) hp
    have cs := costL_succ (cost := fun _ : Nd => 4) hp
    have gx : ((mkP mkNd (fun _ => 4) k l i).map nd).getD i .undef = nd p := gD_map (mkP_get hp)
    generalize hR : mkP mkNd (fun _ => 4) k l i = R at *
    have hml : R.length = l.length := by rw [← hR]; exact mkP_len
    have hmi : i < (R.map nd).length := by rw [List.length_map, hml]; exact hi
    have e1 := e207 (k + (costL (fun _ => 4) (l.take i) : Nat)) (by omega) (by omega)
    have e3 := e207 (k + (costL (fun _ => 4) (l.take i) : Nat) + 1 + 1) (by omega) (by omega)
    have e4 := e207 (k + (costL (fun _ => 4) (l.take i) : Nat) + 1 + 1 + 1) (by omega) (by omega)
    generalize hK : k + (costL (fun _ => 4) (l.take i) : Int) = K at *
    have sm : (R.map nd).set i (.agg [.str (mtext K), .bool (decide ((K + 1).tmod 3 = 0)), .str (mtext (K + 1 + 1)), .str (mtext (K + 1 + 1 + 1))]) = (mkP mkNd (fun _ => 4) k l (i + 1)).map nd := by rw [← ms]; exact set_map (f := nd) (x := mkNd K p)
    have e2 : k + ((costL (fun _ => 4) (l.take (i + 1)) : Nat) : Int) = K + 1 + 1 + 1 + 1 := by rw [cs]; omega
    simp only [XG, L112_2, h112_2, go_sem, seval, bnd_ite, hi1, hml, hi, gx, sm, nd, e1, e3, e4, getD_set hmi, List.set_set, Int.natCast_nonneg, w_i64 ((i : Int) + 1) (by omega), w_i64 (K + 1) (by omega), w_i64 (K + 1 + 1) (by omega), w_i64 (K + 1 + 1 + 1) (by omega), w_i64 (K + 1 + 1 + 1 + 1) (by omega)]
    rw [e2]; rfl
  case last =>
    intro _ _
    have hml : (mkP mkNd (fun _ => 4) k l l.length).length = l.length := mkP_len
    simp only [XG, L112_2, h112_2, go_sem, seval, bnd_ite, hml, Int.lt_irrefl, decide_false]
    exact .mk (by simp) ⟨rfl, by rw [mkP_all], rfl⟩
  case main =>
  rintro ⟨x, e, m⟩ ⟨h1, h2, h3, h4, h5⟩
  have hs : ((0 : Nat) : Int) = 0 := rfl
  simp only [mkP_0, List.take_zero, costL, hs, Int.add_zero] at h1
  simp only at h3 h4 h5; subst h3; subst h4
  simp only [h1, go_sem, seval, h5]
theorem e113 (l : List Nd) (k : Int) (h0 : 0 ≤ k) (hk : k ≤ 1152921504606846976) (hl : l.length ≤ 1048576) :
    E T 113 [.ro 4 ((mkL mkNd (fun _ => 4) k l).map nd), .int .i64 k] [] = some (.int .i64 (k + costL (fun _ => 4) l), []) := by
  rw [E_eq t113 (Nat.le_of_ble_eq_true rfl)]
  simp only [F113, h113_2, go_sem, seval, bnd_ite]
  have hc : ∀ i, costL (fun _ => 4) (l.take i) ≤ 4194304 := fun i => by
    rw [nd_cost]
    have h2 : (l.take i).length ≤ l.length := by simp; omega
    omega
  generalize hL : mkL mkNd (fun _ => 4) k l = L
  have hln : L.length = l.length := by rw [← hL]; exact mkL_len
  refine (XL_inv (T := T) (b := 0) (hd := H113_2) (x := L113_2) (β := Unit) (fun i _ => ⟨[(0, .ro 4 (L.map nd)), (1, .int .i64 (k + (costL (fun _ => 4) (l.take i) : Nat))), (5, .int .i64 (i : Nat))], []⟩)
    (fun i _ => True) l.length (fun r => r.1 = .exit 0 ∧ lookA r.2.env 1 = .int .i64 (k + (costL (fun _ => 4) l : Nat))) ?step ?last 0 () (by omega) trivial).elim ?main
  case step =>
    intro i _ hi _
    obtain ⟨p, hp⟩ := get_at hi
    have hi1 : (i : Int) < (l.length : Int) := by omega
    have hci := hc i
    left
    refine ⟨(), ?_, trivial⟩
    have cs := costL_succ (cost := fun _ : Nd => 4) hp
    have hat : L[i]? = some (mkNd (k + costL (fun _ => 4) (l.take i)) p) := by rw [← hL]; exact mkL_at hp
    have e1 := e207 (k + (costL (fun _ => 4) (l.take i) : Nat)) (by omega) (by omega)
    have e3 := e207 (k + (costL (fun _ => 4) (l.take i) : Nat) + 1 + 1) (by omega) (by omega)
    have e4 := e207 (k + (costL (fun _ => 4) (l.take i) : Nat) + 1 + 1 + 1) (by omega) (by omega)
    generalize hK : k + (costL (fun _ => 4) (l.take i) : Int) = K at *
    have gx : (L.map nd).getD i .undef = .agg [.str (mtext K), .bool (decide ((K + 1).tmod 3 = 0)), .str (mtext (K + 1 + 1)), .str (mtext (K + 1 + 1 + 1))] := gD_map hat
    have e2 : k + ((costL (fun _ => 4) (l.take (i + 1)) : Nat) : Int) = K + 1 + 1 + 1 + 1 := by rw [cs]; omega
    simp only [XG, L113_2, h113_2, go_sem, seval, bnd_ite, hi1, hln, hi, gx, e1, e3, e4, beq_self_eq_true, decide_true, Bool.not_true, Bool.false_eq_true, if_false, Int.natCast_nonneg, w_i64 ((i : Int) + 1) (by omega), w_i64 (K + 1) (by omega), w_i64 (K + 1 + 1) (by omega), w_i64 (K + 1 + 1 + 1) (by omega), w_i64 (K + 1 + 1 + 1 + 1) (by omega)]
    rw [e2]; rfl
  case last =>
    intro _ _
    simp only [XG, L113_2, h113_2, go_sem, seval, bnd_ite, hln, Int.lt_irrefl, decide_false]
    exact .mk (by simp) ⟨rfl, rfl⟩
  case main =>
  rintro ⟨x, e, m⟩ ⟨h1, h2, h3, h4⟩
  have hs : ((0 : Nat) : Int) = 0 := rfl
  simp only [List.take_zero, costL, hs, Int.add_zero] at h1
  simp only at h3 h4; subst h3
  simp only [h1, go_sem, seval, h4]
end Go.Proofs.Ytaaajjinpppgeaa
namespace Go.Proofs.Ytaaajjinpppgeaa
open Go Go.Abs
set_option maxRecDepth 100000
def treeR (x : Dsk) : List Nd := if dskOk x = true then sortNd (treeB x 4 1 ⟨#[]⟩) else []
theorem tree_le {x : Dsk} (h : DskOk x) : (treeB x 4 1 ⟨#[]⟩).length ≤ 4680 := Nat.le_trans (tree_len h 4 1 _) (by decide)
theorem treeR_len (x : Dsk) : (treeR x).length ≤ 4680 := by
  unfold treeR
  split
  · rename_i h; rw [sortNd_len]; exact tree_le (dskOk_iff.1 h)
  · simp
theorem sort_eq {x : Dsk} (h : DskOk x) {M : List Nd} (hp : M.Perm (treeB x 4 1 ⟨#[]⟩)) (hs : M.Pairwise fun a b => leP a b = true) : M = sortNd (treeB x 4 1 ⟨#[]⟩) :=
  sorted_one (hp.trans (sortNd_perm _).symm) hs (sortNd_sorted _) (hp.symm.pairwise (tree_apart h 4 1 _) (fun h => h.symm))
theorem e110 (x : Dsk) (h : x.sm) (hk : x.ok) : E T 110 [dsk x] [] = some (.own 4 ((treeR x).map nd), []) := by
  rw [E_eqW t110 (Nat.le_of_ble_eq_true rfl)]
  have e1 := e153 x hk
  unfold treeR
  cases hd : dskOk x with
  | false =>
    rw [hd] at e1
    unfold dsk at e1 ⊢
    simp only [F110, go_sem, seval, bnd_ite, e1, Bool.not_false, Bool.true_or, if_true, Bool.false_eq_true, if_false, List.map_nil]
    first | done | rfl | trace_state
  | true =>
    rw [hd] at e1
    have hx := dskOk_iff.1 hd
    have hi8 := hx.inos
    have hin : inside 1 1 x.inos.length = true := by simp [inside]; omega
    have i0 : (0 : Int) < (x.inos.length : Int) := by omega
    have i0' : 0 < x.inos.length := by omega
    have g0 : (x.inos.map ino).getD 0 .undef = .agg [.int .i64 (inoOf x 1).kind, .int .i64 (inoOf x 1).links, .ro 1 ((inoOf x 1).ptrs.map iv)] := gD_map (inoOf_mem hin)
    rw [if_pos rfl]
    by_cases hk2 : (inoOf x 1).kind = 2
    · have e2 := walk_all x h hx 4 (Nat.le_refl _) 1 ⟨#[]⟩ hin hk2 (by decide)
      rw [show (4 : Int) - ((4 : Nat) : Int) = 0 from rfl] at e2
      obtain ⟨M, e3, m1, m2⟩ := e201 (treeB x 4 1 ⟨#[]⟩) (Nat.le_trans (tree_le hx) (by decide))
      have hM := sort_eq hx m1 m2
      rw [← hM]
      generalize treeB x 4 1 ⟨#[]⟩ = B at *
      have tkB : (B.map nd).take B.length = B.map nd := tkO
      have tkM : (M.map nd).take M.length = M.map nd := tkO
      have wnd : (M.map nd).map (wid .one) = M.map nd := by rw [List.map_map]; exact List.map_congr_left fun x _ => rfl
      unfold dsk at e1 e2 ⊢
      simp only [F110, go_sem, seval, bnd_ite, e1, e2, e3, i0, i0', g0, hk2, tkB, tkM, wnd, decide_true, Bool.not_true, Bool.or_self, Bool.false_eq_true, if_false, if_true]
      first | done | rfl | trace_state
    · have ht : treeB x 4 1 ⟨#[]⟩ = [] := tree_file x 4 1 _ hk2
      have hs : sortNd [] = [] := List.eq_nil_of_length_eq_zero (sortNd_len [])
      rw [ht, hs]
      unfold dsk at e1 ⊢
      simp only [F110, go_sem, seval, bnd_ite, e1, i0, i0', g0, hk2, decide_true, decide_false, Bool.not_true, Bool.not_false, Bool.or_true, Bool.false_or, Bool.false_eq_true, if_false, if_true, List.map_nil]
      first | done | rfl | trace_state
theorem e204 (l : List Nd) (hl : l.length ≤ 1048576) (ha : apart l) : E T 204 [.sl 0 0 l.length, .fn 205 []] [some (4, l.map nd)] = some (.tup [], [some (4, (sortNd l).map nd)]) := by
  rw [E_orc (T := T) (f := 204) (F := ⟨.ret, [], 0, .one, some sortT⟩) (g := sortT) t204 rfl]
  unfold sortT
  simp only [ndsOf_map]
  rw [if_pos ⟨trivial, by omega, ha⟩]
theorem e111 (x : Dsk) (h : x.sm) (hk : x.ok) : E T 111 [dsk x] [] = some (.own 4 ((treeR x).map nd), []) := by
  rw [E_eqW t111 (Nat.le_of_ble_eq_true rfl)]
  have e1 := e155 x hk
  unfold treeR
  cases hd : dskOk x with
  | false =>
    rw [hd] at e1
    unfold dsk at e1 ⊢
    simp only [F111, go_sem, seval, bnd_ite, e1, Bool.not_false, if_true, Bool.false_eq_true, if_false, List.map_nil]
    first | done | rfl | trace_state
  | true =>
    rw [hd] at e1
    have hx := dskOk_iff.1 hd
    rw [if_pos rfl]
    have e2 := below_all x h hx 4 (Nat.le_refl _) 1 ⟨#[]⟩ (by decide)
    have c4 : ((4 : Nat) : Int) = 4 := rfl
    rw [c4] at e2
    have hle := tree_le hx
    have e3 := e204 (treeB x 4 1 ⟨#[]⟩) (by omega) (tree_apart hx 4 1 _)
    have hsl := sortNd_len (treeB x 4 1 ⟨#[]⟩)
    generalize sortNd (treeB x 4 1 ⟨#[]⟩) = M at *
    generalize treeB x 4 1 ⟨#[]⟩ = B at *
    have tkB : (B.map nd).take B.length = B.map nd := tkO
    have tkM : (M.map nd).take B.length = M.map nd := tkN hsl
    have wnd : (M.map nd).map (wid .one) = M.map nd := by rw [List.map_map]; exact List.map_congr_left fun x _ => rfl
    unfold dsk at e1 e2 ⊢
    simp only [F111, go_sem, seval, bnd_ite, e1, e2, e3, tkB, tkM, hsl, wnd, decide_true, Bool.not_true, Bool.false_eq_true, if_false, if_true]
    first | done | rfl | trace_state
end Go.Proofs.Ytaaajjinpppgeaa
namespace Go.Proofs.Ytaaajjinpppgeaa
open Go Go.Abs
set_option maxRecDepth 100000
set_option maxHeartbeats 2000000 in
theorem e27 (x : Dsk) (h : x.ok) : E T 27 [dsk x] [] = some (.bool true, []) := by
  rw [E_eq t27 (Nat.le_of_ble_eq_true rfl)]
  obtain ⟨r, h1, h2, h3, h4⟩ := e38 x 1048576 (by omega) (by omega) h
  have c40 := fun h => e40 x h
  have c42 := e42 x x h
  have c110 := fun hs => e110 x hs h
  have c111 := fun hs => e111 x hs h
  have c63x := fun h => e63 x 1 (by omega) (by omega) h
  have cl := treeR_len x
  generalize treeR x = R at *
  have c37 := fun k => e37 R R k
  have c112 := fun k => e112 R 1 (by omega) (by omega) k
  have c113 := fun k => e113 R 1 (by omega) (by omega) k
  simp only [dsk, dskO, dskR, mkDsk, List.cons_append, List.nil_append] at h1 c40 c42 c110 c111 c63x ⊢
  simp only [F27, go_sem, seval, bnd_ite, h1]
  by_cases c1 : r < 0
  · rw [if_pos c1]
  rw [if_neg c1]
  have hm := h4 (by omega)
  have hR : R.length ≤ 1048576 := by omega
  have hk : R.length ≤ maxLen := by unfold maxLen; omega
  have hcost := nd_cost R
  generalize hM : mkL mkNd (fun _ => 4) 1 R = M at *
  have hml : M.length = R.length := by rw [← hM]; exact mkL_len
  have htk : (List.map nd M).take R.length = List.map nd M := List.take_of_length_le (by simp [hml])
  have htr : (List.map nd R).take R.length = List.map nd R := List.take_of_length_le (by simp)
  have n1 : ¬ (1 + (coDsk x : Int)) < 0 := by omega
  have n2 : ¬ (1 + (costL (fun _ : Nd => 4) R : Int)) < 0 := by omega
  simp only [go_sem, seval, bnd_ite, c40 hm, c42, c110 hm, c111 hm, c37 hk, c63x hm, c112 hR, c113 hR, mkB_len, mkL_len, hml, htk, htr, n1, n2, decide_true, decide_false, Bool.not_true, Bool.false_eq_true, if_false]
  first | done | rfl | trace_state
end Go.Proofs.Ytaaajjinpppgeaa
namespace Go.Proofs.Ytaaajjinpppgeaa
open Go Go.Abs
def shFnExactTreeOf : List Shp := [shD]
theorem isFnExactTreeOf {avs : List AV} (h : IsAs shFnExactTreeOf avs) : E T 27 avs [] = some (.bool true, []) := by
  cases h with | cons h1 h =>
  cases h
  obtain ⟨x1, rfl, hx1⟩ := isD h1
  exact e27 x1 hx1
end Go.Proofs.Ytaaajjinpppgeaa
namespace Go.Abs
open Go
def wAcc : List Char → List Char → List (List Char) → List (List Char)
  | [], cur, acc => (cur.reverse :: acc).reverse
  | c :: r, cur, acc => if c.toNat = 32 then wAcc r [] (cur.reverse :: acc) else wAcc r (c :: cur) acc
def joinW (cur : List Char) : List (List Char) → List (List Char)
  | w :: ws => (cur ++ w) :: ws
  | [] => [cur]
theorem ws_c (c : Char) (r : List Char) : wordsSigns (c :: r) = if c.toNat = 32 then [] :: wordsSigns r else joinW [c] (wordsSigns r) := by
  by_cases h : c.toNat = 32
  · rw [if_pos h]
    have : c = Char.ofNat 32 := by
      apply Char.ext
      apply UInt32.toNat_inj.1
      exact h
    subst this; rfl
  · rw [if_neg h]
    rw [wordsSigns.eq_3 _ _ (fun e => h (by rw [e]; rfl))]
    cases wordsSigns r <;> rfl
theorem ws_ne (l : List Char) : wordsSigns l ≠ [] := by
  cases l with
  | nil => simp [wordsSigns]
  | cons c r =>
    rw [ws_c]
    split
    · simp
    · cases wordsSigns r <;> simp [joinW]
theorem wAcc_eq : ∀ (l cur : List Char) (acc : List (List Char)), wAcc l cur acc = acc.reverse ++ joinW cur.reverse (wordsSigns l) := by
  intro l
  induction l with
  | nil => intro cur acc; simp [wAcc, wordsSigns, joinW]
  | cons c r ih =>
    intro cur acc
    simp only [wAcc]
    rw [ws_c]
    by_cases h : c.toNat = 32
    · rw [if_pos h, if_pos h, ih]
      cases hr : wordsSigns r with
      | nil => exact absurd hr (ws_ne r)
      | cons w ws => simp [joinW]
    · rw [if_neg h, if_neg h, ih]
      cases wordsSigns r <;> simp [joinW]
theorem words_eq (l : List Char) : wordsSigns l = wAcc l [] [] := by
  rw [wAcc_eq]
  have := ws_ne l
  cases h : wordsSigns l with
  | nil => exact absurd h this
  | cons w ws => simp [joinW]
theorem strip_cut (r : List (List Char)) : stripLifts liftWords ("cut".toList :: r) = ([], "cut".toList :: r) := by kernel_rfl
theorem lifts_of {P : Program} {r : List (List Char)} (h : behindMainWord (wordsSigns P.initOrder.toList) = "cut".toList :: r) : P.headLifts = [] := by
  unfold Program.headLifts
  rw [h, strip_cut]; kernel_rfl
theorem liftsFinal_of {P : Program} {r : List (List Char)} (h : behindMainWord (wordsSigns P.initOrder.toList) = "cut".toList :: r) : P.liftsFinal = false := by
  unfold Program.liftsFinal
  rw [h, lifts_of h]; kernel_rfl
theorem make_of {P : Program} {r : List (List Char)} (h : behindMainWord (wordsSigns P.initOrder.toList) = "cut".toList :: r) : P.make = some .cut := by
  unfold Program.make
  rw [h]; kernel_rfl
theorem mayEnter_of {P : Program} {r : List (List Char)} (h : behindMainWord (wordsSigns P.initOrder.toList) = "cut".toList :: r) (h1 : P.laysLater = false) (h2 : P.bearsReflect = false) (h3 : P.doorFits [] = true) : P.mayEnter = true := by
  unfold Program.mayEnter
  rw [h]
  simp only [strip_cut, h1, h2, h3]
  kernel_rfl
open Go.RowKit in
theorem facts_of {P : Program} {f : FuncId} {fn : Func} {s : ChangeSpec} {c : OpenClaim} (a1 : c.wf (OpenSpec.ofChange s) = true) (a2 : laidOutB P = true) (a3 : mapsRowed P = true)
    (a4 : fn.params.all (P.readableRec ·) = true) (a5 : namedTie P c.named s.vars = true) (a6 : (c.stops == []) = true) (a7 : (P.stops == []) = true) (a8 : (c.knobs == []) = true) (a9 : (P.stopKnobs == []) = true)
    (a10 : (c.inPlace == P.inPlace f) = true) (a11 : (c.unfollowed == P.unfollowed f) = true) (a12 : (c.recurses == P.recurses f) = true) (a13 : (c.named == P.varsNamed f) = true)
    (a14 : (c.maps == (fn.params.toList ++ s.plain.varTypes P).any (P.mapsRec ·)) = true) (a15 : (c.ifaces == (fn.params.toList ++ s.plain.varTypes P).any (P.ifacesRec ·)) = true) (a16 : (c.mapsOut == P.mapsAmong fn.resultTypes.toList) = true)
    (a17 : (c.loops == (fn.params.toList ++ s.plain.varTypes P).any (P.loopsFrom ·)) = true) (a18 : (c.wideKeys == (fn.params.toList ++ s.plain.varTypes P ++ fn.resultTypes.toList).any (P.wideKeysFrom ·)) = true)
    (a19 : s.vars.all (P.varReadable ·) = true) (a20 : fn.resultTypes.all (fun t => P.readableRec t && decide (t < P.types.size)) = true) (a21 : (c.ifacesOut == fn.resultTypes.toList.any (P.ifacesRec ·)) = true)
    (a22 : (c.loopsOut == fn.resultTypes.toList.any (P.loopsFrom ·)) = true) (a23 : (c.plainKeys == P.plainKeys) = true) (a24 : c.shortTexts.isNone = true) (a25 : P.stopsHeard = true) (a26 : P.mayEnter = true)
    (a27 : (c.lifted == P.liftsFinal) = true) (a28 : (P.make == some c.make) = true)
    (a29 : c.domain.isEmpty = true) (a29' : c.kinds = []) (a30 : (c.pinned == c.pinnedBy) = true)
    (a31 : (c.veiled == (fn.params.toList ++ s.plain.varTypes P ++ fn.resultTypes.toList).any (P.veiledRec ·)) = true) (a32 : c.veiledFits P fn.params.toList (fn.params.toList ++ s.plain.varTypes P ++ fn.resultTypes.toList) = true) :
    joinedFacts P f fn s c = true := by
  unfold joinedFacts
  rw [a1, a2, a3, a4, a5, a6, a7, a8, a9, a10, a11, a12, a13, a14, a15, a16, a17, a18, a19, a20, a21, a22, a23, a24, a25, a26, a27, a28, a29, a29', a30, a31, a32]
  rfl
end Go.Abs
namespace Go.Proofs.Ytaaajjinpppgeaa
open Go Go.RowKit
set_option maxRecDepth 100000
def headSigns : List Char := [.ofNat 104,.ofNat 97,.ofNat 114,.ofNat 110,.ofNat 101,.ofNat 115,.ofNat 115,.ofNat 32,.ofNat 52,.ofNat 98,.ofNat 53,.ofNat 51,.ofNat 53,.ofNat 101,.ofNat 99,.ofNat 100,.ofNat 102,.ofNat 57,.ofNat 49,.ofNat 100,.ofNat 98,.ofNat 56,.ofNat 56,.ofNat 56,.ofNat 52,.ofNat 101,.ofNat 99,.ofNat 51,.ofNat 56,.ofNat 57,.ofNat 101,.ofNat 56,.ofNat 100,.ofNat 100,.ofNat 99,.ofNat 53,.ofNat 52,.ofNat 98,.ofNat 54,.ofNat 49,.ofNat 51,.ofNat 48,.ofNat 48,.ofNat 97,.ofNat 102,.ofNat 99,.ofNat 48,.ofNat 53,.ofNat 48,.ofNat 48,.ofNat 55,.ofNat 56,.ofNat 48,.ofNat 101,.ofNat 101,.ofNat 102,.ofNat 98,.ofNat 102,.ofNat 55,.ofNat 101,.ofNat 53,.ofNat 102,.ofNat 51,.ofNat 54,.ofNat 97,.ofNat 52,.ofNat 48,.ofNat 57,.ofNat 101,.ofNat 100,.ofNat 100,.ofNat 53,.ofNat 32,.ofNat 99,.ofNat 117,.ofNat 116,.ofNat 32,.ofNat 97,.ofNat 116,.ofNat 32,.ofNat 108,.ofNat 111,.ofNat 111,.ofNat 112,.ofNat 46,.ofNat 101,.ofNat 120,.ofNat 97,.ofNat 109,.ofNat 112,.ofNat 108,.ofNat 101,.ofNat 47,.ofNat 103,.ofNat 48,.ofNat 48,.ofNat 50,.ofNat 51,.ofNat 53,.ofNat 47,.ofNat 108,.ofNat 97,.ofNat 119,.ofNat 115,.ofNat 46,.ofNat 70,.ofNat 110,.ofNat 69,.ofNat 120,.ofNat 97,.ofNat 99,.ofNat 116,.ofNat 69,.ofNat 118,.ofNat 101,.ofNat 110,.ofNat 116,.ofNat 79,.ofNat 107,.ofNat 32,.ofNat 108,.ofNat 111,.ofNat 111,.ofNat 112,.ofNat 46,.ofNat 101,.ofNat 120,.ofNat 97,.ofNat 109,.ofNat 112,.ofNat 108,.ofNat 101,.ofNat 47,.ofNat 103,.ofNat 48,.ofNat 48,.ofNat 50,.ofNat 51,.ofNat 53,.ofNat 47,.ofNat 108,.ofNat 97,.ofNat 119,.ofNat 115,.ofNat 46,.ofNat 70,.ofNat 110,.ofNat 69,.ofNat 120,.ofNat 97,.ofNat 99,.ofNat 116,.ofNat 83,.ofNat 97,.ofNat 109,.ofNat 101,.ofNat 84,.ofNat 114,.ofNat 101,.ofNat 101,.ofNat 32,.ofNat 108,.ofNat 111,.ofNat 111,.ofNat 112,.ofNat 46,.ofNat 101,.ofNat 120,.ofNat 97,.ofNat 109,.ofNat 112,.ofNat 108,.ofNat 101,.ofNat 47,.ofNat 103,.ofNat 48,.ofNat 48,.ofNat 50,.ofNat 51,.ofNat 53,.ofNat 47,.ofNat 108,.ofNat 97,.ofNat 119,.ofNat 115,.ofNat 46,.ofNat 70,.ofNat 110,.ofNat 69,.ofNat 120,.ofNat 97,.ofNat 99,.ofNat 116,.ofNat 83,.ofNat 104,.ofNat 97,.ofNat 114,.ofNat 101,.ofNat 100,.ofNat 32,.ofNat 108,.ofNat 111,.ofNat 111,.ofNat 112,.ofNat 46,.ofNat 101,.ofNat 120,.ofNat 97,.ofNat 109,.ofNat 112,.ofNat 108,.ofNat 101,.ofNat 47,.ofNat 103,.ofNat 48,.ofNat 48,.ofNat 50,.ofNat 51,.ofNat 53,.ofNat 47,.ofNat 108,.ofNat 97,.ofNat 119,.ofNat 115,.ofNat 46,.ofNat 70,.ofNat 110,.ofNat 69,.ofNat 120,.ofNat 97,.ofNat 99,.ofNat 116,.ofNat 83,.ofNat 101,.ofNat 116,.ofNat 116,.ofNat 108,.ofNat 101,.ofNat 100,.ofNat 32,.ofNat 108,.ofNat 111,.ofNat 111,.ofNat 112,.ofNat 46,.ofNat 101,.ofNat 120,.ofNat 97,.ofNat 109,.ofNat 112,.ofNat 108,.ofNat 101,.ofNat 47,.ofNat 103,.ofNat 48,.ofNat 48,.ofNat 50,.ofNat 51,.ofNat 53,.ofNat 47,.ofNat 108,.ofNat 97,.ofNat 119,.ofNat 115,.ofNat 46,.ofNat 70,.ofNat 110,.ofNat 69,.ofNat 120,.ofNat 97,.ofNat 99,.ofNat 116,.ofNat 73,.ofNat 109,.ofNat 97,.ofNat 103,.ofNat 101,.ofNat 73,.ofNat 110,.ofNat 111,.ofNat 100,.ofNat 101,.ofNat 32,.ofNat 108,.ofNat 111,.ofNat 111,.ofNat 112,.ofNat 46,.ofNat 101,.ofNat 120,.ofNat 97,.ofNat 109,.ofNat 112,.ofNat 108,.ofNat 101,.ofNat 47,.ofNat 103,.ofNat 48,.ofNat 48,.ofNat 50,.ofNat 51,.ofNat 53,.ofNat 47,.ofNat 108,.ofNat 97,.ofNat 119,.ofNat 115,.ofNat 46,.ofNat 70,.ofNat 110,.ofNat 69,.ofNat 120,.ofNat 97,.ofNat 99,.ofNat 116,.ofNat 73,.ofNat 109,.ofNat 97,.ofNat 103,.ofNat 101,.ofNat 66,.ofNat 108,.ofNat 111,.ofNat 99,.ofNat 107,.ofNat 32,.ofNat 108,.ofNat 111,.ofNat 111,.ofNat 112,.ofNat 46,.ofNat 101,.ofNat 120,.ofNat 97,.ofNat 109,.ofNat 112,.ofNat 108,.ofNat 101,.ofNat 47,.ofNat 103,.ofNat 48,.ofNat 48,.ofNat 50,.ofNat 51,.ofNat 53,.ofNat 47,.ofNat 108,.ofNat 97,.ofNat 119,.ofNat 115,.ofNat 46,.ofNat 70,.ofNat 110,.ofNat 69,.ofNat 120,.ofNat 97,.ofNat 99,.ofNat 116,.ofNat 77,.ofNat 101,.ofNat 109,.ofNat 79,.ofNat 107,.ofNat 32,.ofNat 108,.ofNat 111,.ofNat 111,.ofNat 112,.ofNat 46,.ofNat 101,.ofNat 120,.ofNat 97,.ofNat 109,.ofNat 112,.ofNat 108,.ofNat 101,.ofNat 47,.ofNat 103,.ofNat 48,.ofNat 48,.ofNat 50,.ofNat 51,.ofNat 53,.ofNat 47,.ofNat 108,.ofNat 97,.ofNat 119,.ofNat 115,.ofNat 46,.ofNat 70,.ofNat 110,.ofNat 69,.ofNat 120,.ofNat 97,.ofNat 99,.ofNat 116,.ofNat 77,.ofNat 101,.ofNat 109,.ofNat 78,.ofNat 101,.ofNat 119,.ofNat 32,.ofNat 108,.ofNat 111,.ofNat 111,.ofNat 112,.ofNat 46,.ofNat 101,.ofNat 120,.ofNat 97,.ofNat 109,.ofNat 112,.ofNat 108,.ofNat 101,.ofNat 47,.ofNat 103,.ofNat 48,.ofNat 48,.ofNat 50,.ofNat 51,.ofNat 53,.ofNat 47,.ofNat 108,.ofNat 97,.ofNat 119,.ofNat 115,.ofNat 46,.ofNat 70,.ofNat 110,.ofNat 69,.ofNat 120,.ofNat 97,.ofNat 99,.ofNat 116,.ofNat 77,.ofNat 101,.ofNat 110,.ofNat 100,.ofNat 80,.ofNat 111,.ofNat 105,.ofNat 110,.ofNat 116,.ofNat 101,.ofNat 114,.ofNat 115,.ofNat 32,.ofNat 108,.ofNat 111,.ofNat 111,.ofNat 112,.ofNat 46,.ofNat 101,.ofNat 120,.ofNat 97,.ofNat 109,.ofNat 112,.ofNat 108,.ofNat 101,.ofNat 47,.ofNat 103,.ofNat 48,.ofNat 48,.ofNat 50,.ofNat 51,.ofNat 53,.ofNat 47,.ofNat 108,.ofNat 97,.ofNat 119,.ofNat 115,.ofNat 46,.ofNat 70,.ofNat 110,.ofNat 69,.ofNat 120,.ofNat 97,.ofNat 99,.ofNat 116,.ofNat 70,.ofNat 115,.ofNat 79,.ofNat 107,.ofNat 32,.ofNat 108,.ofNat 111,.ofNat 111,.ofNat 112,.ofNat 46,.ofNat 101,.ofNat 120,.ofNat 97,.ofNat 109,.ofNat 112,.ofNat 108,.ofNat 101,.ofNat 47,.ofNat 103,.ofNat 48,.ofNat 48,.ofNat 50,.ofNat 51,.ofNat 53,.ofNat 47,.ofNat 108,.ofNat 97,.ofNat 119,.ofNat 115,.ofNat 46,.ofNat 70,.ofNat 110,.ofNat 69,.ofNat 120,.ofNat 97,.ofNat 99,.ofNat 116,.ofNat 77,.ofNat 101,.ofNat 110,.ofNat 100,.ofNat 78,.ofNat 97,.ofNat 109,.ofNat 101,.ofNat 115,.ofNat 32,.ofNat 108,.ofNat 111,.ofNat 111,.ofNat 112,.ofNat 46,.ofNat 101,.ofNat 120,.ofNat 97,.ofNat 109,.ofNat 112,.ofNat 108,.ofNat 101,.ofNat 47,.ofNat 103,.ofNat 48,.ofNat 48,.ofNat 50,.ofNat 51,.ofNat 53,.ofNat 47,.ofNat 108,.ofNat 97,.ofNat 119,.ofNat 115,.ofNat 46,.ofNat 70,.ofNat 110,.ofNat 69,.ofNat 120,.ofNat 97,.ofNat 99,.ofNat 116,.ofNat 68,.ofNat 97,.ofNat 110,.ofNat 103,.ofNat 108,.ofNat 105,.ofNat 110,.ofNat 103,.ofNat 32,.ofNat 108,.ofNat 111,.ofNat 111,.ofNat 112,.ofNat 46,.ofNat 101,.ofNat 120,.ofNat 97,.ofNat 109,.ofNat 112,.ofNat 108,.ofNat 101,.ofNat 47,.ofNat 103,.ofNat 48,.ofNat 48,.ofNat 50,.ofNat 51,.ofNat 53,.ofNat 47,.ofNat 108,.ofNat 97,.ofNat 119,.ofNat 115,.ofNat 46,.ofNat 70,.ofNat 110,.ofNat 69,.ofNat 120,.ofNat 97,.ofNat 99,.ofNat 116,.ofNat 76,.ofNat 105,.ofNat 110,.ofNat 107,.ofNat 115,.ofNat 79,.ofNat 102,.ofNat 32,.ofNat 108,.ofNat 111,.ofNat 111,.ofNat 112,.ofNat 46,.ofNat 101,.ofNat 120,.ofNat 97,.ofNat 109,.ofNat 112,.ofNat 108,.ofNat 101,.ofNat 47,.ofNat 103,.ofNat 48,.ofNat 48,.ofNat 50,.ofNat 51,.ofNat 53,.ofNat 47,.ofNat 108,.ofNat 97,.ofNat 119,.ofNat 115,.ofNat 46,.ofNat 70,.ofNat 110,.ofNat 69,.ofNat 120,.ofNat 97,.ofNat 99,.ofNat 116,.ofNat 87,.ofNat 114,.ofNat 111,.ofNat 110,.ofNat 103,.ofNat 75,.ofNat 105,.ofNat 110,.ofNat 100,.ofNat 32,.ofNat 108,.ofNat 111,.ofNat 111,.ofNat 112,.ofNat 46,.ofNat 101,.ofNat 120,.ofNat 97,.ofNat 109,.ofNat 112,.ofNat 108,.ofNat 101,.ofNat 47,.ofNat 103,.ofNat 48,.ofNat 48,.ofNat 50,.ofNat 51,.ofNat 53,.ofNat 47,.ofNat 108,.ofNat 97,.ofNat 119,.ofNat 115,.ofNat 46,.ofNat 70,.ofNat 110,.ofNat 69,.ofNat 120,.ofNat 97,.ofNat 99,.ofNat 116,.ofNat 83,.ofNat 104,.ofNat 111,.ofNat 114,.ofNat 116,.ofNat 32,.ofNat 108,.ofNat 111,.ofNat 111,.ofNat 112,.ofNat 46,.ofNat 101,.ofNat 120,.ofNat 97,.ofNat 109,.ofNat 112,.ofNat 108,.ofNat 101,.ofNat 47,.ofNat 103,.ofNat 48,.ofNat 48,.ofNat 50,.ofNat 51,.ofNat 53,.ofNat 47,.ofNat 108,.ofNat 97,.ofNat 119,.ofNat 115,.ofNat 46,.ofNat 70,.ofNat 110,.ofNat 69,.ofNat 120,.ofNat 97,.ofNat 99,.ofNat 116,.ofNat 85,.ofNat 110,.ofNat 109,.ofNat 97,.ofNat 114,.ofNat 107,.ofNat 101,.ofNat 100,.ofNat 32,.ofNat 108,.ofNat 111,.ofNat 111,.ofNat 112,.ofNat 46,.ofNat 101,.ofNat 120,.ofNat 97,.ofNat 109,.ofNat 112,.ofNat 108,.ofNat 101,.ofNat 47,.ofNat 103,.ofNat 48,.ofNat 48,.ofNat 50,.ofNat 51,.ofNat 53,.ofNat 47,.ofNat 108,.ofNat 97,.ofNat 119,.ofNat 115,.ofNat 46,.ofNat 70,.ofNat 110,.ofNat 69,.ofNat 120,.ofNat 97,.ofNat 99,.ofNat 116,.ofNat 80,.ofNat 117,.ofNat 116,.ofNat 68,.ofNat 101,.ofNat 112,.ofNat 32,.ofNat 108,.ofNat 111,.ofNat 111,.ofNat 112,.ofNat 46,.ofNat 101,.ofNat 120,.ofNat 97,.ofNat 109,.ofNat 112,.ofNat 108,.ofNat 101,.ofNat 47,.ofNat 103,.ofNat 48,.ofNat 48,.ofNat 50,.ofNat 51,.ofNat 53,.ofNat 47,.ofNat 108,.ofNat 97,.ofNat 119,.ofNat 115,.ofNat 46,.ofNat 70,.ofNat 110,.ofNat 69,.ofNat 120,.ofNat 97,.ofNat 99,.ofNat 116,.ofNat 68,.ofNat 114,.ofNat 111,.ofNat 112,.ofNat 68,.ofNat 101,.ofNat 112,.ofNat 32,.ofNat 108,.ofNat 111,.ofNat 111,.ofNat 112,.ofNat 46,.ofNat 101,.ofNat 120,.ofNat 97,.ofNat 109,.ofNat 112,.ofNat 108,.ofNat 101,.ofNat 47,.ofNat 103,.ofNat 48,.ofNat 48,.ofNat 50,.ofNat 51,.ofNat 53,.ofNat 47,.ofNat 108,.ofNat 97,.ofNat 119,.ofNat 115,.ofNat 46,.ofNat 70,.ofNat 110,.ofNat 69,.ofNat 120,.ofNat 97,.ofNat 99,.ofNat 116,.ofNat 84,.ofNat 97,.ofNat 107,.ofNat 101,.ofNat 66,.ofNat 108,.ofNat 111,.ofNat 99,.ofNat 107,.ofNat 32,.ofNat 108,.ofNat 111,.ofNat 111,.ofNat 112,.ofNat 46,.ofNat 101,.ofNat 120,.ofNat 97,.ofNat 109,.ofNat 112,.ofNat 108,.ofNat 101,.ofNat 47,.ofNat 103,.ofNat 48,.ofNat 48,.ofNat 50,.ofNat 51,.ofNat 53,.ofNat 47,.ofNat 108,.ofNat 97,.ofNat 119,.ofNat 115,.ofNat 46,.ofNat 70,.ofNat 110,.ofNat 69,.ofNat 120,.ofNat 97,.ofNat 99,.ofNat 116,.ofNat 84,.ofNat 97,.ofNat 107,.ofNat 101,.ofNat 73,.ofNat 110,.ofNat 111,.ofNat 32,.ofNat 108,.ofNat 111,.ofNat 111,.ofNat 112,.ofNat 46,.ofNat 101,.ofNat 120,.ofNat 97,.ofNat 109,.ofNat 112,.ofNat 108,.ofNat 101,.ofNat 47,.ofNat 103,.ofNat 48,.ofNat 48,.ofNat 50,.ofNat 51,.ofNat 53,.ofNat 47,.ofNat 108,.ofNat 97,.ofNat 119,.ofNat 115,.ofNat 46,.ofNat 70,.ofNat 110,.ofNat 69,.ofNat 120,.ofNat 97,.ofNat 99,.ofNat 116,.ofNat 82,.ofNat 101,.ofNat 97,.ofNat 99,.ofNat 104,.ofNat 101,.ofNat 100,.ofNat 32,.ofNat 108,.ofNat 111,.ofNat 111,.ofNat 112,.ofNat 46,.ofNat 101,.ofNat 120,.ofNat 97,.ofNat 109,.ofNat 112,.ofNat 108,.ofNat 101,.ofNat 47,.ofNat 103,.ofNat 48,.ofNat 48,.ofNat 50,.ofNat 51,.ofNat 53,.ofNat 47,.ofNat 108,.ofNat 97,.ofNat 119,.ofNat 115,.ofNat 46,.ofNat 70,.ofNat 110,.ofNat 69,.ofNat 120,.ofNat 97,.ofNat 99,.ofNat 116,.ofNat 70,.ofNat 115,.ofNat 78,.ofNat 101,.ofNat 119,.ofNat 32,.ofNat 108,.ofNat 111,.ofNat 111,.ofNat 112,.ofNat 46,.ofNat 101,.ofNat 120,.ofNat 97,.ofNat 109,.ofNat 112,.ofNat 108,.ofNat 101,.ofNat 47,.ofNat 103,.ofNat 48,.ofNat 48,.ofNat 50,.ofNat 51,.ofNat 53,.ofNat 47,.ofNat 108,.ofNat 97,.ofNat 119,.ofNat 115,.ofNat 46,.ofNat 70,.ofNat 110,.ofNat 69,.ofNat 120,.ofNat 97,.ofNat 99,.ofNat 116,.ofNat 73,.ofNat 109,.ofNat 97,.ofNat 103,.ofNat 101,.ofNat 85,.ofNat 110,.ofNat 105,.ofNat 116,.ofNat 32,.ofNat 108,.ofNat 111,.ofNat 111,.ofNat 112,.ofNat 46,.ofNat 101,.ofNat 120,.ofNat 97,.ofNat 109,.ofNat 112,.ofNat 108,.ofNat 101,.ofNat 47,.ofNat 103,.ofNat 48,.ofNat 48,.ofNat 50,.ofNat 51,.ofNat 53,.ofNat 47,.ofNat 108,.ofNat 97,.ofNat 119,.ofNat 115,.ofNat 46,.ofNat 70,.ofNat 110,.ofNat 69,.ofNat 120,.ofNat 97,.ofNat 99,.ofNat 116,.ofNat 83,.ofNat 97,.ofNat 102,.ofNat 101,.ofNat 68,.ofNat 105,.ofNat 115,.ofNat 107,.ofNat 32,.ofNat 108,.ofNat 111,.ofNat 111,.ofNat 112,.ofNat 46,.ofNat 101,.ofNat 120,.ofNat 97,.ofNat 109,.ofNat 112,.ofNat 108,.ofNat 101,.ofNat 47,.ofNat 103,.ofNat 48,.ofNat 48,.ofNat 50,.ofNat 51,.ofNat 53,.ofNat 47,.ofNat 108,.ofNat 97,.ofNat 119,.ofNat 115,.ofNat 46,.ofNat 70,.ofNat 110,.ofNat 69,.ofNat 120,.ofNat 97,.ofNat 99,.ofNat 116,.ofNat 84,.ofNat 114,.ofNat 101,.ofNat 101,.ofNat 79,.ofNat 102,.ofNat 32,.ofNat 108,.ofNat 111,.ofNat 111,.ofNat 112,.ofNat 46,.ofNat 101,.ofNat 120,.ofNat 97,.ofNat 109,.ofNat 112,.ofNat 108,.ofNat 101,.ofNat 47,.ofNat 103,.ofNat 48,.ofNat 48,.ofNat 50,.ofNat 51,.ofNat 53,.ofNat 47,.ofNat 108,.ofNat 97,.ofNat 119,.ofNat 115,.ofNat 46,.ofNat 70,.ofNat 110,.ofNat 69,.ofNat 120,.ofNat 97,.ofNat 99,.ofNat 116,.ofNat 69,.ofNat 120,.ofNat 97,.ofNat 99,.ofNat 116,.ofNat 68,.ofNat 105,.ofNat 115,.ofNat 107]
theorem head_text : Try.prog.initOrder = String.ofList headSigns := by kernel_rfl
theorem head_words : wordsSigns Try.prog.initOrder.toList = Go.Abs.wAcc headSigns [] [] := by
  rw [head_text, String.toList_ofList, Go.Abs.words_eq]
theorem head_behind : behindMainWord (wordsSigns Try.prog.initOrder.toList) = "cut".toList :: (Go.Abs.wAcc headSigns [] []).drop 3 := by
  rw [head_words]; kernel_rfl
theorem f_lays : Try.prog.laysLater = false := by kernel_rfl
theorem f_refl : Try.prog.bearsReflect = false := by kernel_rfl
theorem f_door : Try.prog.doorFits [] = true := by kernel_rfl
theorem f_mayEnter : Try.prog.mayEnter = true := Go.Abs.mayEnter_of head_behind f_lays f_refl f_door
theorem f_liftsFinal : Try.prog.liftsFinal = false := Go.Abs.liftsFinal_of head_behind
theorem f_make : Try.prog.make = some .cut := Go.Abs.make_of head_behind
theorem laidOut : laidOutB Try.prog = true := by kernel_rfl
theorem f_maps : mapsRowed Try.prog = true := by kernel_rfl
theorem f_stops : (Try.prog.stops == []) = true := by kernel_rfl
theorem f_knobs : (Try.prog.stopKnobs == []) = true := by kernel_rfl
theorem f_plain : (true == Try.prog.plainKeys) = true := by kernel_rfl
theorem f_heard : Try.prog.stopsHeard = true := by kernel_rfl
theorem own : ownKnob Try.prog.godebug = none := by kernel_rfl
end Go.Proofs.Ytaaajjinpppgeaa
namespace Go.Proofs.Ytaaajjinpppgeaa
open Go Go.Abs Go.ChangeShapes Go.WideShapes Go.ChangeAt Go.RowKit
set_option maxRecDepth 100000 in
theorem liftedFnExactTreeOf (os : Os) (started : os.Started) (H : Type) (enc : TypeId × Value → H) :
    ReturnsInHanded {} Try.checked os 27 .any (Rows.fnExactTreeOfSpec.pre6 enc Try.prog Try.f27 Rows.fnExactTreeOfRow.domain false) (Rows.fnExactTreeOfSpec.post enc Try.prog Try.f27 false true false false) := by
  refine returnsInHanded_of_change (C := Try.checked) own started (by kernel_rfl) Try.func27
    (ChangeSpec.witness6 (enc := enc) (C := Try.checked) false ⟨#[], #[.agg #[.slice none 0 0, .slice none 0 0, .slice none 0 0, .slice none 0 0]], []⟩ 8 (by kernel_rfl) (by kernel_rfl) (by kernel_rfl) (by kernel_rfl)) ?_
  intro W base args ds gs before hval hW _ _
  obtain ⟨p, q, hA, hV, e, _, _⟩ := id hW
  refine (row_calls (P := Try.prog) (W := W) (n := 12) (shps := shFnExactTreeOf) (fun avs h => calls (isFnExactTreeOf h)) (ts := Try.f27.params.toList) (by kernel_rfl) (fun j t v h1 h2 => hval j t v (by simpa using h1) h2) hA).mono fun e W' ⟨he, hb⟩ => ?_
  refine ⟨_, he, row_post (tb := Try.f27.resultTypes.toList.headD 0) laidOut ?_ rfl (by kernel_rfl) (by kernel_rfl) ?_ hW hb⟩
  · exact List.all_eq_true.1 (show Try.f27.params.toList.all (fun t => Try.prog.readableRec t && decide (t < Try.prog.types.size)) = true by kernel_rfl) |> fun h t ht => by simpa using h t ht
  · have hl := trod_len hA
    match ds, hl with
    | [d0], _ => rfl
set_option maxHeartbeats 4000000 in
theorem factsFnExactTreeOf : joinedFacts Try.prog 27 Try.f27 Rows.fnExactTreeOfSpec Rows.fnExactTreeOfRow = true :=
  facts_of (by kernel_rfl) laidOut f_maps (by kernel_rfl) (by kernel_rfl) rfl f_stops rfl f_knobs (by as_aux_lemma => kernel_rfl) (by as_aux_lemma => kernel_rfl) (by as_aux_lemma => kernel_rfl) (by as_aux_lemma => kernel_rfl)
    (by kernel_rfl) (by kernel_rfl) (by kernel_rfl) (by kernel_rfl) (by kernel_rfl) rfl (by kernel_rfl) (by kernel_rfl) (by kernel_rfl) f_plain rfl f_heard f_mayEnter (by rw [f_liftsFinal]; rfl) (by rw [f_make]; rfl) rfl rfl rfl (by kernel_rfl) (by kernel_rfl)
theorem wrapFnExactTreeOf : Try.f27.isWrapper Try.prog Rows.fnExactTreeOfRow.wrapper Rows.fnExactTreeOfRow.mainSum := by
  unfold Func.isWrapper; rw [if_neg (by decide +kernel)]; exact ⟨rfl, rfl⟩
set_option maxHeartbeats 4000000 in
theorem overFnExactTreeOf : Rows.fnExactTreeOfRow.holds Try.pinned (OpenSpec.ofChange Rows.fnExactTreeOfSpec) :=
  OpenClaim.holds_of_wide 27 Try.f27 rfl rfl rfl rfl rfl rfl rfl ⟨rfl, rfl, rfl, rfl, rfl⟩ rfl rfl rfl rfl rfl (by as_aux_lemma => kernel_rfl) Try.func27 factsFnExactTreeOf
    (by as_aux_lemma => exact of_decide_eq_true (by kernel_rfl)) wrapFnExactTreeOf
    (fun os started H enc _ => liftedFnExactTreeOf os started H enc)
theorem FnExactTreeOf_holds : Rows.FnExactTreeOfSaid := overFnExactTreeOf
end Go.Proofs.Ytaaajjinpppgeaa
