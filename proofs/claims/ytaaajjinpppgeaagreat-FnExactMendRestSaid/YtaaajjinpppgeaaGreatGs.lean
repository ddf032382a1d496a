/- Rows of structs: comparing, counting, copying: one proof for all kinds. Own work; no condition. -/
import Derived.Test.YtaaajjinpppgeaaGreatCf
set_option linter.unusedVariables false
set_option linter.unusedSimpArgs false
set_option linter.unusedSectionVars false
namespace Go.Proofs.YtaaajjinpppgeaaGreat
open Go Go.Abs
set_option maxRecDepth 100000
def Heq : List Vw := [.tidy [0, 1, 5] [(0, none), (1, none), (5, none)]]
theorem heq (b : Nat) (s : St) : vwL b Heq s = vwL b [.tidy [0, 1, 5] [(0, none), (1, none), (5, none)]] s := rfl
def Leq (s : Nat) (n : Nat) (f : Nat) : EC := (.seq (.seq (.region [(.op .mv [(.tmp 5)] (some 11) true), (.op .mv [(.tmp 0)] (some 12) true), (.op .len [(.tmp 12)] (some 13) true), (.op (.bin .lss) [(.tmp 11), (.tmp 13)] (some 14) true)] false) (.cond (.tmp 14) .skip (.exit 0))) (.seq (.block 1 (.seq (.region [(.op .mv [(.tmp 0)] (some 17) false), (.op .mv [(.tmp 5)] (some 18) false), (.op (.iaddr s) [(.tmp 17), (.tmp 18)] (some 19) false), (.op (.loadN n) [(.tmp 19)] (some 20) false), (.op .mv [(.tmp 1)] (some 21) false), (.op .mv [(.tmp 5)] (some 22) false), (.op (.iaddr s) [(.tmp 21), (.tmp 22)] (some 23) false), (.op (.loadN n) [(.tmp 23)] (some 24) false), (.pc (.const (.fn f [])) [(.tmp 20), (.tmp 24)] (some 25) true), (.op .not [(.tmp 25)] (some 26) true)] true) (.cond (.tmp 26) (.seq (.region [(.op .mv [(.const (.bool false))] (some 4) true)] false) .ret) .skip))) (.region [(.op .mv [(.tmp 5)] (some 15) true), (.op (.bin .add) [(.tmp 15), (.const (.int .i64 1))] (some 16) true), (.op .mv [(.tmp 16)] (some 5) true)] false)))
def Feq (s : Nat) (n : Nat) (f : Nat) : EF := ⟨(.seq (.region [(.op .mv [(.const (.bool false))] (some 4) true)] false) (.seq (.seq (.region [(.op .mv [(.tmp 0)] (some 6) true), (.op .len [(.tmp 6)] (some 7) true), (.op .mv [(.tmp 1)] (some 8) true), (.op .len [(.tmp 8)] (some 9) true), (.op (.bin .neq) [(.tmp 7), (.tmp 9)] (some 10) true)] false) (.cond (.tmp 10) (.seq (.region [(.op .mv [(.const (.bool false))] (some 4) true)] false) .ret) .skip)) (.seq (.seq (.region [(.op .mv [(.const (.int .i64 0))] (some 5) true)] false) (.block 0 (.loop Heq (Leq s n f)))) (.seq (.region [(.op .mv [(.const (.bool true))] (some 4) true)] false) .ret)))), [(.tmp 4)], 27, .one, none⟩
def Hsz : List Vw := [.tidy [0, 1, 5] [(0, none), (1, none), (5, none)]]
theorem hsz (b : Nat) (s : St) : vwL b Hsz s = vwL b [.tidy [0, 1, 5] [(0, none), (1, none), (5, none)]] s := rfl
def Lsz (s : Nat) (n : Nat) (f : Nat) : EC := (.seq (.seq (.region [(.op .mv [(.tmp 5)] (some 12) true), (.op .mv [(.tmp 0)] (some 13) true), (.op .len [(.tmp 13)] (some 14) true), (.op (.bin .lss) [(.tmp 12), (.tmp 14)] (some 15) true)] false) (.cond (.tmp 15) .skip (.exit 0))) (.seq (.block 1 (.seq (.region [(.op .mv [(.tmp 0)] (some 18) true), (.op .mv [(.tmp 5)] (some 19) true), (.op (.iaddr s) [(.tmp 18), (.tmp 19)] (some 20) true), (.op (.loadN n) [(.tmp 20)] (some 21) true), (.op .mv [(.tmp 1)] (some 22) true), (.pc (.const (.fn f [])) [(.tmp 21), (.tmp 22)] (some 23) true), (.op .mv [(.tmp 23)] (some 1) true)] false) (.seq (.region [(.op .mv [(.tmp 1)] (some 24) true), (.op (.bin .lss) [(.tmp 24), (.const (.int .i64 0))] (some 25) true)] false) (.cond (.tmp 25) (.seq (.region [(.op .mv [(.const (.int .i64 (-1)))] (some 4) true)] false) .ret) .skip)))) (.region [(.op .mv [(.tmp 5)] (some 16) true), (.op (.bin .add) [(.tmp 16), (.const (.int .i64 1))] (some 17) true), (.op .mv [(.tmp 17)] (some 5) true)] false)))
def Fsz (s : Nat) (n : Nat) (f : Nat) : EF := ⟨(.seq (.region [(.op .mv [(.const (.int .i64 0))] (some 4) true)] false) (.seq (.region [(.op .mv [(.tmp 1)] (some 6) true), (.op .mv [(.tmp 0)] (some 7) true), (.op .len [(.tmp 7)] (some 8) true), (.op (.bin .sub) [(.tmp 6), (.tmp 8)] (some 9) true), (.op .mv [(.tmp 9)] (some 1) true)] false) (.seq (.seq (.region [(.op .mv [(.tmp 1)] (some 10) true), (.op (.bin .lss) [(.tmp 10), (.const (.int .i64 0))] (some 11) true)] false) (.cond (.tmp 11) (.seq (.region [(.op .mv [(.const (.int .i64 (-1)))] (some 4) true)] false) .ret) .skip)) (.seq (.seq (.region [(.op .mv [(.const (.int .i64 0))] (some 5) true)] false) (.block 0 (.loop Hsz (Lsz s n f)))) (.seq (.region [(.op .mv [(.tmp 1)] (some 26) true), (.op .mv [(.tmp 26)] (some 4) true)] false) .ret))))), [(.tmp 4)], 27, .one, none⟩
def Hto : List Vw := [.tidy [0, 3, 4] [(0, none), (3, none), (4, none)]]
theorem hto (b : Nat) (s : St) : vwL b Hto s = vwL b [.tidy [0, 3, 4] [(0, none), (3, none), (4, none)]] s := rfl
def Lto (s : Nat) (by_ : Nat) (z : AV) (n : Nat) (f : Nat) : EC := (.seq (.seq (.region [(.op .mv [(.tmp 4)] (some 8) true), (.op .mv [(.tmp 0)] (some 9) true), (.op .len [(.tmp 9)] (some 10) true), (.op (.bin .lss) [(.tmp 8), (.tmp 10)] (some 11) true)] false) (.cond (.tmp 11) .skip (.exit 0))) (.seq (.block 1 (.region [(.op .mv [(.tmp 3)] (some 14) true), (.op .mv [(.tmp 4)] (some 15) true), (.op .mv [(.tmp 0)] (some 16) true), (.op .mv [(.tmp 4)] (some 17) true), (.op (.iaddr s) [(.tmp 16), (.tmp 17)] (some 18) true), (.op (.loadN n) [(.tmp 18)] (some 19) true), (.pc (.const (.fn f [])) [(.tmp 19)] (some 20) true), (.op (.iaddr s) [(.tmp 14), (.tmp 15)] (some 21) true), (.op (.storeN n) [(.tmp 21), (.tmp 20)] none true)] false)) (.region [(.op .mv [(.tmp 4)] (some 12) true), (.op (.bin .add) [(.tmp 12), (.const (.int .i64 1))] (some 13) true), (.op .mv [(.tmp 13)] (some 4) true)] false)))
def Fto (s : Nat) (by_ : Nat) (z : AV) (n : Nat) (f : Nat) : EF := ⟨(.seq (.region [(.op .mv [(.const .nil)] (some 2) true)] false) (.seq (.region [(.op .mv [(.tmp 0)] (some 5) true), (.op .len [(.tmp 5)] (some 6) true), (.op (.mkslice s by_ z) [(.tmp 6), (.tmp 6)] (some 7) true), (.op .mv [(.tmp 7)] (some 3) true)] false) (.seq (.seq (.region [(.op .mv [(.const (.int .i64 0))] (some 4) true)] false) (.block 0 (.loop Hto (Lto s by_ z n f)))) (.seq (.region [(.op .mv [(.tmp 3)] (some 22) true), (.op .mv [(.tmp 22)] (some 2) true)] false) .ret)))), [(.tmp 2)], 23, .one, none⟩


section
variable {α : Type} [DecidableEq α] {enc : α → AV} {s n f k : Nat}
theorem geq (ht : T k = some (Feq s n f)) (henc : ∀ x, AV.agg ((enc x).cells.take n) = enc x) (hln : ∀ x, n ≤ (enc x).cells.length) (hcl : ∀ x, (enc x).cells.all closedC = true) (hd : ∀ x, isDef (enc x) = true)
    (hf : ∀ x y, E T f [enc x, enc y] [] = some (.bool (decide (x = y)), [])) (xs ys : List α) (ha : xs.length ≤ maxLen) : E T k [.ro s (xs.map enc), .ro s (ys.map enc)] [] = some (.bool (decide (xs = ys)), []) := by
  rw [E_eq ht (Nat.le_of_ble_eq_true rfl)]
  simp only [Feq, heq, go_sem, seval, bnd_ite]
  unfold maxLen at ha
  by_cases hl : xs.length = ys.length
  case neg =>
    have : xs ≠ ys := fun e => hl (by rw [e])
    simp [this, show ¬ (xs.length : Int) = ys.length by omega]
  refine (XL_inv (T := T) (b := 0) (hd := Heq) (x := Leq s n f) (β := Unit) (fun i _ => ⟨[(0, .ro s (xs.map enc)), (1, .ro s (ys.map enc)), (5, .int .i64 (i : Nat))], []⟩)
    (fun i _ => xs.take i = ys.take i) xs.length (fun r => (r.1 = .exit 0 ∧ xs = ys) ∨ (r.1 = .ret ∧ lookA r.2.env 4 = .bool false ∧ xs ≠ ys)) ?step ?last 0 () (by omega) rfl).elim ?main
  case step =>
    intro i _ hi hI
    obtain ⟨p, hp⟩ := get_at hi
    obtain ⟨q, hq⟩ := get_at (show i < ys.length by omega)
    have hi1 : (i : Int) < (xs.length : Int) := by omega
    have hi2 : (i : Int) < (ys.length : Int) := by omega
    simp only [XG, Leq, heq, go_sem, seval, bnd_ite, hi1, hi2, gD_map hp, gD_map hq, hln p, hln q, henc, hcl, hd, hf, Int.natCast_nonneg, w_i64 ((i : Int) + 1) (by omega)]
    by_cases he : p = q
    · left
      subst he
      exact ⟨(), by simp, by rw [take_eq_snoc hp hq]; exact ⟨hI, rfl⟩⟩
    · right
      have hne : xs ≠ ys := fun e => he (by rw [e] at hp; rw [hp] at hq; exact Option.some.inj hq)
      simp only [he, decide_false, Bool.not_false, if_true]
      exact .mk (by simp) (.inr ⟨rfl, rfl, hne⟩)
  case last =>
    intro _ hI
    have e : xs = ys := by rw [List.take_length] at hI; rw [hI, hl, List.take_length]
    simp only [XG, Leq, heq, go_sem, seval, bnd_ite, Int.lt_irrefl, decide_false]
    exact .mk (by simp) (.inl ⟨rfl, e⟩)
  case main =>
  rintro ⟨x, st⟩ ⟨h1, h2, h3⟩
  have hs : (0 : Int) = ((0 : Nat) : Int) := rfl
  simp only [hl, decide_true, Bool.not_true, Bool.false_eq_true, if_false]
  rw [hs, h1]
  obtain ⟨e, m⟩ := st
  rcases h3 with ⟨hx, h4⟩ | ⟨hx, h4, h5⟩
  · simp only at hx; subst hx; subst h4
    simp only [go_sem, seval]; simp
  · simp only at hx h4; subst hx
    simp only [go_sem, seval, h4]; simp [h5]

omit [DecidableEq α] in
theorem gsz {ok sm : α → Prop} (ht : T k = some (Fsz s n f)) (henc : ∀ x, AV.agg ((enc x).cells.take n) = enc x) (hln : ∀ x, n ≤ (enc x).cells.length) (hcl : ∀ x, (enc x).cells.all closedC = true) (hd : ∀ x, isDef (enc x) = true)
    (hf : ∀ x (r : Int), ok x → 0 ≤ r → r ≤ 1048576 → ∃ v : Int, E T f [enc x, .int .i64 r] [] = some (.int .i64 v, []) ∧ -1 ≤ v ∧ v ≤ r ∧ (0 ≤ v → sm x))
    (l : List α) (c : Int) (h0 : 0 ≤ c) (hn : c ≤ 1048576) (hl : l.length ≤ maxLen) (hok : ∀ x ∈ l, ok x) :
    ∃ r : Int, E T k [.ro s (l.map enc), .int .i64 c] [] = some (.int .i64 r, []) ∧ -1 ≤ r ∧ r ≤ c ∧ (0 ≤ r → l.length ≤ 1048576 ∧ ∀ x ∈ l, sm x) := by
  rw [E_eq ht (Nat.le_of_ble_eq_true rfl)]
  simp only [Fsz, hsz, go_sem, seval, bnd_ite]
  unfold maxLen at hl
  rw [w_i64 (c - (l.length : Int)) (by omega)]
  by_cases c1 : c - (l.length : Int) < 0
  · rw [if_pos c1]; exact ⟨_, rfl, by omega, by omega, fun h => by omega⟩
  rw [if_neg c1]
  refine (XL_inv (T := T) (b := 0) (hd := Hsz) (x := Lsz s n f) (β := Int) (fun i r => ⟨[(0, .ro s (l.map enc)), (1, .int .i64 r), (5, .int .i64 (i : Nat))], []⟩)
    (fun i r => 0 ≤ r ∧ r ≤ c ∧ ∀ x ∈ l.take i, sm x) l.length (fun r => (r.1 = .exit 0 ∧ ∃ v : Int, lookA r.2.env 1 = .int .i64 v ∧ 0 ≤ v ∧ v ≤ c ∧ ∀ x ∈ l, sm x) ∨ (r.1 = .ret ∧ lookA r.2.env 4 = .int .i64 (-1))) ?step ?last 0 (c - (l.length : Int)) (by omega) ⟨by omega, by omega, fun x hx => by simp at hx⟩).elim ?main
  case step =>
    intro i r hi ⟨hI0, hI1, hI2⟩
    obtain ⟨p, hp⟩ := get_at hi
    have hi1 : (i : Int) < (l.length : Int) := by omega
    obtain ⟨v, hv, hv1, hv2, hv3⟩ := hf p r (hok p (List.mem_of_getElem? hp)) hI0 (by omega)
    simp only [XG, Lsz, hsz, go_sem, seval, bnd_ite, hi1, gD_map hp, hln p, henc, hcl, hd, hv, Int.natCast_nonneg, w_i64 ((i : Int) + 1) (by omega)]
    by_cases c : v < 0
    · right; rw [if_pos c]
      exact .mk (by simp) (.inr ⟨rfl, rfl⟩)
    · left; rw [if_neg c]
      refine ⟨v, by simp, by omega, by omega, fun x hx => ?_⟩
      rw [take_snoc hp, List.mem_append, List.mem_singleton] at hx
      rcases hx with hx | rfl
      · exact hI2 x hx
      · exact hv3 (by omega)
  case last =>
    intro r ⟨hI0, hI1, hI2⟩
    simp only [XG, Lsz, hsz, go_sem, seval, bnd_ite, Int.lt_irrefl, decide_false]
    exact .mk (by simp) (.inl ⟨rfl, r, rfl, hI0, hI1, by rwa [List.take_length] at hI2⟩)
  case main =>
  rintro ⟨x, st⟩ ⟨h1, h2, h3⟩
  have hs : (0 : Int) = ((0 : Nat) : Int) := rfl
  rw [hs] at *
  simp only [h1]
  obtain ⟨e, m⟩ := st
  rcases h3 with ⟨hx, v, h4, h5, h6, h7⟩ | ⟨hx, h4⟩
  · simp only at hx h4; subst hx
    simp only [go_sem, seval, h4]
    exact ⟨v, rfl, by omega, by omega, fun _ => ⟨by omega, h7⟩⟩
  · simp only at hx h4; subst hx
    simp only [go_sem, seval, h4]
    exact ⟨-1, rfl, by omega, by omega, fun h => by omega⟩

omit [DecidableEq α] in
theorem gto {cs : α → List AV} {zc : List AV} {by_ : Nat} (ht : T k = some (Fto s by_ (.agg zc) n f)) (hby : by_ ≤ 1000) (hlen : ∀ x, (cs x).length = n) (hzl : zc.length = n) (hcl : ∀ x, (cs x).all closedC = true)
    (hu : ∀ m x, unpL m (cs x) = (cs x, [])) (huo : ∀ x, (cs x).all unpOk1 = true) (hco : ∀ x, coolL (cs x) = true) (hzo : coolL zc = true) (hoc : ∀ live x, (cs x).all (okC live) = true) (hset : ∀ x, Abs.setCells zc 0 (cs x) = cs x)
    (hf : ∀ x, E T f [.agg (cs x)] [] = some (.agg (cs x), [])) (l : List α) (hl : l.length ≤ 1048576) :
    E T k [.ro s (l.map fun x => .agg (cs x))] [] = some (.own s (l.map fun x => .agg (cs x)), []) := by
  have hcx : ∀ x, coolX (.agg (cs x)) = true := hco
  have hmi : ∀ g x, mapIdL g (cs x) = cs x := fun g x => by
    have := ((cool_ids g (fun _ _ _ _ => []) (.agg (cs x))).2 (hco x)).1
    simpa [mapId] using this
  have his : ∀ u x, idsL u (cs x) = [] := fun u x => by
    have := ((cool_ids (fun _ _ _ _ => .undef) u (.agg (cs x))).2 (hco x)).2
    simpa [idsV] using this
  have hzx : coolX (.agg zc) = true := hzo
  have hb : (by_ : Int) * (l.length : Int) ≤ 140737488355328 := by
    have : by_ * l.length ≤ 1000 * 1048576 := Nat.mul_le_mul hby hl
    have : ((by_ * l.length : Nat) : Int) ≤ ((1000 * 1048576 : Nat) : Int) := by exact_mod_cast this
    rw [Int.natCast_mul] at this
    omega
  rw [E_eq ht (Nat.le_of_ble_eq_true rfl)]
  simp only [Fto, hto, go_sem, seval, bnd_ite]
  rw [if_pos ⟨by omega, hb, by omega⟩]
  have hzm : ∀ g, mapIdL g zc = zc := fun g => by
    have := ((cool_ids g (fun _ _ _ _ => []) (.agg zc)).2 hzo).1
    simpa [mapId] using this
  have hzi : ∀ u, idsV u (.agg zc) = [] := fun u => ((cool_ids (fun _ _ _ _ => .undef) u (.agg zc)).2 hzo).2
  have hzj : ∀ u, idsL u zc = [] := fun u => by simpa [idsV] using hzi u
  have hir : ∀ u n, idsL u (List.replicate n (AV.agg zc)) = [] := fun u n => is_rep u n _ (hzi u)
  have htk : ∀ x, (cs x).take n = cs x := fun x => List.take_of_length_le (by rw [hlen]; exact Nat.le_refl _)
  have tk : ∀ (f : α → AV), (l.map f).take l.length = l.map f := fun f => by rw [List.take_of_length_le]; simp
  simp only [go_sem, seval, hir, hzm]
  have key := XL_fold (T := T) (b := 0) (hd := Hto) (x := Lto s by_ (.agg zc) n f) l (fun (_ : Unit) _ => ()) (fun i _ => ⟨[(0, .ro s (l.map fun x => .agg (cs x))), (3, .sl 0 0 l.length), (4, .int .i64 (i : Nat))], [some (s, fill (fun x => .agg (cs x)) (.agg zc) l i)]⟩)
    (r := (.exit 0, ⟨[(11, .bool false), (10, .int .i64 l.length), (9, .ro s (l.map fun x => .agg (cs x))), (8, .int .i64 l.length), (0, .ro s (l.map fun x => .agg (cs x))), (3, .sl 0 0 l.length), (4, .int .i64 l.length)], [some (s, l.map fun x => .agg (cs x))]⟩)) ?step () ?last
  case step =>
    intro i _ p hp hi
    have hi1 : (i : Int) < (l.length : Int) := by omega
    have fs := fill_set (f := fun x => AV.agg (cs x)) (z := .agg zc) hp
    simp only [XG, Lto, hto, go_sem, seval, bnd_ite, hi1, gD_map hp, hlen, htk, hcl, hu, huo, hoc, hf, hset, hmi, his, hzl, hzm, hzj, Int.natCast_nonneg, w_i64 ((i : Int) + 1) (by omega), fill_len (Nat.le_of_lt hi), fill_get hi, hi,
      fill_mi _ hcx hzx, fill_is _ hcx hzx, is_set]
    rw [fs]; rfl
  case last =>
    refine XL_out ?_ (by simp)
    simp only [XG, Lto, hto, go_sem, seval, bnd_ite, Int.lt_irrefl, decide_false, fill_all]
  have hs : (0 : Int) = ((0 : Nat) : Int) := rfl
  rw [fill_0] at key
  rw [hs, key]
  simp only [go_sem, seval, tk, is_map _ _ _ hcx, mi_map _ _ _ hcx, Nat.le_refl]
end
end Go.Proofs.YtaaajjinpppgeaaGreat
