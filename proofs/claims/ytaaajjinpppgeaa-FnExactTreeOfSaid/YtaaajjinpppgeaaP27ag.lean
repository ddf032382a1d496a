/- Part 7 of the texts of a claim, joined by a program of ours (ZTa). No condition. -/
import Derived.Test.YtaaajjinpppgeaaP27af
set_option linter.unusedVariables false
set_option linter.unusedSimpArgs false
set_option linter.unusedSectionVars false
namespace Go.Proofs.Ytaaajjinpppgeaa
open Go Go.Abs
set_option maxRecDepth 100000
def Heq : List Vw := [.tidy [0, 1, 5] [(0, none), (1, none), (5, none)]]
theorem heq (b : Nat) (s : St) : vwL b Heq s = vwL b [.tidy [0, 1, 5] [(0, none), (1, none), (5, none)]] s := rfl
def Leq (s : Nat) (n : Nat) (f : Nat) : EC := (.seq (.seq (.region [(.op .mv [(.tmp 5)] (some 11) true), (.op .mv [(.tmp 0)] (some 12) true), (.op .len [(.tmp 12)] (some 13) true), (.op (.bin .lss) [(.tmp 11), (.tmp 13)] (some 14) true)] false) (.cond (.tmp 14) .skip (.exit 0))) (.seq (.block 1 (.seq (.region [(.op .mv [(.tmp 0)] (some 17) false), (.op .mv [(.tmp 5)] (some 18) false), (.op (.iaddr s) [(.tmp 17), (.tmp 18)] (some 19) false), (.op (.loadN n) [(.tmp 19)] (some 20) false), (.op .mv [(.tmp 1)] (some 21) false), (.op .mv [(.tmp 5)] (some 22) false), (.op (.iaddr s) [(.tmp 21), (.tmp 22)] (some 23) false), (.op (.loadN n) [(.tmp 23)] (some 24) false), (.pc (.const (.fn f [])) [(.tmp 20), (.tmp 24)] (some 25) true), (.op .not [(.tmp 25)] (some 26) true)] true) (.cond (.tmp 26) (.seq (.region [(.op .mv [(.const (.bool false))] (some 4) true)] false) .ret) .skip))) (.region [(.op .mv [(.tmp 5)] (some 15) true), (.op (.bin .add) [(.tmp 15), (.const (.int .i64 1))] (some 16) true), (.op .mv [(.tmp 16)] (some 5) true)] false)))
def Feq (s : Nat) (n : Nat) (f : Nat) : EF := ⟨(.seq (.region [(.op .mv [(.const (.bool false))] (some 4) true)] false) (.seq (.seq (.region [(.op .mv [(.tmp 0)] (some 6) true), (.op .len [(.tmp 6)] (some 7) true), (.op .mv [(.tmp 1)] (some 8) true), (.op .len [(.tmp 8)] (some 9) true), (.op (.bin .neq) [(.tmp 7), (.tmp 9)] (some 10) true)] false) (.cond (.tmp 10) (.seq (.region [(.op .mv [(.const (.bool false))] (some 4) true)] false) .ret) .skip)) (.seq (.seq (.region [(.op .mv [(.const (.int .i64 0))] (some 5) true)] false) (.block 0 (.loop Heq (Leq s n f)))) (.seq (.region [(.op .mv [(.const (.bool true))] (some 4) true)] false) .ret)))), [(.tmp 4)], 27, .one, none⟩
def Hsz : List Vw := [.tidy [0, 1, 5] [(0, none), (1, none), (5, none)]]
theorem hsz (b : Nat) (s : St) : vwL b Hsz s = vwL b [.tidy [0, 1, 5] [(0, none), (1, none), (5, none)]] s := rfl
def Lsz (s : Nat) (n : Nat) (f : Nat) : EC := (.seq (.seq (.region [(.op .mv [(.tmp 5)] (some 12) true), (.op .mv [(.tmp 0)] (some 13) true), (.op .len [(.tmp 13)] (some 14) true), (.op (.bin .lss) [(.tmp 12), (.tmp 14)] (some 15) true)] false) (.cond (.tmp 15) .skip (.exit 0))) (.seq (.block 1 (.seq (.region [(.op .mv [(.tmp 0)] (some 18) true), (.op .mv [(.tmp 5)] (some 19) true), (.op (.iaddr s) [(.tmp 18), (.tmp 19)] (some 20) true), (.op (.loadN n) [(.tmp 20)] (some 21) true), (.op .mv [(.tmp 1)] (some 22) true), (.pc (.const (.fn f [])) [(.tmp 21), (.tmp 22)] (some 23) true), (.op .mv [(.tmp 23)] (some 1) true)] false) (.seq (.region [(.op .mv [(.tmp 1)] (some 24) true), (.op (.bin .lss) [(.tmp 24), (.const (.int .i64 0))] (some 25) true)] false) (.cond (.tmp 25) (.seq (.region [(.op .mv [(.const (.int .i64 (-1)))] (some 4) true)] false) .ret) .skip)))) (.region [(.op .mv [(.tmp 5)] (some 16) true), (.op (.bin .add) [(.tmp 16), (.const (.int .i64 1))] (some 17) true), (.op .mv [(.tmp 17)] (some 5) true)] false)))
def Fsz (s : Nat) (n : Nat) (f : Nat) : EF := ⟨(.seq (.region [(.op .mv [(.const (.int .i64 0))] (some 4) true)] false) (.seq (.region [(.op .mv [(.tmp 1)] (some 6) true), (.op .mv [(.tmp 0)] (some 7) true), (.op .len [(.tmp 7)] (some 8) true), (.op (.bin .sub) [(.tmp 6), (.tmp 8)] (some 9) true), (.op .mv [(.tmp 9)] (some 1) true)] false) (.seq (.seq (.region [(.op .mv [(.tmp 1)] (some 10) true), (.op (.bin .lss) [(.tmp 10), (.const (.int .i64 0))] (some 11) true)] false) (.cond (.tmp 11) (.seq (.region [(.op .mv [(.const (.int .i64 (-1)))] (some 4) true)] false) .ret) .skip)) (.seq (.seq (.region [(.op .mv [(.const (.int .i64 0))] (some 5) true)] false) (.block 0 (.loop Hsz (Lsz s n f)))) (.seq (.region [(.op .mv [(.tmp 1)] (some 26) true), (.op .mv [(.tmp 26)] (some 4) true)] false) .ret))))), [(.tmp 4)], 27, .one, none⟩
def Hto : List Vw := [.tidy [0, 3, 4] [(0, none), (3, none), (4, none)]]
theorem hto (b : Nat) (s : St) : vwL b Hto s = vwL b [.tidy [0, 3, 4] [(0, none), (3, none), (4, none)]] s := rfl
def Lto (s : Nat) (by_ : Nat) (z : AV) (n : Nat) (f : Nat) : EC := (.seq (.seq (.region [(.op .mv [(.tmp 4)] (some 8) true), (.op .mv [(.tmp 0)] (some 9) true), (.op .len [(.tmp 9)] (some 10) true), (.op (.bin .lss) [(.tmp 8), (.tmp 10)] (some 11) true)] false) (.cond (.tmp 11) .skip (.exit 0))) (.seq (.block 1 (.region [(.op .mv [(.tmp 3)] (some 14) true), (.op .mv [(.tmp 4)] (some 15) true), (.op .mv [(.tmp 0)] (some 16) true), (.op .mv [(.tmp 4)] (some 17) true), (.op (.iaddr s) [(.tmp 16), (.tmp 17)] (some 18) true), (.op (.loadN n) [(.tmp 18)] (some 19) true), (.pc (.const (.fn f [])) [(.tmp 19)] (some 20) true), (.op (.iaddr s) [(.tmp 14), (.tmp 15)] (some 21) true), (.op (.storeN n) [(.tmp 21), (.tmp 20)] none true)] false)) (.region [(.op .mv [(.tmp 4)] (some 12) true), (.op (.bin .add) [(.tmp 12), (.const (.int .i64 1))] (some 13) true), (.op .mv [(.tmp 13)] (some 4) true)] false)))
def Fto (s : Nat) (by_ : Nat) (z : AV) (n : Nat) (f : Nat) : EF := ⟨(.seq (.region [(.op .mv [(.const .nil)] (some 2) true)] false) (.seq (.region [(.op .mv [(.tmp 0)] (some 5) true), (.op .len [(.tmp 5)] (some 6) true), (.op (.mkslice s by_ z) [(.tmp 6), (.tmp 6)] (some 7) true), (.op .mv [(.tmp 7)] (some 3) true)] false) (.seq (.seq (.region [(.op .mv [(.const (.int .i64 0))] (some 4) true)] false) (.block 0 (.loop Hto (Lto s by_ z n f)))) (.seq (.region [(.op .mv [(.tmp 3)] (some 22) true), (.op .mv [(.tmp 22)] (some 2) true)] false) .ret)))), [(.tmp 2)], 23, .one, none⟩
section
variable {α : Type} [DecidableEq α] {enc : α → AV} {s n f k : Nat}
theorem geq (ht : T k = some (Feq s n f)) (henc : ∀ x, AV.agg ((enc x).cells.take n) = enc x) (hln : ∀ x, n ≤ (enc x).cells.length) (hcl : ∀ x, (enc x).cells.all closedC = true) (hd : ∀ x, isDef (enc x) = true)
    (hf : ∀ x y, E T f [enc x, enc y] [] = some (.bool (decide (x = y)), [])) (xs ys : List α) (ha : xs.length ≤ maxLen) : E T k [.ro s (xs.map enc), .ro s (ys.map enc)] [] = some (.bool (decide (xs = ys)), []) := by
  rw [E_eq ht (Nat.le_of_ble_eq_true rfl)]
  simp only [Feq, heq, go_sem, seval, bnd_ite]
  unfold maxLen at ha
  by_cases hl : xs.length = ys.length
  case neg =>
    have : xs ≠ ys := fun e => hl (by rw [e])
    simp [this, show ¬ (xs.length : Int) = ys.length by omega]
  refine (XL_inv (T := T) (b := 0) (hd := Heq) (x := Leq s n f) (β := Unit) (fun i _ => ⟨[(0, .ro s (xs.map enc)), (1, .ro s (ys.map enc)), (5, .int .i64 (i : Nat))], []⟩)
    (fun i _ => xs.take i = ys.take i) xs.length (fun r => (r.1 = .exit 0 ∧ xs = ys) ∨ (r.1 = .ret ∧ lookA r.2.env 4 = .bool false ∧ xs ≠ ys)) ?step ?last 0 () (by omega) rfl).elim ?main
  case step =>
    intro i _ hi hI
    obtain ⟨p, hp⟩ := get_at hi
    obtain ⟨q, hq⟩ := get_at (show i < ys.length by omega)
    have hi1 : (i : Int) < (xs.length : Int) := by omega
    have hi2 : (i : Int) < (ys.length : Int) := by omega
    simp only [XG, Leq, heq, go_sem, seval, bnd_ite, hi1, hi2, gD_map hp, gD_map hq, hln p, hln q, henc, hcl, hd, hf, Int.natCast_nonneg, w_i64 ((i : Int) + 1) (by omega)]
    by_cases he : p = q
    · left
      subst he
      exact ⟨(), by simp, by rw [take_eq_snoc hp hq]; exact ⟨hI, rfl⟩⟩
    · right
      have hne : xs ≠ ys := fun e => he (by rw [e] at hp; rw [hp] at hq; exact Option.some.inj hq)
      simp only [he, decide_false, Bool.not_false, if_true]
      exact .mk (by simp) (.inr ⟨rfl, rfl, hne⟩)
  case last =>
    intro _ hI
    have e : xs = ys := by rw [List.take_length] at hI; rw [hI, hl, List.take_length]
    simp only [XG, Leq, heq, go_sem, seval, bnd_ite, Int.lt_irrefl, decide_false]
    exact .mk (by simp) (.inl ⟨rfl, e⟩)
  case main =>
  rintro ⟨x, st⟩ ⟨h1, h2, h3⟩
  have hs : (0 : Int) = ((0 : Nat) : Int) := rfl
  simp only [hl, decide_true, Bool.not_true, Bool.false_eq_true, if_false]
  rw [hs, h1]
  obtain ⟨e, m⟩ := st
  rcases h3 with ⟨hx, h4⟩ | ⟨hx, h4, h5⟩
  · simp only at hx; subst hx; subst h4
    simp only [go_sem, seval]; simp
  · simp only at hx h4; subst hx
    simp only [go_sem, seval, h4]; simp [h5]
omit [DecidableEq α] in
theorem gsz {ok sm : α → Prop} (ht : T k = some (Fsz s n f)) (henc : ∀ x, AV.agg ((enc x).cells.take n) = enc x) (hln : ∀ x, n ≤ (enc x).cells.length) (hcl : ∀ x, (enc x).cells.all closedC = true) (hd : ∀ x, isDef (enc x) = true)
    (hf : ∀ x (r : Int), ok x → 0 ≤ r → r ≤ 1048576 → ∃ v : Int, E T f [enc x, .int .i64 r] [] = some (.int .i64 v, []) ∧ -1 ≤ v ∧ v ≤ r ∧ (0 ≤ v → sm x))
    (l : List α) (c : Int) (h0 : 0 ≤ c) (hn : c ≤ 1048576) (hl : l.length ≤ maxLen) (hok : ∀ x ∈ l, ok x) :
    ∃ r : Int, E T k [.ro s (l.map enc), .int .i64 c] [] = some (.int .i64 r, []) ∧ -1 ≤ r ∧ r ≤ c ∧ (0 ≤ r → l.length ≤ 1048576 ∧ ∀ x ∈ l, sm x) := by
  rw [E_eq ht (Nat.le_of_ble_eq_true rfl)]
  simp only [Fsz, hsz, go_sem, seval, bnd_ite]
  unfold maxLen at hl
  rw [w_i64 (c - (l.length : Int)) (by omega)]
  by_cases c1 : c - (l.length : Int) < 0
  · rw [if_pos c1]; exact ⟨_, rfl, by omega, by omega, fun h => by omega⟩
  rw [if_neg c1]
  refine (XL_inv (T := T) (b := 0) (hd := Hsz) (x := Lsz s n f) (β := Int) (fun i r => ⟨[(0, .ro s (l.map enc)), (1, .int .i64 r), (5, .int .i64 (i : Nat))], []⟩)
    (fun i r => 0 ≤ r ∧ r ≤ c ∧ ∀ x ∈ l.take i, sm x) l.length (fun r => (r.1 = .exit 0 ∧ ∃ v : Int, lookA r.2.env 1 = .int .i64 v ∧ 0 ≤ v ∧ v ≤ c ∧ ∀ x ∈ l, sm x) ∨ (r.1 = .ret ∧ lookA r.2.env 4 = .int .i64 (-1))) ?step ?last 0 (c - (l.length : Int)) (by omega) ⟨by omega, by omega, fun x hx => by simp at hx⟩).elim ?main
  case step =>
    intro i r hi ⟨hI0, hI1, hI2⟩
    obtain ⟨p, hp⟩ := get_at hi
    have hi1 : (i : Int) < (l.length : Int) := by omega
    obtain ⟨v, hv, hv1, hv2, hv3⟩ := hf p r (hok p (List.mem_of_getElem? hp)) hI0 (by omega)
    simp only [XG, Lsz, hsz, go_sem, seval, bnd_ite, hi1, gD_map hp, hln p, henc, hcl, hd, hv, Int.natCast_nonneg, w_i64 ((i : Int) + 1) (by omega)]
    by_cases c : v < 0
    · right; rw [if_pos c]
      exact .mk (by simp) (.inr ⟨rfl, rfl⟩)
    · left; rw [if_neg c]
      refine ⟨v, by simp, by omega, by omega, fun x hx => ?_⟩
      rw [take_snoc hp, List.mem_append, List.mem_singleton] at hx
      rcases hx with hx | rfl
      · exact hI2 x hx
      · exact hv3 (by omega)
  case last =>
    intro r ⟨hI0, hI1, hI2⟩
    simp only [XG, Lsz, hsz, go_sem, seval, bnd_ite, Int.lt_irrefl, decide_false]
    exact .mk (by simp) (.inl ⟨rfl, r, rfl, hI0, hI1, by rwa [List.take_length] at hI2⟩)
  case main =>
  rintro ⟨x, st⟩ ⟨h1, h2, h3⟩
  have hs : (0 : Int) = ((0 : Nat) : Int) := rfl
  rw [hs] at *
  simp only [h1]
  obtain ⟨e, m⟩ := st
  rcases h3 with ⟨hx, v, h4, h5, h6, h7⟩ | ⟨hx, h4⟩
  · simp only at hx h4; subst hx
    simp only [go_sem, seval, h4]
    exact ⟨v, rfl, by omega, by omega, fun _ => ⟨by omega, h7⟩⟩
  · simp only at hx h4; subst hx
    simp only [go_sem, seval, h4]
    exact ⟨-1, rfl, by omega, by omega, fun h => by omega⟩
omit [DecidableEq α] in
theorem gto {cs : α → List AV} {zc : List AV} {by_ : Nat} (ht : T k = some (Fto s by_ (.agg zc) n f)) (hby : by_ ≤ 1000) (hlen : ∀ x, (cs x).length = n) (hzl : zc.length = n) (hcl : ∀ x, (cs x).all closedC = true)
    (hu : ∀ m x, unpL m (cs x) = (cs x, [])) (huo : ∀ x, (cs x).all unpOk1 = true) (hco : ∀ x, coolL (cs x) = true) (hzo : coolL zc = true) (hoc : ∀ live x, (cs x).all (okC live) = true) (hset : ∀ x, Abs.setCells zc 0 (cs x) = cs x)
    (hf : ∀ x, E T f [.agg (cs x)] [] = some (.agg (cs x), [])) (l : List α) (hl : l.length ≤ 1048576) :
    E T k [.ro s (l.map fun x => .agg (cs x))] [] = some (.own s (l.map fun x => .agg (cs x)), []) := by
  have hcx : ∀ x, coolX (.agg (cs x)) = true := hco
  have hmi : ∀ g x, mapIdL g (cs x) = cs x := fun g x => by
    have := ((cool_ids g (fun _ _ _ _ => []) (.agg (cs x))).2 (hco x)).1
    simpa [mapId] using this
  have his : ∀ u x, idsL u (cs x) = [] := fun u x => by
    have := ((cool_ids (fun _ _ _ _ => .undef) u (.agg (cs x))).2 (hco x)).2
    simpa [idsV] using this
  have hzx : coolX (.agg zc) = true := hzo
  have hb : (by_ : Int) * (l.length : Int) ≤ 140737488355328 := by
    have : by_ * l.length ≤ 1000 * 1048576 := Nat.mul_le_mul hby hl
    have : ((by_ * l.length : Nat) : Int) ≤ ((1000 * 1048576 : Nat) : Int) := by exact_mod_cast this
    rw [Int.natCast_mul] at this
    omega
  rw [E_eq ht (Nat.le_of_ble_eq_true rfl)]
  simp only [Fto, hto, go_sem, seval, bnd_ite]
  rw [if_pos ⟨by omega, hb, by omega⟩]
  have hzm : ∀ g, mapIdL g zc = zc := fun g => by
    have := ((cool_ids g (fun _ _ _ _ => []) (.agg zc)).2 hzo).1
    simpa [mapId] using this
  have hzi : ∀ u, idsV u (.agg zc) = [] := fun u => ((cool_ids (fun _ _ _ _ => .undef) u (.agg zc)).2 hzo).2
  have hzj : ∀ u, idsL u zc = [] := fun u => by simpa [idsV] using hzi u
  have hir : ∀ u n, idsL u (List.replicate n (AV.agg zc)) = [] := fun u n => is_rep u n _ (hzi u)
  have htk : ∀ x, (cs x).take n = cs x := fun x => List.take_of_length_le (by rw [hlen]; exact Nat.le_refl _)
  have tk : ∀ (f : α → AV), (l.map f).take l.length = l.map f := fun f => by rw [List.take_of_length_le]; simp
  simp only [go_sem, seval, hir, hzm]
  have key := XL_fold (T := T) (b := 0) (hd := Hto) (x := Lto s by_ (.agg zc) n f) l (fun (_ : Unit) _ => ()) (fun i _ => ⟨[(0, .ro s (l.map fun x => .agg (cs x))), (3, .sl 0 0 l.length), (4, .int .i64 (i : Nat))], [some (s, fill (fun x => .agg (cs x)) (.agg zc) l i)]⟩)
    (r := (.exit 0, ⟨[(11, .bool false), (10, .int .i64 l.length), (9, .ro s (l.map fun x => .agg (cs x))), (8, .int .i64 l.length), (0, .ro s (l.map fun x => .agg (cs x))), (3, .sl 0 0 l.length), (4, .int .i64 l.length)], [some (s, l.map fun x => .agg (cs x))]⟩)) ?step () ?last
  case step =>
    intro i _ p hp hi
    have hi1 : (i : Int) < (l.length : Int) := by omega
    have fs := fill_set (f := fun x => AV.agg (cs x)) (z := .agg zc) hp
    simp only [XG, Lto, hto, go_sem, seval, bnd_ite, hi1, gD_map hp, hlen, htk, hcl, hu, huo, hoc, hf, hset, hmi, his, hzl, hzm, hzj, Int.natCast_nonneg, w_i64 ((i : Int) + 1) (by omega), fill_len (Nat.le_of_lt hi), fill_get hi, hi,
      fill_mi _ hcx hzx, fill_is _ hcx hzx, is_set]
    rw [fs]; rfl
  case last =>
    refine XL_out ?_ (by simp)
    simp only [XG, Lto, hto, go_sem, seval, bnd_ite, Int.lt_irrefl, decide_false, fill_all]
  have hs : (0 : Int) = ((0 : Nat) : Int) := rfl
  rw [fill_0] at key
  rw [hs, key]
  simp only [go_sem, seval, tk, is_map _ _ _ hcx, mi_map _ _ _ hcx, Nat.le_refl]
end
end Go.Proofs.Ytaaajjinpppgeaa
namespace Go.Proofs.Ytaaajjinpppgeaa
open Go Go.Abs
set_option maxRecDepth 100000
def iv (z : Int) : AV := .int .i64 z
def bv (b : Bool) : AV := .bool b
theorem iv_cool (x : Int) : coolX (iv x) = true := rfl
theorem iv_len (x : Int) : (iv x).cells.length = 1 := rfl
theorem iv_mi (g : Bool → Nat → Nat → Nat → AV) (l : List Int) : mapIdL g (l.map iv) = l.map iv := mi_map g iv l iv_cool
theorem iv_is (u : Bool → Nat → Nat → Nat → List Nat) (l : List Int) : idsL u (l.map iv) = [] := is_map u iv l iv_cool
theorem iv_coR (l : List Int) : coolR 1 (l.map iv) = true := coR_map 1 iv l iv_len iv_cool
theorem iv_ice (x : Int) : ice (iv x) = iv x := rfl
theorem iv_ic (l : List Int) : iceL (l.map iv) = l.map iv := by rw [ice_m]; exact List.map_congr_left fun x _ => iv_ice x
theorem iv_rf (x : Int) : (iv x).roFree = true := rfl
theorem iv_rfL (l : List Int) : roFreeL (l.map iv) = true := rf_map iv l iv_rf
theorem iv_no (x : Int) : (iv x).cells.all noOwnC = true := rfl
theorem iv_noL (l : List Int) : (l.map iv).all (fun x => x.cells.all noOwnC) = true := no_map iv l iv_no
attribute [go_sem] iv_mi iv_is iv_coR iv_ic iv_ice iv_rfL iv_noL
theorem bv_cool (x : Bool) : coolX (bv x) = true := rfl
theorem bv_len (x : Bool) : (bv x).cells.length = 1 := rfl
theorem bv_mi (g : Bool → Nat → Nat → Nat → AV) (l : List Bool) : mapIdL g (l.map bv) = l.map bv := mi_map g bv l bv_cool
theorem bv_is (u : Bool → Nat → Nat → Nat → List Nat) (l : List Bool) : idsL u (l.map bv) = [] := is_map u bv l bv_cool
theorem bv_coR (l : List Bool) : coolR 1 (l.map bv) = true := coR_map 1 bv l bv_len bv_cool
theorem bv_ice (x : Bool) : ice (bv x) = bv x := rfl
theorem bv_ic (l : List Bool) : iceL (l.map bv) = l.map bv := by rw [ice_m]; exact List.map_congr_left fun x _ => bv_ice x
theorem bv_rf (x : Bool) : (bv x).roFree = true := rfl
theorem bv_rfL (l : List Bool) : roFreeL (l.map bv) = true := rf_map bv l bv_rf
theorem bv_no (x : Bool) : (bv x).cells.all noOwnC = true := rfl
theorem bv_noL (l : List Bool) : (l.map bv).all (fun x => x.cells.all noOwnC) = true := no_map bv l bv_no
attribute [go_sem] bv_mi bv_is bv_coR bv_ic bv_ice bv_rfL bv_noL
structure Slt where
  name : ByteArray
  ino : Int
  deriving DecidableEq
def slt (x : Slt) : AV := .agg [.str x.name, .int .i64 x.ino]
def Slt.ok (x : Slt) : Prop := x.name.size ≤ maxLen
theorem slt_cool (x : Slt) : coolX (slt x) = true := rfl
theorem slt_len (x : Slt) : (slt x).cells.length = 2 := rfl
theorem slt_mi (g : Bool → Nat → Nat → Nat → AV) (l : List Slt) : mapIdL g (l.map slt) = l.map slt := mi_map g slt l slt_cool
theorem slt_is (u : Bool → Nat → Nat → Nat → List Nat) (l : List Slt) : idsL u (l.map slt) = [] := is_map u slt l slt_cool
theorem slt_coR (l : List Slt) : coolR 2 (l.map slt) = true := coR_map 2 slt l slt_len slt_cool
theorem slt_ice (x : Slt) : ice (slt x) = slt x := rfl
theorem slt_ic (l : List Slt) : iceL (l.map slt) = l.map slt := by rw [ice_m]; exact List.map_congr_left fun x _ => slt_ice x
theorem slt_rf (x : Slt) : (slt x).roFree = true := rfl
theorem slt_rfL (l : List Slt) : roFreeL (l.map slt) = true := rf_map slt l slt_rf
theorem slt_no (x : Slt) : (slt x).cells.all noOwnC = true := rfl
theorem slt_noL (l : List Slt) : (l.map slt).all (fun x => x.cells.all noOwnC) = true := no_map slt l slt_no
attribute [go_sem] slt_mi slt_is slt_coR slt_ic slt_ice slt_rfL slt_noL
structure Ino where
  kind : Int
  links : Int
  ptrs : List Int
  deriving DecidableEq
def ino (x : Ino) : AV := .agg [.int .i64 x.kind, .int .i64 x.links, .ro 1 (x.ptrs.map iv)]
def inoO (x : Ino) : AV := .agg [.int .i64 x.kind, .int .i64 x.links, .own 1 (x.ptrs.map iv)]
def Ino.ok (x : Ino) : Prop := x.ptrs.length ≤ maxLen
def Ino.sm (x : Ino) : Prop := x.ptrs.length ≤ 1048576
theorem ino_cool (x : Ino) : coolX (ino x) = true := rfl
theorem ino_len (x : Ino) : (ino x).cells.length = 3 := rfl
theorem ino_mi (g : Bool → Nat → Nat → Nat → AV) (l : List Ino) : mapIdL g (l.map ino) = l.map ino := mi_map g ino l ino_cool
theorem ino_is (u : Bool → Nat → Nat → Nat → List Nat) (l : List Ino) : idsL u (l.map ino) = [] := is_map u ino l ino_cool
theorem ino_coR (l : List Ino) : coolR 3 (l.map ino) = true := coR_map 3 ino l ino_len ino_cool
theorem ino_ice (x : Ino) : ice (ino x) = ino x := rfl
theorem ino_ic (l : List Ino) : iceL (l.map ino) = l.map ino := by rw [ice_m]; exact List.map_congr_left fun x _ => ino_ice x
theorem ino_no (x : Ino) : (ino x).cells.all noOwnC = true := rfl
theorem ino_noL (l : List Ino) : (l.map ino).all (fun x => x.cells.all noOwnC) = true := no_map ino l ino_no
attribute [go_sem] ino_mi ino_is ino_coR ino_ic ino_ice ino_noL
theorem inoO_cool (x : Ino) : coolX (inoO x) = true := by simp only [inoO, go_sem, Bool.and_self]
theorem inoO_len (x : Ino) : (inoO x).cells.length = 3 := rfl
theorem inoO_mi (g : Bool → Nat → Nat → Nat → AV) (l : List Ino) : mapIdL g (l.map inoO) = l.map inoO := mi_map g inoO l inoO_cool
theorem inoO_is (u : Bool → Nat → Nat → Nat → List Nat) (l : List Ino) : idsL u (l.map inoO) = [] := is_map u inoO l inoO_cool
theorem inoO_coR (l : List Ino) : coolR 3 (l.map inoO) = true := coR_map 3 inoO l inoO_len inoO_cool
theorem inoO_ice (x : Ino) : ice (inoO x) = ino x := by simp only [inoO, ino, go_sem]
theorem inoO_ic (l : List Ino) : iceL (l.map inoO) = l.map ino := by rw [ice_m]; exact List.map_congr_left fun x _ => inoO_ice x
theorem inoO_rf (x : Ino) : (inoO x).roFree = true := by simp [inoO, AV.roFree, roFreeL, iv_rfL]
theorem inoO_rfL (l : List Ino) : roFreeL (l.map inoO) = true := rf_map inoO l inoO_rf
attribute [go_sem] inoO_mi inoO_is inoO_coR inoO_ic inoO_ice inoO_rfL
structure Blk where
  dir : Bool
  slots : List Slt
  text : ByteArray
  deriving DecidableEq
def blk (x : Blk) : AV := .agg [.bool x.dir, .ro 2 (x.slots.map slt), .str x.text]
def blkO (x : Blk) : AV := .agg [.bool x.dir, .own 2 (x.slots.map slt), .str x.text]
def Blk.ok (x : Blk) : Prop := x.slots.length ≤ maxLen ∧ x.text.size ≤ maxLen ∧ ∀ s ∈ x.slots, s.ok
def Blk.sm (x : Blk) : Prop := x.slots.length ≤ 1048576
theorem blk_cool (x : Blk) : coolX (blk x) = true := rfl
theorem blk_len (x : Blk) : (blk x).cells.length = 3 := rfl
theorem blk_mi (g : Bool → Nat → Nat → Nat → AV) (l : List Blk) : mapIdL g (l.map blk) = l.map blk := mi_map g blk l blk_cool
theorem blk_is (u : Bool → Nat → Nat → Nat → List Nat) (l : List Blk) : idsL u (l.map blk) = [] := is_map u blk l blk_cool
theorem blk_coR (l : List Blk) : coolR 3 (l.map blk) = true := coR_map 3 blk l blk_len blk_cool
theorem blk_ice (x : Blk) : ice (blk x) = blk x := rfl
theorem blk_ic (l : List Blk) : iceL (l.map blk) = l.map blk := by rw [ice_m]; exact List.map_congr_left fun x _ => blk_ice x
theorem blk_no (x : Blk) : (blk x).cells.all noOwnC = true := rfl
theorem blk_noL (l : List Blk) : (l.map blk).all (fun x => x.cells.all noOwnC) = true := no_map blk l blk_no
attribute [go_sem] blk_mi blk_is blk_coR blk_ic blk_ice blk_noL
theorem blkO_cool (x : Blk) : coolX (blkO x) = true := by simp only [blkO, go_sem, Bool.and_self]
theorem blkO_len (x : Blk) : (blkO x).cells.length = 3 := rfl
theorem blkO_mi (g : Bool → Nat → Nat → Nat → AV) (l : List Blk) : mapIdL g (l.map blkO) = l.map blkO := mi_map g blkO l blkO_cool
theorem blkO_is (u : Bool → Nat → Nat → Nat → List Nat) (l : List Blk) : idsL u (l.map blkO) = [] := is_map u blkO l blkO_cool
theorem blkO_coR (l : List Blk) : coolR 3 (l.map blkO) = true := coR_map 3 blkO l blkO_len blkO_cool
theorem blkO_ice (x : Blk) : ice (blkO x) = blk x := by simp only [blkO, blk, go_sem]
theorem blkO_ic (l : List Blk) : iceL (l.map blkO) = l.map blk := by rw [ice_m]; exact List.map_congr_left fun x _ => blkO_ice x
theorem blkO_rf (x : Blk) : (blkO x).roFree = true := by simp [blkO, AV.roFree, roFreeL, slt_rfL]
theorem blkO_rfL (l : List Blk) : roFreeL (l.map blkO) = true := rf_map blkO l blkO_rf
attribute [go_sem] blkO_mi blkO_is blkO_coR blkO_ic blkO_ice blkO_rfL
theorem slt_eq (a b : Slt) : a = b ↔ a.name = b.name ∧ a.ino = b.ino := by cases a; cases b; simp
theorem ino_eq (a b : Ino) : a = b ↔ a.kind = b.kind ∧ a.links = b.links ∧ a.ptrs = b.ptrs := by cases a; cases b; simp
theorem blk_eq (a b : Blk) : a = b ↔ a.dir = b.dir ∧ a.slots = b.slots ∧ a.text = b.text := by cases a; cases b; simp
theorem e182 (l : List Int) (n : Int) (h0 : 0 ≤ n) (hn : n ≤ 1048576) (hl : l.length ≤ maxLen) :
    ∃ r : Int, E T 182 [.ro 1 (l.map iv), .int .i64 n] [] = some (.int .i64 r, []) ∧ -1 ≤ r ∧ r ≤ n ∧ (0 ≤ r → l.length ≤ 1048576) := by
  rw [E_eq t182 (Nat.le_of_ble_eq_true rfl)]
  simp only [F182, go_sem, seval, bnd_ite]
  unfold maxLen at hl
  rw [w_i64 (n - (l.length : Int)) (by omega)]
  by_cases c1 : n - (l.length : Int) < 0
  · rw [if_pos c1]; exact ⟨_, rfl, by omega, by omega, fun h => by omega⟩
  rw [if_neg c1]; exact ⟨_, rfl, by omega, by omega, fun h => by omega⟩
theorem e134 (l : List Bool) (n : Int) (h0 : 0 ≤ n) (hn : n ≤ 1048576) (hl : l.length ≤ maxLen) :
    ∃ r : Int, E T 134 [.ro 1 (l.map bv), .int .i64 n] [] = some (.int .i64 r, []) ∧ -1 ≤ r ∧ r ≤ n ∧ (0 ≤ r → l.length ≤ 1048576) := by
  rw [E_eq t134 (Nat.le_of_ble_eq_true rfl)]
  simp only [F134, go_sem, seval, bnd_ite]
  unfold maxLen at hl
  rw [w_i64 (n - (l.length : Int)) (by omega)]
  by_cases c1 : n - (l.length : Int) < 0
  · rw [if_pos c1]; exact ⟨_, rfl, by omega, by omega, fun h => by omega⟩
  rw [if_neg c1]; exact ⟨_, rfl, by omega, by omega, fun h => by omega⟩
theorem e211 (x : Ino) (n : Int) (h0 : 0 ≤ n) (hn : n ≤ 1048576) (hl : x.ok) :
    ∃ r : Int, E T 211 [ino x, .int .i64 n] [] = some (.int .i64 r, []) ∧ -1 ≤ r ∧ r ≤ n ∧ (0 ≤ r → x.sm) := by
  rw [E_eq t211 (Nat.le_of_ble_eq_true rfl)]
  obtain ⟨r, h1, h2, h3, h4⟩ := e182 x.ptrs n h0 hn hl
  simp only [ino, F211, go_sem, seval, bnd_ite, h1]
  by_cases c1 : r < 0
  · rw [if_pos c1]; exact ⟨_, rfl, by omega, by omega, fun h => by omega⟩
  rw [if_neg c1]; exact ⟨_, rfl, by omega, by omega, fun h => h4 (by omega)⟩
theorem e292 (x : Slt) (n : Int) (h0 : 0 ≤ n) (hn : n ≤ 1048576) (hl : x.ok) :
    ∃ r : Int, E T 292 [slt x, .int .i64 n] [] = some (.int .i64 r, []) ∧ -1 ≤ r ∧ r ≤ n ∧ (0 ≤ r → True) := by
  rw [E_eq t292 (Nat.le_of_ble_eq_true rfl)]
  unfold Slt.ok maxLen at hl
  simp only [slt, F292, go_sem, seval, bnd_ite]
  rw [w_i64 (n - (x.name.size : Int)) (by omega)]
  by_cases c1 : n - (x.name.size : Int) < 0
  · rw [if_pos c1]; exact ⟨_, rfl, by omega⟩
  rw [if_neg c1]; exact ⟨_, rfl, by omega⟩
theorem t263 : T 263 = some (Fsz 2 2 292) := tab Try.func263 (by kernel_rfl) rfl
theorem t124 : T 124 = some (Fsz 3 3 211) := tab Try.func124 (by kernel_rfl) rfl
theorem t125 : T 125 = some (Fsz 3 3 212) := tab Try.func125 (by kernel_rfl) rfl
theorem e263 (l : List Slt) (n : Int) (h0 : 0 ≤ n) (hn : n ≤ 1048576) (hl : l.length ≤ maxLen) (hok : ∀ x ∈ l, x.ok) :
    ∃ r : Int, E T 263 [.ro 2 (l.map slt), .int .i64 n] [] = some (.int .i64 r, []) ∧ -1 ≤ r ∧ r ≤ n ∧ (0 ≤ r → l.length ≤ 1048576 ∧ ∀ x ∈ l, True) :=
  gsz (ok := Slt.ok) t263 (fun _ => rfl) (fun _ => Nat.le_refl _) (fun _ => rfl) (fun _ => rfl) (fun x r h h0 h1 => e292 x r h0 h1 h) l n h0 hn hl hok
theorem e212 (x : Blk) (n : Int) (h0 : 0 ≤ n) (hn : n ≤ 1048576) (hl : x.ok) :
    ∃ r : Int, E T 212 [blk x, .int .i64 n] [] = some (.int .i64 r, []) ∧ -1 ≤ r ∧ r ≤ n ∧ (0 ≤ r → x.sm) := by
  rw [E_eq t212 (Nat.le_of_ble_eq_true rfl)]
  obtain ⟨hl1, hl2, hl3⟩ := hl
  obtain ⟨r, h1, h2, h3, h4⟩ := e263 x.slots n h0 hn hl1 hl3
  unfold maxLen at hl2
  simp only [blk, F212, go_sem, seval, bnd_ite, h1]
  by_cases c1 : r < 0
  · rw [if_pos c1]; exact ⟨_, rfl, by omega, by omega, fun h => by omega⟩
  rw [if_neg c1, w_i64 (r - (x.text.size : Int)) (by omega)]
  by_cases c2 : r - (x.text.size : Int) < 0
  · rw [if_pos c2]; exact ⟨_, rfl, by omega, by omega, fun h => by omega⟩
  rw [if_neg c2]; exact ⟨_, rfl, by omega, by omega, fun h => (h4 (by omega)).1⟩
theorem e124 (l : List Ino) (n : Int) (h0 : 0 ≤ n) (hn : n ≤ 1048576) (hl : l.length ≤ maxLen) (hok : ∀ x ∈ l, x.ok) :
    ∃ r : Int, E T 124 [.ro 3 (l.map ino), .int .i64 n] [] = some (.int .i64 r, []) ∧ -1 ≤ r ∧ r ≤ n ∧ (0 ≤ r → l.length ≤ 1048576 ∧ ∀ x ∈ l, x.sm) :=
  gsz (ok := Ino.ok) t124 (fun _ => rfl) (fun _ => Nat.le_refl _) (fun _ => rfl) (fun _ => rfl) (fun x r h h0 h1 => e211 x r h0 h1 h) l n h0 hn hl hok
theorem e125 (l : List Blk) (n : Int) (h0 : 0 ≤ n) (hn : n ≤ 1048576) (hl : l.length ≤ maxLen) (hok : ∀ x ∈ l, x.ok) :
    ∃ r : Int, E T 125 [.ro 3 (l.map blk), .int .i64 n] [] = some (.int .i64 r, []) ∧ -1 ≤ r ∧ r ≤ n ∧ (0 ≤ r → l.length ≤ 1048576 ∧ ∀ x ∈ l, x.sm) :=
  gsz (ok := Blk.ok) t125 (fun _ => rfl) (fun _ => Nat.le_refl _) (fun _ => rfl) (fun _ => rfl) (fun x r h h0 h1 => e212 x r h0 h1 h) l n h0 hn hl hok
structure Dsk where
  used : List Bool
  taken : List Bool
  inos : List Ino
  blks : List Blk
  deriving DecidableEq
def dsk (x : Dsk) : AV := .agg [.ro 1 (x.used.map bv), .ro 1 (x.taken.map bv), .ro 3 (x.inos.map ino), .ro 3 (x.blks.map blk)]
def dskO (x : Dsk) : AV := .agg [.own 1 (x.used.map bv), .own 1 (x.taken.map bv), .own 3 (x.inos.map inoO), .own 3 (x.blks.map blkO)]
structure Dsk.ok (x : Dsk) : Prop where
  used : x.used.length ≤ maxLen
  taken : x.taken.length ≤ maxLen
  inos : x.inos.length ≤ maxLen
  blks : x.blks.length ≤ maxLen
  ino : ∀ y ∈ x.inos, y.ok
  blk : ∀ y ∈ x.blks, y.ok
structure Dsk.sm (x : Dsk) : Prop where
  used : x.used.length ≤ 1048576
  taken : x.taken.length ≤ 1048576
  inos : x.inos.length ≤ 1048576
  blks : x.blks.length ≤ 1048576
  ino : ∀ y ∈ x.inos, y.sm
  blk : ∀ y ∈ x.blks, y.sm
theorem e123 (a b : List Bool) (n : Int) (h0 : 0 ≤ n) (hn : n ≤ 1048576) (ha : a.length ≤ maxLen) (hb : b.length ≤ maxLen) :
    ∃ r : Int, E T 123 [.agg [.ro 1 (a.map bv), .ro 1 (b.map bv)], .int .i64 n] [] = some (.int .i64 r, []) ∧ -1 ≤ r ∧ r ≤ n ∧ (0 ≤ r → a.length ≤ 1048576 ∧ b.length ≤ 1048576) := by
  rw [E_eq t123 (Nat.le_of_ble_eq_true rfl)]
  obtain ⟨r, h1, h2, h3, h4⟩ := e134 a n h0 hn ha
  simp only [F123, go_sem, seval, bnd_ite, h1]
  by_cases c1 : r < 0
  · rw [if_pos c1]; exact ⟨_, rfl, by omega, by omega, fun h => by omega⟩
  obtain ⟨r2, g1, g2, g3, g4⟩ := e134 b r (by omega) (by omega) hb
  rw [if_neg c1]
  simp only [go_sem, seval, bnd_ite, g1]
  by_cases c2 : r2 < 0
  · rw [if_pos c2]; exact ⟨_, rfl, by omega, by omega, fun h => by omega⟩
  rw [if_neg c2]; exact ⟨_, rfl, by omega, by omega, fun h => ⟨h4 (by omega), g4 (by omega)⟩⟩
theorem e38 (x : Dsk) (n : Int) (h0 : 0 ≤ n) (hn : n ≤ 1048576) (hk : x.ok) :
    ∃ r : Int, E T 38 [dsk x, .int .i64 n] [] = some (.int .i64 r, []) ∧ -1 ≤ r ∧ r ≤ n ∧ (0 ≤ r → x.sm) := by
  rw [E_eq t38 (Nat.le_of_ble_eq_true rfl)]
  obtain ⟨r, h1, h2, h3, h4⟩ := e123 x.used x.taken n h0 hn hk.used hk.taken
  simp only [dsk, F38, go_sem, seval, bnd_ite, h1]
  by_cases c1 : r < 0
  · rw [if_pos c1]; exact ⟨_, rfl, by omega, by omega, fun h => by omega⟩
  obtain ⟨r2, g1, g2, g3, g4⟩ := e124 x.inos r (by omega) (by omega) hk.inos hk.ino
  rw [if_neg c1]
  simp only [go_sem, seval, bnd_ite, g1]
  by_cases c2 : r2 < 0
  · rw [if_pos c2]; exact ⟨_, rfl, by omega, by omega, fun h => by omega⟩
  obtain ⟨r3, f1, f2, f3, f4⟩ := e125 x.blks r2 (by omega) (by omega) hk.blks hk.blk
  rw [if_neg c2]
  simp only [go_sem, seval, bnd_ite, f1]
  by_cases c3 : r3 < 0
  · rw [if_pos c3]; exact ⟨_, rfl, by omega, by omega, fun h => by omega⟩
  rw [if_neg c3]; exact ⟨_, rfl, by omega, by omega, fun h => ⟨(h4 (by omega)).1, (h4 (by omega)).2, (g4 (by omega)).1, (f4 (by omega)).1, (g4 (by omega)).2, (f4 (by omega)).2⟩⟩
end Go.Proofs.Ytaaajjinpppgeaa
namespace Go.Proofs.Ytaaajjinpppgeaa
open Go Go.Abs
set_option maxRecDepth 100000
theorem e184 (l : List Int) (hl : l.length ≤ 1048576) : E T 184 [.ro 1 (l.map iv)] [] = some (.own 1 (l.map iv), []) := by
  rw [E_eq t184 (Nat.le_of_ble_eq_true rfl)]
  simp only [F184, h184_3, go_sem, seval, bnd_ite]
  rw [if_pos ⟨by omega, by omega, by omega⟩]
  have key := XL_fold (T := T) (b := 0) (hd := H184_3) (x := L184_3) l (fun (_ : Unit) _ => ()) (fun i _ => ⟨[(0, .ro 1 (l.map iv)), (3, .sl 0 0 l.length), (4, .int .i64 (i : Nat))], [some (1, fill iv (.int .i64 0) l i)]⟩)
    (r := (.exit 0, ⟨[(11, .bool false), (10, .int .i64 l.length), (9, .ro 1 (l.map iv)), (8, .int .i64 l.length), (0, .ro 1 (l.map iv)), (3, .sl 0 0 l.length), (4, .int .i64 l.length)], [some (1, l.map iv)]⟩)) ?step () ?last
  case step =>
    intro i _ p hp hi
    have hi1 : (i : Int) < (l.length : Int) := by omega
    have fs : (fill iv (.int .i64 0) l i).set i (.int .i64 p) = _ := fill_set (f := iv) (z := .int .i64 0) hp
    simp only [XG, L184_3, h184_3, go_sem, seval, bnd_ite, hi1, gD_map hp, iv, Int.natCast_nonneg, w_i64 ((i : Int) + 1) (by omega), fill_len (Nat.le_of_lt hi), fill_get hi, hi,
      fill_mi _ iv_cool (z := .int .i64 0) rfl, fill_is _ iv_cool (z := .int .i64 0) rfl, is_set]
    rw [fs]; rfl
  case last =>
    refine XL_out ?_ (by simp)
    simp only [XG, L184_3, h184_3, go_sem, seval, bnd_ite, Int.lt_irrefl, decide_false, fill_all]
  have hir : ∀ u n, idsL u (List.replicate n (.int .i64 0 : AV)) = [] := fun u n => is_rep u n _ rfl
  have e0 : ((0 : Nat) : Int) = 0 := rfl
  rw [fill_0, e0] at key
  simp only [key, hir]
  simp only [go_sem, seval, tk_map, Nat.le_refl]
theorem e136 (l : List Bool) (hl : l.length ≤ 1048576) : E T 136 [.ro 1 (l.map bv)] [] = some (.own 1 (l.map bv), []) := by
  rw [E_eq t136 (Nat.le_of_ble_eq_true rfl)]
  simp only [F136, h136_3, go_sem, seval, bnd_ite]
  rw [if_pos ⟨by omega, by omega, by omega⟩]
  have key := XL_fold (T := T) (b := 0) (hd := H136_3) (x := L136_3) l (fun (_ : Unit) _ => ()) (fun i _ => ⟨[(0, .ro 1 (l.map bv)), (3, .sl 0 0 l.length), (4, .int .i64 (i : Nat))], [some (1, fill bv (.bool false) l i)]⟩)
    (r := (.exit 0, ⟨[(11, .bool false), (10, .int .i64 l.length), (9, .ro 1 (l.map bv)), (8, .int .i64 l.length), (0, .ro 1 (l.map bv)), (3, .sl 0 0 l.length), (4, .int .i64 l.length)], [some (1, l.map bv)]⟩)) ?step () ?last
  case step =>
    intro i _ p hp hi
    have hi1 : (i : Int) < (l.length : Int) := by omega
    have fs : (fill bv (.bool false) l i).set i (.bool p) = _ := fill_set (f := bv) (z := .bool false) hp
    simp only [XG, L136_3, h136_3, go_sem, seval, bnd_ite, hi1, gD_map hp, bv, Int.natCast_nonneg, w_i64 ((i : Int) + 1) (by omega), fill_len (Nat.le_of_lt hi), fill_get hi, hi,
      fill_mi _ bv_cool (z := .bool false) rfl, fill_is _ bv_cool (z := .bool false) rfl, is_set]
    rw [fs]; rfl
  case last =>
    refine XL_out ?_ (by simp)
    simp only [XG, L136_3, h136_3, go_sem, seval, bnd_ite, Int.lt_irrefl, decide_false, fill_all]
  have hir : ∀ u n, idsL u (List.replicate n (.bool false : AV)) = [] := fun u n => is_rep u n _ rfl
  have e0 : ((0 : Nat) : Int) = 0 := rfl
  rw [fill_0, e0] at key
  simp only [key, hir]
  simp only [go_sem, seval, tk_map, Nat.le_refl]
theorem e293 (x : Slt) : E T 293 [slt x] [] = some (slt x, []) := by
  rw [E_eq t293 (Nat.le_of_ble_eq_true rfl)]; simp only [slt, F293, go_sem, seval]
theorem t264 : T 264 = some (Fto 2 24 (.agg [.str ⟨#[]⟩, .int .i64 0]) 2 293) := tab Try.func264 (by kernel_rfl) rfl
theorem e264 (l : List Slt) (hl : l.length ≤ 1048576) : E T 264 [.ro 2 (l.map slt)] [] = some (.own 2 (l.map slt), []) :=
  gto (cs := fun x : Slt => [.str x.name, .int .i64 x.ino]) t264 (by omega) (fun _ => rfl) rfl (fun _ => rfl) (fun _ _ => rfl) (fun _ => rfl) (fun _ => rfl) rfl (fun _ _ => rfl) (fun _ => rfl) (fun x => e293 x) l hl
theorem e213 (x : Ino) (h : x.sm) : E T 213 [ino x] [] = some (inoO x, []) := by
  rw [E_eq t213 (Nat.le_of_ble_eq_true rfl)]; simp only [ino, inoO, F213, go_sem, seval, e184 x.ptrs h]
theorem e214 (x : Blk) (h : x.sm) : E T 214 [blk x] [] = some (blkO x, []) := by
  rw [E_eq t214 (Nat.le_of_ble_eq_true rfl)]; simp only [blk, blkO, F214, go_sem, seval, e264 x.slots h]
theorem t128 : T 128 = some (Fto 3 40 (.agg [.int .i64 0, .int .i64 0, .nil]) 3 213) := tab Try.func128 (by kernel_rfl) rfl
theorem e128 (l : List Ino) (hl : l.length ≤ 1048576) (hs : ∀ x ∈ l, x.sm) : E T 128 [.ro 3 (l.map ino)] [] = some (.own 3 (l.map inoO), []) := by
  rw [E_eq t128 (Nat.le_of_ble_eq_true rfl)]
  simp only [Fto, hto, go_sem, seval, bnd_ite]
  rw [if_pos ⟨by omega, by omega, by omega⟩]
  have key := XL_fold (T := T) (b := 0) (hd := Hto) (x := Lto 3 40 (.agg [.int .i64 0, .int .i64 0, .nil]) 3 213) l (fun (_ : Unit) _ => ()) (fun i _ => ⟨[(0, .ro 3 (l.map ino)), (3, .sl 0 0 l.length), (4, .int .i64 (i : Nat))], [some (3, fill inoO (.agg [.int .i64 0, .int .i64 0, .nil]) l i)]⟩)
    (r := (.exit 0, ⟨[(11, .bool false), (10, .int .i64 l.length), (9, .ro 3 (l.map ino)), (8, .int .i64 l.length), (0, .ro 3 (l.map ino)), (3, .sl 0 0 l.length), (4, .int .i64 l.length)], [some (3, l.map inoO)]⟩)) ?step () ?last
  case step =>
    intro i _ p hp hi
    have hi1 : (i : Int) < (l.length : Int) := by omega
    have fs : (fill inoO (.agg [.int .i64 0, .int .i64 0, .nil]) l i).set i (.agg [.int .i64 p.kind, .int .i64 p.links, .own 1 (p.ptrs.map iv)]) = _ := fill_set (f := inoO) (z := .agg [.int .i64 0, .int .i64 0, .nil]) hp
    have hc := e213 p (hs p (List.mem_of_getElem? hp))
    unfold ino inoO at hc
    simp only [XG, Lto, hto, go_sem, seval, bnd_ite, hi1, gD_map hp, ino, hc, Int.natCast_nonneg, w_i64 ((i : Int) + 1) (by omega), fill_len (Nat.le_of_lt hi), fill_get hi, hi,
      fill_mi _ inoO_cool (z := .agg [.int .i64 0, .int .i64 0, .nil]) rfl, fill_is _ inoO_cool (z := .agg [.int .i64 0, .int .i64 0, .nil]) rfl, is_set]
    rw [fs]; rfl
  case last =>
    refine XL_out ?_ (by simp)
    simp only [XG, Lto, hto, go_sem, seval, bnd_ite, Int.lt_irrefl, decide_false, fill_all]
  have hir : ∀ u n, idsL u (List.replicate n (.agg [.int .i64 0, .int .i64 0, .nil] : AV)) = [] := fun u n => is_rep u n _ rfl
  have e0 : ((0 : Nat) : Int) = 0 := rfl
  rw [fill_0, e0] at key
  simp only [key, hir]
  simp only [go_sem, seval, tk_map, Nat.le_refl]
theorem t129 : T 129 = some (Fto 3 48 (.agg [.bool false, .nil, .str ⟨#[]⟩]) 3 214) := tab Try.func129 (by kernel_rfl) rfl
theorem e129 (l : List Blk) (hl : l.length ≤ 1048576) (hs : ∀ x ∈ l, x.sm) : E T 129 [.ro 3 (l.map blk)] [] = some (.own 3 (l.map blkO), []) := by
  rw [E_eq t129 (Nat.le_of_ble_eq_true rfl)]
  simp only [Fto, hto, go_sem, seval, bnd_ite]
  rw [if_pos ⟨by omega, by omega, by omega⟩]
  have key := XL_fold (T := T) (b := 0) (hd := Hto) (x := Lto 3 48 (.agg [.bool false, .nil, .str ⟨#[]⟩]) 3 214) l (fun (_ : Unit) _ => ()) (fun i _ => ⟨[(0, .ro 3 (l.map blk)), (3, .sl 0 0 l.length), (4, .int .i64 (i : Nat))], [some (3, fill blkO (.agg [.bool false, .nil, .str ⟨#[]⟩]) l i)]⟩)
    (r := (.exit 0, ⟨[(11, .bool false), (10, .int .i64 l.length), (9, .ro 3 (l.map blk)), (8, .int .i64 l.length), (0, .ro 3 (l.map blk)), (3, .sl 0 0 l.length), (4, .int .i64 l.length)], [some (3, l.map blkO)]⟩)) ?step () ?last
  case step =>
    intro i _ p hp hi
    have hi1 : (i : Int) < (l.length : Int) := by omega
    have fs : (fill blkO (.agg [.bool false, .nil, .str ⟨#[]⟩]) l i).set i (.agg [.bool p.dir, .own 2 (p.slots.map slt), .str p.text]) = _ := fill_set (f := blkO) (z := .agg [.bool false, .nil, .str ⟨#[]⟩]) hp
    have hc := e214 p (hs p (List.mem_of_getElem? hp))
    unfold blk blkO at hc
    simp only [XG, Lto, hto, go_sem, seval, bnd_ite, hi1, gD_map hp, blk, hc, Int.natCast_nonneg, w_i64 ((i : Int) + 1) (by omega), fill_len (Nat.le_of_lt hi), fill_get hi, hi,
      fill_mi _ blkO_cool (z := .agg [.bool false, .nil, .str ⟨#[]⟩]) rfl, fill_is _ blkO_cool (z := .agg [.bool false, .nil, .str ⟨#[]⟩]) rfl, is_set]
    rw [fs]; rfl
  case last =>
    refine XL_out ?_ (by simp)
    simp only [XG, Lto, hto, go_sem, seval, bnd_ite, Int.lt_irrefl, decide_false, fill_all]
  have hir : ∀ u n, idsL u (List.replicate n (.agg [.bool false, .nil, .str ⟨#[]⟩] : AV)) = [] := fun u n => is_rep u n _ rfl
  have e0 : ((0 : Nat) : Int) = 0 := rfl
  rw [fill_0, e0] at key
  simp only [key, hir]
  simp only [go_sem, seval, tk_map, Nat.le_refl]
theorem e127 (a b : List Bool) (ha : a.length ≤ 1048576) (hb : b.length ≤ 1048576) : E T 127 [.agg [.ro 1 (a.map bv), .ro 1 (b.map bv)]] [] = some (.agg [.own 1 (a.map bv), .own 1 (b.map bv)], []) := by
  rw [E_eq t127 (Nat.le_of_ble_eq_true rfl)]; simp only [F127, go_sem, seval, e136 a ha, e136 b hb]
theorem e40 (x : Dsk) (h : x.sm) : E T 40 [dsk x] [] = some (dskO x, []) := by
  rw [E_eq t40 (Nat.le_of_ble_eq_true rfl)]; simp only [dsk, dskO, F40, go_sem, seval, e127 _ _ h.used h.taken, e128 _ h.inos h.ino, e129 _ h.blks h.blk]
end Go.Proofs.Ytaaajjinpppgeaa
namespace Go.Proofs.Ytaaajjinpppgeaa
open Go Go.Abs
set_option maxRecDepth 100000
theorem bdec (x y : Bool) : (x == y) = decide (x = y) := by cases x <;> cases y <;> rfl
theorem bne_dec (x y : Bool) : (x != y) = !decide (x = y) := by cases x <;> cases y <;> rfl
theorem e99 (xs ys : List Int) (ha : xs.length ≤ maxLen) : E T 99 [.ro 1 (xs.map iv), .ro 1 (ys.map iv)] [] = some (.bool (decide (xs = ys)), []) := by
  rw [E_eq t99 (Nat.le_of_ble_eq_true rfl)]
  simp only [F99, h99_4, go_sem, seval, bnd_ite]
  unfold maxLen at ha
  by_cases hl : xs.length = ys.length
  case neg =>
    have : xs ≠ ys := fun e => hl (by rw [e])
    simp [this, show ¬ (xs.length : Int) = ys.length by omega]
  refine (XL_inv (T := T) (b := 0) (hd := H99_4) (x := L99_4) (β := Unit) (fun i _ => ⟨[(0, .ro 1 (xs.map iv)), (1, .ro 1 (ys.map iv)), (5, .int .i64 (i : Nat))], []⟩)
    (fun i _ => xs.take i = ys.take i) xs.length (fun r => (r.1 = .exit 0 ∧ xs = ys) ∨ (r.1 = .ret ∧ lookA r.2.env 4 = .bool false ∧ xs ≠ ys)) ?step ?last 0 () (by omega) rfl).elim ?main
  case step =>
    intro i _ hi hI
    obtain ⟨p, hp⟩ := get_at hi
    obtain ⟨q, hq⟩ := get_at (show i < ys.length by omega)
    have hi1 : (i : Int) < (xs.length : Int) := by omega
    have hi2 : (i : Int) < (ys.length : Int) := by omega
    simp only [XG, L99_4, h99_4, go_sem, seval, bnd_ite, hi1, hi2, gD_map hp, gD_map hq, iv, bdec, bne_dec, Int.natCast_nonneg, w_i64 ((i : Int) + 1) (by omega)]
    by_cases he : p = q
    · left
      subst he
      exact ⟨(), by simp, by rw [take_eq_snoc hp hq]; exact ⟨hI, rfl⟩⟩
    · right
      have hne : xs ≠ ys := fun e => he (by rw [e] at hp; rw [hp] at hq; exact Option.some.inj hq)
      simp only [he, decide_false, Bool.not_false, if_true]
      exact .mk (by simp) (.inr ⟨rfl, rfl, hne⟩)
  case last =>
    intro _ hI
    have e : xs = ys := by rw [List.take_length] at hI; rw [hI, hl, List.take_length]
    simp only [XG, L99_4, h99_4, go_sem, seval, bnd_ite, Int.lt_irrefl, decide_false]
    exact .mk (by simp) (.inl ⟨rfl, e⟩)
  case main =>
  rintro ⟨x, st⟩ ⟨h1, h2, h3⟩
  have hs : (0 : Int) = ((0 : Nat) : Int) := rfl
  simp only [hl, decide_true, Bool.not_true, Bool.false_eq_true, if_false]
  rw [hs, h1]
  obtain ⟨e, m⟩ := st
  rcases h3 with ⟨hx, h4⟩ | ⟨hx, h4, h5⟩
  · simp only at hx; subst hx; subst h4
    simp only [go_sem, seval]; simp
  · simp only at hx h4; subst hx
    simp only [go_sem, seval, h4]; simp [h5]
theorem e139 (xs ys : List Bool) (ha : xs.length ≤ maxLen) : E T 139 [.ro 1 (xs.map bv), .ro 1 (ys.map bv)] [] = some (.bool (decide (xs = ys)), []) := by
  rw [E_eq t139 (Nat.le_of_ble_eq_true rfl)]
  simp only [F139, h139_4, go_sem, seval, bnd_ite]
  unfold maxLen at ha
  by_cases hl : xs.length = ys.length
  case neg =>
    have : xs ≠ ys := fun e => hl (by rw [e])
    simp [this, show ¬ (xs.length : Int) = ys.length by omega]
  refine (XL_inv (T := T) (b := 0) (hd := H139_4) (x := L139_4) (β := Unit) (fun i _ => ⟨[(0, .ro 1 (xs.map bv)), (1, .ro 1 (ys.map bv)), (5, .int .i64 (i : Nat))], []⟩)
    (fun i _ => xs.take i = ys.take i) xs.length (fun r => (r.1 = .exit 0 ∧ xs = ys) ∨ (r.1 = .ret ∧ lookA r.2.env 4 = .bool false ∧ xs ≠ ys)) ?step ?last 0 () (by omega) rfl).elim ?main
  case step =>
    intro i _ hi hI
    obtain ⟨p, hp⟩ := get_at hi
    obtain ⟨q, hq⟩ := get_at (show i < ys.length by omega)
    have hi1 : (i : Int) < (xs.length : Int) := by omega
    have hi2 : (i : Int) < (ys.length : Int) := by omega
    simp only [XG, L139_4, h139_4, go_sem, seval, bnd_ite, hi1, hi2, gD_map hp, gD_map hq, bv, bdec, bne_dec, Int.natCast_nonneg, w_i64 ((i : Int) + 1) (by omega)]
    by_cases he : p = q
    · left
      subst he
      exact ⟨(), by simp, by rw [take_eq_snoc hp hq]; exact ⟨hI, rfl⟩⟩
    · right
      have hne : xs ≠ ys := fun e => he (by rw [e] at hp; rw [hp] at hq; exact Option.some.inj hq)
      simp only [he, decide_false, Bool.not_false, if_true]
      exact .mk (by simp) (.inr ⟨rfl, rfl, hne⟩)
  case last =>
    intro _ hI
    have e : xs = ys := by rw [List.take_length] at hI; rw [hI, hl, List.take_length]
    simp only [XG, L139_4, h139_4, go_sem, seval, bnd_ite, Int.lt_irrefl, decide_false]
    exact .mk (by simp) (.inl ⟨rfl, e⟩)
  case main =>
  rintro ⟨x, st⟩ ⟨h1, h2, h3⟩
  have hs : (0 : Int) = ((0 : Nat) : Int) := rfl
  simp only [hl, decide_true, Bool.not_true, Bool.false_eq_true, if_false]
  rw [hs, h1]
  obtain ⟨e, m⟩ := st
  rcases h3 with ⟨hx, h4⟩ | ⟨hx, h4, h5⟩
  · simp only at hx; subst hx; subst h4
    simp only [go_sem, seval]; simp
  · simp only at hx h4; subst hx
    simp only [go_sem, seval, h4]; simp [h5]
theorem e218 (x y : Slt) : E T 218 [slt x, slt y] [] = some (.bool (decide (x = y)), []) := by
  rw [E_eq t218 (Nat.le_of_ble_eq_true rfl)]
  simp only [slt, F218, go_sem, seval, bnd_ite, bdec, bne_dec, slt_eq]
  by_cases h1 : x.name = y.name <;> by_cases h2 : x.ino = y.ino <;> simp [h1, h2]
theorem t150 : T 150 = some (Feq 2 2 218) := tab Try.func150 (by kernel_rfl) rfl
theorem t132 : T 132 = some (Feq 3 3 50) := tab Try.func132 (by kernel_rfl) rfl
theorem t133 : T 133 = some (Feq 3 3 56) := tab Try.func133 (by kernel_rfl) rfl
theorem e150 (xs ys : List Slt) (ha : xs.length ≤ maxLen) : E T 150 [.ro 2 (xs.map slt), .ro 2 (ys.map slt)] [] = some (.bool (decide (xs = ys)), []) :=
  geq t150 (fun _ => rfl) (fun _ => Nat.le_refl _) (fun _ => rfl) (fun _ => rfl) (fun x y => e218 x y) xs ys ha
section
variable {s n f k : Nat}
theorem geq' {α : Type} [DecidableEq α] {enc : α → AV} {ok : α → Prop} (ht : T k = some (Feq s n f)) (henc : ∀ x, AV.agg ((enc x).cells.take n) = enc x) (hln : ∀ x, n ≤ (enc x).cells.length) (hcl : ∀ x, (enc x).cells.all closedC = true) (hd : ∀ x, isDef (enc x) = true)
    (hf : ∀ x y, ok x → E T f [enc x, enc y] [] = some (.bool (decide (x = y)), [])) (xs ys : List α) (ha : xs.length ≤ maxLen) (hok : ∀ x ∈ xs, ok x) : E T k [.ro s (xs.map enc), .ro s (ys.map enc)] [] = some (.bool (decide (xs = ys)), []) := by
  rw [E_eq ht (Nat.le_of_ble_eq_true rfl)]
  simp only [Feq, heq, go_sem, seval, bnd_ite]
  unfold maxLen at ha
  by_cases hl : xs.length = ys.length
  case neg =>
    have : xs ≠ ys := fun e => hl (by rw [e])
    simp [this, show ¬ (xs.length : Int) = ys.length by omega]
  refine (XL_inv (T := T) (b := 0) (hd := Heq) (x := Leq s n f) (β := Unit) (fun i _ => ⟨[(0, .ro s (xs.map enc)), (1, .ro s (ys.map enc)), (5, .int .i64 (i : Nat))], []⟩)
    (fun i _ => xs.take i = ys.take i) xs.length (fun r => (r.1 = .exit 0 ∧ xs = ys) ∨ (r.1 = .ret ∧ lookA r.2.env 4 = .bool false ∧ xs ≠ ys)) ?step ?last 0 () (by omega) rfl).elim ?main
  case step =>
    intro i _ hi hI
    obtain ⟨p, hp⟩ := get_at hi
    obtain ⟨q, hq⟩ := get_at (show i < ys.length by omega)
    have hi1 : (i : Int) < (xs.length : Int) := by omega
    have hi2 : (i : Int) < (ys.length : Int) := by omega
    simp only [XG, Leq, heq, go_sem, seval, bnd_ite, hi1, hi2, gD_map hp, gD_map hq, hln p, hln q, henc, hcl, hd, hf p _ (hok p (List.mem_of_getElem? hp)), Int.natCast_nonneg, w_i64 ((i : Int) + 1) (by omega)]
    by_cases he : p = q
    · left
      subst he
      exact ⟨(), by simp, by rw [take_eq_snoc hp hq]; exact ⟨hI, rfl⟩⟩
    · right
      have hne : xs ≠ ys := fun e => he (by rw [e] at hp; rw [hp] at hq; exact Option.some.inj hq)
      simp only [he, decide_false, Bool.not_false, if_true]
      exact .mk (by simp) (.inr ⟨rfl, rfl, hne⟩)
  case last =>
    intro _ hI
    have e : xs = ys := by rw [List.take_length] at hI; rw [hI, hl, List.take_length]
    simp only [XG, Leq, heq, go_sem, seval, bnd_ite, Int.lt_irrefl, decide_false]
    exact .mk (by simp) (.inl ⟨rfl, e⟩)
  case main =>
  rintro ⟨x, st⟩ ⟨h1, h2, h3⟩
  have hs : (0 : Int) = ((0 : Nat) : Int) := rfl
  simp only [hl, decide_true, Bool.not_true, Bool.false_eq_true, if_false]
  rw [hs, h1]
  obtain ⟨e, m⟩ := st
  rcases h3 with ⟨hx, h4⟩ | ⟨hx, h4, h5⟩
  · simp only at hx; subst hx; subst h4
    simp only [go_sem, seval]; simp
  · simp only at hx h4; subst hx
    simp only [go_sem, seval, h4]; simp [h5]
end
theorem e50 (x y : Ino) (h : x.ok) : E T 50 [ino x, ino y] [] = some (.bool (decide (x = y)), []) := by
  rw [E_eq t50 (Nat.le_of_ble_eq_true rfl)]
  simp only [ino, F50, go_sem, seval, bnd_ite, bdec, bne_dec, ino_eq, e99 _ y.ptrs h]
  by_cases h1 : x.kind = y.kind <;> by_cases h2 : x.links = y.links <;> by_cases h3 : x.ptrs = y.ptrs <;> simp [h1, h2, h3]
theorem e56 (x y : Blk) (h : x.ok) : E T 56 [blk x, blk y] [] = some (.bool (decide (x = y)), []) := by
  rw [E_eq t56 (Nat.le_of_ble_eq_true rfl)]
  simp only [blk, F56, go_sem, seval, bnd_ite, bdec, bne_dec, blk_eq, e150 _ y.slots h.1]
  by_cases h1 : x.dir = y.dir <;> by_cases h2 : x.slots = y.slots <;> by_cases h3 : x.text = y.text <;> simp [h1, h2, h3]
theorem e132 (xs ys : List Ino) (ha : xs.length ≤ maxLen) (hok : ∀ x ∈ xs, x.ok) : E T 132 [.ro 3 (xs.map ino), .ro 3 (ys.map ino)] [] = some (.bool (decide (xs = ys)), []) :=
  geq' (ok := Ino.ok) t132 (fun _ => rfl) (fun _ => Nat.le_refl _) (fun _ => rfl) (fun _ => rfl) (fun x y h => e50 x y h) xs ys ha hok
theorem e133 (xs ys : List Blk) (ha : xs.length ≤ maxLen) (hok : ∀ x ∈ xs, x.ok) : E T 133 [.ro 3 (xs.map blk), .ro 3 (ys.map blk)] [] = some (.bool (decide (xs = ys)), []) :=
  geq' (ok := Blk.ok) t133 (fun _ => rfl) (fun _ => Nat.le_refl _) (fun _ => rfl) (fun _ => rfl) (fun x y h => e56 x y h) xs ys ha hok
theorem e131 (a b c d : List Bool) (ha : a.length ≤ maxLen) (hb : b.length ≤ maxLen) : E T 131 [.agg [.ro 1 (a.map bv), .ro 1 (b.map bv)], .agg [.ro 1 (c.map bv), .ro 1 (d.map bv)]] [] = some (.bool (decide (a = c ∧ b = d)), []) := by
  rw [E_eq t131 (Nat.le_of_ble_eq_true rfl)]
  simp only [F131, go_sem, seval, bnd_ite, e139 a c ha, e139 b d hb]
  by_cases h1 : a = c <;> by_cases h2 : b = d <;> simp [h1, h2]
theorem dsk_eq (a b : Dsk) : a = b ↔ (a.used = b.used ∧ a.taken = b.taken) ∧ a.inos = b.inos ∧ a.blks = b.blks := by cases a; cases b; simp [and_assoc]
theorem e42 (x y : Dsk) (h : x.ok) : E T 42 [dsk x, dsk y] [] = some (.bool (decide (x = y)), []) := by
  rw [E_eq t42 (Nat.le_of_ble_eq_true rfl)]
  simp only [dsk, F42, go_sem, seval, bnd_ite, e131 _ _ y.used y.taken h.used h.taken, e132 _ y.inos h.inos h.ino, e133 _ y.blks h.blks h.blk, dsk_eq]
  by_cases h1 : x.used = y.used ∧ x.taken = y.taken <;> by_cases h2 : x.inos = y.inos <;> by_cases h3 : x.blks = y.blks <;> simp [h1, h2, h3]
end Go.Proofs.Ytaaajjinpppgeaa
namespace Go.Proofs.Ytaaajjinpppgeaa
open Go Go.Abs
set_option maxRecDepth 100000
structure Dp where
  id : Int
  kind : Int
  ino : Int
  ptr : Int
  block : Int
  slot : Int
  name : ByteArray
  bits : Bool
  other : Bool
  after : Int
  blocks : List Int
  deriving DecidableEq
def dp (x : Dp) : AV := .agg [.int .i64 x.id, .int .i64 x.kind, .int .i64 x.ino, .int .i64 x.ptr, .int .i64 x.block, .int .i64 x.slot, .str x.name, .bool x.bits, .bool x.other, .int .i64 x.after, .ro 1 (x.blocks.map iv)]
def dpO (x : Dp) : AV := .agg [.int .i64 x.id, .int .i64 x.kind, .int .i64 x.ino, .int .i64 x.ptr, .int .i64 x.block, .int .i64 x.slot, .str x.name, .bool x.bits, .bool x.other, .int .i64 x.after, .own 1 (x.blocks.map iv)]
def Dp.ok (x : Dp) : Prop := x.name.size ≤ maxLen ∧ x.blocks.length ≤ maxLen
def Dp.sm (x : Dp) : Prop := x.blocks.length ≤ 1048576
theorem dp_cool (x : Dp) : coolX (dp x) = true := rfl
theorem dp_len (x : Dp) : (dp x).cells.length = 11 := rfl
theorem dp_mi (g : Bool → Nat → Nat → Nat → AV) (l : List Dp) : mapIdL g (l.map dp) = l.map dp := mi_map g dp l dp_cool
theorem dp_is (u : Bool → Nat → Nat → Nat → List Nat) (l : List Dp) : idsL u (l.map dp) = [] := is_map u dp l dp_cool
theorem dp_coR (l : List Dp) : coolR 11 (l.map dp) = true := coR_map 11 dp l dp_len dp_cool
theorem dp_ice (x : Dp) : ice (dp x) = dp x := rfl
theorem dp_ic (l : List Dp) : iceL (l.map dp) = l.map dp := by rw [ice_m]; exact List.map_congr_left fun x _ => dp_ice x
theorem dp_no (x : Dp) : (dp x).cells.all noOwnC = true := rfl
theorem dp_noL (l : List Dp) : (l.map dp).all (fun x => x.cells.all noOwnC) = true := no_map dp l dp_no
attribute [go_sem] dp_mi dp_is dp_coR dp_ic dp_ice dp_noL
theorem dpO_cool (x : Dp) : coolX (dpO x) = true := by simp only [dpO, go_sem, Bool.and_self]
theorem dpO_len (x : Dp) : (dpO x).cells.length = 11 := rfl
theorem dpO_mi (g : Bool → Nat → Nat → Nat → AV) (l : List Dp) : mapIdL g (l.map dpO) = l.map dpO := mi_map g dpO l dpO_cool
theorem dpO_is (u : Bool → Nat → Nat → Nat → List Nat) (l : List Dp) : idsL u (l.map dpO) = [] := is_map u dpO l dpO_cool
theorem dpO_coR (l : List Dp) : coolR 11 (l.map dpO) = true := coR_map 11 dpO l dpO_len dpO_cool
theorem dpO_ice (x : Dp) : ice (dpO x) = dp x := by simp only [dpO, dp, go_sem]
theorem dpO_ic (l : List Dp) : iceL (l.map dpO) = l.map dp := by rw [ice_m]; exact List.map_congr_left fun x _ => dpO_ice x
theorem dpO_rf (x : Dp) : (dpO x).roFree = true := by simp [dpO, AV.roFree, roFreeL, iv_rfL]
theorem dpO_rfL (l : List Dp) : roFreeL (l.map dpO) = true := rf_map dpO l dpO_rf
attribute [go_sem] dpO_mi dpO_is dpO_coR dpO_ic dpO_ice dpO_rfL
structure Mm where
  disk : Dsk
  dirty : List Bool
  deps : List Dp
  next : Int
  deriving DecidableEq
structure Mm.ok (x : Mm) : Prop where
  disk : x.disk.ok
  dirty : x.dirty.length ≤ maxLen
  deps : x.deps.length ≤ maxLen
  dep : ∀ y ∈ x.deps, y.ok
structure Mm.sm (x : Mm) : Prop where
  disk : x.disk.sm
  dirty : x.dirty.length ≤ 1048576
  deps : x.deps.length ≤ 1048576
  dep : ∀ y ∈ x.deps, y.sm
end Go.Proofs.Ytaaajjinpppgeaa
namespace Go.Proofs.Ytaaajjinpppgeaa
open Go Go.Abs
set_option maxRecDepth 100000
def inside (x a b : Int) : Bool := decide (a ≤ x) && decide (x ≤ b)
theorem e116i (x a b : Int) : E T 116 [.int .i64 x, .int .i64 a, .int .i64 b] [] = some (.bool (inside x a b), []) := by
  rw [E_eq t116 (Nat.le_of_ble_eq_true rfl)]; simp only [F116, go_sem, seval]; rfl
theorem e117i (x a b : Int) : E T 117 [.int .i64 x, .int .i64 a, .int .i64 b] [] = some (.bool (inside x a b), []) := by
  rw [E_eq t117 (Nat.le_of_ble_eq_true rfl)]; simp only [F117, go_sem, seval]; rfl
end Go.Proofs.Ytaaajjinpppgeaa
namespace Go.Proofs.Ytaaajjinpppgeaa
open Go Go.Abs
set_option maxRecDepth 100000
def blk0 : Blk := ⟨false, [], ⟨#[]⟩⟩
theorem e149n (x : Dsk) (i : Int) (hc : inside i 1 x.blks.length = false) : E T 149 [dsk x, .int .i64 i] [] = some (blk blk0, []) := by
  rw [E_eqW t149 (Nat.le_of_ble_eq_true rfl)]
  simp only [dsk, F149, go_sem, seval, bnd_ite, e117i, hc, blk, blk0, List.map_nil]
theorem e149 (x : Dsk) (i : Int) (hl : x.blks.length ≤ 1048576) (hc : inside i 1 x.blks.length = true) (p : Blk) (hp : x.blks[(i - 1).toNat]? = some p) : E T 149 [dsk x, .int .i64 i] [] = some (blk p, []) := by
  rw [E_eqW t149 (Nat.le_of_ble_eq_true rfl)]
  have hc' := hc
  simp only [inside, Bool.and_eq_true, decide_eq_true_eq] at hc'
  have gp : (x.blks.map blk).getD (i - 1).toNat .undef = .agg [.bool p.dir, .ro 2 (p.slots.map slt), .str p.text] := gD_map hp
  have b1 : 0 ≤ i - 1 := by omega
  have b2 : i - 1 < (x.blks.length : Int) := by omega
  simp only [dsk, F149, go_sem, seval, bnd_ite, e117i, hc, gp, b1, b2, w_i64 (i - 1) (by omega), blk]
end Go.Proofs.Ytaaajjinpppgeaa
namespace Go.Proofs.Ytaaajjinpppgeaa
open Go Go.Abs
section
variable {T : FuncId → Option EF} {b : Nat} {hd : List Vw} {x : EC} {α β : Type}
theorem XL_each (l : List α) (f : β → α → β) (S : Nat → β → St) (I : Nat → β → Prop) (Q : β → AX × St → Prop)
    (step : ∀ i a p, l[i]? = some p → i < l.length → I i a → XG T b hd x (S i a) = some (.normal, S (i + 1) (f a p)) ∧ I (i + 1) (f a p))
    (last : ∀ a, I l.length a → Stops (XG T b hd x (S l.length a)) (Q a)) (a : β) (ha : I 0 a) : ∃ r, XL T b hd x (S 0 a) = some r ∧ Q (l.foldl f a) r := by
  have key : ∀ k i a, i + k = l.length → I i a → ∃ r, XL T b hd x (S i a) = some r ∧ Q ((l.drop i).foldl f a) r := by
    intro k
    induction k with
    | zero =>
      intro i a hi hI
      have : i = l.length := by omega
      subst this
      obtain ⟨r, h1, h2, h3⟩ := last a hI
      exact ⟨r, XL_out h1 h2, by simpa using h3⟩
    | succ k ih =>
      intro i a hi hI
      have hlt : i < l.length := by omega
      obtain ⟨h1, h2⟩ := step i a l[i] (by simp [hlt]) hlt hI
      obtain ⟨r, h3, h4⟩ := ih (i + 1) (f a l[i]) (by omega) h2
      refine ⟨r, by rw [XL_eq, h1]; exact h3, ?_⟩
      rw [List.drop_eq_getElem_cons hlt]; exact h4
  obtain ⟨r, h1, h2⟩ := key l.length 0 a (by omega) ha
  exact ⟨r, h1, by simpa using h2⟩
theorem XL_find (l : List α) (P : α → Bool) (S : Nat → St) (Q : Option Nat → AX × St → Prop)
    (step : ∀ i p, l[i]? = some p → i < l.length → P p = false → (∀ q ∈ l.take i, P q = false) → XG T b hd x (S i) = some (.normal, S (i + 1)))
    (hit : ∀ i p, l[i]? = some p → i < l.length → P p = true → (∀ q ∈ l.take i, P q = false) → Stops (XG T b hd x (S i)) (Q (some i)))
    (last : (∀ q ∈ l, P q = false) → Stops (XG T b hd x (S l.length)) (Q none)) : ∃ r, XL T b hd x (S 0) = some r ∧ Q (l.findIdx? P) r := by
  have key : ∀ k i, i + k = l.length → (∀ q ∈ l.take i, P q = false) → ∃ r, XL T b hd x (S i) = some r ∧ Q (((l.drop i).findIdx? P).map (· + i)) r := by
    intro k
    induction k with
    | zero =>
      intro i hi hp
      have : i = l.length := by omega
      subst this
      rw [List.take_length] at hp
      obtain ⟨r, h1, h2, h3⟩ := last hp
      exact ⟨r, XL_out h1 h2, by simpa using h3⟩
    | succ k ih =>
      intro i hi hp
      have hlt : i < l.length := by omega
      have hg : l[i]? = some l[i] := by simp [hlt]
      rw [List.drop_eq_getElem_cons hlt, List.findIdx?_cons]
      cases hP : P l[i] with
      | true =>
        obtain ⟨r, h1, h2, h3⟩ := hit i l[i] hg hlt hP hp
        exact ⟨r, XL_out h1 h2, by simpa [hP] using h3⟩
      | false =>
        have h1 := step i l[i] hg hlt hP hp
        obtain ⟨r, h3, h4⟩ := ih (i + 1) (by omega) (fun q hq => by
          rw [take_snoc hg, List.mem_append, List.mem_singleton] at hq
          rcases hq with hq | rfl
          · exact hp q hq
          · exact hP)
        refine ⟨r, by rw [XL_eq, h1]; exact h3, ?_⟩
        rw [if_neg (by simp)]
        have e : ((((l.drop (i + 1)).findIdx? P).map (· + 1)).map (· + i)) = ((l.drop (i + 1)).findIdx? P).map (· + (i + 1)) := by
          cases (l.drop (i + 1)).findIdx? P with
          | none => rfl
          | some n => simp only [Option.map_some]; congr 1; omega
        rw [e]; exact h4
  obtain ⟨r, h1, h2⟩ := key l.length 0 (by omega) (by simp)
  refine ⟨r, h1, ?_⟩
  have e : ((l.drop 0).findIdx? P).map (· + 0) = l.findIdx? P := by cases h : l.findIdx? P <;> simp [h]
  rw [e] at h2; exact h2
end
theorem XL_all {T : FuncId → Option EF} {b : Nat} {hd : List Vw} {x : EC} {α : Type} (l : List α) (P : α → Bool) (S : Nat → St) (Qx Qr : AX × St → Prop)
    (step : ∀ i p, l[i]? = some p → i < l.length → P p = true → (∀ q ∈ l.take i, P q = true) → XG T b hd x (S i) = some (.normal, S (i + 1)))
    (hit : ∀ i p, l[i]? = some p → i < l.length → P p = false → (∀ q ∈ l.take i, P q = true) → Stops (XG T b hd x (S i)) Qr)
    (last : (∀ q ∈ l, P q = true) → Stops (XG T b hd x (S l.length)) Qx) : ∃ r, XL T b hd x (S 0) = some r ∧ (l.all P = true ∧ Qx r ∨ l.all P = false ∧ Qr r) := by
  obtain ⟨r, h1, h2⟩ := XL_find (T := T) (b := b) (hd := hd) (x := x) l (fun p => !P p) S (fun o r => (o = none → Qx r) ∧ (o ≠ none → Qr r))
    (fun i p h1 h2 h3 h4 => step i p h1 h2 (by simpa using h3) (fun q hq => by simpa using h4 q hq))
    (fun i p h1 h2 h3 h4 => by
      obtain ⟨r, k1, k2, k3⟩ := hit i p h1 h2 (by simpa using h3) (fun q hq => by simpa using h4 q hq)
      exact ⟨r, k1, k2, by simp, fun _ => k3⟩)
    (fun h => by
      obtain ⟨r, k1, k2, k3⟩ := last (fun q hq => by simpa using h q hq)
      exact ⟨r, k1, k2, fun _ => k3, by simp⟩)
  refine ⟨r, h1, ?_⟩
  cases e : l.all P with
  | true => exact .inl ⟨rfl, h2.1 (by simpa using e)⟩
  | false => exact .inr ⟨rfl, h2.2 (by simpa using e)⟩
theorem find_none {α : Type} {l : List α} {P : α → Bool} : l.findIdx? P = none ↔ ∀ q ∈ l, P q = false := by simp
end Go.Proofs.Ytaaajjinpppgeaa
namespace Go.Proofs.Ytaaajjinpppgeaa
open Go Go.Abs
set_option maxRecDepth 100000
def ino0 : Ino := ⟨0, 0, []⟩
theorem getD_at {α : Type} {l : List α} {i : Nat} {p z : α} (h : l[i]? = some p) : l.getD i z = p := by simp [List.getD, h]
theorem e176n (x : Dsk) (i : Int) (hc : inside i 1 x.inos.length = false) : E T 176 [dsk x, .int .i64 i] [] = some (ino ino0, []) := by
  rw [E_eqW t176 (Nat.le_of_ble_eq_true rfl)]
  simp only [dsk, F176, go_sem, seval, bnd_ite, e117i, hc, ino, ino0, List.map_nil]
theorem e176 (x : Dsk) (i : Int) (hl : x.inos.length ≤ 1048576) (hc : inside i 1 x.inos.length = true) (p : Ino) (hp : x.inos[(i - 1).toNat]? = some p) : E T 176 [dsk x, .int .i64 i] [] = some (ino p, []) := by
  rw [E_eqW t176 (Nat.le_of_ble_eq_true rfl)]
  have hc' := hc
  simp only [inside, Bool.and_eq_true, decide_eq_true_eq] at hc'
  have gp : (x.inos.map ino).getD (i - 1).toNat .undef = .agg [.int .i64 p.kind, .int .i64 p.links, .ro 1 (p.ptrs.map iv)] := gD_map hp
  have b1 : 0 ≤ i - 1 := by omega
  have b2 : i - 1 < (x.inos.length : Int) := by omega
  simp only [dsk, F176, go_sem, seval, bnd_ite, e117i, hc, gp, b1, b2, w_i64 (i - 1) (by omega), ino]
theorem e165 (x : Dsk) (i : Int) (hl : x.blks.length ≤ 1048576) (hc : inside i 1 x.blks.length = true) (p : Blk) (hp : x.blks[(i - 1).toNat]? = some p) : E T 165 [dsk x, .int .i64 i] [] = some (.tup [blk p, .bool true], []) := by
  rw [E_eqW t165 (Nat.le_of_ble_eq_true rfl)]
  have hc' := hc
  simp only [inside, Bool.and_eq_true, decide_eq_true_eq] at hc'
  have gp : (x.blks.map blk).getD (i - 1).toNat .undef = .agg [.bool p.dir, .ro 2 (p.slots.map slt), .str p.text] := gD_map hp
  have b1 : 0 ≤ i - 1 := by omega
  have b2 : i - 1 < (x.blks.length : Int) := by omega
  simp only [dsk, F165, go_sem, seval, bnd_ite, e116i, hc, gp, b1, b2, w_i64 (i - 1) (by omega), blk]
theorem e165n (x : Dsk) (i : Int) (hc : inside i 1 x.blks.length = false) : E T 165 [dsk x, .int .i64 i] [] = some (.tup [.agg [.bool false, .ro 2 [], .str ⟨#[]⟩], .bool false], []) := by
  rw [E_eqW t165 (Nat.le_of_ble_eq_true rfl)]
  simp only [dsk, F165, go_sem, seval, bnd_ite, e116i, hc]
end Go.Proofs.Ytaaajjinpppgeaa
namespace Go.Proofs.Ytaaajjinpppgeaa
open Go Go.Abs
set_option maxRecDepth 100000
def inoOf (x : Dsk) (i : Int) : Ino := if inside i 1 x.inos.length then x.inos.getD (i - 1).toNat ino0 else ino0
def blkOf (x : Dsk) (p : Int) : Blk := if inside p 1 x.blks.length then x.blks.getD (p - 1).toNat blk0 else blk0
theorem inoOf_mem {x : Dsk} {i : Int} (h : inside i 1 x.inos.length = true) : x.inos[(i - 1).toNat]? = some (inoOf x i) := by
  have h2 := h
  simp only [inside, Bool.and_eq_true, decide_eq_true_eq] at h2
  obtain ⟨p, hp⟩ := get_at (show (i - 1).toNat < x.inos.length by omega)
  unfold inoOf; rw [if_pos h, getD_at hp]; exact hp
theorem blkOf_mem {x : Dsk} {i : Int} (h : inside i 1 x.blks.length = true) : x.blks[(i - 1).toNat]? = some (blkOf x i) := by
  have h2 := h
  simp only [inside, Bool.and_eq_true, decide_eq_true_eq] at h2
  obtain ⟨p, hp⟩ := get_at (show (i - 1).toNat < x.blks.length by omega)
  unfold blkOf; rw [if_pos h, getD_at hp]; exact hp
theorem e176u (x : Dsk) (h : x.sm) (i : Int) : E T 176 [dsk x, .int .i64 i] [] = some (ino (inoOf x i), []) := by
  cases hc : inside i 1 x.inos.length with
  | true => exact e176 x i h.inos hc _ (inoOf_mem hc)
  | false => rw [e176n x i hc]; unfold inoOf; rw [hc]; rfl
theorem e149u (x : Dsk) (h : x.sm) (i : Int) : E T 149 [dsk x, .int .i64 i] [] = some (blk (blkOf x i), []) := by
  cases hc : inside i 1 x.blks.length with
  | true => exact e149 x i h.blks hc _ (blkOf_mem hc)
  | false => rw [e149n x i hc]; unfold blkOf; rw [hc]; rfl
theorem e165u (x : Dsk) (h : x.sm) (i : Int) : E T 165 [dsk x, .int .i64 i] [] = some (.tup [blk (blkOf x i), .bool (inside i 1 x.blks.length)], []) := by
  cases hc : inside i 1 x.blks.length with
  | true => exact e165 x i h.blks hc _ (blkOf_mem hc)
  | false => rw [e165n x i hc]; unfold blkOf; rw [hc]; rfl
def hasName (s : Slt) : Bool := !decide (s.name = ⟨#[]⟩)
def namedOf (b : Blk) : List Slt := if b.dir then b.slots.filter hasName else []
def slotsAt (x : Dsk) (i : Int) : List Slt := if (inoOf x i).kind = 2 then (inoOf x i).ptrs.flatMap fun p => namedOf (blkOf x p) else []
end Go.Proofs.Ytaaajjinpppgeaa
namespace Go.Proofs.Ytaaajjinpppgeaa
open Go Go.Abs
set_option maxRecDepth 100000
def good (x : Dsk) (j : Int) : Bool := !decide ((inoOf x j).kind = 0)
theorem good_in {x : Dsk} {j : Int} (h : good x j = true) : inside j 1 x.inos.length = true := by
  cases hc : inside j 1 x.inos.length with
  | true => rfl
  | false => unfold good inoOf at h; rw [hc] at h; simp [ino0] at h
inductive Reach (x : Dsk) : Int → Prop
  | root : Reach x 1
  | step {i : Int} {s : Slt} : Reach x i → s ∈ slotsAt x i → good x s.ino = true → Reach x s.ino
theorem reach_in {x : Dsk} (hn : 0 < x.inos.length) {i : Int} (h : Reach x i) : 1 ≤ i ∧ i ≤ (x.inos.length : Int) := by
  cases h with
  | root => omega
  | step _ _ h => simpa [inside] using good_in h
def numL (n : Nat) : List Int := (List.range n).map fun (k : Nat) => (k : Int) + 1
theorem mem_numL {n : Nat} {i : Int} : i ∈ numL n ↔ 1 ≤ i ∧ i ≤ (n : Int) := by
  unfold numL
  simp only [List.mem_map, List.mem_range]
  exact ⟨fun ⟨k, h1, h2⟩ => by omega, fun h => ⟨(i - 1).toNat, by omega, by omega⟩⟩
theorem numL_lt (n : Nat) : (numL n).Pairwise (· < ·) := by
  unfold numL
  rw [List.pairwise_map]
  exact List.Pairwise.imp (fun h => by omega) (List.pairwise_lt_range (n := n))
theorem nodup_len {n : Nat} {l : List Int} (h : l.Nodup) (hi : ∀ i ∈ l, 1 ≤ i ∧ i ≤ (n : Int)) : l.length ≤ n := by
  have hp : l.Perm ((numL n).filter fun i => decide (i ∈ l)) :=
    (List.perm_ext_iff_of_nodup h (((numL_lt n).imp fun h => by omega).filter _)).2 fun i => by
      rw [List.mem_filter, mem_numL, decide_eq_true_eq]; exact ⟨fun h => ⟨hi i h, h⟩, fun h => h.2⟩
  rw [hp.length_eq]
  exact Nat.le_trans (List.length_filter_le ..) (by simp [numL])
def bfsStep (x : Dsk) (L : List Int) (s : Slt) : List Int := if good x s.ino = true ∧ ¬ s.ino ∈ L then L ++ [s.ino] else L
theorem bfs_fold (x : Dsk) (l : List Slt) : ∀ L : List Int, L.Nodup →
    (l.foldl (bfsStep x) L).Nodup ∧ (∃ t, l.foldl (bfsStep x) L = L ++ t) ∧ (∀ s ∈ l, good x s.ino = true → s.ino ∈ l.foldl (bfsStep x) L) ∧
      ∀ j ∈ l.foldl (bfsStep x) L, j ∈ L ∨ ∃ s ∈ l, good x s.ino = true ∧ s.ino = j := by
  induction l with
  | nil => intro L h; exact ⟨h, ⟨[], by simp⟩, by simp, fun j hj => .inl hj⟩
  | cons s l ih =>
    intro L h
    rw [List.foldl_cons]
    have hs : (bfsStep x L s).Nodup ∧ (∃ t, bfsStep x L s = L ++ t) ∧ (good x s.ino = true → s.ino ∈ bfsStep x L s) ∧ ∀ j ∈ bfsStep x L s, j ∈ L ∨ good x s.ino = true ∧ s.ino = j := by
      unfold bfsStep
      by_cases c : good x s.ino = true ∧ ¬ s.ino ∈ L
      · rw [if_pos c]
        refine ⟨?_, ⟨_, rfl⟩, fun _ => by simp, fun j hj => ?_⟩
        · rw [List.nodup_append]
          exact ⟨h, by simp, fun a ha b hb => by simp at hb; subst hb; intro e; subst e; exact c.2 ha⟩
        · rw [List.mem_append, List.mem_singleton] at hj
          rcases hj with hj | rfl
          · exact .inl hj
          · exact .inr ⟨c.1, rfl⟩
      · rw [if_neg c]
        exact ⟨h, ⟨[], by simp⟩, fun hg => Classical.byContradiction fun hc => c ⟨hg, hc⟩, fun j hj => .inl hj⟩
    obtain ⟨s1, ⟨t, s2⟩, s3, s4⟩ := hs
    obtain ⟨h1, ⟨t2, h2⟩, h3, h4⟩ := ih _ s1
    refine ⟨h1, ⟨t ++ t2, by rw [h2, s2, List.append_assoc]⟩, fun a ha hg => ?_, fun j hj => ?_⟩
    · rw [List.mem_cons] at ha
      rcases ha with rfl | ha
      · rw [h2]; exact List.mem_append_left _ (s3 hg)
      · exact h3 a ha hg
    · rcases h4 j hj with hj | ⟨a, ha, hg⟩
      · rcases s4 j hj with hj | hg
        · exact .inl hj
        · exact .inr ⟨s, by simp, hg⟩
      · exact .inr ⟨a, List.mem_cons_of_mem _ ha, hg⟩
structure BInv (x : Dsk) (k : Nat) (L : List Int) : Prop where
  nodup : L.Nodup
  root : (1 : Int) ∈ L
  sound : ∀ i ∈ L, Reach x i
  done : ∀ i ∈ L.take k, ∀ s ∈ slotsAt x i, good x s.ino = true → s.ino ∈ L
  le : k ≤ L.length
theorem BInv.step {x : Dsk} {k : Nat} {L : List Int} (h : BInv x k L) {i : Int} (hi : L[k]? = some i) : BInv x (k + 1) ((slotsAt x i).foldl (bfsStep x) L) := by
  obtain ⟨h1, ⟨t, h2⟩, h3, h4⟩ := bfs_fold x (slotsAt x i) L h.nodup
  have hk : k < L.length := by
    obtain ⟨h, _⟩ := List.getElem?_eq_some_iff.1 hi
    exact h
  refine ⟨h1, by rw [h2]; exact List.mem_append_left _ h.root, fun j hj => ?_, fun j hj s hs hg => ?_, by rw [h2, List.length_append]; omega⟩
  · rcases h4 j hj with hj | ⟨s, hs, hg, rfl⟩
    · exact h.sound j hj
    · exact .step (h.sound i (List.mem_of_getElem? hi)) hs hg
  · rw [h2, List.take_append_of_le_length (by omega), take_snoc hi, List.mem_append, List.mem_singleton] at hj
    rcases hj with hj | rfl
    · rw [h2]; exact List.mem_append_left _ (h.done j hj s hs hg)
    · exact h3 s hs hg
theorem BInv.len {x : Dsk} {k : Nat} {L : List Int} (h : BInv x k L) (hn : 0 < x.inos.length) : L.length ≤ x.inos.length := nodup_len h.nodup fun i hi => reach_in hn (h.sound i hi)
end Go.Proofs.Ytaaajjinpppgeaa
namespace Go.Proofs.Ytaaajjinpppgeaa
open Go Go.Abs
set_option maxRecDepth 100000
def marks {α : Type} (f : Nat → α) (l : List α) (i : Nat) : List α := (List.range i).map f ++ l.drop i
section
variable {α : Type} {f : Nat → α} {l : List α} {i : Nat}
theorem marks_0 : marks f l 0 = l := by simp [marks]
theorem marks_all : marks f l l.length = (List.range l.length).map f := by simp [marks]
theorem marks_len (h : i ≤ l.length) : (marks f l i).length = l.length := by simp [marks]; omega
theorem marks_get {x : α} (h : l[i]? = some x) : (marks f l i)[i]? = some x := by
  unfold marks
  rw [List.getElem?_append_right (by simp)]
  simp [h]
theorem marks_set (h : i < l.length) : (marks f l i).set i (f i) = marks f l (i + 1) := by
  unfold marks
  rw [List.set_append_right _ _ (by simp)]
  have e : i - ((List.range i).map f).length = 0 := by simp
  rw [e, List.drop_eq_getElem_cons h, List.set_cons_zero, List.range_succ, List.map_append, List.append_assoc]
  rfl
end
theorem set_map {α : Type} {f : α → AV} {l : List α} {i : Nat} {x : α} : (l.map f).set i (f x) = (l.set i x).map f := by rw [List.map_set]
theorem e100 (l : List Int) (k : Int) (h0 : 0 ≤ k) (hk : k ≤ 4611686018427387904) (hl : l.length ≤ 1048576) :
    E T 100 [.sl 0 0 l.length, .int .i64 k] [some (1, l.map iv)] = some (.int .i64 (k + l.length), [some (1, ((List.range l.length).map fun i => k + (i : Nat)).map iv)]) := by
  rw [E_eq t100 (Nat.le_of_ble_eq_true rfl)]
  simp only [F100, h100_2, go_sem, seval, bnd_ite]
  refine (XL_inv (T := T) (b := 1) (hd := H100_2) (x := L100_2) (β := Unit) (fun i _ => ⟨[(0, .sl 0 0 l.length), (1, .int .i64 (k + (i : Nat))), (5, .int .i64 (i : Nat))], [some (1, (marks (fun i => k + (i : Nat)) l i).map iv)]⟩)
    (fun i _ => True) l.length (fun r => r.1 = .exit 0 ∧ r.2.mem = [some (1, (marks (fun i => k + (i : Nat)) l l.length).map iv)] ∧ lookA r.2.env 1 = .int .i64 (k + l.length)) ?step ?last 0 () (by omega) trivial).elim ?main
  case step =>
    intro i _ hi _
    obtain ⟨p, hp⟩ := get_at hi
    have hi1 : (i : Int) < (l.length : Int) := by omega
    left
    refine ⟨(), ?_, trivial⟩
    have ms := marks_set (f := fun i => k + (i : Nat)) hi
    have sm : ∀ m : List Int, (m.map iv).set i (AV.int .i64 (k + (i : Nat))) = (m.set i (k + (i : Nat))).map iv := fun m => set_map (f := iv)
    have hml : (marks (fun i => k + (i : Nat)) l i).length = l.length := marks_len (by omega)
    have gx : ((marks (fun i => k + (i : Nat)) l i).map iv).getD i .undef = AV.int .i64 p := gD_map (marks_get hp)
    simp only [XG, L100_2, h100_2, go_sem, seval, bnd_ite, hi1, hml, hi, gx, Int.natCast_nonneg, w_i64 ((i : Int) + 1) (by omega), w_i64 (k + (i : Int) + 1) (by omega), sm, ms]
    rw [Int.add_assoc]; rfl
  case last =>
    intro _ _
    have hml : (marks (fun i => k + (i : Nat)) l l.length).length = l.length := marks_len (by omega)
    simp only [XG, L100_2, h100_2, go_sem, seval, bnd_ite, hml, Int.lt_irrefl, decide_false]
    exact .mk (by simp) ⟨rfl, rfl, rfl⟩
  case main =>
  rintro ⟨x, e, m⟩ ⟨h1, h2, h3, h4, h5⟩
  have hs : ((0 : Nat) : Int) = 0 := rfl
  rw [marks_0, hs, Int.add_zero] at h1
  simp only at h3 h4 h5; subst h3; subst h4
  simp only [h1, go_sem, seval, h5, marks_all]
def mb (k : Int) : Bool := decide (k.tmod 3 = 0)
theorem e145 (l : List Bool) (k : Int) (h0 : 0 ≤ k) (hk : k ≤ 4611686018427387904) (hl : l.length ≤ 1048576) :
    E T 145 [.sl 0 0 l.length, .int .i64 k] [some (1, l.map bv)] = some (.int .i64 (k + l.length), [some (1, ((List.range l.length).map fun i => mb (k + (i : Nat))).map bv)]) := by
  rw [E_eq t145 (Nat.le_of_ble_eq_true rfl)]
  simp only [F145, h145_2, go_sem, seval, bnd_ite]
  refine (XL_inv (T := T) (b := 1) (hd := H145_2) (x := L145_2) (β := Unit) (fun i _ => ⟨[(0, .sl 0 0 l.length), (1, .int .i64 (k + (i : Nat))), (5, .int .i64 (i : Nat))], [some (1, (marks (fun i => mb (k + (i : Nat))) l i).map bv)]⟩)
    (fun i _ => True) l.length (fun r => r.1 = .exit 0 ∧ r.2.mem = [some (1, (marks (fun i => mb (k + (i : Nat))) l l.length).map bv)] ∧ lookA r.2.env 1 = .int .i64 (k + l.length)) ?step ?last 0 () (by omega) trivial).elim ?main
  case step =>
    intro i _ hi _
    obtain ⟨p, hp⟩ := get_at hi
    have hi1 : (i : Int) < (l.length : Int) := by omega
    left
    refine ⟨(), ?_, trivial⟩
    have ms := marks_set (f := fun i => mb (k + (i : Nat))) hi
    have sm : ∀ m : List Bool, (m.map bv).set i (AV.bool (decide ((k + (i : Nat)).tmod 3 = 0))) = (m.set i (mb (k + (i : Nat)))).map bv := fun m => set_map (f := bv)
    have hml : (marks (fun i => mb (k + (i : Nat))) l i).length = l.length := marks_len (by omega)
    have gx : ((marks (fun i => mb (k + (i : Nat))) l i).map bv).getD i .undef = AV.bool p := gD_map (marks_get hp)
    simp only [XG, L145_2, h145_2, go_sem, seval, bnd_ite, hi1, hml, hi, gx, Int.natCast_nonneg, w_i64 ((i : Int) + 1) (by omega), w_i64 (k + (i : Int) + 1) (by omega), sm, ms]
    rw [Int.add_assoc]; rfl
  case last =>
    intro _ _
    have hml : (marks (fun i => mb (k + (i : Nat))) l l.length).length = l.length := marks_len (by omega)
    simp only [XG, L145_2, h145_2, go_sem, seval, bnd_ite, hml, Int.lt_irrefl, decide_false]
    exact .mk (by simp) ⟨rfl, rfl, rfl⟩
  case main =>
  rintro ⟨x, e, m⟩ ⟨h1, h2, h3, h4, h5⟩
  have hs : ((0 : Nat) : Int) = 0 := rfl
  rw [marks_0, hs, Int.add_zero] at h1
  simp only at h3 h4 h5; subst h3; subst h4
  simp only [h1, go_sem, seval, h5, marks_all]
end Go.Proofs.Ytaaajjinpppgeaa
namespace Go.Proofs.Ytaaajjinpppgeaa
open Go Go.Abs
set_option maxRecDepth 100000
theorem e207' (k : Int) (h0 : 0 ≤ k) (hk : k ≤ 4611686018427387904) : ∃ s, E T 207 [.int .i64 k] [] = some (.str s, []) := by
  rw [E_eq t207 (Nat.le_of_ble_eq_true rfl)]
  simp only [F207, h207_4, go_sem, seval, bnd_ite]
  by_cases c1 : k ≤ 0
  · rw [if_pos c1]; exact ⟨_, rfl⟩
  rw [if_neg c1]
  refine (XL_inv (T := T) (b := 0) (hd := H207_4) (x := L207_4) (β := Int × ByteArray) (fun i a => ⟨[(0, .int .i64 a.1), (3, .str a.2)], []⟩)
    (fun i a => 0 ≤ a.1 ∧ a.1 + i ≤ k ∧ a.2.size ≤ i) k.toNat (fun r => r.1 = .exit 0 ∧ ∃ s : ByteArray, lookA r.2.env 3 = .str s ∧ (s.size : Int) ≤ k) ?step ?last 0 (k, ⟨#[]⟩) (by omega) ⟨h0, by simp, Nat.le_refl 0⟩).elim ?main
  case step =>
    intro i a hi ⟨hI1, hI2, hI3⟩
    by_cases hp : 0 < a.1
    · left
      have hq : a.1.tdiv 10 = a.1 / 10 := Int.tdiv_eq_ediv_of_nonneg hI1
      simp only [XG, L207_4, h207_4, go_sem, seval, bnd_ite, hp, decide_true, hq, w_i64 (a.1 / 10) (by omega)]
      have sz : ∀ c : UInt8, (⟨#[c]⟩ : ByteArray).size = 1 := fun _ => rfl
      rw [if_pos (by first | (rw [sz]; omega) | (simp only [List.size_toArray, List.length_cons, List.length_nil]; omega))]
      exact ⟨(_, _), rfl, by show 0 ≤ a.1 / 10; omega, by show a.1 / 10 + ((i + 1 : Nat) : Int) ≤ k; omega, by rw [ByteArray.size_append, sz]; omega⟩
    · right
      simp only [XG, L207_4, h207_4, go_sem, seval, bnd_ite, hp, decide_false, Bool.false_eq_true, if_false]
      exact .mk (by simp) ⟨rfl, a.2, rfl, by omega⟩
  case last =>
    intro a ⟨hI1, hI2, hI3⟩
    have hp : ¬ 0 < a.1 := by omega
    simp only [XG, L207_4, h207_4, go_sem, seval, bnd_ite, hp, decide_false, Bool.false_eq_true, if_false]
    exact .mk (by simp) ⟨rfl, a.2, rfl, by omega⟩
  case main =>
  rintro ⟨x, e, m⟩ ⟨h1, h2, h3, s, h4, h5⟩
  simp only at h1 h3 h4; subst h3
  have sz : ∀ c : UInt8, (⟨#[c]⟩ : ByteArray).size = 1 := fun _ => rfl
  simp only [h1, go_sem, seval, h4]
  rw [if_pos (by first | (rw [sz]; omega) | (simp only [List.size_toArray, List.length_cons, List.length_nil]; omega))]
  simp only [go_sem, seval]
  exact ⟨_, rfl⟩
noncomputable def mtext (k : Int) : ByteArray := match E T 207 [.int .i64 k] [] with
  | some (.str s, _) => s
  | _ => ⟨#[]⟩
theorem e207 (k : Int) (h0 : 0 ≤ k) (hk : k ≤ 4611686018427387904) : E T 207 [.int .i64 k] [] = some (.str (mtext k), []) := by
  obtain ⟨s, h⟩ := e207' k h0 hk
  unfold mtext; rw [h]
end Go.Proofs.Ytaaajjinpppgeaa
namespace Go.Proofs.Ytaaajjinpppgeaa
open Go Go.Abs
set_option maxRecDepth 100000
section
variable {α : Type} (st : Int → α → α) (cost : α → Nat)
def mkL : Int → List α → List α
  | _, [] => []
  | k, x :: xs => st k x :: mkL (k + cost x) xs
def costL : List α → Nat
  | [] => 0
  | x :: xs => cost x + costL xs
def mkP (k : Int) (l : List α) (i : Nat) : List α := mkL st cost k (l.take i) ++ l.drop i
variable {st cost} {k : Int} {l : List α} {i : Nat} {x : α}
theorem mkL_len : ∀ {k : Int} {l : List α}, (mkL st cost k l).length = l.length := by
  intro k l
  induction l generalizing k with
  | nil => rfl
  | cons x xs ih => simp [mkL, ih]
theorem costL_app (a b : List α) : costL cost (a ++ b) = costL cost a + costL cost b := by
  induction a with
  | nil => simp [costL]
  | cons x xs ih => simp [costL, ih]; omega
theorem mkL_app (a b : List α) : ∀ k, mkL st cost k (a ++ b) = mkL st cost k a ++ mkL st cost (k + costL cost a) b := by
  induction a with
  | nil => intro k; simp [mkL, costL]
  | cons x xs ih =>
    intro k
    simp only [List.cons_append, mkL, costL, ih]
    rw [show k + ((cost x + costL cost xs : Nat) : Int) = k + (cost x : Int) + (costL cost xs : Int) by omega]
theorem costL_succ (h : l[i]? = some x) : costL cost (l.take (i + 1)) = costL cost (l.take i) + cost x := by
  rw [take_snoc h, costL_app]; simp [costL]
theorem costL_le {C : Nat} : ∀ {l : List α}, (∀ x ∈ l, cost x ≤ C) → costL cost l ≤ l.length * C := by
  intro l
  induction l with
  | nil => intro _; simp [costL]
  | cons x xs ih =>
    intro h
    have h1 := ih (fun y hy => h y (List.mem_cons_of_mem _ hy))
    have h2 := h x (List.mem_cons_self ..)
    simp only [costL, List.length_cons, Nat.add_mul, Nat.one_mul]; omega
theorem mkP_0 : mkP st cost k l 0 = l := by simp [mkP, mkL]
theorem mkP_all : mkP st cost k l l.length = mkL st cost k l := by simp [mkP]
theorem mkP_len : (mkP st cost k l i).length = l.length := by simp [mkP, mkL_len]; omega
theorem mkP_get (h : l[i]? = some x) : (mkP st cost k l i)[i]? = some x := by
  have hi := (List.getElem?_eq_some_iff.1 h).1
  unfold mkP
  rw [List.getElem?_append_right (by rw [mkL_len, List.length_take]; exact Nat.min_le_left ..)]
  simp [mkL_len, Nat.min_eq_left (Nat.le_of_lt hi), h]
theorem mkP_set (h : l[i]? = some x) : (mkP st cost k l i).set i (st (k + costL cost (l.take i)) x) = mkP st cost k l (i + 1) := by
  have hi := (List.getElem?_eq_some_iff.1 h).1
  obtain ⟨_, hx⟩ := List.getElem?_eq_some_iff.1 h
  unfold mkP
  rw [take_snoc h, mkL_app, List.set_append_right _ _ (by rw [mkL_len, List.length_take]; exact Nat.min_le_left ..)]
  have e : i - (mkL st cost k (l.take i)).length = 0 := by rw [mkL_len]; simp; omega
  rw [e, List.drop_eq_getElem_cons hi, List.set_cons_zero, List.append_assoc]
  rfl
theorem mkL_at : ∀ {l : List α} {k : Int} {i : Nat} {x : α}, l[i]? = some x → (mkL st cost k l)[i]? = some (st (k + costL cost (l.take i)) x) := by
  intro l
  induction l with
  | nil => intro k i x h; simp at h
  | cons y ys ih =>
    intro k i x h
    cases i with
    | zero => simp only [List.getElem?_cons_zero, Option.some.injEq] at h; subst h; simp [mkL, costL]
    | succ i =>
      simp only [List.getElem?_cons_succ] at h
      simp only [mkL, List.getElem?_cons_succ, ih h, List.take_succ_cons, costL]
      rw [show k + ((cost y + costL cost (ys.take i) : Nat) : Int) = k + (cost y : Int) + (costL cost (ys.take i) : Int) by omega]
end
theorem getD_set {l : List AV} {i : Nat} (h : i < l.length) (v : AV) : (l.set i v).getD i .undef = v := by simp [h]
noncomputable def mkSlt (k : Int) (_ : Slt) : Slt := ⟨mtext k, k + 1⟩
theorem e151 (l : List Slt) (k : Int) (h0 : 0 ≤ k) (hk : k ≤ 1152921504606846976) (hl : l.length ≤ 1048576) :
    E T 151 [.sl 0 0 l.length, .int .i64 k] [some (2, l.map slt)] = some (.int .i64 (k + costL (fun _ => 2) l), [some (2, (mkL mkSlt (fun _ => 2) k l).map slt)]) := by
  rw [E_eq t151 (Nat.le_of_ble_eq_true rfl)]
  simp only [F151, h151_2, go_sem, seval, bnd_ite]
  have hc : ∀ i, costL (fun _ => 2) (l.take i) ≤ 2097152 := fun i => by
    have h1 := costL_le (cost := fun _ : Slt => 2) (C := 2) (l := l.take i) (fun _ _ => Nat.le_refl _)
    have h2 : (l.take i).length ≤ l.length := by simp; omega
    omega
  refine (XL_inv (T := T) (b := 1) (hd := H151_2) (x := L151_2) (β := Unit) (fun i _ => ⟨[(0, .sl 0 0 l.length), (1, .int .i64 (k + (costL (fun _ => 2) (l.take i) : Nat))), (5, .int .i64 (i : Nat))], [some (2, (mkP mkSlt (fun _ => 2) k l i).map slt)]⟩)
    (fun i _ => True) l.length (fun r => r.1 = .exit 0 ∧ r.2.mem = [some (2, (mkL mkSlt (fun _ => 2) k l).map slt)] ∧ lookA r.2.env 1 = .int .i64 (k + (costL (fun _ => 2) l : Nat))) ?step ?last 0 () (by omega) trivial).elim ?main
  case step =>
    intro i _ hi _
    obtain ⟨p, hp⟩ := get_at hi
    have hi1 : (i : Int) < (l.length : Int) := by omega
    have hci := hc i
    left
    refine ⟨(), ?_, trivial⟩
    have ms := mkP_set (st := mkSlt) (cost := fun _ => 2) (k := k) hp
    have cs := costL_succ (cost := fun _ : Slt => 2) hp
    have gx : ((mkP mkSlt (fun _ => 2) k l i).map slt).getD i .undef = slt p := gD_map (mkP_get hp)
    generalize hR : mkP mkSlt (fun _ => 2) k l i = R at *
    have hml : R.length = l.length := by rw [← hR]; exact mkP_len
    have hmi : i < (R.map slt).length := by rw [List.length_map, hml]; exact hi
    have e1 := e207 (k + (costL (fun _ => 2) (l.take i) : Nat)) (by omega) (by omega)
    generalize hK : k + (costL (fun _ => 2) (l.take i) : Int) = K at *
    have sm : (R.map slt).set i (.agg [.str (mtext K), .int .i64 (K + 1)]) = (mkP mkSlt (fun _ => 2) k l (i + 1)).map slt := by rw [← ms]; exact set_map (f := slt) (x := mkSlt K p)
    have e2 : k + ((costL (fun _ => 2) (l.take (i + 1)) : Nat) : Int) = K + 1 + 1 := by rw [cs]; omega
    simp only [XG, L151_2, h151_2, go_sem, seval, bnd_ite, hi1, hml, hi, gx, sm, slt, e1, getD_set hmi, List.set_set, Int.natCast_nonneg, w_i64 ((i : Int) + 1) (by omega), w_i64 (K + 1) (by omega), w_i64 (K + 1 + 1) (by omega)]
    rw [e2]; rfl
  case last =>
    intro _ _
    have hml : (mkP mkSlt (fun _ => 2) k l l.length).length = l.length := mkP_len
    simp only [XG, L151_2, h151_2, go_sem, seval, bnd_ite, hml, Int.lt_irrefl, decide_false]
    exact .mk (by simp) ⟨rfl, by rw [mkP_all], rfl⟩
  case main =>
  rintro ⟨x, e, m⟩ ⟨h1, h2, h3, h4, h5⟩
  have hs : ((0 : Nat) : Int) = 0 := rfl
  simp only [mkP_0, List.take_zero, costL, hs, Int.add_zero] at h1
  simp only at h3 h4 h5; subst h3; subst h4
  simp only [h1, go_sem, seval, h5]
end Go.Proofs.Ytaaajjinpppgeaa
namespace Go.Proofs.Ytaaajjinpppgeaa
open Go Go.Abs
set_option maxRecDepth 100000
def mkIno (k : Int) (x : Ino) : Ino := ⟨k, k + 1, (List.range x.ptrs.length).map fun i => k + 1 + 1 + (i : Nat)⟩
def coIno (x : Ino) : Nat := 2 + x.ptrs.length
theorem costIno {l : List Ino} (hl : l.length ≤ 1048576) (hs : ∀ x ∈ l, x.sm) (i : Nat) : costL coIno (l.take i) ≤ 1099513724928 := by
  have h1 := costL_le (cost := coIno) (C := 1048578) (l := l.take i) (fun x hx => by have := hs x (List.mem_of_mem_take hx); unfold Ino.sm at this; unfold coIno; omega)
  have h2 : (l.take i).length ≤ l.length := by simp; omega
  have h3 : (l.take i).length * 1048578 ≤ 1048576 * 1048578 := Nat.mul_le_mul_right _ (by omega)
  omega
theorem e161 (l : List Ino) (k : Int) (h0 : 0 ≤ k) (hk : k ≤ 1152921504606846976) (hl : l.length ≤ 1048576) (hs : ∀ x ∈ l, x.sm) :
    E T 161 [.sl 0 0 l.length, .int .i64 k] [some (3, l.map inoO)] = some (.int .i64 (k + costL coIno l), [some (3, (mkL mkIno coIno k l).map inoO)]) := by
  rw [E_eq t161 (Nat.le_of_ble_eq_true rfl)]
  simp only [F161, h161_2, go_sem, seval, bnd_ite]
  refine (XL_inv (T := T) (b := 1) (hd := H161_2) (x := L161_2) (β := Unit) (fun i _ => ⟨[(0, .sl 0 0 l.length), (1, .int .i64 (k + (costL coIno (l.take i) : Nat))), (5, .int .i64 (i : Nat))], [some (3, (mkP mkIno coIno k l i).map inoO)]⟩)
    (fun i _ => True) l.length (fun r => r.1 = .exit 0 ∧ r.2.mem = [some (3, (mkL mkIno coIno k l).map inoO)] ∧ lookA r.2.env 1 = .int .i64 (k + (costL coIno l : Nat))) ?step ?last 0 () (by omega) trivial).elim ?main
  case step =>
    intro i _ hi _
    obtain ⟨p, hp⟩ := get_at hi
    have hi1 : (i : Int) < (l.length : Int) := by omega
    have hci := costIno hl hs i
    have hps := hs p (List.mem_of_getElem? hp)
    unfold Ino.sm at hps
    left
    refine ⟨(), ?_, trivial⟩
    have ms := mkP_set (st := mkIno) (cost := coIno) (k := k) hp
    have cs := costL_succ (cost := coIno) hp
    have gx : ((mkP mkIno coIno k l i).map inoO).getD i .undef = .agg [.int .i64 p.kind, .int .i64 p.links, .own 1 (p.ptrs.map iv)] := gD_map (mkP_get hp)
    generalize hR : mkP mkIno coIno k l i = R at *
    have hml : R.length = l.length := by rw [← hR]; exact mkP_len
    have hmi : i < (R.map inoO).length := by rw [List.length_map, hml]; exact hi
    generalize hK : k + (costL coIno (l.take i) : Int) = K at *
    have e1 := e100 p.ptrs (K + 1 + 1) (by omega) (by omega) hps
    have sm : (R.map inoO).set i (.agg [.int .i64 K, .int .i64 (K + 1), .own 1 (((List.range p.ptrs.length).map fun i => K + 1 + 1 + (i : Nat)).map iv)]) = (mkP mkIno coIno k l (i + 1)).map inoO := by rw [← ms]; exact set_map (f := inoO) (x := mkIno K p)
    have e2 : k + ((costL coIno (l.take (i + 1)) : Nat) : Int) = K + 1 + 1 + (p.ptrs.length : Int) := by rw [cs, coIno]; omega
    have it : ((i : Int) + 0).toNat = i := by omega
    have htk : (List.map iv ((List.range p.ptrs.length).map fun i => K + 1 + 1 + (i : Nat))).take p.ptrs.length = List.map iv ((List.range p.ptrs.length).map fun i => K + 1 + 1 + (i : Nat)) := List.take_of_length_le (by simp)
    simp only [XG, L161_2, h161_2, it, go_sem, seval, bnd_ite, hi1, hml, hi, gx, getD_set hmi, List.set_set, Int.natCast_nonneg, w_i64 ((i : Int) + 1) (by omega), w_i64 (K + 1) (by omega), w_i64 (K + 1 + 1) (by omega), e1, is_set, inoO_is, List.length_range, htk, sm]
    rw [e2]; rfl
  case last =>
    intro _ _
    have hml : (mkP mkIno coIno k l l.length).length = l.length := mkP_len
    simp only [XG, L161_2, h161_2, go_sem, seval, bnd_ite, hml, Int.lt_irrefl, decide_false]
    exact .mk (by simp) ⟨rfl, by rw [mkP_all], rfl⟩
  case main =>
  rintro ⟨x, e, m⟩ ⟨h1, h2, h3, h4, h5⟩
  have h0' : ((0 : Nat) : Int) = 0 := rfl
  simp only [mkP_0, List.take_zero, costL, h0', Int.add_zero] at h1
  simp only at h3 h4 h5; subst h3; subst h4
  simp only [h1, go_sem, seval, h5]
noncomputable def mkBlk (k : Int) (x : Blk) : Blk := ⟨mb k, mkL mkSlt (fun _ => 2) (k + 1) x.slots, mtext (k + 1 + costL (fun _ => 2) x.slots)⟩
def coBlk (x : Blk) : Nat := 2 + costL (fun _ => 2) x.slots
theorem costSlt {l : List Slt} (hl : l.length ≤ 1048576) : costL (fun _ => 2) l ≤ 2097152 := by
  have h1 := costL_le (cost := fun _ : Slt => 2) (C := 2) (l := l) (fun _ _ => Nat.le_refl _)
  omega
theorem costBlk {l : List Blk} (hl : l.length ≤ 1048576) (hs : ∀ x ∈ l, x.sm) (i : Nat) : costL coBlk (l.take i) ≤ 2199025352704 := by
  have h1 := costL_le (cost := coBlk) (C := 2097154) (l := l.take i) (fun x hx => by have := costSlt (hs x (List.mem_of_mem_take hx)); unfold coBlk; omega)
  have h2 : (l.take i).length ≤ l.length := by simp; omega
  have h3 : (l.take i).length * 2097154 ≤ 1048576 * 2097154 := Nat.mul_le_mul_right _ (by omega)
  omega
theorem e162 (l : List Blk) (k : Int) (h0 : 0 ≤ k) (hk : k ≤ 1125899906842624) (hl : l.length ≤ 1048576) (hs : ∀ x ∈ l, x.sm) :
    E T 162 [.sl 0 0 l.length, .int .i64 k] [some (3, l.map blkO)] = some (.int .i64 (k + costL coBlk l), [some (3, (mkL mkBlk coBlk k l).map blkO)]) := by
  rw [E_eq t162 (Nat.le_of_ble_eq_true rfl)]
  simp only [F162, h162_2, go_sem, seval, bnd_ite]
  refine (XL_inv (T := T) (b := 1) (hd := H162_2) (x := L162_2) (β := Unit) (fun i _ => ⟨[(0, .sl 0 0 l.length), (1, .int .i64 (k + (costL coBlk (l.take i) : Nat))), (5, .int .i64 (i : Nat))], [some (3, (mkP mkBlk coBlk k l i).map blkO)]⟩)
    (fun i _ => True) l.length (fun r => r.1 = .exit 0 ∧ r.2.mem = [some (3, (mkL mkBlk coBlk k l).map blkO)] ∧ lookA r.2.env 1 = .int .i64 (k + (costL coBlk l : Nat))) ?step ?last 0 () (by omega) trivial).elim ?main
  case step =>
    intro i _ hi _
    obtain ⟨p, hp⟩ := get_at hi
    have hi1 : (i : Int) < (l.length : Int) := by omega
    have hci := costBlk hl hs i
    have hps := hs p (List.mem_of_getElem? hp)
    unfold Blk.sm at hps
    have hcs := costSlt hps
    left
    refine ⟨(), ?_, trivial⟩
    have ms := mkP_set (st := mkBlk) (cost := coBlk) (k := k) hp
    have cs := costL_succ (cost := coBlk) hp
    have gx : ((mkP mkBlk coBlk k l i).map blkO).getD i .undef = .agg [.bool p.dir, .own 2 (p.slots.map slt), .str p.text] := gD_map (mkP_get hp)
    generalize hR : mkP mkBlk coBlk k l i = R at *
    have hml : R.length = l.length := by rw [← hR]; exact mkP_len
    have hmi : i < (R.map blkO).length := by rw [List.length_map, hml]; exact hi
    generalize hK : k + (costL coBlk (l.take i) : Int) = K at *
    have e1 := e151 p.slots (K + 1) (by omega) (by omega) hps
    have sm : (R.map blkO).set i (.agg [.bool (mb K), .own 2 ((mkL mkSlt (fun _ => 2) (K + 1) p.slots).map slt), .str (mtext (K + 1 + costL (fun _ => 2) p.slots))]) = (mkP mkBlk coBlk k l (i + 1)).map blkO := by rw [← ms]; exact set_map (f := blkO) (x := mkBlk K p)
    have e2 : k + ((costL coBlk (l.take (i + 1)) : Nat) : Int) = K + 1 + (costL (fun _ => 2) p.slots : Nat) + 1 := by rw [cs, coBlk]; omega
    generalize hS : costL (fun _ => 2) p.slots = S at *
    have e4 := e207 (K + 1 + S) (by omega) (by omega)
    have it : ((i : Int) + 0).toNat = i := by omega
    have hmk : (mkL mkSlt (fun _ => 2) (K + 1) p.slots).length = p.slots.length := mkL_len
    generalize hM : mkL mkSlt (fun _ => 2) (K + 1) p.slots = M at *
    have htk : (List.map slt M).take p.slots.length = List.map slt M := List.take_of_length_le (by simp [hmk])
    unfold mb at sm
    simp only [XG, L162_2, h162_2, it, go_sem, seval, bnd_ite, hi1, hml, hi, gx, getD_set hmi, List.set_set, Int.natCast_nonneg, w_i64 ((i : Int) + 1) (by omega), w_i64 (K + 1) (by omega), w_i64 (K + 1 + S + 1) (by omega), e1, e4, is_set, blkO_is, hmk, htk, sm]
    rw [e2]; rfl
  case last =>
    intro _ _
    have hml : (mkP mkBlk coBlk k l l.length).length = l.length := mkP_len
    simp only [XG, L162_2, h162_2, go_sem, seval, bnd_ite, hml, Int.lt_irrefl, decide_false]
    exact .mk (by simp) ⟨rfl, by rw [mkP_all], rfl⟩
  case main =>
  rintro ⟨x, e, m⟩ ⟨h1, h2, h3, h4, h5⟩
  have h0' : ((0 : Nat) : Int) = 0 := rfl
  simp only [mkP_0, List.take_zero, costL, h0', Int.add_zero] at h1
  simp only at h3 h4 h5; subst h3; subst h4
  simp only [h1, go_sem, seval, h5]
end Go.Proofs.Ytaaajjinpppgeaa
namespace Go.Proofs.Ytaaajjinpppgeaa
open Go Go.Abs
set_option maxRecDepth 100000
def mkB (k : Int) (n : Nat) : List Bool := (List.range n).map fun i => mb (k + (i : Nat))
theorem mkB_len (k : Int) (n : Nat) : (mkB k n).length = n := by simp [mkB]
theorem e145' (l : List Bool) (k : Int) (h0 : 0 ≤ k) (hk : k ≤ 4611686018427387904) (hl : l.length ≤ 1048576) :
    E T 145 [.sl 0 0 l.length, .int .i64 k] [some (1, l.map bv)] = some (.int .i64 (k + l.length), [some (1, (mkB k l.length).map bv)]) := e145 l k h0 hk hl
theorem e160 (a b : List Bool) (k : Int) (h0 : 0 ≤ k) (hk : k ≤ 1152921504606846976) (ha : a.length ≤ 1048576) (hb : b.length ≤ 1048576) :
    E T 160 [.agg [.sl 0 0 a.length, .sl 1 0 b.length], .int .i64 k] [some (1, a.map bv), some (1, b.map bv)] = some (.int .i64 (k + a.length + b.length), [some (1, (mkB k a.length).map bv), some (1, (mkB (k + a.length) b.length).map bv)]) := by
  rw [E_eq t160 (Nat.le_of_ble_eq_true rfl)]
  simp only [F160, go_sem, seval, bnd_ite, e145' a k h0 (by omega) ha, e145' b (k + a.length) (by omega) (by omega) hb]
def coDsk (x : Dsk) : Nat := x.used.length + x.taken.length + costL coIno x.inos + costL coBlk x.blks
noncomputable def mkDsk (k : Int) (x : Dsk) : Dsk :=
  ⟨mkB k x.used.length, mkB (k + x.used.length) x.taken.length, mkL mkIno coIno (k + x.used.length + x.taken.length) x.inos, mkL mkBlk coBlk (k + x.used.length + x.taken.length + costL coIno x.inos) x.blks⟩
theorem coDsk_le {x : Dsk} (h : x.sm) : costL coIno x.inos ≤ 1099513724928 ∧ costL coBlk x.blks ≤ 2199025352704 := by
  have h1 := costIno h.inos h.ino x.inos.length
  have h2 := costBlk h.blks h.blk x.blks.length
  rw [List.take_length] at h1 h2
  exact ⟨h1, h2⟩
def dskR (x : Dsk) : Mem := [some (1, x.used.map bv), some (1, x.taken.map bv), some (3, x.inos.map inoO), some (3, x.blks.map blkO)]
theorem e63 (x : Dsk) (k : Int) (h0 : 0 ≤ k) (hk : k ≤ 562949953421312) (h : x.sm) :
    E T 63 [.agg [.sl 0 0 x.used.length, .sl 1 0 x.taken.length, .sl 2 0 x.inos.length, .sl 3 0 x.blks.length], .int .i64 k] (dskR x) = some (.int .i64 (k + coDsk x), dskR (mkDsk k x)) := by
  rw [E_eq t63 (Nat.le_of_ble_eq_true rfl)]
  obtain ⟨c1, c2⟩ := coDsk_le h
  have u1 := h.used
  have u2 := h.taken
  have e1 := e160 x.used x.taken k h0 (by omega) h.used h.taken
  have e2 := e161 x.inos (k + x.used.length + x.taken.length) (by omega) (by omega) h.inos h.ino
  have e3 := e162 x.blks (k + x.used.length + x.taken.length + costL coIno x.inos) (by omega) (by omega) h.blks h.blk
  have e4 : k + (coDsk x : Int) = k + x.used.length + x.taken.length + costL coIno x.inos + costL coBlk x.blks := by unfold coDsk; omega
  simp only [dskR, mkDsk, F63, go_sem, seval, bnd_ite, e1, e2, e3, e4]
end Go.Proofs.Ytaaajjinpppgeaa
namespace Go.Proofs.Ytaaajjinpppgeaa
open Go Go.Abs
set_option maxRecDepth 100000
def free (l : List Bool) (n : Int) : Bool := inside n 1 l.length && !(l.getD (n - 1).toNat false)
end Go.Proofs.Ytaaajjinpppgeaa
namespace Go.Proofs.Ytaaajjinpppgeaa
open Go Go.Abs
set_option maxRecDepth 100000
theorem e219 (a b : List Bool) : E T 219 [.agg [.ro 1 (a.map bv), .ro 1 (b.map bv)]] [] = some (.bool (decide (a.length = 16) && decide (b.length = 8)), []) := by
  rw [E_eq t219 (Nat.le_of_ble_eq_true rfl)]
  simp only [F219, go_sem, seval, bnd_ite]
  by_cases h1 : a.length = 16 <;> by_cases h2 : b.length = 8 <;> simp [h1, h2] <;> omega
theorem e225 (a b : List Bool) : E T 225 [.agg [.ro 1 (a.map bv), .ro 1 (b.map bv)]] [] = some (.bool (decide (a.length = 16) && decide (b.length = 8)), []) := by
  rw [E_eq t225 (Nat.le_of_ble_eq_true rfl)]
  simp only [F225, go_sem, seval, bnd_ite]
  by_cases h1 : a.length = 16 <;> by_cases h2 : b.length = 8 <;> simp [h1, h2] <;> omega
theorem e227 (x : Int) : E T 227 [.int .i64 x] [] = some (.bool (inside x 1 8), []) := by
  rw [E_eq t227 (Nat.le_of_ble_eq_true rfl)]
  simp only [F227, go_sem, seval, bnd_ite, e117i]
def sgn (c : UInt8) : Bool := inside c.toNat 97 122 || inside c.toNat 48 57
def nameOk (s : ByteArray) : Bool := s.data.toList.all sgn && inside s.size 1 6
theorem ba_len (s : ByteArray) : s.data.toList.length = s.size := Array.length_toList
theorem e222 (s : ByteArray) (hl : s.size ≤ maxLen) : E T 222 [.str s] [] = some (.bool (nameOk s), []) := by
  rw [E_eq t222 (Nat.le_of_ble_eq_true rfl)]
  have hn := ba_len s
  unfold maxLen at hl
  refine (XL_all (T := T) (b := 0) (hd := H222_2) (x := L222_2) s.data.toList sgn (fun i => ⟨[(0, .str s), (3, .int .i64 (i : Nat))], []⟩)
    (fun r => r.1 = .exit 0 ∧ lookA r.2.env 0 = .str s) (fun r => r.1 = .ret ∧ lookA r.2.env 2 = .bool false) ?step ?hit ?last).elim ?main
  case step =>
    intro i c hc hi hp _
    have hi1 : (i : Int) < (s.size : Int) := by omega
    have gc : s.data.toList.getD i 0 = c := by simp [List.getD, hc]
    simp only [XG, L222_2, h222_2, go_sem, seval, bnd_ite, hi1, Int.toNat_natCast, gc, Int.natCast_nonneg, w_i64 ((i : Int) + 1) (by omega)]
    have hf : ((decide ((c.toNat : Int) < 97) || decide (122 < (c.toNat : Int))) && (decide ((c.toNat : Int) < 48) || decide (57 < (c.toNat : Int)))) = false := by
      rw [← Bool.not_eq_true]; intro h
      simp only [sgn, inside, Bool.or_eq_true, Bool.and_eq_true, decide_eq_true_eq] at hp h
      omega
    rw [hf]; simp only [Bool.false_eq_true, if_false]
    rfl
  case hit =>
    intro i c hc hi hp _
    have hi1 : (i : Int) < (s.size : Int) := by omega
    have gc : s.data.toList.getD i 0 = c := by simp [List.getD, hc]
    have hf : ((decide ((c.toNat : Int) < 97) || decide (122 < (c.toNat : Int))) && (decide ((c.toNat : Int) < 48) || decide (57 < (c.toNat : Int)))) = true := by
      simp only [sgn, inside, Bool.or_eq_false_iff, Bool.and_eq_false_iff, decide_eq_false_iff_not] at hp
      simp only [Bool.or_eq_true, Bool.and_eq_true, decide_eq_true_eq]
      omega
    simp only [XG, L222_2, h222_2, go_sem, seval, bnd_ite, hi1, Int.toNat_natCast, gc, Int.natCast_nonneg, w_i64 ((i : Int) + 1) (by omega), hf, if_true]
    exact .mk (by simp) ⟨rfl, rfl⟩
  case last =>
    intro _
    simp only [XG, L222_2, h222_2, go_sem, seval, bnd_ite, hn, Int.lt_irrefl, decide_false]
    exact .mk (by simp) ⟨rfl, rfl⟩
  case main =>
  rintro ⟨y, e, m⟩ ⟨k1, k2⟩
  have hs : ((0 : Nat) : Int) = 0 := rfl
  simp only [hs] at k1
  unfold nameOk
  rcases k2 with ⟨h, k2, k3⟩ | ⟨h, k2, k3⟩ <;> simp only at k2 k3 <;> subst k2
  · simp only [F222, h222_2, go_sem, seval, bnd_ite, k1, k3, e116i, h, Bool.true_and]
  · simp only [F222, h222_2, go_sem, seval, bnd_ite, k1, k3, h, Bool.false_and]
theorem e230 (s : ByteArray) (hl : s.size ≤ maxLen) : E T 230 [.str s] [] = some (.bool (nameOk s), []) := by
  rw [E_eq t230 (Nat.le_of_ble_eq_true rfl)]
  have hn := ba_len s
  unfold maxLen at hl
  refine (XL_all (T := T) (b := 0) (hd := H230_2) (x := L230_2) s.data.toList sgn (fun i => ⟨[(0, .str s), (5, .int .i64 s.size), (6, .int .i64 (i : Nat))], []⟩)
    (fun r => r.1 = .exit 0 ∧ lookA r.2.env 0 = .str s) (fun r => r.1 = .ret ∧ lookA r.2.env 2 = .bool false) ?step ?hit ?last).elim ?main
  case step =>
    intro i c hc hi hp _
    have hi1 : (i : Int) < (s.size : Int) := by omega
    have gc : s.data.toList.getD i 0 = c := by simp [List.getD, hc]
    have hw : (c.toNat : Int) ≤ 255 := by have := c.toNat_lt; omega
    simp only [sgn] at hp
    have hf : (!inside (c.toNat : Int) 97 122 && !inside (c.toNat : Int) 48 57) = false := by
      rw [← Bool.not_or, hp]; rfl
    simp only [XG, L230_2, h230_2, go_sem, seval, bnd_ite, hi1, Int.toNat_natCast, gc, Int.natCast_nonneg, w_i64 (c.toNat : Int) (by omega), w_i64 ((i : Int) + 1) (by omega), e117i, hf, Bool.false_eq_true, if_false]
    rfl
  case hit =>
    intro i c hc hi hp _
    have hi1 : (i : Int) < (s.size : Int) := by omega
    have gc : s.data.toList.getD i 0 = c := by simp [List.getD, hc]
    have hw : (c.toNat : Int) ≤ 255 := by have := c.toNat_lt; omega
    simp only [sgn] at hp
    have hf : (!inside (c.toNat : Int) 97 122 && !inside (c.toNat : Int) 48 57) = true := by
      rw [← Bool.not_or, hp]; rfl
    simp only [XG, L230_2, h230_2, go_sem, seval, bnd_ite, hi1, Int.toNat_natCast, gc, Int.natCast_nonneg, w_i64 (c.toNat : Int) (by omega), w_i64 ((i : Int) + 1) (by omega), e117i, hf, if_true]
    exact .mk (by simp) ⟨rfl, rfl⟩
  case last =>
    intro _
    simp only [XG, L230_2, h230_2, go_sem, seval, bnd_ite, hn, Int.lt_irrefl, decide_false]
    exact .mk (by simp) ⟨rfl, rfl⟩
  case main =>
  rintro ⟨y, e, m⟩ ⟨k1, k2⟩
  have hs : ((0 : Nat) : Int) = 0 := rfl
  simp only [hs] at k1
  unfold nameOk
  rcases k2 with ⟨h, k2, k3⟩ | ⟨h, k2, k3⟩ <;> simp only at k2 k3 <;> subst k2
  · simp only [F230, h230_2, go_sem, seval, bnd_ite, k1, k3, e117i, h, Bool.true_and]
  · simp only [F230, h230_2, go_sem, seval, bnd_ite, k1, k3, h, Bool.false_and]
end Go.Proofs.Ytaaajjinpppgeaa
namespace Go.Proofs.Ytaaajjinpppgeaa
open Go Go.Abs
set_option maxRecDepth 100000
def ptrOk (k p : Int) : Bool := inside p 0 16 && !(decide (k = 0) && decide (p ≠ 0))
def inoOk (x : Ino) : Bool := x.ptrs.all (ptrOk x.kind) && (inside x.kind 0 2 && inside x.links 0 200 && decide (x.ptrs.length = 2) && (!decide (x.kind = 0) || decide (x.links = 0)))
theorem e223 (x : Ino) (hk : x.ok) : E T 223 [ino x] [] = some (.bool (inoOk x), []) := by
  rw [E_eq t223 (Nat.le_of_ble_eq_true rfl)]
  unfold Ino.ok maxLen at hk
  refine (XL_all (T := T) (b := 0) (hd := H223_2) (x := L223_2) x.ptrs (ptrOk x.kind) (fun i => ⟨[(1, .ptr 0 0 0), (6, .ro 1 (x.ptrs.map iv)), (7, .int .i64 x.ptrs.length), (8, .int .i64 (i : Nat))], [some (3, [.agg [.int .i64 x.kind, .int .i64 x.links, .ro 1 (x.ptrs.map iv)]])]⟩)
    (fun r => r.1 = .exit 0 ∧ lookA r.2.env 1 = .ptr 0 0 0 ∧ r.2.mem = [some (3, [.agg [.int .i64 x.kind, .int .i64 x.links, .ro 1 (x.ptrs.map iv)]])]) (fun r => r.1 = .ret ∧ lookA r.2.env 2 = .bool false) ?step ?hit ?last).elim ?main
  case step =>
    intro i p hp hi hP _
    have hi1 : (i : Int) < (x.ptrs.length : Int) := by omega
    have gp : (x.ptrs.map iv).getD i .undef = .int .i64 p := gD_map hp
    have hf : (!inside p 0 16 || !decide (p = 0) && decide (x.kind = 0)) = false := by
      simp only [ptrOk, Bool.and_eq_true, Bool.not_eq_true'] at hP
      rw [hP.1]; rw [Bool.and_comm]; simpa using hP.2
    simp only [XG, L223_2, h223_2, go_sem, seval, bnd_ite, hi1, gp, Int.natCast_nonneg, w_i64 ((i : Int) + 1) (by omega), e117i, hf, Bool.false_eq_true, if_false]
    rfl
  case hit =>
    intro i p hp hi hP _
    have hi1 : (i : Int) < (x.ptrs.length : Int) := by omega
    have gp : (x.ptrs.map iv).getD i .undef = .int .i64 p := gD_map hp
    have hf : (!inside p 0 16 || !decide (p = 0) && decide (x.kind = 0)) = true := by
      unfold ptrOk at hP
      cases h1 : inside p 0 16 with
      | false => rfl
      | true => rw [h1, Bool.true_and] at hP; rw [Bool.and_comm]; simpa using hP
    simp only [XG, L223_2, h223_2, go_sem, seval, bnd_ite, hi1, gp, Int.natCast_nonneg, w_i64 ((i : Int) + 1) (by omega), e117i, hf, if_true]
    exact .mk (by simp) ⟨rfl, rfl⟩
  case last =>
    intro _
    simp only [XG, L223_2, h223_2, go_sem, seval, bnd_ite, Int.lt_irrefl, decide_false]
    exact .mk (by simp) ⟨rfl, rfl, rfl⟩
  case main =>
  rintro ⟨y, e, m⟩ ⟨k1, k2⟩
  have hs : ((0 : Nat) : Int) = 0 := rfl
  simp only [hs] at k1
  unfold inoOk
  rcases k2 with ⟨h, k2, k3⟩ | ⟨h, k2, k3⟩ <;> simp only at k2 k3 <;> subst k2
  · obtain ⟨k3, rfl⟩ := k3
    simp only [ino, F223, h223_2, go_sem, seval, bnd_ite, k1, k3, e117i, h, Bool.true_and]
    have hl : decide ((x.ptrs.length : Int) = 2) = decide (x.ptrs.length = 2) := by congr 1; apply propext; omega
    rw [hl]
  · simp only [ino, F223, h223_2, go_sem, seval, bnd_ite, k1, k3, h, Bool.false_and]
theorem e220 (x : Ino) (hk : x.ok) : E T 220 [ino x] [] = some (.bool (inoOk x), []) := by
  rw [E_eq t220 (Nat.le_of_ble_eq_true rfl)]
  unfold Ino.ok maxLen at hk
  have hl : decide ((x.ptrs.length : Int) = 2) = decide (x.ptrs.length = 2) := by congr 1; apply propext; omega
  by_cases hc : (inside x.kind 0 2 && inside x.links 0 200 && decide (x.ptrs.length = 2)) = true
  case neg =>
    have hf : (!inside x.kind 0 2 || !inside x.links 0 200 || !decide (x.ptrs.length = 2)) = true := by
      rw [← Bool.not_and, ← Bool.not_and, Bool.eq_false_iff.2 hc]; rfl
    have hr : inoOk x = false := by
      have hc : (inside x.kind 0 2 && inside x.links 0 200 && decide (x.ptrs.length = 2)) = false := Bool.eq_false_iff.2 hc
      unfold inoOk; rw [hc]; simp
    simp only [ino, F220, h220_4, go_sem, seval, bnd_ite, e116i, hl, hf, hr, if_true]
  have hf : (!inside x.kind 0 2 || !inside x.links 0 200 || !decide (x.ptrs.length = 2)) = false := by
    rw [← Bool.not_and, ← Bool.not_and, hc]; rfl
  have h2 : x.ptrs.length = 2 := by simp only [Bool.and_eq_true, decide_eq_true_eq] at hc; exact hc.2
  refine (XL_all (T := T) (b := 0) (hd := H220_4) (x := L220_4) x.ptrs (ptrOk x.kind) (fun i => ⟨[(1, .ptr 0 0 0), (3, .int .i64 (i : Nat))], [some (3, [.agg [.int .i64 x.kind, .int .i64 x.links, .ro 1 (x.ptrs.map iv)]])]⟩)
    (fun r => r.1 = .exit 0 ∧ lookA r.2.env 1 = .ptr 0 0 0 ∧ r.2.mem = [some (3, [.agg [.int .i64 x.kind, .int .i64 x.links, .ro 1 (x.ptrs.map iv)]])]) (fun r => r.1 = .ret ∧ lookA r.2.env 2 = .bool false) ?step ?hit ?last).elim ?main
  case step =>
    intro i p hp hi hP _
    have hi1 : (i : Int) < (x.ptrs.length : Int) := by omega
    have hi2 : (i : Int) < 2 := by omega
    have gp : (x.ptrs.map iv).getD i .undef = .int .i64 p := gD_map hp
    have hf : (!inside p 0 16 || decide (x.kind = 0) && !decide (p = 0)) = false := by
      simp only [ptrOk, Bool.and_eq_true, Bool.not_eq_true'] at hP
      rw [hP.1]; simpa using hP.2
    simp only [XG, L220_4, h220_4, go_sem, seval, bnd_ite, hi1, hi2, gp, Int.natCast_nonneg, w_i64 ((i : Int) + 1) (by omega), e116i, hf, Bool.false_eq_true, if_false]
    rfl
  case hit =>
    intro i p hp hi hP _
    have hi1 : (i : Int) < (x.ptrs.length : Int) := by omega
    have hi2 : (i : Int) < 2 := by omega
    have gp : (x.ptrs.map iv).getD i .undef = .int .i64 p := gD_map hp
    have hf : (!inside p 0 16 || decide (x.kind = 0) && !decide (p = 0)) = true := by
      unfold ptrOk at hP
      cases h1 : inside p 0 16 with
      | false => rfl
      | true => rw [h1, Bool.true_and] at hP; simpa using hP
    simp only [XG, L220_4, h220_4, go_sem, seval, bnd_ite, hi1, hi2, gp, Int.natCast_nonneg, w_i64 ((i : Int) + 1) (by omega), e116i, hf, if_true]
    exact .mk (by simp) ⟨rfl, rfl⟩
  case last =>
    intro _
    have hi2 : ¬ (x.ptrs.length : Int) < 2 := by omega
    simp only [XG, L220_4, h220_4, go_sem, seval, bnd_ite, hi2, decide_false]
    exact .mk (by simp) ⟨rfl, rfl, rfl⟩
  case main =>
  rintro ⟨y, e, m⟩ ⟨k1, k2⟩
  have hs : ((0 : Nat) : Int) = 0 := rfl
  simp only [hs] at k1
  unfold inoOk
  rcases k2 with ⟨h, k2, k3⟩ | ⟨h, k2, k3⟩ <;> simp only at k2 k3 <;> subst k2
  · obtain ⟨k3, rfl⟩ := k3
    simp only [ino, F220, h220_4, go_sem, seval, bnd_ite, k1, k3, e116i, hl, hf, hc, h, Bool.true_and, Bool.false_eq_true, if_false]
  · simp only [ino, F220, h220_4, go_sem, seval, bnd_ite, k1, k3, e116i, hl, hf, hc, h, Bool.false_and, Bool.false_eq_true, if_false]
def slotOf (l : List Slt) (s : ByteArray) : Int := if s.size = 0 then -1 else (match l.findIdx? (fun x => decide (x.name = s)) with | some i => (i : Nat) | none => -1)
theorem e295 (x : Slt) (s : ByteArray) : E T 295 [slt x, .rop [.str s]] [] = some (.bool (decide (x.name = s)), []) := by
  rw [E_eq t295 (Nat.le_of_ble_eq_true rfl)]
  simp only [slt, F295, go_sem, seval, bnd_ite]
theorem e294 (l : List Slt) (s : ByteArray) (hl : l.length ≤ maxLen) : E T 294 [.ro 2 (l.map slt), .fn 295 [.rop [.str s]]] [] = some (.int .i64 (match l.findIdx? (fun x => decide (x.name = s)) with | some i => (i : Nat) | none => -1), []) := by
  rw [E_eq t294 (Nat.le_of_ble_eq_true rfl)]
  unfold maxLen at hl
  refine (XL_find (T := T) (b := 0) (hd := H294_2) (x := L294_2) l (fun x => decide (x.name = s)) (fun i => ⟨[(0, .ro 2 (l.map slt)), (1, .fn 295 [.rop [.str s]]), (7, .int .i64 l.length), (8, .int .i64 (i : Nat))], []⟩)
    (fun o r => match o with | some i => r.1 = .ret ∧ lookA r.2.env 4 = .int .i64 (i : Nat) | none => r.1 = .exit 0) ?step ?hit ?last).elim ?main
  case step =>
    intro i p hp hi hP _
    have hi1 : (i : Int) < (l.length : Int) := by omega
    have gp : (l.map slt).getD i .undef = .agg [.str p.name, .int .i64 p.ino] := gD_map hp
    have e1 := e295 p s
    unfold slt at e1
    simp only [XG, L294_2, h294_2, go_sem, seval, bnd_ite, hi1, gp, Int.natCast_nonneg, w_i64 ((i : Int) + 1) (by omega), e1, hP, Bool.false_eq_true, if_false]
    rfl
  case hit =>
    intro i p hp hi hP _
    have hi1 : (i : Int) < (l.length : Int) := by omega
    have gp : (l.map slt).getD i .undef = .agg [.str p.name, .int .i64 p.ino] := gD_map hp
    have e1 := e295 p s
    unfold slt at e1
    simp only [XG, L294_2, h294_2, go_sem, seval, bnd_ite, hi1, gp, Int.natCast_nonneg, w_i64 ((i : Int) + 1) (by omega), e1, hP, if_true]
    exact .mk (by simp) ⟨rfl, rfl⟩
  case last =>
    intro _
    simp only [XG, L294_2, h294_2, go_sem, seval, bnd_ite, Int.lt_irrefl, decide_false]
    exact .mk (by simp) rfl
  case main =>
  rintro ⟨y, e, m⟩ ⟨k1, k2⟩
  have hs : ((0 : Nat) : Int) = 0 := rfl
  simp only [hs] at k1
  split at k2
  · rename_i o i heq
    obtain ⟨k2, k3⟩ := k2
    simp only at k2 k3; subst k2
    simp only [F294, h294_2, go_sem, seval, bnd_ite, k1, k3, heq]
  · rename_i o heq
    simp only at k2; subst k2
    simp only [F294, h294_2, go_sem, seval, bnd_ite, k1, heq]
theorem e265 (x : Blk) (s : ByteArray) (hl : x.slots.length ≤ maxLen) : E T 265 [blk x, .str s] [] = some (.int .i64 (slotOf x.slots s), []) := by
  rw [E_eq t265 (Nat.le_of_ble_eq_true rfl)]
  have e1 := e294 x.slots s hl
  unfold slotOf
  by_cases h : s = ⟨#[]⟩
  · subst h
    simp only [blk, F265, go_sem, seval, bnd_ite, decide_true, if_true]
    rfl
  · have h2 : ¬ s.size = 0 := fun hh => h (by cases s with | mk a => congr 1; exact Array.eq_empty_of_size_eq_zero hh)
    simp only [blk, F265, go_sem, seval, bnd_ite, h, h2, e1, decide_false, if_false]
end Go.Proofs.Ytaaajjinpppgeaa
namespace Go.Proofs.Ytaaajjinpppgeaa
open Go Go.Abs
set_option maxRecDepth 100000
def bare (s : Slt) : Bool := decide (s.name = ⟨#[]⟩) && decide (s.ino = 0)
def newName (l : List Slt) (i : Nat) (s : Slt) : Bool := (l.take i).all fun q => !decide (q.name = s.name)
def slotOk (l : List Slt) (i : Nat) (s : Slt) : Bool := bare s || (nameOk s.name && inside s.ino 1 8 && newName l i s)
def blkOk (x : Blk) : Bool := if x.dir then x.slots.zipIdx.all (fun p => slotOk x.slots p.2 p.1) && (decide (x.slots.length = 4) && decide (x.text = ⟨#[]⟩)) else decide (x.slots.length = 0) && decide (x.text.size ≤ 16)
theorem zip_at {α : Type} {l : List α} {i : Nat} {p : α × Nat} (h : l.zipIdx[i]? = some p) : l[i]? = some p.1 ∧ p.2 = i := by
  rw [List.getElem?_zipIdx] at h
  cases e : l[i]? with
  | none => rw [e] at h; cases h
  | some x => rw [e] at h; simp at h; subst h; exact ⟨rfl, rfl⟩
theorem nameOk_ne {s : ByteArray} (h : nameOk s = true) : s.size ≠ 0 := by
  simp only [nameOk, inside, Bool.and_eq_true, decide_eq_true_eq] at h
  omega
theorem slotOf_at {l : List Slt} {i : Nat} {s : Slt} (h : l[i]? = some s) (hn : s.name.size ≠ 0) : slotOf l s.name = (i : Nat) ↔ newName l i s = true := by
  unfold slotOf newName
  rw [if_neg hn]
  obtain ⟨hi, rfl⟩ := List.getElem?_eq_some_iff.1 h
  cases e : l.findIdx? (fun x => decide (x.name = l[i].name)) with
  | none =>
    rw [find_none] at e
    have := e l[i] (List.getElem_mem hi)
    simp at this
  | some j =>
    rw [List.findIdx?_eq_some_iff_getElem] at e
    obtain ⟨hj, h1, h2⟩ := e
    simp only [decide_eq_true_eq] at h1
    constructor
    · intro hij
      have hij : ((j : Nat) : Int) = (i : Nat) := hij
      have : j = i := by omega
      subst this
      rw [List.all_eq_true]
      intro q hq
      obtain ⟨k, hk, rfl⟩ := List.mem_take_iff_getElem.1 hq
      have := h2 k (by omega)
      simpa using this
    · intro hall
      rw [List.all_eq_true] at hall
      by_cases c : j < i
      · have := hall l[j] (List.mem_take_iff_getElem.2 ⟨j, by omega, rfl⟩)
        simp [h1] at this
      · by_cases c2 : i < j
        · have := h2 i c2; simp at this
        · have : j = i := by omega
          rw [this]
theorem blk_nil {x : Blk} (h : x.dir = false) : blkOk x = (decide (x.slots.length = 0) && decide (x.text.size ≤ 16)) := by unfold blkOk; rw [h]; rfl
theorem e224 (x : Blk) (hk : x.ok) : E T 224 [blk x] [] = some (.bool (blkOk x), []) := by
  rw [E_eq t224 (Nat.le_of_ble_eq_true rfl)]
  obtain ⟨hk1, hk2, hk3⟩ := hk
  unfold maxLen at hk1
  cases hd : x.dir with
  | false =>
    rw [blk_nil hd]
    simp only [blk, F224, h224_4, go_sem, seval, bnd_ite, hd, Bool.not_false, if_true]
    by_cases h1 : x.slots.length = 0 <;> by_cases h2 : x.text.size ≤ 16 <;> simp [h1, h2] <;> omega
  | true =>
  refine (XL_all (T := T) (b := 0) (hd := H224_4) (x := L224_4) x.slots.zipIdx (fun p => slotOk x.slots p.2 p.1) (fun i => ⟨[(1, .ptr 0 0 0), (19, .ro 2 (x.slots.map slt)), (20, .int .i64 x.slots.length), (21, .int .i64 (i : Nat))], [some (3, [.agg [.bool true, .ro 2 (x.slots.map slt), .str x.text]])]⟩)
    (fun r => r.1 = .exit 0 ∧ lookA r.2.env 1 = .ptr 0 0 0 ∧ r.2.mem = [some (3, [.agg [.bool true, .ro 2 (x.slots.map slt), .str x.text]])]) (fun r => r.1 = .ret ∧ lookA r.2.env 2 = .bool false) ?step ?hit ?last).elim ?main
  case step =>
    rintro i ⟨s, j⟩ hp hi hP _
    obtain ⟨hp, hj⟩ := zip_at hp
    simp only at hp hj hP; subst hj
    rw [List.length_zipIdx] at hi
    have hi1 : (j : Int) < (x.slots.length : Int) := by omega
    have gp : (x.slots.map slt).getD j .undef = .agg [.str s.name, .int .i64 s.ino] := gD_map hp
    have hs := hk3 s (List.mem_of_getElem? hp)
    have e1 := e230 s.name hs
    have e2 := e265 x s.name hk1
    unfold blk at e2
    rw [hd] at e2
    simp only [slotOk] at hP
    cases hb : bare s with
    | true =>
      simp only [bare, Bool.and_eq_true, decide_eq_true_eq] at hb
      obtain ⟨b1, b2⟩ := hb
      simp only [XG, L224_4, h224_4, go_sem, seval, bnd_ite, hi1, gp, b1, b2, Int.natCast_nonneg, w_i64 ((j : Int) + 1) (by omega), e117i, decide_true, Bool.and_self, if_true]
      first | done | rfl
    | false =>
      rw [hb, Bool.false_or, Bool.and_eq_true, Bool.and_eq_true] at hP
      obtain ⟨⟨p1, p2⟩, p3⟩ := hP
      have p4 := (slotOf_at hp (nameOk_ne p1)).2 p3
      simp only [bare] at hb
      have e3 := e227 s.ino
      simp only [XG, L224_4, h224_4, go_sem, seval, bnd_ite, hi1, gp, e1, e2, e3, hb, p1, p2, p4, Int.natCast_nonneg, w_i64 ((j : Int) + 1) (by omega), decide_true, Bool.not_true, Bool.or_self, Bool.and_self, Bool.false_eq_true, if_false]
      first | done | rfl
  case hit =>
    rintro i ⟨s, j⟩ hp hi hP _
    obtain ⟨hp, hj⟩ := zip_at hp
    simp only at hp hj hP; subst hj
    rw [List.length_zipIdx] at hi
    have hi1 : (j : Int) < (x.slots.length : Int) := by omega
    have gp : (x.slots.map slt).getD j .undef = .agg [.str s.name, .int .i64 s.ino] := gD_map hp
    have hs := hk3 s (List.mem_of_getElem? hp)
    have e1 := e230 s.name hs
    have e2 := e265 x s.name hk1
    unfold blk at e2
    rw [hd] at e2
    have e3 := e227 s.ino
    simp only [slotOk, Bool.or_eq_false_iff] at hP
    obtain ⟨hb, hP⟩ := hP
    simp only [bare] at hb
    have hf : (!nameOk s.name || !inside s.ino 1 8 || !decide (slotOf x.slots s.name = (j : Nat))) = true := by
      cases p1 : nameOk s.name with
      | false => rfl
      | true =>
        have p4 := slotOf_at hp (nameOk_ne p1)
        rw [p1, Bool.true_and] at hP
        cases p2 : inside s.ino 1 8 with
        | false => rfl
        | true =>
          rw [p2, Bool.true_and] at hP
          have : ¬ slotOf x.slots s.name = (j : Nat) := fun h => by rw [p4.1 h] at hP; cases hP
          simp [this]
    simp only [XG, L224_4, h224_4, go_sem, seval, bnd_ite, hi1, gp, e1, e2, e3, hb, hf, Int.natCast_nonneg, w_i64 ((j : Int) + 1) (by omega), Bool.false_eq_true, if_false, if_true]
    exact .mk (by simp) ⟨rfl, rfl⟩
  case last =>
    intro _
    simp only [XG, L224_4, h224_4, go_sem, seval, bnd_ite, List.length_zipIdx, Int.lt_irrefl, decide_false]
    exact .mk (by simp) ⟨rfl, rfl, rfl⟩
  case main =>
  rintro ⟨y, e, m⟩ ⟨k1, k2⟩
  have hs : ((0 : Nat) : Int) = 0 := rfl
  simp only [hs] at k1
  unfold blkOk
  rw [hd, if_pos rfl]
  rcases k2 with ⟨h, k2, k3⟩ | ⟨h, k2, k3⟩ <;> simp only at k2 k3 <;> subst k2
  · obtain ⟨k3, rfl⟩ := k3
    have hl : decide ((x.slots.length : Int) = 4) = decide (x.slots.length = 4) := by congr 1; apply propext; omega
    simp only [blk, F224, h224_4, go_sem, seval, bnd_ite, hd, hl, k1, k3, h, Bool.true_and, Bool.not_true, Bool.false_eq_true, if_false]
  · simp only [blk, F224, h224_4, go_sem, seval, bnd_ite, hd, k1, k3, h, Bool.false_and, Bool.not_true, Bool.false_eq_true, if_false]
end Go.Proofs.Ytaaajjinpppgeaa
