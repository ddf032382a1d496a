/- Part 7 of the texts of a claim, joined by a program of ours (ZXa). No condition. -/
import Derived.Test.YtaaajjinpppgeaaGreatP5f
set_option linter.unusedVariables false
set_option linter.unusedSimpArgs false
set_option linter.unusedSectionVars false
namespace Go.Proofs.YtaaajjinpppgeaaGreat
open Go Go.Abs
set_option maxRecDepth 100000
def Heq : List Vw := [.tidy [0, 1, 5] [(0, none), (1, none), (5, none)]]
theorem heq (b : Nat) (s : St) : vwL b Heq s = vwL b [.tidy [0, 1, 5] [(0, none), (1, none), (5, none)]] s := rfl
def Leq (s : Nat) (n : Nat) (f : Nat) : EC := (.seq (.seq (.region [(.op .mv [(.tmp 5)] (some 11) true), (.op .mv [(.tmp 0)] (some 12) true), (.op .len [(.tmp 12)] (some 13) true), (.op (.bin .lss) [(.tmp 11), (.tmp 13)] (some 14) true)] false) (.cond (.tmp 14) .skip (.exit 0))) (.seq (.block 1 (.seq (.region [(.op .mv [(.tmp 0)] (some 17) false), (.op .mv [(.tmp 5)] (some 18) false), (.op (.iaddr s) [(.tmp 17), (.tmp 18)] (some 19) false), (.op (.loadN n) [(.tmp 19)] (some 20) false), (.op .mv [(.tmp 1)] (some 21) false), (.op .mv [(.tmp 5)] (some 22) false), (.op (.iaddr s) [(.tmp 21), (.tmp 22)] (some 23) false), (.op (.loadN n) [(.tmp 23)] (some 24) false), (.pc (.const (.fn f [])) [(.tmp 20), (.tmp 24)] (some 25) true), (.op .not [(.tmp 25)] (some 26) true)] true) (.cond (.tmp 26) (.seq (.region [(.op .mv [(.const (.bool false))] (some 4) true)] false) .ret) .skip))) (.region [(.op .mv [(.tmp 5)] (some 15) true), (.op (.bin .add) [(.tmp 15), (.const (.int .i64 1))] (some 16) true), (.op .mv [(.tmp 16)] (some 5) true)] false)))
def Feq (s : Nat) (n : Nat) (f : Nat) : EF := ⟨(.seq (.region [(.op .mv [(.const (.bool false))] (some 4) true)] false) (.seq (.seq (.region [(.op .mv [(.tmp 0)] (some 6) true), (.op .len [(.tmp 6)] (some 7) true), (.op .mv [(.tmp 1)] (some 8) true), (.op .len [(.tmp 8)] (some 9) true), (.op (.bin .neq) [(.tmp 7), (.tmp 9)] (some 10) true)] false) (.cond (.tmp 10) (.seq (.region [(.op .mv [(.const (.bool false))] (some 4) true)] false) .ret) .skip)) (.seq (.seq (.region [(.op .mv [(.const (.int .i64 0))] (some 5) true)] false) (.block 0 (.loop Heq (Leq s n f)))) (.seq (.region [(.op .mv [(.const (.bool true))] (some 4) true)] false) .ret)))), [(.tmp 4)], 27, .one, none⟩
def Hsz : List Vw := [.tidy [0, 1, 5] [(0, none), (1, none), (5, none)]]
theorem hsz (b : Nat) (s : St) : vwL b Hsz s = vwL b [.tidy [0, 1, 5] [(0, none), (1, none), (5, none)]] s := rfl
def Lsz (s : Nat) (n : Nat) (f : Nat) : EC := (.seq (.seq (.region [(.op .mv [(.tmp 5)] (some 12) true), (.op .mv [(.tmp 0)] (some 13) true), (.op .len [(.tmp 13)] (some 14) true), (.op (.bin .lss) [(.tmp 12), (.tmp 14)] (some 15) true)] false) (.cond (.tmp 15) .skip (.exit 0))) (.seq (.block 1 (.seq (.region [(.op .mv [(.tmp 0)] (some 18) true), (.op .mv [(.tmp 5)] (some 19) true), (.op (.iaddr s) [(.tmp 18), (.tmp 19)] (some 20) true), (.op (.loadN n) [(.tmp 20)] (some 21) true), (.op .mv [(.tmp 1)] (some 22) true), (.pc (.const (.fn f [])) [(.tmp 21), (.tmp 22)] (some 23) true), (.op .mv [(.tmp 23)] (some 1) true)] false) (.seq (.region [(.op .mv [(.tmp 1)] (some 24) true), (.op (.bin .lss) [(.tmp 24), (.const (.int .i64 0))] (some 25) true)] false) (.cond (.tmp 25) (.seq (.region [(.op .mv [(.const (.int .i64 (-1)))] (some 4) true)] false) .ret) .skip)))) (.region [(.op .mv [(.tmp 5)] (some 16) true), (.op (.bin .add) [(.tmp 16), (.const (.int .i64 1))] (some 17) true), (.op .mv [(.tmp 17)] (some 5) true)] false)))
def Fsz (s : Nat) (n : Nat) (f : Nat) : EF := ⟨(.seq (.region [(.op .mv [(.const (.int .i64 0))] (some 4) true)] false) (.seq (.region [(.op .mv [(.tmp 1)] (some 6) true), (.op .mv [(.tmp 0)] (some 7) true), (.op .len [(.tmp 7)] (some 8) true), (.op (.bin .sub) [(.tmp 6), (.tmp 8)] (some 9) true), (.op .mv [(.tmp 9)] (some 1) true)] false) (.seq (.seq (.region [(.op .mv [(.tmp 1)] (some 10) true), (.op (.bin .lss) [(.tmp 10), (.const (.int .i64 0))] (some 11) true)] false) (.cond (.tmp 11) (.seq (.region [(.op .mv [(.const (.int .i64 (-1)))] (some 4) true)] false) .ret) .skip)) (.seq (.seq (.region [(.op .mv [(.const (.int .i64 0))] (some 5) true)] false) (.block 0 (.loop Hsz (Lsz s n f)))) (.seq (.region [(.op .mv [(.tmp 1)] (some 26) true), (.op .mv [(.tmp 26)] (some 4) true)] false) .ret))))), [(.tmp 4)], 27, .one, none⟩
def Hto : List Vw := [.tidy [0, 3, 4] [(0, none), (3, none), (4, none)]]
theorem hto (b : Nat) (s : St) : vwL b Hto s = vwL b [.tidy [0, 3, 4] [(0, none), (3, none), (4, none)]] s := rfl
def Lto (s : Nat) (by_ : Nat) (z : AV) (n : Nat) (f : Nat) : EC := (.seq (.seq (.region [(.op .mv [(.tmp 4)] (some 8) true), (.op .mv [(.tmp 0)] (some 9) true), (.op .len [(.tmp 9)] (some 10) true), (.op (.bin .lss) [(.tmp 8), (.tmp 10)] (some 11) true)] false) (.cond (.tmp 11) .skip (.exit 0))) (.seq (.block 1 (.region [(.op .mv [(.tmp 3)] (some 14) true), (.op .mv [(.tmp 4)] (some 15) true), (.op .mv [(.tmp 0)] (some 16) true), (.op .mv [(.tmp 4)] (some 17) true), (.op (.iaddr s) [(.tmp 16), (.tmp 17)] (some 18) true), (.op (.loadN n) [(.tmp 18)] (some 19) true), (.pc (.const (.fn f [])) [(.tmp 19)] (some 20) true), (.op (.iaddr s) [(.tmp 14), (.tmp 15)] (some 21) true), (.op (.storeN n) [(.tmp 21), (.tmp 20)] none true)] false)) (.region [(.op .mv [(.tmp 4)] (some 12) true), (.op (.bin .add) [(.tmp 12), (.const (.int .i64 1))] (some 13) true), (.op .mv [(.tmp 13)] (some 4) true)] false)))
def Fto (s : Nat) (by_ : Nat) (z : AV) (n : Nat) (f : Nat) : EF := ⟨(.seq (.region [(.op .mv [(.const .nil)] (some 2) true)] false) (.seq (.region [(.op .mv [(.tmp 0)] (some 5) true), (.op .len [(.tmp 5)] (some 6) true), (.op (.mkslice s by_ z) [(.tmp 6), (.tmp 6)] (some 7) true), (.op .mv [(.tmp 7)] (some 3) true)] false) (.seq (.seq (.region [(.op .mv [(.const (.int .i64 0))] (some 4) true)] false) (.block 0 (.loop Hto (Lto s by_ z n f)))) (.seq (.region [(.op .mv [(.tmp 3)] (some 22) true), (.op .mv [(.tmp 22)] (some 2) true)] false) .ret)))), [(.tmp 2)], 23, .one, none⟩
section
variable {α : Type} [DecidableEq α] {enc : α → AV} {s n f k : Nat}
theorem geq (ht : T k = some (Feq s n f)) (henc : ∀ x, AV.agg ((enc x).cells.take n) = enc x) (hln : ∀ x, n ≤ (enc x).cells.length) (hcl : ∀ x, (enc x).cells.all closedC = true) (hd : ∀ x, isDef (enc x) = true)
    (hf : ∀ x y, E T f [enc x, enc y] [] = some (.bool (decide (x = y)), [])) (xs ys : List α) (ha : xs.length ≤ maxLen) : E T k [.ro s (xs.map enc), .ro s (ys.map enc)] [] = some (.bool (decide (xs = ys)), []) := by
  rw [E_eq ht (Nat.le_of_ble_eq_true rfl)]
  simp only [Feq, heq, go_sem, seval, bnd_ite]
  unfold maxLen at ha
  by_cases hl : xs.length = ys.length
  case neg =>
    have : xs ≠ ys := fun e => hl (by rw [e])
    simp [this, show ¬ (xs.length : Int) = ys.length by omega]
  refine (XL_inv (T := T) (b := 0) (hd := Heq) (x := Leq s n f) (β := Unit) (fun i _ => ⟨[(0, .ro s (xs.map enc)), (1, .ro s (ys.map enc)), (5, .int .i64 (i : Nat))], []⟩)
    (fun i _ => xs.take i = ys.take i) xs.length (fun r => (r.1 = .exit 0 ∧ xs = ys) ∨ (r.1 = .ret ∧ lookA r.2.env 4 = .bool false ∧ xs ≠ ys)) ?step ?last 0 () (by omega) rfl).elim ?main
  case step =>
    intro i _ hi hI
    obtain ⟨p, hp⟩ := get_at hi
    obtain ⟨q, hq⟩ := get_at (show i < ys.length by omega)
    have hi1 : (i : Int) < (xs.length : Int) := by omega
    have hi2 : (i : Int) < (ys.length : Int) := by omega
    simp only [XG, Leq, heq, go_sem, seval, bnd_ite, hi1, hi2, gD_map hp, gD_map hq, hln p, hln q, henc, hcl, hd, hf, Int.natCast_nonneg, w_i64 ((i : Int) + 1) (by omega)]
    by_cases he : p = q
    · left
      subst he
      exact ⟨(), by simp, by rw [take_eq_snoc hp hq]; exact ⟨hI, rfl⟩⟩
    · right
      have hne : xs ≠ ys := fun e => he (by rw [e] at hp; rw [hp] at hq; exact Option.some.inj hq)
      simp only [he, decide_false, Bool.not_false, if_true]
      exact .mk (by simp) (.inr ⟨rfl, rfl, hne⟩)
  case last =>
    intro _ hI
    have e : xs = ys := by rw [List.take_length] at hI; rw [hI, hl, List.take_length]
    simp only [XG, Leq, heq, go_sem, seval, bnd_ite, Int.lt_irrefl, decide_false]
    exact .mk (by simp) (.inl ⟨rfl, e⟩)
  case main =>
  rintro ⟨x, st⟩ ⟨h1, h2, h3⟩
  have hs : (0 : Int) = ((0 : Nat) : Int) := rfl
  simp only [hl, decide_true, Bool.not_true, Bool.false_eq_true, if_false]
  rw [hs, h1]
  obtain ⟨e, m⟩ := st
  rcases h3 with ⟨hx, h4⟩ | ⟨hx, h4, h5⟩
  · simp only at hx; subst hx; subst h4
    simp only [go_sem, seval]; simp
  · simp only at hx h4; subst hx
    simp only [go_sem, seval, h4]; simp [h5]
omit [DecidableEq α] in
theorem gsz {ok sm : α → Prop} (ht : T k = some (Fsz s n f)) (henc : ∀ x, AV.agg ((enc x).cells.take n) = enc x) (hln : ∀ x, n ≤ (enc x).cells.length) (hcl : ∀ x, (enc x).cells.all closedC = true) (hd : ∀ x, isDef (enc x) = true)
    (hf : ∀ x (r : Int), ok x → 0 ≤ r → r ≤ 1048576 → ∃ v : Int, E T f [enc x, .int .i64 r] [] = some (.int .i64 v, []) ∧ -1 ≤ v ∧ v ≤ r ∧ (0 ≤ v → sm x))
    (l : List α) (c : Int) (h0 : 0 ≤ c) (hn : c ≤ 1048576) (hl : l.length ≤ maxLen) (hok : ∀ x ∈ l, ok x) :
    ∃ r : Int, E T k [.ro s (l.map enc), .int .i64 c] [] = some (.int .i64 r, []) ∧ -1 ≤ r ∧ r ≤ c ∧ (0 ≤ r → l.length ≤ 1048576 ∧ ∀ x ∈ l, sm x) := by
  rw [E_eq ht (Nat.le_of_ble_eq_true rfl)]
  simp only [Fsz, hsz, go_sem, seval, bnd_ite]
  unfold maxLen at hl
  rw [w_i64 (c - (l.length : Int)) (by omega)]
  by_cases c1 : c - (l.length : Int) < 0
  · rw [if_pos c1]; exact ⟨_, rfl, by omega, by omega, fun h => by omega⟩
  rw [if_neg c1]
  refine (XL_inv (T := T) (b := 0) (hd := Hsz) (x := Lsz s n f) (β := Int) (fun i r => ⟨[(0, .ro s (l.map enc)), (1, .int .i64 r), (5, .int .i64 (i : Nat))], []⟩)
    (fun i r => 0 ≤ r ∧ r ≤ c ∧ ∀ x ∈ l.take i, sm x) l.length (fun r => (r.1 = .exit 0 ∧ ∃ v : Int, lookA r.2.env 1 = .int .i64 v ∧ 0 ≤ v ∧ v ≤ c ∧ ∀ x ∈ l, sm x) ∨ (r.1 = .ret ∧ lookA r.2.env 4 = .int .i64 (-1))) ?step ?last 0 (c - (l.length : Int)) (by omega) ⟨by omega, by omega, fun x hx => by simp at hx⟩).elim ?main
  case step =>
    intro i r hi ⟨hI0, hI1, hI2⟩
    obtain ⟨p, hp⟩ := get_at hi
    have hi1 : (i : Int) < (l.length : Int) := by omega
    obtain ⟨v, hv, hv1, hv2, hv3⟩ := hf p r (hok p (List.mem_of_getElem? hp)) hI0 (by omega)
    simp only [XG, Lsz, hsz, go_sem, seval, bnd_ite, hi1, gD_map hp, hln p, henc, hcl, hd, hv, Int.natCast_nonneg, w_i64 ((i : Int) + 1) (by omega)]
    by_cases c : v < 0
    · right; rw [if_pos c]
      exact .mk (by simp) (.inr ⟨rfl, rfl⟩)
    · left; rw [if_neg c]
      refine ⟨v, by simp, by omega, by omega, fun x hx => ?_⟩
      rw [take_snoc hp, List.mem_append, List.mem_singleton] at hx
      rcases hx with hx | rfl
      · exact hI2 x hx
      · exact hv3 (by omega)
  case last =>
    intro r ⟨hI0, hI1, hI2⟩
    simp only [XG, Lsz, hsz, go_sem, seval, bnd_ite, Int.lt_irrefl, decide_false]
    exact .mk (by simp) (.inl ⟨rfl, r, rfl, hI0, hI1, by rwa [List.take_length] at hI2⟩)
  case main =>
  rintro ⟨x, st⟩ ⟨h1, h2, h3⟩
  have hs : (0 : Int) = ((0 : Nat) : Int) := rfl
  rw [hs] at *
  simp only [h1]
  obtain ⟨e, m⟩ := st
  rcases h3 with ⟨hx, v, h4, h5, h6, h7⟩ | ⟨hx, h4⟩
  · simp only at hx h4; subst hx
    simp only [go_sem, seval, h4]
    exact ⟨v, rfl, by omega, by omega, fun _ => ⟨by omega, h7⟩⟩
  · simp only at hx h4; subst hx
    simp only [go_sem, seval, h4]
    exact ⟨-1, rfl, by omega, by omega, fun h => by omega⟩
omit [DecidableEq α] in
theorem gto {cs : α → List AV} {zc : List AV} {by_ : Nat} (ht : T k = some (Fto s by_ (.agg zc) n f)) (hby : by_ ≤ 1000) (hlen : ∀ x, (cs x).length = n) (hzl : zc.length = n) (hcl : ∀ x, (cs x).all closedC = true)
    (hu : ∀ m x, unpL m (cs x) = (cs x, [])) (huo : ∀ x, (cs x).all unpOk1 = true) (hco : ∀ x, coolL (cs x) = true) (hzo : coolL zc = true) (hoc : ∀ live x, (cs x).all (okC live) = true) (hset : ∀ x, Abs.setCells zc 0 (cs x) = cs x)
    (hf : ∀ x, E T f [.agg (cs x)] [] = some (.agg (cs x), [])) (l : List α) (hl : l.length ≤ 1048576) :
    E T k [.ro s (l.map fun x => .agg (cs x))] [] = some (.own s (l.map fun x => .agg (cs x)), []) := by
  have hcx : ∀ x, coolX (.agg (cs x)) = true := hco
  have hmi : ∀ g x, mapIdL g (cs x) = cs x := fun g x => by
    have := ((cool_ids g (fun _ _ _ _ => []) (.agg (cs x))).2 (hco x)).1
    simpa [mapId] using this
  have his : ∀ u x, idsL u (cs x) = [] := fun u x => by
    have := ((cool_ids (fun _ _ _ _ => .undef) u (.agg (cs x))).2 (hco x)).2
    simpa [idsV] using this
  have hzx : coolX (.agg zc) = true := hzo
  have hb : (by_ : Int) * (l.length : Int) ≤ 140737488355328 := by
    have : by_ * l.length ≤ 1000 * 1048576 := Nat.mul_le_mul hby hl
    have : ((by_ * l.length : Nat) : Int) ≤ ((1000 * 1048576 : Nat) : Int) := by exact_mod_cast this
    rw [Int.natCast_mul] at this
    omega
  rw [E_eq ht (Nat.le_of_ble_eq_true rfl)]
  simp only [Fto, hto, go_sem, seval, bnd_ite]
  rw [if_pos ⟨by omega, hb, by omega⟩]
  have hzm : ∀ g, mapIdL g zc = zc := fun g => by
    have := ((cool_ids g (fun _ _ _ _ => []) (.agg zc)).2 hzo).1
    simpa [mapId] using this
  have hzi : ∀ u, idsV u (.agg zc) = [] := fun u => ((cool_ids (fun _ _ _ _ => .undef) u (.agg zc)).2 hzo).2
  have hzj : ∀ u, idsL u zc = [] := fun u => by simpa [idsV] using hzi u
  have hir : ∀ u n, idsL u (List.replicate n (AV.agg zc)) = [] := fun u n => is_rep u n _ (hzi u)
  have htk : ∀ x, (cs x).take n = cs x := fun x => List.take_of_length_le (by rw [hlen]; exact Nat.le_refl _)
  have tk : ∀ (f : α → AV), (l.map f).take l.length = l.map f := fun f => by rw [List.take_of_length_le]; simp
  simp only [go_sem, seval, hir, hzm]
  have key := XL_fold (T := T) (b := 0) (hd := Hto) (x := Lto s by_ (.agg zc) n f) l (fun (_ : Unit) _ => ()) (fun i _ => ⟨[(0, .ro s (l.map fun x => .agg (cs x))), (3, .sl 0 0 l.length), (4, .int .i64 (i : Nat))], [some (s, fill (fun x => .agg (cs x)) (.agg zc) l i)]⟩)
    (r := (.exit 0, ⟨[(11, .bool false), (10, .int .i64 l.length), (9, .ro s (l.map fun x => .agg (cs x))), (8, .int .i64 l.length), (0, .ro s (l.map fun x => .agg (cs x))), (3, .sl 0 0 l.length), (4, .int .i64 l.length)], [some (s, l.map fun x => .agg (cs x))]⟩)) ?step () ?last
  case step =>
    intro i _ p hp hi
    have hi1 : (i : Int) < (l.length : Int) := by omega
    have fs := fill_set (f := fun x => AV.agg (cs x)) (z := .agg zc) hp
    simp only [XG, Lto, hto, go_sem, seval, bnd_ite, hi1, gD_map hp, hlen, htk, hcl, hu, huo, hoc, hf, hset, hmi, his, hzl, hzm, hzj, Int.natCast_nonneg, w_i64 ((i : Int) + 1) (by omega), fill_len (Nat.le_of_lt hi), fill_get hi, hi,
      fill_mi _ hcx hzx, fill_is _ hcx hzx, is_set]
    rw [fs]; rfl
  case last =>
    refine XL_out ?_ (by simp)
    simp only [XG, Lto, hto, go_sem, seval, bnd_ite, Int.lt_irrefl, decide_false, fill_all]
  have hs : (0 : Int) = ((0 : Nat) : Int) := rfl
  rw [fill_0] at key
  rw [hs, key]
  simp only [go_sem, seval, tk, is_map _ _ _ hcx, mi_map _ _ _ hcx, Nat.le_refl]
end
end Go.Proofs.YtaaajjinpppgeaaGreat
namespace Go.Proofs.YtaaajjinpppgeaaGreat
open Go Go.Abs
set_option maxRecDepth 100000
def iv (z : Int) : AV := .int .i64 z
def bv (b : Bool) : AV := .bool b
theorem iv_cool (x : Int) : coolX (iv x) = true := rfl
theorem iv_len (x : Int) : (iv x).cells.length = 1 := rfl
theorem iv_mi (g : Bool → Nat → Nat → Nat → AV) (l : List Int) : mapIdL g (l.map iv) = l.map iv := mi_map g iv l iv_cool
theorem iv_is (u : Bool → Nat → Nat → Nat → List Nat) (l : List Int) : idsL u (l.map iv) = [] := is_map u iv l iv_cool
theorem iv_coR (l : List Int) : coolR 1 (l.map iv) = true := coR_map 1 iv l iv_len iv_cool
theorem iv_ice (x : Int) : ice (iv x) = iv x := rfl
theorem iv_ic (l : List Int) : iceL (l.map iv) = l.map iv := by rw [ice_m]; exact List.map_congr_left fun x _ => iv_ice x
theorem iv_rf (x : Int) : (iv x).roFree = true := rfl
theorem iv_rfL (l : List Int) : roFreeL (l.map iv) = true := rf_map iv l iv_rf
theorem iv_no (x : Int) : (iv x).cells.all noOwnC = true := rfl
theorem iv_noL (l : List Int) : (l.map iv).all (fun x => x.cells.all noOwnC) = true := no_map iv l iv_no
attribute [go_sem] iv_mi iv_is iv_coR iv_ic iv_ice iv_rfL iv_noL
theorem bv_cool (x : Bool) : coolX (bv x) = true := rfl
theorem bv_len (x : Bool) : (bv x).cells.length = 1 := rfl
theorem bv_mi (g : Bool → Nat → Nat → Nat → AV) (l : List Bool) : mapIdL g (l.map bv) = l.map bv := mi_map g bv l bv_cool
theorem bv_is (u : Bool → Nat → Nat → Nat → List Nat) (l : List Bool) : idsL u (l.map bv) = [] := is_map u bv l bv_cool
theorem bv_coR (l : List Bool) : coolR 1 (l.map bv) = true := coR_map 1 bv l bv_len bv_cool
theorem bv_ice (x : Bool) : ice (bv x) = bv x := rfl
theorem bv_ic (l : List Bool) : iceL (l.map bv) = l.map bv := by rw [ice_m]; exact List.map_congr_left fun x _ => bv_ice x
theorem bv_rf (x : Bool) : (bv x).roFree = true := rfl
theorem bv_rfL (l : List Bool) : roFreeL (l.map bv) = true := rf_map bv l bv_rf
theorem bv_no (x : Bool) : (bv x).cells.all noOwnC = true := rfl
theorem bv_noL (l : List Bool) : (l.map bv).all (fun x => x.cells.all noOwnC) = true := no_map bv l bv_no
attribute [go_sem] bv_mi bv_is bv_coR bv_ic bv_ice bv_rfL bv_noL
structure Slt where
  name : ByteArray
  ino : Int
  deriving DecidableEq
def slt (x : Slt) : AV := .agg [.str x.name, .int .i64 x.ino]
def Slt.ok (x : Slt) : Prop := x.name.size ≤ maxLen
theorem slt_cool (x : Slt) : coolX (slt x) = true := rfl
theorem slt_len (x : Slt) : (slt x).cells.length = 2 := rfl
theorem slt_mi (g : Bool → Nat → Nat → Nat → AV) (l : List Slt) : mapIdL g (l.map slt) = l.map slt := mi_map g slt l slt_cool
theorem slt_is (u : Bool → Nat → Nat → Nat → List Nat) (l : List Slt) : idsL u (l.map slt) = [] := is_map u slt l slt_cool
theorem slt_coR (l : List Slt) : coolR 2 (l.map slt) = true := coR_map 2 slt l slt_len slt_cool
theorem slt_ice (x : Slt) : ice (slt x) = slt x := rfl
theorem slt_ic (l : List Slt) : iceL (l.map slt) = l.map slt := by rw [ice_m]; exact List.map_congr_left fun x _ => slt_ice x
theorem slt_rf (x : Slt) : (slt x).roFree = true := rfl
theorem slt_rfL (l : List Slt) : roFreeL (l.map slt) = true := rf_map slt l slt_rf
theorem slt_no (x : Slt) : (slt x).cells.all noOwnC = true := rfl
theorem slt_noL (l : List Slt) : (l.map slt).all (fun x => x.cells.all noOwnC) = true := no_map slt l slt_no
attribute [go_sem] slt_mi slt_is slt_coR slt_ic slt_ice slt_rfL slt_noL
structure Ino where
  kind : Int
  links : Int
  ptrs : List Int
  deriving DecidableEq
def ino (x : Ino) : AV := .agg [.int .i64 x.kind, .int .i64 x.links, .ro 1 (x.ptrs.map iv)]
def inoO (x : Ino) : AV := .agg [.int .i64 x.kind, .int .i64 x.links, .own 1 (x.ptrs.map iv)]
def Ino.ok (x : Ino) : Prop := x.ptrs.length ≤ maxLen
def Ino.sm (x : Ino) : Prop := x.ptrs.length ≤ 1048576
theorem ino_cool (x : Ino) : coolX (ino x) = true := rfl
theorem ino_len (x : Ino) : (ino x).cells.length = 3 := rfl
theorem ino_mi (g : Bool → Nat → Nat → Nat → AV) (l : List Ino) : mapIdL g (l.map ino) = l.map ino := mi_map g ino l ino_cool
theorem ino_is (u : Bool → Nat → Nat → Nat → List Nat) (l : List Ino) : idsL u (l.map ino) = [] := is_map u ino l ino_cool
theorem ino_coR (l : List Ino) : coolR 3 (l.map ino) = true := coR_map 3 ino l ino_len ino_cool
theorem ino_ice (x : Ino) : ice (ino x) = ino x := rfl
theorem ino_ic (l : List Ino) : iceL (l.map ino) = l.map ino := by rw [ice_m]; exact List.map_congr_left fun x _ => ino_ice x
theorem ino_no (x : Ino) : (ino x).cells.all noOwnC = true := rfl
theorem ino_noL (l : List Ino) : (l.map ino).all (fun x => x.cells.all noOwnC) = true := no_map ino l ino_no
attribute [go_sem] ino_mi ino_is ino_coR ino_ic ino_ice ino_noL
theorem inoO_cool (x : Ino) : coolX (inoO x) = true := by simp only [inoO, go_sem, Bool.and_self]
theorem inoO_len (x : Ino) : (inoO x).cells.length = 3 := rfl
theorem inoO_mi (g : Bool → Nat → Nat → Nat → AV) (l : List Ino) : mapIdL g (l.map inoO) = l.map inoO := mi_map g inoO l inoO_cool
theorem inoO_is (u : Bool → Nat → Nat → Nat → List Nat) (l : List Ino) : idsL u (l.map inoO) = [] := is_map u inoO l inoO_cool
theorem inoO_coR (l : List Ino) : coolR 3 (l.map inoO) = true := coR_map 3 inoO l inoO_len inoO_cool
theorem inoO_ice (x : Ino) : ice (inoO x) = ino x := by simp only [inoO, ino, go_sem]
theorem inoO_ic (l : List Ino) : iceL (l.map inoO) = l.map ino := by rw [ice_m]; exact List.map_congr_left fun x _ => inoO_ice x
theorem inoO_rf (x : Ino) : (inoO x).roFree = true := by simp [inoO, AV.roFree, roFreeL, iv_rfL]
theorem inoO_rfL (l : List Ino) : roFreeL (l.map inoO) = true := rf_map inoO l inoO_rf
attribute [go_sem] inoO_mi inoO_is inoO_coR inoO_ic inoO_ice inoO_rfL
structure Blk where
  dir : Bool
  slots : List Slt
  text : ByteArray
  deriving DecidableEq
def blk (x : Blk) : AV := .agg [.bool x.dir, .ro 2 (x.slots.map slt), .str x.text]
def blkO (x : Blk) : AV := .agg [.bool x.dir, .own 2 (x.slots.map slt), .str x.text]
def Blk.ok (x : Blk) : Prop := x.slots.length ≤ maxLen ∧ x.text.size ≤ maxLen ∧ ∀ s ∈ x.slots, s.ok
def Blk.sm (x : Blk) : Prop := x.slots.length ≤ 1048576
theorem blk_cool (x : Blk) : coolX (blk x) = true := rfl
theorem blk_len (x : Blk) : (blk x).cells.length = 3 := rfl
theorem blk_mi (g : Bool → Nat → Nat → Nat → AV) (l : List Blk) : mapIdL g (l.map blk) = l.map blk := mi_map g blk l blk_cool
theorem blk_is (u : Bool → Nat → Nat → Nat → List Nat) (l : List Blk) : idsL u (l.map blk) = [] := is_map u blk l blk_cool
theorem blk_coR (l : List Blk) : coolR 3 (l.map blk) = true := coR_map 3 blk l blk_len blk_cool
theorem blk_ice (x : Blk) : ice (blk x) = blk x := rfl
theorem blk_ic (l : List Blk) : iceL (l.map blk) = l.map blk := by rw [ice_m]; exact List.map_congr_left fun x _ => blk_ice x
theorem blk_no (x : Blk) : (blk x).cells.all noOwnC = true := rfl
theorem blk_noL (l : List Blk) : (l.map blk).all (fun x => x.cells.all noOwnC) = true := no_map blk l blk_no
attribute [go_sem] blk_mi blk_is blk_coR blk_ic blk_ice blk_noL
theorem blkO_cool (x : Blk) : coolX (blkO x) = true := by simp only [blkO, go_sem, Bool.and_self]
theorem blkO_len (x : Blk) : (blkO x).cells.length = 3 := rfl
theorem blkO_mi (g : Bool → Nat → Nat → Nat → AV) (l : List Blk) : mapIdL g (l.map blkO) = l.map blkO := mi_map g blkO l blkO_cool
theorem blkO_is (u : Bool → Nat → Nat → Nat → List Nat) (l : List Blk) : idsL u (l.map blkO) = [] := is_map u blkO l blkO_cool
theorem blkO_coR (l : List Blk) : coolR 3 (l.map blkO) = true := coR_map 3 blkO l blkO_len blkO_cool
theorem blkO_ice (x : Blk) : ice (blkO x) = blk x := by simp only [blkO, blk, go_sem]
theorem blkO_ic (l : List Blk) : iceL (l.map blkO) = l.map blk := by rw [ice_m]; exact List.map_congr_left fun x _ => blkO_ice x
theorem blkO_rf (x : Blk) : (blkO x).roFree = true := by simp [blkO, AV.roFree, roFreeL, slt_rfL]
theorem blkO_rfL (l : List Blk) : roFreeL (l.map blkO) = true := rf_map blkO l blkO_rf
attribute [go_sem] blkO_mi blkO_is blkO_coR blkO_ic blkO_ice blkO_rfL
theorem slt_eq (a b : Slt) : a = b ↔ a.name = b.name ∧ a.ino = b.ino := by cases a; cases b; simp
theorem ino_eq (a b : Ino) : a = b ↔ a.kind = b.kind ∧ a.links = b.links ∧ a.ptrs = b.ptrs := by cases a; cases b; simp
theorem blk_eq (a b : Blk) : a = b ↔ a.dir = b.dir ∧ a.slots = b.slots ∧ a.text = b.text := by cases a; cases b; simp
theorem e231 (l : List Int) (n : Int) (h0 : 0 ≤ n) (hn : n ≤ 1048576) (hl : l.length ≤ maxLen) :
    ∃ r : Int, E T 231 [.ro 1 (l.map iv), .int .i64 n] [] = some (.int .i64 r, []) ∧ -1 ≤ r ∧ r ≤ n ∧ (0 ≤ r → l.length ≤ 1048576) := by
  rw [E_eq t231 (Nat.le_of_ble_eq_true rfl)]
  simp only [F231, go_sem, seval, bnd_ite]
  unfold maxLen at hl
  rw [w_i64 (n - (l.length : Int)) (by omega)]
  by_cases c1 : n - (l.length : Int) < 0
  · rw [if_pos c1]; exact ⟨_, rfl, by omega, by omega, fun h => by omega⟩
  rw [if_neg c1]; exact ⟨_, rfl, by omega, by omega, fun h => by omega⟩
theorem e168 (l : List Bool) (n : Int) (h0 : 0 ≤ n) (hn : n ≤ 1048576) (hl : l.length ≤ maxLen) :
    ∃ r : Int, E T 168 [.ro 1 (l.map bv), .int .i64 n] [] = some (.int .i64 r, []) ∧ -1 ≤ r ∧ r ≤ n ∧ (0 ≤ r → l.length ≤ 1048576) := by
  rw [E_eq t168 (Nat.le_of_ble_eq_true rfl)]
  simp only [F168, go_sem, seval, bnd_ite]
  unfold maxLen at hl
  rw [w_i64 (n - (l.length : Int)) (by omega)]
  by_cases c1 : n - (l.length : Int) < 0
  · rw [if_pos c1]; exact ⟨_, rfl, by omega, by omega, fun h => by omega⟩
  rw [if_neg c1]; exact ⟨_, rfl, by omega, by omega, fun h => by omega⟩
theorem e169 (x : Ino) (n : Int) (h0 : 0 ≤ n) (hn : n ≤ 1048576) (hl : x.ok) :
    ∃ r : Int, E T 169 [ino x, .int .i64 n] [] = some (.int .i64 r, []) ∧ -1 ≤ r ∧ r ≤ n ∧ (0 ≤ r → x.sm) := by
  rw [E_eq t169 (Nat.le_of_ble_eq_true rfl)]
  obtain ⟨r, h1, h2, h3, h4⟩ := e231 x.ptrs n h0 hn hl
  simp only [ino, F169, go_sem, seval, bnd_ite, h1]
  by_cases c1 : r < 0
  · rw [if_pos c1]; exact ⟨_, rfl, by omega, by omega, fun h => by omega⟩
  rw [if_neg c1]; exact ⟨_, rfl, by omega, by omega, fun h => h4 (by omega)⟩
theorem e260 (x : Slt) (n : Int) (h0 : 0 ≤ n) (hn : n ≤ 1048576) (hl : x.ok) :
    ∃ r : Int, E T 260 [slt x, .int .i64 n] [] = some (.int .i64 r, []) ∧ -1 ≤ r ∧ r ≤ n ∧ (0 ≤ r → True) := by
  rw [E_eq t260 (Nat.le_of_ble_eq_true rfl)]
  unfold Slt.ok maxLen at hl
  simp only [slt, F260, go_sem, seval, bnd_ite]
  rw [w_i64 (n - (x.name.size : Int)) (by omega)]
  by_cases c1 : n - (x.name.size : Int) < 0
  · rw [if_pos c1]; exact ⟨_, rfl, by omega⟩
  rw [if_neg c1]; exact ⟨_, rfl, by omega⟩
theorem t232 : T 232 = some (Fsz 2 2 260) := tab Tryz.func232 (by kernel_rfl) rfl
theorem t72 : T 72 = some (Fsz 3 3 169) := tab Tryz.func72 (by kernel_rfl) rfl
theorem t73 : T 73 = some (Fsz 3 3 170) := tab Tryz.func73 (by kernel_rfl) rfl
theorem e232 (l : List Slt) (n : Int) (h0 : 0 ≤ n) (hn : n ≤ 1048576) (hl : l.length ≤ maxLen) (hok : ∀ x ∈ l, x.ok) :
    ∃ r : Int, E T 232 [.ro 2 (l.map slt), .int .i64 n] [] = some (.int .i64 r, []) ∧ -1 ≤ r ∧ r ≤ n ∧ (0 ≤ r → l.length ≤ 1048576 ∧ ∀ x ∈ l, True) :=
  gsz (ok := Slt.ok) t232 (fun _ => rfl) (fun _ => Nat.le_refl _) (fun _ => rfl) (fun _ => rfl) (fun x r h h0 h1 => e260 x r h0 h1 h) l n h0 hn hl hok
theorem e170 (x : Blk) (n : Int) (h0 : 0 ≤ n) (hn : n ≤ 1048576) (hl : x.ok) :
    ∃ r : Int, E T 170 [blk x, .int .i64 n] [] = some (.int .i64 r, []) ∧ -1 ≤ r ∧ r ≤ n ∧ (0 ≤ r → x.sm) := by
  rw [E_eq t170 (Nat.le_of_ble_eq_true rfl)]
  obtain ⟨hl1, hl2, hl3⟩ := hl
  obtain ⟨r, h1, h2, h3, h4⟩ := e232 x.slots n h0 hn hl1 hl3
  unfold maxLen at hl2
  simp only [blk, F170, go_sem, seval, bnd_ite, h1]
  by_cases c1 : r < 0
  · rw [if_pos c1]; exact ⟨_, rfl, by omega, by omega, fun h => by omega⟩
  rw [if_neg c1, w_i64 (r - (x.text.size : Int)) (by omega)]
  by_cases c2 : r - (x.text.size : Int) < 0
  · rw [if_pos c2]; exact ⟨_, rfl, by omega, by omega, fun h => by omega⟩
  rw [if_neg c2]; exact ⟨_, rfl, by omega, by omega, fun h => (h4 (by omega)).1⟩
theorem e72 (l : List Ino) (n : Int) (h0 : 0 ≤ n) (hn : n ≤ 1048576) (hl : l.length ≤ maxLen) (hok : ∀ x ∈ l, x.ok) :
    ∃ r : Int, E T 72 [.ro 3 (l.map ino), .int .i64 n] [] = some (.int .i64 r, []) ∧ -1 ≤ r ∧ r ≤ n ∧ (0 ≤ r → l.length ≤ 1048576 ∧ ∀ x ∈ l, x.sm) :=
  gsz (ok := Ino.ok) t72 (fun _ => rfl) (fun _ => Nat.le_refl _) (fun _ => rfl) (fun _ => rfl) (fun x r h h0 h1 => e169 x r h0 h1 h) l n h0 hn hl hok
theorem e73 (l : List Blk) (n : Int) (h0 : 0 ≤ n) (hn : n ≤ 1048576) (hl : l.length ≤ maxLen) (hok : ∀ x ∈ l, x.ok) :
    ∃ r : Int, E T 73 [.ro 3 (l.map blk), .int .i64 n] [] = some (.int .i64 r, []) ∧ -1 ≤ r ∧ r ≤ n ∧ (0 ≤ r → l.length ≤ 1048576 ∧ ∀ x ∈ l, x.sm) :=
  gsz (ok := Blk.ok) t73 (fun _ => rfl) (fun _ => Nat.le_refl _) (fun _ => rfl) (fun _ => rfl) (fun x r h h0 h1 => e170 x r h0 h1 h) l n h0 hn hl hok
structure Dsk where
  used : List Bool
  taken : List Bool
  inos : List Ino
  blks : List Blk
  deriving DecidableEq
def dsk (x : Dsk) : AV := .agg [.ro 1 (x.used.map bv), .ro 1 (x.taken.map bv), .ro 3 (x.inos.map ino), .ro 3 (x.blks.map blk)]
def dskO (x : Dsk) : AV := .agg [.own 1 (x.used.map bv), .own 1 (x.taken.map bv), .own 3 (x.inos.map inoO), .own 3 (x.blks.map blkO)]
structure Dsk.ok (x : Dsk) : Prop where
  used : x.used.length ≤ maxLen
  taken : x.taken.length ≤ maxLen
  inos : x.inos.length ≤ maxLen
  blks : x.blks.length ≤ maxLen
  ino : ∀ y ∈ x.inos, y.ok
  blk : ∀ y ∈ x.blks, y.ok
structure Dsk.sm (x : Dsk) : Prop where
  used : x.used.length ≤ 1048576
  taken : x.taken.length ≤ 1048576
  inos : x.inos.length ≤ 1048576
  blks : x.blks.length ≤ 1048576
  ino : ∀ y ∈ x.inos, y.sm
  blk : ∀ y ∈ x.blks, y.sm
theorem e71 (a b : List Bool) (n : Int) (h0 : 0 ≤ n) (hn : n ≤ 1048576) (ha : a.length ≤ maxLen) (hb : b.length ≤ maxLen) :
    ∃ r : Int, E T 71 [.agg [.ro 1 (a.map bv), .ro 1 (b.map bv)], .int .i64 n] [] = some (.int .i64 r, []) ∧ -1 ≤ r ∧ r ≤ n ∧ (0 ≤ r → a.length ≤ 1048576 ∧ b.length ≤ 1048576) := by
  rw [E_eq t71 (Nat.le_of_ble_eq_true rfl)]
  obtain ⟨r, h1, h2, h3, h4⟩ := e168 a n h0 hn ha
  simp only [F71, go_sem, seval, bnd_ite, h1]
  by_cases c1 : r < 0
  · rw [if_pos c1]; exact ⟨_, rfl, by omega, by omega, fun h => by omega⟩
  obtain ⟨r2, g1, g2, g3, g4⟩ := e168 b r (by omega) (by omega) hb
  rw [if_neg c1]
  simp only [go_sem, seval, bnd_ite, g1]
  by_cases c2 : r2 < 0
  · rw [if_pos c2]; exact ⟨_, rfl, by omega, by omega, fun h => by omega⟩
  rw [if_neg c2]; exact ⟨_, rfl, by omega, by omega, fun h => ⟨h4 (by omega), g4 (by omega)⟩⟩
theorem e19 (x : Dsk) (n : Int) (h0 : 0 ≤ n) (hn : n ≤ 1048576) (hk : x.ok) :
    ∃ r : Int, E T 19 [dsk x, .int .i64 n] [] = some (.int .i64 r, []) ∧ -1 ≤ r ∧ r ≤ n ∧ (0 ≤ r → x.sm) := by
  rw [E_eq t19 (Nat.le_of_ble_eq_true rfl)]
  obtain ⟨r, h1, h2, h3, h4⟩ := e71 x.used x.taken n h0 hn hk.used hk.taken
  simp only [dsk, F19, go_sem, seval, bnd_ite, h1]
  by_cases c1 : r < 0
  · rw [if_pos c1]; exact ⟨_, rfl, by omega, by omega, fun h => by omega⟩
  obtain ⟨r2, g1, g2, g3, g4⟩ := e72 x.inos r (by omega) (by omega) hk.inos hk.ino
  rw [if_neg c1]
  simp only [go_sem, seval, bnd_ite, g1]
  by_cases c2 : r2 < 0
  · rw [if_pos c2]; exact ⟨_, rfl, by omega, by omega, fun h => by omega⟩
  obtain ⟨r3, f1, f2, f3, f4⟩ := e73 x.blks r2 (by omega) (by omega) hk.blks hk.blk
  rw [if_neg c2]
  simp only [go_sem, seval, bnd_ite, f1]
  by_cases c3 : r3 < 0
  · rw [if_pos c3]; exact ⟨_, rfl, by omega, by omega, fun h => by omega⟩
  rw [if_neg c3]; exact ⟨_, rfl, by omega, by omega, fun h => ⟨(h4 (by omega)).1, (h4 (by omega)).2, (g4 (by omega)).1, (f4 (by omega)).1, (g4 (by omega)).2, (f4 (by omega)).2⟩⟩
end Go.Proofs.YtaaajjinpppgeaaGreat
namespace Go.Proofs.YtaaajjinpppgeaaGreat
open Go Go.Abs
set_option maxRecDepth 100000
theorem e233 (l : List Int) (hl : l.length ≤ 1048576) : E T 233 [.ro 1 (l.map iv)] [] = some (.own 1 (l.map iv), []) := by
  rw [E_eq t233 (Nat.le_of_ble_eq_true rfl)]
  simp only [F233, h233_3, go_sem, seval, bnd_ite]
  rw [if_pos ⟨by omega, by omega, by omega⟩]
  have key := XL_fold (T := T) (b := 0) (hd := H233_3) (x := L233_3) l (fun (_ : Unit) _ => ()) (fun i _ => ⟨[(0, .ro 1 (l.map iv)), (3, .sl 0 0 l.length), (4, .int .i64 (i : Nat))], [some (1, fill iv (.int .i64 0) l i)]⟩)
    (r := (.exit 0, ⟨[(11, .bool false), (10, .int .i64 l.length), (9, .ro 1 (l.map iv)), (8, .int .i64 l.length), (0, .ro 1 (l.map iv)), (3, .sl 0 0 l.length), (4, .int .i64 l.length)], [some (1, l.map iv)]⟩)) ?step () ?last
  case step =>
    intro i _ p hp hi
    have hi1 : (i : Int) < (l.length : Int) := by omega
    have fs : (fill iv (.int .i64 0) l i).set i (.int .i64 p) = _ := fill_set (f := iv) (z := .int .i64 0) hp
    simp only [XG, L233_3, h233_3, go_sem, seval, bnd_ite, hi1, gD_map hp, iv, Int.natCast_nonneg, w_i64 ((i : Int) + 1) (by omega), fill_len (Nat.le_of_lt hi), fill_get hi, hi,
      fill_mi _ iv_cool (z := .int .i64 0) rfl, fill_is _ iv_cool (z := .int .i64 0) rfl, is_set]
    rw [fs]; rfl
  case last =>
    refine XL_out ?_ (by simp)
    simp only [XG, L233_3, h233_3, go_sem, seval, bnd_ite, Int.lt_irrefl, decide_false, fill_all]
  have hir : ∀ u n, idsL u (List.replicate n (.int .i64 0 : AV)) = [] := fun u n => is_rep u n _ rfl
  have e0 : ((0 : Nat) : Int) = 0 := rfl
  rw [fill_0, e0] at key
  simp only [key, hir]
  simp only [go_sem, seval, tk_map, Nat.le_refl]
theorem e176 (l : List Bool) (hl : l.length ≤ 1048576) : E T 176 [.ro 1 (l.map bv)] [] = some (.own 1 (l.map bv), []) := by
  rw [E_eq t176 (Nat.le_of_ble_eq_true rfl)]
  simp only [F176, h176_3, go_sem, seval, bnd_ite]
  rw [if_pos ⟨by omega, by omega, by omega⟩]
  have key := XL_fold (T := T) (b := 0) (hd := H176_3) (x := L176_3) l (fun (_ : Unit) _ => ()) (fun i _ => ⟨[(0, .ro 1 (l.map bv)), (3, .sl 0 0 l.length), (4, .int .i64 (i : Nat))], [some (1, fill bv (.bool false) l i)]⟩)
    (r := (.exit 0, ⟨[(11, .bool false), (10, .int .i64 l.length), (9, .ro 1 (l.map bv)), (8, .int .i64 l.length), (0, .ro 1 (l.map bv)), (3, .sl 0 0 l.length), (4, .int .i64 l.length)], [some (1, l.map bv)]⟩)) ?step () ?last
  case step =>
    intro i _ p hp hi
    have hi1 : (i : Int) < (l.length : Int) := by omega
    have fs : (fill bv (.bool false) l i).set i (.bool p) = _ := fill_set (f := bv) (z := .bool false) hp
    simp only [XG, L176_3, h176_3, go_sem, seval, bnd_ite, hi1, gD_map hp, bv, Int.natCast_nonneg, w_i64 ((i : Int) + 1) (by omega), fill_len (Nat.le_of_lt hi), fill_get hi, hi,
      fill_mi _ bv_cool (z := .bool false) rfl, fill_is _ bv_cool (z := .bool false) rfl, is_set]
    rw [fs]; rfl
  case last =>
    refine XL_out ?_ (by simp)
    simp only [XG, L176_3, h176_3, go_sem, seval, bnd_ite, Int.lt_irrefl, decide_false, fill_all]
  have hir : ∀ u n, idsL u (List.replicate n (.bool false : AV)) = [] := fun u n => is_rep u n _ rfl
  have e0 : ((0 : Nat) : Int) = 0 := rfl
  rw [fill_0, e0] at key
  simp only [key, hir]
  simp only [go_sem, seval, tk_map, Nat.le_refl]
theorem e261 (x : Slt) : E T 261 [slt x] [] = some (slt x, []) := by
  rw [E_eq t261 (Nat.le_of_ble_eq_true rfl)]; simp only [slt, F261, go_sem, seval]
theorem t234 : T 234 = some (Fto 2 24 (.agg [.str ⟨#[]⟩, .int .i64 0]) 2 261) := tab Tryz.func234 (by kernel_rfl) rfl
theorem e234 (l : List Slt) (hl : l.length ≤ 1048576) : E T 234 [.ro 2 (l.map slt)] [] = some (.own 2 (l.map slt), []) :=
  gto (cs := fun x : Slt => [.str x.name, .int .i64 x.ino]) t234 (by omega) (fun _ => rfl) rfl (fun _ => rfl) (fun _ _ => rfl) (fun _ => rfl) (fun _ => rfl) rfl (fun _ _ => rfl) (fun _ => rfl) (fun x => e261 x) l hl
theorem e177 (x : Ino) (h : x.sm) : E T 177 [ino x] [] = some (inoO x, []) := by
  rw [E_eq t177 (Nat.le_of_ble_eq_true rfl)]; simp only [ino, inoO, F177, go_sem, seval, e233 x.ptrs h]
theorem e178 (x : Blk) (h : x.sm) : E T 178 [blk x] [] = some (blkO x, []) := by
  rw [E_eq t178 (Nat.le_of_ble_eq_true rfl)]; simp only [blk, blkO, F178, go_sem, seval, e234 x.slots h]
theorem t81 : T 81 = some (Fto 3 40 (.agg [.int .i64 0, .int .i64 0, .nil]) 3 177) := tab Tryz.func81 (by kernel_rfl) rfl
theorem e81 (l : List Ino) (hl : l.length ≤ 1048576) (hs : ∀ x ∈ l, x.sm) : E T 81 [.ro 3 (l.map ino)] [] = some (.own 3 (l.map inoO), []) := by
  rw [E_eq t81 (Nat.le_of_ble_eq_true rfl)]
  simp only [Fto, hto, go_sem, seval, bnd_ite]
  rw [if_pos ⟨by omega, by omega, by omega⟩]
  have key := XL_fold (T := T) (b := 0) (hd := Hto) (x := Lto 3 40 (.agg [.int .i64 0, .int .i64 0, .nil]) 3 177) l (fun (_ : Unit) _ => ()) (fun i _ => ⟨[(0, .ro 3 (l.map ino)), (3, .sl 0 0 l.length), (4, .int .i64 (i : Nat))], [some (3, fill inoO (.agg [.int .i64 0, .int .i64 0, .nil]) l i)]⟩)
    (r := (.exit 0, ⟨[(11, .bool false), (10, .int .i64 l.length), (9, .ro 3 (l.map ino)), (8, .int .i64 l.length), (0, .ro 3 (l.map ino)), (3, .sl 0 0 l.length), (4, .int .i64 l.length)], [some (3, l.map inoO)]⟩)) ?step () ?last
  case step =>
    intro i _ p hp hi
    have hi1 : (i : Int) < (l.length : Int) := by omega
    have fs : (fill inoO (.agg [.int .i64 0, .int .i64 0, .nil]) l i).set i (.agg [.int .i64 p.kind, .int .i64 p.links, .own 1 (p.ptrs.map iv)]) = _ := fill_set (f := inoO) (z := .agg [.int .i64 0, .int .i64 0, .nil]) hp
    have hc := e177 p (hs p (List.mem_of_getElem? hp))
    unfold ino inoO at hc
    simp only [XG, Lto, hto, go_sem, seval, bnd_ite, hi1, gD_map hp, ino, hc, Int.natCast_nonneg, w_i64 ((i : Int) + 1) (by omega), fill_len (Nat.le_of_lt hi), fill_get hi, hi,
      fill_mi _ inoO_cool (z := .agg [.int .i64 0, .int .i64 0, .nil]) rfl, fill_is _ inoO_cool (z := .agg [.int .i64 0, .int .i64 0, .nil]) rfl, is_set]
    rw [fs]; rfl
  case last =>
    refine XL_out ?_ (by simp)
    simp only [XG, Lto, hto, go_sem, seval, bnd_ite, Int.lt_irrefl, decide_false, fill_all]
  have hir : ∀ u n, idsL u (List.replicate n (.agg [.int .i64 0, .int .i64 0, .nil] : AV)) = [] := fun u n => is_rep u n _ rfl
  have e0 : ((0 : Nat) : Int) = 0 := rfl
  rw [fill_0, e0] at key
  simp only [key, hir]
  simp only [go_sem, seval, tk_map, Nat.le_refl]
theorem t82 : T 82 = some (Fto 3 48 (.agg [.bool false, .nil, .str ⟨#[]⟩]) 3 178) := tab Tryz.func82 (by kernel_rfl) rfl
theorem e82 (l : List Blk) (hl : l.length ≤ 1048576) (hs : ∀ x ∈ l, x.sm) : E T 82 [.ro 3 (l.map blk)] [] = some (.own 3 (l.map blkO), []) := by
  rw [E_eq t82 (Nat.le_of_ble_eq_true rfl)]
  simp only [Fto, hto, go_sem, seval, bnd_ite]
  rw [if_pos ⟨by omega, by omega, by omega⟩]
  have key := XL_fold (T := T) (b := 0) (hd := Hto) (x := Lto 3 48 (.agg [.bool false, .nil, .str ⟨#[]⟩]) 3 178) l (fun (_ : Unit) _ => ()) (fun i _ => ⟨[(0, .ro 3 (l.map blk)), (3, .sl 0 0 l.length), (4, .int .i64 (i : Nat))], [some (3, fill blkO (.agg [.bool false, .nil, .str ⟨#[]⟩]) l i)]⟩)
    (r := (.exit 0, ⟨[(11, .bool false), (10, .int .i64 l.length), (9, .ro 3 (l.map blk)), (8, .int .i64 l.length), (0, .ro 3 (l.map blk)), (3, .sl 0 0 l.length), (4, .int .i64 l.length)], [some (3, l.map blkO)]⟩)) ?step () ?last
  case step =>
    intro i _ p hp hi
    have hi1 : (i : Int) < (l.length : Int) := by omega
    have fs : (fill blkO (.agg [.bool false, .nil, .str ⟨#[]⟩]) l i).set i (.agg [.bool p.dir, .own 2 (p.slots.map slt), .str p.text]) = _ := fill_set (f := blkO) (z := .agg [.bool false, .nil, .str ⟨#[]⟩]) hp
    have hc := e178 p (hs p (List.mem_of_getElem? hp))
    unfold blk blkO at hc
    simp only [XG, Lto, hto, go_sem, seval, bnd_ite, hi1, gD_map hp, blk, hc, Int.natCast_nonneg, w_i64 ((i : Int) + 1) (by omega), fill_len (Nat.le_of_lt hi), fill_get hi, hi,
      fill_mi _ blkO_cool (z := .agg [.bool false, .nil, .str ⟨#[]⟩]) rfl, fill_is _ blkO_cool (z := .agg [.bool false, .nil, .str ⟨#[]⟩]) rfl, is_set]
    rw [fs]; rfl
  case last =>
    refine XL_out ?_ (by simp)
    simp only [XG, Lto, hto, go_sem, seval, bnd_ite, Int.lt_irrefl, decide_false, fill_all]
  have hir : ∀ u n, idsL u (List.replicate n (.agg [.bool false, .nil, .str ⟨#[]⟩] : AV)) = [] := fun u n => is_rep u n _ rfl
  have e0 : ((0 : Nat) : Int) = 0 := rfl
  rw [fill_0, e0] at key
  simp only [key, hir]
  simp only [go_sem, seval, tk_map, Nat.le_refl]
theorem e80 (a b : List Bool) (ha : a.length ≤ 1048576) (hb : b.length ≤ 1048576) : E T 80 [.agg [.ro 1 (a.map bv), .ro 1 (b.map bv)]] [] = some (.agg [.own 1 (a.map bv), .own 1 (b.map bv)], []) := by
  rw [E_eq t80 (Nat.le_of_ble_eq_true rfl)]; simp only [F80, go_sem, seval, e176 a ha, e176 b hb]
theorem e21 (x : Dsk) (h : x.sm) : E T 21 [dsk x] [] = some (dskO x, []) := by
  rw [E_eq t21 (Nat.le_of_ble_eq_true rfl)]; simp only [dsk, dskO, F21, go_sem, seval, e80 _ _ h.used h.taken, e81 _ h.inos h.ino, e82 _ h.blks h.blk]
end Go.Proofs.YtaaajjinpppgeaaGreat
namespace Go.Proofs.YtaaajjinpppgeaaGreat
open Go Go.Abs
set_option maxRecDepth 100000
theorem bdec (x y : Bool) : (x == y) = decide (x = y) := by cases x <;> cases y <;> rfl
theorem bne_dec (x y : Bool) : (x != y) = !decide (x = y) := by cases x <;> cases y <;> rfl
theorem e238 (xs ys : List Int) (ha : xs.length ≤ maxLen) : E T 238 [.ro 1 (xs.map iv), .ro 1 (ys.map iv)] [] = some (.bool (decide (xs = ys)), []) := by
  rw [E_eq t238 (Nat.le_of_ble_eq_true rfl)]
  simp only [F238, h238_4, go_sem, seval, bnd_ite]
  unfold maxLen at ha
  by_cases hl : xs.length = ys.length
  case neg =>
    have : xs ≠ ys := fun e => hl (by rw [e])
    simp [this, show ¬ (xs.length : Int) = ys.length by omega]
  refine (XL_inv (T := T) (b := 0) (hd := H238_4) (x := L238_4) (β := Unit) (fun i _ => ⟨[(0, .ro 1 (xs.map iv)), (1, .ro 1 (ys.map iv)), (5, .int .i64 (i : Nat))], []⟩)
    (fun i _ => xs.take i = ys.take i) xs.length (fun r => (r.1 = .exit 0 ∧ xs = ys) ∨ (r.1 = .ret ∧ lookA r.2.env 4 = .bool false ∧ xs ≠ ys)) ?step ?last 0 () (by omega) rfl).elim ?main
  case step =>
    intro i _ hi hI
    obtain ⟨p, hp⟩ := get_at hi
    obtain ⟨q, hq⟩ := get_at (show i < ys.length by omega)
    have hi1 : (i : Int) < (xs.length : Int) := by omega
    have hi2 : (i : Int) < (ys.length : Int) := by omega
    simp only [XG, L238_4, h238_4, go_sem, seval, bnd_ite, hi1, hi2, gD_map hp, gD_map hq, iv, bdec, bne_dec, Int.natCast_nonneg, w_i64 ((i : Int) + 1) (by omega)]
    by_cases he : p = q
    · left
      subst he
      exact ⟨(), by simp, by rw [take_eq_snoc hp hq]; exact ⟨hI, rfl⟩⟩
    · right
      have hne : xs ≠ ys := fun e => he (by rw [e] at hp; rw [hp] at hq; exact Option.some.inj hq)
      simp only [he, decide_false, Bool.not_false, if_true]
      exact .mk (by simp) (.inr ⟨rfl, rfl, hne⟩)
  case last =>
    intro _ hI
    have e : xs = ys := by rw [List.take_length] at hI; rw [hI, hl, List.take_length]
    simp only [XG, L238_4, h238_4, go_sem, seval, bnd_ite, Int.lt_irrefl, decide_false]
    exact .mk (by simp) (.inl ⟨rfl, e⟩)
  case main =>
  rintro ⟨x, st⟩ ⟨h1, h2, h3⟩
  have hs : (0 : Int) = ((0 : Nat) : Int) := rfl
  simp only [hl, decide_true, Bool.not_true, Bool.false_eq_true, if_false]
  rw [hs, h1]
  obtain ⟨e, m⟩ := st
  rcases h3 with ⟨hx, h4⟩ | ⟨hx, h4, h5⟩
  · simp only at hx; subst hx; subst h4
    simp only [go_sem, seval]; simp
  · simp only at hx h4; subst hx
    simp only [go_sem, seval, h4]; simp [h5]
theorem e160 (xs ys : List Bool) (ha : xs.length ≤ maxLen) : E T 160 [.ro 1 (xs.map bv), .ro 1 (ys.map bv)] [] = some (.bool (decide (xs = ys)), []) := by
  rw [E_eq t160 (Nat.le_of_ble_eq_true rfl)]
  simp only [F160, h160_4, go_sem, seval, bnd_ite]
  unfold maxLen at ha
  by_cases hl : xs.length = ys.length
  case neg =>
    have : xs ≠ ys := fun e => hl (by rw [e])
    simp [this, show ¬ (xs.length : Int) = ys.length by omega]
  refine (XL_inv (T := T) (b := 0) (hd := H160_4) (x := L160_4) (β := Unit) (fun i _ => ⟨[(0, .ro 1 (xs.map bv)), (1, .ro 1 (ys.map bv)), (5, .int .i64 (i : Nat))], []⟩)
    (fun i _ => xs.take i = ys.take i) xs.length (fun r => (r.1 = .exit 0 ∧ xs = ys) ∨ (r.1 = .ret ∧ lookA r.2.env 4 = .bool false ∧ xs ≠ ys)) ?step ?last 0 () (by omega) rfl).elim ?main
  case step =>
    intro i _ hi hI
    obtain ⟨p, hp⟩ := get_at hi
    obtain ⟨q, hq⟩ := get_at (show i < ys.length by omega)
    have hi1 : (i : Int) < (xs.length : Int) := by omega
    have hi2 : (i : Int) < (ys.length : Int) := by omega
    simp only [XG, L160_4, h160_4, go_sem, seval, bnd_ite, hi1, hi2, gD_map hp, gD_map hq, bv, bdec, bne_dec, Int.natCast_nonneg, w_i64 ((i : Int) + 1) (by omega)]
    by_cases he : p = q
    · left
      subst he
      exact ⟨(), by simp, by rw [take_eq_snoc hp hq]; exact ⟨hI, rfl⟩⟩
    · right
      have hne : xs ≠ ys := fun e => he (by rw [e] at hp; rw [hp] at hq; exact Option.some.inj hq)
      simp only [he, decide_false, Bool.not_false, if_true]
      exact .mk (by simp) (.inr ⟨rfl, rfl, hne⟩)
  case last =>
    intro _ hI
    have e : xs = ys := by rw [List.take_length] at hI; rw [hI, hl, List.take_length]
    simp only [XG, L160_4, h160_4, go_sem, seval, bnd_ite, Int.lt_irrefl, decide_false]
    exact .mk (by simp) (.inl ⟨rfl, e⟩)
  case main =>
  rintro ⟨x, st⟩ ⟨h1, h2, h3⟩
  have hs : (0 : Int) = ((0 : Nat) : Int) := rfl
  simp only [hl, decide_true, Bool.not_true, Bool.false_eq_true, if_false]
  rw [hs, h1]
  obtain ⟨e, m⟩ := st
  rcases h3 with ⟨hx, h4⟩ | ⟨hx, h4, h5⟩
  · simp only at hx; subst hx; subst h4
    simp only [go_sem, seval]; simp
  · simp only at hx h4; subst hx
    simp only [go_sem, seval, h4]; simp [h5]
theorem e275 (x y : Slt) : E T 275 [slt x, slt y] [] = some (.bool (decide (x = y)), []) := by
  rw [E_eq t275 (Nat.le_of_ble_eq_true rfl)]
  simp only [slt, F275, go_sem, seval, bnd_ite, bdec, bne_dec, slt_eq]
  by_cases h1 : x.name = y.name <;> by_cases h2 : x.ino = y.ino <;> simp [h1, h2]
theorem t239 : T 239 = some (Feq 2 2 275) := tab Tryz.func239 (by kernel_rfl) rfl
theorem t91 : T 91 = some (Feq 3 3 187) := tab Tryz.func91 (by kernel_rfl) rfl
theorem t92 : T 92 = some (Feq 3 3 188) := tab Tryz.func92 (by kernel_rfl) rfl
theorem e239 (xs ys : List Slt) (ha : xs.length ≤ maxLen) : E T 239 [.ro 2 (xs.map slt), .ro 2 (ys.map slt)] [] = some (.bool (decide (xs = ys)), []) :=
  geq t239 (fun _ => rfl) (fun _ => Nat.le_refl _) (fun _ => rfl) (fun _ => rfl) (fun x y => e275 x y) xs ys ha
section
variable {s n f k : Nat}
theorem geq' {α : Type} [DecidableEq α] {enc : α → AV} {ok : α → Prop} (ht : T k = some (Feq s n f)) (henc : ∀ x, AV.agg ((enc x).cells.take n) = enc x) (hln : ∀ x, n ≤ (enc x).cells.length) (hcl : ∀ x, (enc x).cells.all closedC = true) (hd : ∀ x, isDef (enc x) = true)
    (hf : ∀ x y, ok x → E T f [enc x, enc y] [] = some (.bool (decide (x = y)), [])) (xs ys : List α) (ha : xs.length ≤ maxLen) (hok : ∀ x ∈ xs, ok x) : E T k [.ro s (xs.map enc), .ro s (ys.map enc)] [] = some (.bool (decide (xs = ys)), []) := by
  rw [E_eq ht (Nat.le_of_ble_eq_true rfl)]
  simp only [Feq, heq, go_sem, seval, bnd_ite]
  unfold maxLen at ha
  by_cases hl : xs.length = ys.length
  case neg =>
    have : xs ≠ ys := fun e => hl (by rw [e])
    simp [this, show ¬ (xs.length : Int) = ys.length by omega]
  refine (XL_inv (T := T) (b := 0) (hd := Heq) (x := Leq s n f) (β := Unit) (fun i _ => ⟨[(0, .ro s (xs.map enc)), (1, .ro s (ys.map enc)), (5, .int .i64 (i : Nat))], []⟩)
    (fun i _ => xs.take i = ys.take i) xs.length (fun r => (r.1 = .exit 0 ∧ xs = ys) ∨ (r.1 = .ret ∧ lookA r.2.env 4 = .bool false ∧ xs ≠ ys)) ?step ?last 0 () (by omega) rfl).elim ?main
  case step =>
    intro i _ hi hI
    obtain ⟨p, hp⟩ := get_at hi
    obtain ⟨q, hq⟩ := get_at (show i < ys.length by omega)
    have hi1 : (i : Int) < (xs.length : Int) := by omega
    have hi2 : (i : Int) < (ys.length : Int) := by omega
    simp only [XG, Leq, heq, go_sem, seval, bnd_ite, hi1, hi2, gD_map hp, gD_map hq, hln p, hln q, henc, hcl, hd, hf p _ (hok p (List.mem_of_getElem? hp)), Int.natCast_nonneg, w_i64 ((i : Int) + 1) (by omega)]
    by_cases he : p = q
    · left
      subst he
      exact ⟨(), by simp, by rw [take_eq_snoc hp hq]; exact ⟨hI, rfl⟩⟩
    · right
      have hne : xs ≠ ys := fun e => he (by rw [e] at hp; rw [hp] at hq; exact Option.some.inj hq)
      simp only [he, decide_false, Bool.not_false, if_true]
      exact .mk (by simp) (.inr ⟨rfl, rfl, hne⟩)
  case last =>
    intro _ hI
    have e : xs = ys := by rw [List.take_length] at hI; rw [hI, hl, List.take_length]
    simp only [XG, Leq, heq, go_sem, seval, bnd_ite, Int.lt_irrefl, decide_false]
    exact .mk (by simp) (.inl ⟨rfl, e⟩)
  case main =>
  rintro ⟨x, st⟩ ⟨h1, h2, h3⟩
  have hs : (0 : Int) = ((0 : Nat) : Int) := rfl
  simp only [hl, decide_true, Bool.not_true, Bool.false_eq_true, if_false]
  rw [hs, h1]
  obtain ⟨e, m⟩ := st
  rcases h3 with ⟨hx, h4⟩ | ⟨hx, h4, h5⟩
  · simp only at hx; subst hx; subst h4
    simp only [go_sem, seval]; simp
  · simp only at hx h4; subst hx
    simp only [go_sem, seval, h4]; simp [h5]
end
theorem e187 (x y : Ino) (h : x.ok) : E T 187 [ino x, ino y] [] = some (.bool (decide (x = y)), []) := by
  rw [E_eq t187 (Nat.le_of_ble_eq_true rfl)]
  simp only [ino, F187, go_sem, seval, bnd_ite, bdec, bne_dec, ino_eq, e238 _ y.ptrs h]
  by_cases h1 : x.kind = y.kind <;> by_cases h2 : x.links = y.links <;> by_cases h3 : x.ptrs = y.ptrs <;> simp [h1, h2, h3]
theorem e188 (x y : Blk) (h : x.ok) : E T 188 [blk x, blk y] [] = some (.bool (decide (x = y)), []) := by
  rw [E_eq t188 (Nat.le_of_ble_eq_true rfl)]
  simp only [blk, F188, go_sem, seval, bnd_ite, bdec, bne_dec, blk_eq, e239 _ y.slots h.1]
  by_cases h1 : x.dir = y.dir <;> by_cases h2 : x.slots = y.slots <;> by_cases h3 : x.text = y.text <;> simp [h1, h2, h3]
theorem e91 (xs ys : List Ino) (ha : xs.length ≤ maxLen) (hok : ∀ x ∈ xs, x.ok) : E T 91 [.ro 3 (xs.map ino), .ro 3 (ys.map ino)] [] = some (.bool (decide (xs = ys)), []) :=
  geq' (ok := Ino.ok) t91 (fun _ => rfl) (fun _ => Nat.le_refl _) (fun _ => rfl) (fun _ => rfl) (fun x y h => e187 x y h) xs ys ha hok
theorem e92 (xs ys : List Blk) (ha : xs.length ≤ maxLen) (hok : ∀ x ∈ xs, x.ok) : E T 92 [.ro 3 (xs.map blk), .ro 3 (ys.map blk)] [] = some (.bool (decide (xs = ys)), []) :=
  geq' (ok := Blk.ok) t92 (fun _ => rfl) (fun _ => Nat.le_refl _) (fun _ => rfl) (fun _ => rfl) (fun x y h => e188 x y h) xs ys ha hok
theorem e90 (a b c d : List Bool) (ha : a.length ≤ maxLen) (hb : b.length ≤ maxLen) : E T 90 [.agg [.ro 1 (a.map bv), .ro 1 (b.map bv)], .agg [.ro 1 (c.map bv), .ro 1 (d.map bv)]] [] = some (.bool (decide (a = c ∧ b = d)), []) := by
  rw [E_eq t90 (Nat.le_of_ble_eq_true rfl)]
  simp only [F90, go_sem, seval, bnd_ite, e160 a c ha, e160 b d hb]
  by_cases h1 : a = c <;> by_cases h2 : b = d <;> simp [h1, h2]
theorem dsk_eq (a b : Dsk) : a = b ↔ (a.used = b.used ∧ a.taken = b.taken) ∧ a.inos = b.inos ∧ a.blks = b.blks := by cases a; cases b; simp [and_assoc]
theorem e23 (x y : Dsk) (h : x.ok) : E T 23 [dsk x, dsk y] [] = some (.bool (decide (x = y)), []) := by
  rw [E_eq t23 (Nat.le_of_ble_eq_true rfl)]
  simp only [dsk, F23, go_sem, seval, bnd_ite, e90 _ _ y.used y.taken h.used h.taken, e91 _ y.inos h.inos h.ino, e92 _ y.blks h.blks h.blk, dsk_eq]
  by_cases h1 : x.used = y.used ∧ x.taken = y.taken <;> by_cases h2 : x.inos = y.inos <;> by_cases h3 : x.blks = y.blks <;> simp [h1, h2, h3]
end Go.Proofs.YtaaajjinpppgeaaGreat
namespace Go.Proofs.YtaaajjinpppgeaaGreat
open Go Go.Abs
set_option maxRecDepth 100000
structure Dp where
  id : Int
  kind : Int
  ino : Int
  ptr : Int
  block : Int
  slot : Int
  name : ByteArray
  bits : Bool
  other : Bool
  after : Int
  blocks : List Int
  deriving DecidableEq
def dp (x : Dp) : AV := .agg [.int .i64 x.id, .int .i64 x.kind, .int .i64 x.ino, .int .i64 x.ptr, .int .i64 x.block, .int .i64 x.slot, .str x.name, .bool x.bits, .bool x.other, .int .i64 x.after, .ro 1 (x.blocks.map iv)]
def dpO (x : Dp) : AV := .agg [.int .i64 x.id, .int .i64 x.kind, .int .i64 x.ino, .int .i64 x.ptr, .int .i64 x.block, .int .i64 x.slot, .str x.name, .bool x.bits, .bool x.other, .int .i64 x.after, .own 1 (x.blocks.map iv)]
def Dp.ok (x : Dp) : Prop := x.name.size ≤ maxLen ∧ x.blocks.length ≤ maxLen
def Dp.sm (x : Dp) : Prop := x.blocks.length ≤ 1048576
theorem dp_cool (x : Dp) : coolX (dp x) = true := rfl
theorem dp_len (x : Dp) : (dp x).cells.length = 11 := rfl
theorem dp_mi (g : Bool → Nat → Nat → Nat → AV) (l : List Dp) : mapIdL g (l.map dp) = l.map dp := mi_map g dp l dp_cool
theorem dp_is (u : Bool → Nat → Nat → Nat → List Nat) (l : List Dp) : idsL u (l.map dp) = [] := is_map u dp l dp_cool
theorem dp_coR (l : List Dp) : coolR 11 (l.map dp) = true := coR_map 11 dp l dp_len dp_cool
theorem dp_ice (x : Dp) : ice (dp x) = dp x := rfl
theorem dp_ic (l : List Dp) : iceL (l.map dp) = l.map dp := by rw [ice_m]; exact List.map_congr_left fun x _ => dp_ice x
theorem dp_no (x : Dp) : (dp x).cells.all noOwnC = true := rfl
theorem dp_noL (l : List Dp) : (l.map dp).all (fun x => x.cells.all noOwnC) = true := no_map dp l dp_no
attribute [go_sem] dp_mi dp_is dp_coR dp_ic dp_ice dp_noL
theorem dpO_cool (x : Dp) : coolX (dpO x) = true := by simp only [dpO, go_sem, Bool.and_self]
theorem dpO_len (x : Dp) : (dpO x).cells.length = 11 := rfl
theorem dpO_mi (g : Bool → Nat → Nat → Nat → AV) (l : List Dp) : mapIdL g (l.map dpO) = l.map dpO := mi_map g dpO l dpO_cool
theorem dpO_is (u : Bool → Nat → Nat → Nat → List Nat) (l : List Dp) : idsL u (l.map dpO) = [] := is_map u dpO l dpO_cool
theorem dpO_coR (l : List Dp) : coolR 11 (l.map dpO) = true := coR_map 11 dpO l dpO_len dpO_cool
theorem dpO_ice (x : Dp) : ice (dpO x) = dp x := by simp only [dpO, dp, go_sem]
theorem dpO_ic (l : List Dp) : iceL (l.map dpO) = l.map dp := by rw [ice_m]; exact List.map_congr_left fun x _ => dpO_ice x
theorem dpO_rf (x : Dp) : (dpO x).roFree = true := by simp [dpO, AV.roFree, roFreeL, iv_rfL]
theorem dpO_rfL (l : List Dp) : roFreeL (l.map dpO) = true := rf_map dpO l dpO_rf
attribute [go_sem] dpO_mi dpO_is dpO_coR dpO_ic dpO_ice dpO_rfL
structure Mm where
  disk : Dsk
  dirty : List Bool
  deps : List Dp
  next : Int
  deriving DecidableEq
structure Mm.ok (x : Mm) : Prop where
  disk : x.disk.ok
  dirty : x.dirty.length ≤ maxLen
  deps : x.deps.length ≤ maxLen
  dep : ∀ y ∈ x.deps, y.ok
structure Mm.sm (x : Mm) : Prop where
  disk : x.disk.sm
  dirty : x.dirty.length ≤ 1048576
  deps : x.deps.length ≤ 1048576
  dep : ∀ y ∈ x.deps, y.sm
end Go.Proofs.YtaaajjinpppgeaaGreat
namespace Go.Proofs.YtaaajjinpppgeaaGreat
open Go Go.Abs
set_option maxRecDepth 100000
def inside (x a b : Int) : Bool := decide (a ≤ x) && decide (x ≤ b)
theorem e108i (x a b : Int) : E T 108 [.int .i64 x, .int .i64 a, .int .i64 b] [] = some (.bool (inside x a b), []) := by
  rw [E_eq t108 (Nat.le_of_ble_eq_true rfl)]; simp only [F108, go_sem, seval]; rfl
theorem e105i (x a b : Int) : E T 105 [.int .i64 x, .int .i64 a, .int .i64 b] [] = some (.bool (inside x a b), []) := by
  rw [E_eq t105 (Nat.le_of_ble_eq_true rfl)]; simp only [F105, go_sem, seval]; rfl
theorem e198 (l : List Int) (hl : l.length ≤ 1048576) : E T 198 [.ro 1 (l.map iv)] [] = some (.own 1 (l.map iv), []) := by
  rw [E_eqW t198 (Nat.le_of_ble_eq_true rfl)]
  cases l with
  | nil => simp only [F198, go_sem, seval, bnd_ite]
  | cons x xs =>
    have e := iv_mi
    have h : (xs.length + 1) * 8 ≤ 140737488355328 := by simp only [List.length_cons] at hl; omega
    simp only [F198, iv, go_sem, seval, bnd_ite, h]
theorem e55 : E T 55 [.int .i64 0] [] = some (.agg [.int .i64 0, .int .i64 0, .own 1 [.int .i64 0, .int .i64 0]], []) := by
  rw [E_eq t55 (Nat.le_of_ble_eq_true rfl)]
  simp only [F55, go_sem, seval, bnd_ite]
theorem e87 : E T 87 [.int .i64 0] [] = some (.agg [.int .i64 0, .int .i64 0, .own 1 [.int .i64 0, .int .i64 0]], []) := by
  rw [E_eq t87 (Nat.le_of_ble_eq_true rfl)]
  simp only [F87, go_sem, seval, bnd_ite]
theorem e106 (x : Ino) (h : x.sm) : E T 106 [ino x] [] = some (inoO x, []) := by
  rw [E_eqW t106 (Nat.le_of_ble_eq_true rfl)]
  have e1 := e198 x.ptrs h
  have htk : (List.map iv x.ptrs).take x.ptrs.length = List.map iv x.ptrs := List.take_of_length_le (by simp)
  simp only [ino, F106, go_sem, seval, bnd_ite, e1, inoO, htk]
theorem e109 (x : Ino) (h : x.sm) : E T 109 [ino x] [] = some (inoO x, []) := by
  rw [E_eqW t109 (Nat.le_of_ble_eq_true rfl)]
  obtain ⟨a, b, l⟩ := x
  cases l with
  | nil => simp only [ino, F109, go_sem, seval, bnd_ite, inoO]
  | cons y ys =>
    have h : (ys.length + 1) * 8 ≤ 140737488355328 := by unfold Ino.sm at h; simp only [List.length_cons] at h; omega
    simp only [ino, F109, iv, go_sem, seval, bnd_ite, h, inoO]
end Go.Proofs.YtaaajjinpppgeaaGreat
namespace Go.Proofs.YtaaajjinpppgeaaGreat
open Go Go.Abs
section
variable {T : FuncId → Option EF} {b : Nat} {hd : List Vw} {x : EC} {α β : Type}
theorem XL_each (l : List α) (f : β → α → β) (S : Nat → β → St) (I : Nat → β → Prop) (Q : β → AX × St → Prop)
    (step : ∀ i a p, l[i]? = some p → i < l.length → I i a → XG T b hd x (S i a) = some (.normal, S (i + 1) (f a p)) ∧ I (i + 1) (f a p))
    (last : ∀ a, I l.length a → Stops (XG T b hd x (S l.length a)) (Q a)) (a : β) (ha : I 0 a) : ∃ r, XL T b hd x (S 0 a) = some r ∧ Q (l.foldl f a) r := by
  have key : ∀ k i a, i + k = l.length → I i a → ∃ r, XL T b hd x (S i a) = some r ∧ Q ((l.drop i).foldl f a) r := by
    intro k
    induction k with
    | zero =>
      intro i a hi hI
      have : i = l.length := by omega
      subst this
      obtain ⟨r, h1, h2, h3⟩ := last a hI
      exact ⟨r, XL_out h1 h2, by simpa using h3⟩
    | succ k ih =>
      intro i a hi hI
      have hlt : i < l.length := by omega
      obtain ⟨h1, h2⟩ := step i a l[i] (by simp [hlt]) hlt hI
      obtain ⟨r, h3, h4⟩ := ih (i + 1) (f a l[i]) (by omega) h2
      refine ⟨r, by rw [XL_eq, h1]; exact h3, ?_⟩
      rw [List.drop_eq_getElem_cons hlt]; exact h4
  obtain ⟨r, h1, h2⟩ := key l.length 0 a (by omega) ha
  exact ⟨r, h1, by simpa using h2⟩
theorem XL_find (l : List α) (P : α → Bool) (S : Nat → St) (Q : Option Nat → AX × St → Prop)
    (step : ∀ i p, l[i]? = some p → i < l.length → P p = false → (∀ q ∈ l.take i, P q = false) → XG T b hd x (S i) = some (.normal, S (i + 1)))
    (hit : ∀ i p, l[i]? = some p → i < l.length → P p = true → (∀ q ∈ l.take i, P q = false) → Stops (XG T b hd x (S i)) (Q (some i)))
    (last : (∀ q ∈ l, P q = false) → Stops (XG T b hd x (S l.length)) (Q none)) : ∃ r, XL T b hd x (S 0) = some r ∧ Q (l.findIdx? P) r := by
  have key : ∀ k i, i + k = l.length → (∀ q ∈ l.take i, P q = false) → ∃ r, XL T b hd x (S i) = some r ∧ Q (((l.drop i).findIdx? P).map (· + i)) r := by
    intro k
    induction k with
    | zero =>
      intro i hi hp
      have : i = l.length := by omega
      subst this
      rw [List.take_length] at hp
      obtain ⟨r, h1, h2, h3⟩ := last hp
      exact ⟨r, XL_out h1 h2, by simpa using h3⟩
    | succ k ih =>
      intro i hi hp
      have hlt : i < l.length := by omega
      have hg : l[i]? = some l[i] := by simp [hlt]
      rw [List.drop_eq_getElem_cons hlt, List.findIdx?_cons]
      cases hP : P l[i] with
      | true =>
        obtain ⟨r, h1, h2, h3⟩ := hit i l[i] hg hlt hP hp
        exact ⟨r, XL_out h1 h2, by simpa [hP] using h3⟩
      | false =>
        have h1 := step i l[i] hg hlt hP hp
        obtain ⟨r, h3, h4⟩ := ih (i + 1) (by omega) (fun q hq => by
          rw [take_snoc hg, List.mem_append, List.mem_singleton] at hq
          rcases hq with hq | rfl
          · exact hp q hq
          · exact hP)
        refine ⟨r, by rw [XL_eq, h1]; exact h3, ?_⟩
        rw [if_neg (by simp)]
        have e : ((((l.drop (i + 1)).findIdx? P).map (· + 1)).map (· + i)) = ((l.drop (i + 1)).findIdx? P).map (· + (i + 1)) := by
          cases (l.drop (i + 1)).findIdx? P with
          | none => rfl
          | some n => simp only [Option.map_some]; congr 1; omega
        rw [e]; exact h4
  obtain ⟨r, h1, h2⟩ := key l.length 0 (by omega) (by simp)
  refine ⟨r, h1, ?_⟩
  have e : ((l.drop 0).findIdx? P).map (· + 0) = l.findIdx? P := by cases h : l.findIdx? P <;> simp [h]
  rw [e] at h2; exact h2
end
theorem XL_all {T : FuncId → Option EF} {b : Nat} {hd : List Vw} {x : EC} {α : Type} (l : List α) (P : α → Bool) (S : Nat → St) (Qx Qr : AX × St → Prop)
    (step : ∀ i p, l[i]? = some p → i < l.length → P p = true → (∀ q ∈ l.take i, P q = true) → XG T b hd x (S i) = some (.normal, S (i + 1)))
    (hit : ∀ i p, l[i]? = some p → i < l.length → P p = false → (∀ q ∈ l.take i, P q = true) → Stops (XG T b hd x (S i)) Qr)
    (last : (∀ q ∈ l, P q = true) → Stops (XG T b hd x (S l.length)) Qx) : ∃ r, XL T b hd x (S 0) = some r ∧ (l.all P = true ∧ Qx r ∨ l.all P = false ∧ Qr r) := by
  obtain ⟨r, h1, h2⟩ := XL_find (T := T) (b := b) (hd := hd) (x := x) l (fun p => !P p) S (fun o r => (o = none → Qx r) ∧ (o ≠ none → Qr r))
    (fun i p h1 h2 h3 h4 => step i p h1 h2 (by simpa using h3) (fun q hq => by simpa using h4 q hq))
    (fun i p h1 h2 h3 h4 => by
      obtain ⟨r, k1, k2, k3⟩ := hit i p h1 h2 (by simpa using h3) (fun q hq => by simpa using h4 q hq)
      exact ⟨r, k1, k2, by simp, fun _ => k3⟩)
    (fun h => by
      obtain ⟨r, k1, k2, k3⟩ := last (fun q hq => by simpa using h q hq)
      exact ⟨r, k1, k2, fun _ => k3, by simp⟩)
  refine ⟨r, h1, ?_⟩
  cases e : l.all P with
  | true => exact .inl ⟨rfl, h2.1 (by simpa using e)⟩
  | false => exact .inr ⟨rfl, h2.2 (by simpa using e)⟩
theorem find_none {α : Type} {l : List α} {P : α → Bool} : l.findIdx? P = none ↔ ∀ q ∈ l, P q = false := by simp
end Go.Proofs.YtaaajjinpppgeaaGreat
namespace Go.Proofs.YtaaajjinpppgeaaGreat
open Go Go.Abs
set_option maxRecDepth 100000
theorem e172 (a b : List Bool) : E T 172 [.agg [.ro 1 (a.map bv), .ro 1 (b.map bv)]] [] = some (.bool (decide (a.length = 16) && decide (b.length = 8)), []) := by
  rw [E_eq t172 (Nat.le_of_ble_eq_true rfl)]
  simp only [F172, go_sem, seval, bnd_ite]
  by_cases h1 : a.length = 16 <;> by_cases h2 : b.length = 8 <;> simp [h1, h2] <;> omega
theorem e182 (a b : List Bool) : E T 182 [.agg [.ro 1 (a.map bv), .ro 1 (b.map bv)]] [] = some (.bool (decide (a.length = 16) && decide (b.length = 8)), []) := by
  rw [E_eq t182 (Nat.le_of_ble_eq_true rfl)]
  simp only [F182, go_sem, seval, bnd_ite]
  by_cases h1 : a.length = 16 <;> by_cases h2 : b.length = 8 <;> simp [h1, h2] <;> omega
theorem e208 (x : Int) : E T 208 [.int .i64 x] [] = some (.bool (inside x 1 8), []) := by
  rw [E_eq t208 (Nat.le_of_ble_eq_true rfl)]
  simp only [F208, go_sem, seval, bnd_ite, e105i]
def sgn (c : UInt8) : Bool := inside c.toNat 97 122 || inside c.toNat 48 57
def nameOk (s : ByteArray) : Bool := s.data.toList.all sgn && inside s.size 1 6
theorem ba_len (s : ByteArray) : s.data.toList.length = s.size := Array.length_toList
theorem e216 (s : ByteArray) (hl : s.size ≤ maxLen) : E T 216 [.str s] [] = some (.bool (nameOk s), []) := by
  rw [E_eq t216 (Nat.le_of_ble_eq_true rfl)]
  have hn := ba_len s
  unfold maxLen at hl
  refine (XL_all (T := T) (b := 0) (hd := H216_2) (x := L216_2) s.data.toList sgn (fun i => ⟨[(0, .str s), (3, .int .i64 (i : Nat))], []⟩)
    (fun r => r.1 = .exit 0 ∧ lookA r.2.env 0 = .str s) (fun r => r.1 = .ret ∧ lookA r.2.env 2 = .bool false) ?step ?hit ?last).elim ?main
  case step =>
    intro i c hc hi hp _
    have hi1 : (i : Int) < (s.size : Int) := by omega
    have gc : s.data.toList.getD i 0 = c := by simp [List.getD, hc]
    simp only [XG, L216_2, h216_2, go_sem, seval, bnd_ite, hi1, Int.toNat_natCast, gc, Int.natCast_nonneg, w_i64 ((i : Int) + 1) (by omega)]
    have hf : ((decide ((c.toNat : Int) < 97) || decide (122 < (c.toNat : Int))) && (decide ((c.toNat : Int) < 48) || decide (57 < (c.toNat : Int)))) = false := by
      rw [← Bool.not_eq_true]; intro h
      simp only [sgn, inside, Bool.or_eq_true, Bool.and_eq_true, decide_eq_true_eq] at hp h
      omega
    rw [hf]; simp only [Bool.false_eq_true, if_false]
    rfl
  case hit =>
    intro i c hc hi hp _
    have hi1 : (i : Int) < (s.size : Int) := by omega
    have gc : s.data.toList.getD i 0 = c := by simp [List.getD, hc]
    have hf : ((decide ((c.toNat : Int) < 97) || decide (122 < (c.toNat : Int))) && (decide ((c.toNat : Int) < 48) || decide (57 < (c.toNat : Int)))) = true := by
      simp only [sgn, inside, Bool.or_eq_false_iff, Bool.and_eq_false_iff, decide_eq_false_iff_not] at hp
      simp only [Bool.or_eq_true, Bool.and_eq_true, decide_eq_true_eq]
      omega
    simp only [XG, L216_2, h216_2, go_sem, seval, bnd_ite, hi1, Int.toNat_natCast, gc, Int.natCast_nonneg, w_i64 ((i : Int) + 1) (by omega), hf, if_true]
    exact .mk (by simp) ⟨rfl, rfl⟩
  case last =>
    intro _
    simp only [XG, L216_2, h216_2, go_sem, seval, bnd_ite, hn, Int.lt_irrefl, decide_false]
    exact .mk (by simp) ⟨rfl, rfl⟩
  case main =>
  rintro ⟨y, e, m⟩ ⟨k1, k2⟩
  have hs : ((0 : Nat) : Int) = 0 := rfl
  simp only [hs] at k1
  unfold nameOk
  rcases k2 with ⟨h, k2, k3⟩ | ⟨h, k2, k3⟩ <;> simp only at k2 k3 <;> subst k2
  · simp only [F216, h216_2, go_sem, seval, bnd_ite, k1, k3, e108i, h, Bool.true_and]
  · simp only [F216, h216_2, go_sem, seval, bnd_ite, k1, k3, h, Bool.false_and]
theorem e211 (s : ByteArray) (hl : s.size ≤ maxLen) : E T 211 [.str s] [] = some (.bool (nameOk s), []) := by
  rw [E_eq t211 (Nat.le_of_ble_eq_true rfl)]
  have hn := ba_len s
  unfold maxLen at hl
  refine (XL_all (T := T) (b := 0) (hd := H211_2) (x := L211_2) s.data.toList sgn (fun i => ⟨[(0, .str s), (5, .int .i64 s.size), (6, .int .i64 (i : Nat))], []⟩)
    (fun r => r.1 = .exit 0 ∧ lookA r.2.env 0 = .str s) (fun r => r.1 = .ret ∧ lookA r.2.env 2 = .bool false) ?step ?hit ?last).elim ?main
  case step =>
    intro i c hc hi hp _
    have hi1 : (i : Int) < (s.size : Int) := by omega
    have gc : s.data.toList.getD i 0 = c := by simp [List.getD, hc]
    have hw : (c.toNat : Int) ≤ 255 := by have := c.toNat_lt; omega
    simp only [sgn] at hp
    have hf : (!inside (c.toNat : Int) 97 122 && !inside (c.toNat : Int) 48 57) = false := by
      rw [← Bool.not_or, hp]; rfl
    simp only [XG, L211_2, h211_2, go_sem, seval, bnd_ite, hi1, Int.toNat_natCast, gc, Int.natCast_nonneg, w_i64 (c.toNat : Int) (by omega), w_i64 ((i : Int) + 1) (by omega), e105i, hf, Bool.false_eq_true, if_false]
    rfl
  case hit =>
    intro i c hc hi hp _
    have hi1 : (i : Int) < (s.size : Int) := by omega
    have gc : s.data.toList.getD i 0 = c := by simp [List.getD, hc]
    have hw : (c.toNat : Int) ≤ 255 := by have := c.toNat_lt; omega
    simp only [sgn] at hp
    have hf : (!inside (c.toNat : Int) 97 122 && !inside (c.toNat : Int) 48 57) = true := by
      rw [← Bool.not_or, hp]; rfl
    simp only [XG, L211_2, h211_2, go_sem, seval, bnd_ite, hi1, Int.toNat_natCast, gc, Int.natCast_nonneg, w_i64 (c.toNat : Int) (by omega), w_i64 ((i : Int) + 1) (by omega), e105i, hf, if_true]
    exact .mk (by simp) ⟨rfl, rfl⟩
  case last =>
    intro _
    simp only [XG, L211_2, h211_2, go_sem, seval, bnd_ite, hn, Int.lt_irrefl, decide_false]
    exact .mk (by simp) ⟨rfl, rfl⟩
  case main =>
  rintro ⟨y, e, m⟩ ⟨k1, k2⟩
  have hs : ((0 : Nat) : Int) = 0 := rfl
  simp only [hs] at k1
  unfold nameOk
  rcases k2 with ⟨h, k2, k3⟩ | ⟨h, k2, k3⟩ <;> simp only at k2 k3 <;> subst k2
  · simp only [F211, h211_2, go_sem, seval, bnd_ite, k1, k3, e105i, h, Bool.true_and]
  · simp only [F211, h211_2, go_sem, seval, bnd_ite, k1, k3, h, Bool.false_and]
end Go.Proofs.YtaaajjinpppgeaaGreat
namespace Go.Proofs.YtaaajjinpppgeaaGreat
open Go Go.Abs
set_option maxRecDepth 100000
def ptrOk (k p : Int) : Bool := inside p 0 16 && !(decide (k = 0) && decide (p ≠ 0))
def inoOk (x : Ino) : Bool := x.ptrs.all (ptrOk x.kind) && (inside x.kind 0 2 && inside x.links 0 200 && decide (x.ptrs.length = 2) && (!decide (x.kind = 0) || decide (x.links = 0)))
theorem e180 (x : Ino) (hk : x.ok) : E T 180 [ino x] [] = some (.bool (inoOk x), []) := by
  rw [E_eq t180 (Nat.le_of_ble_eq_true rfl)]
  unfold Ino.ok maxLen at hk
  refine (XL_all (T := T) (b := 0) (hd := H180_2) (x := L180_2) x.ptrs (ptrOk x.kind) (fun i => ⟨[(1, .ptr 0 0 0), (6, .ro 1 (x.ptrs.map iv)), (7, .int .i64 x.ptrs.length), (8, .int .i64 (i : Nat))], [some (3, [.agg [.int .i64 x.kind, .int .i64 x.links, .ro 1 (x.ptrs.map iv)]])]⟩)
    (fun r => r.1 = .exit 0 ∧ lookA r.2.env 1 = .ptr 0 0 0 ∧ r.2.mem = [some (3, [.agg [.int .i64 x.kind, .int .i64 x.links, .ro 1 (x.ptrs.map iv)]])]) (fun r => r.1 = .ret ∧ lookA r.2.env 2 = .bool false) ?step ?hit ?last).elim ?main
  case step =>
    intro i p hp hi hP _
    have hi1 : (i : Int) < (x.ptrs.length : Int) := by omega
    have gp : (x.ptrs.map iv).getD i .undef = .int .i64 p := gD_map hp
    have hf : (!inside p 0 16 || !decide (p = 0) && decide (x.kind = 0)) = false := by
      simp only [ptrOk, Bool.and_eq_true, Bool.not_eq_true'] at hP
      rw [hP.1]; rw [Bool.and_comm]; simpa using hP.2
    simp only [XG, L180_2, h180_2, go_sem, seval, bnd_ite, hi1, gp, Int.natCast_nonneg, w_i64 ((i : Int) + 1) (by omega), e105i, hf, Bool.false_eq_true, if_false]
    rfl
  case hit =>
    intro i p hp hi hP _
    have hi1 : (i : Int) < (x.ptrs.length : Int) := by omega
    have gp : (x.ptrs.map iv).getD i .undef = .int .i64 p := gD_map hp
    have hf : (!inside p 0 16 || !decide (p = 0) && decide (x.kind = 0)) = true := by
      unfold ptrOk at hP
      cases h1 : inside p 0 16 with
      | false => rfl
      | true => rw [h1, Bool.true_and] at hP; rw [Bool.and_comm]; simpa using hP
    simp only [XG, L180_2, h180_2, go_sem, seval, bnd_ite, hi1, gp, Int.natCast_nonneg, w_i64 ((i : Int) + 1) (by omega), e105i, hf, if_true]
    exact .mk (by simp) ⟨rfl, rfl⟩
  case last =>
    intro _
    simp only [XG, L180_2, h180_2, go_sem, seval, bnd_ite, Int.lt_irrefl, decide_false]
    exact .mk (by simp) ⟨rfl, rfl, rfl⟩
  case main =>
  rintro ⟨y, e, m⟩ ⟨k1, k2⟩
  have hs : ((0 : Nat) : Int) = 0 := rfl
  simp only [hs] at k1
  unfold inoOk
  rcases k2 with ⟨h, k2, k3⟩ | ⟨h, k2, k3⟩ <;> simp only at k2 k3 <;> subst k2
  · obtain ⟨k3, rfl⟩ := k3
    simp only [ino, F180, h180_2, go_sem, seval, bnd_ite, k1, k3, e105i, h, Bool.true_and]
    have hl : decide ((x.ptrs.length : Int) = 2) = decide (x.ptrs.length = 2) := by congr 1; apply propext; omega
    rw [hl]
  · simp only [ino, F180, h180_2, go_sem, seval, bnd_ite, k1, k3, h, Bool.false_and]
theorem e173 (x : Ino) (hk : x.ok) : E T 173 [ino x] [] = some (.bool (inoOk x), []) := by
  rw [E_eq t173 (Nat.le_of_ble_eq_true rfl)]
  unfold Ino.ok maxLen at hk
  have hl : decide ((x.ptrs.length : Int) = 2) = decide (x.ptrs.length = 2) := by congr 1; apply propext; omega
  by_cases hc : (inside x.kind 0 2 && inside x.links 0 200 && decide (x.ptrs.length = 2)) = true
  case neg =>
    have hf : (!inside x.kind 0 2 || !inside x.links 0 200 || !decide (x.ptrs.length = 2)) = true := by
      rw [← Bool.not_and, ← Bool.not_and, Bool.eq_false_iff.2 hc]; rfl
    have hr : inoOk x = false := by
      have hc : (inside x.kind 0 2 && inside x.links 0 200 && decide (x.ptrs.length = 2)) = false := Bool.eq_false_iff.2 hc
      unfold inoOk; rw [hc]; simp
    simp only [ino, F173, h173_4, go_sem, seval, bnd_ite, e108i, hl, hf, hr, if_true]
  have hf : (!inside x.kind 0 2 || !inside x.links 0 200 || !decide (x.ptrs.length = 2)) = false := by
    rw [← Bool.not_and, ← Bool.not_and, hc]; rfl
  have h2 : x.ptrs.length = 2 := by simp only [Bool.and_eq_true, decide_eq_true_eq] at hc; exact hc.2
  refine (XL_all (T := T) (b := 0) (hd := H173_4) (x := L173_4) x.ptrs (ptrOk x.kind) (fun i => ⟨[(1, .ptr 0 0 0), (3, .int .i64 (i : Nat))], [some (3, [.agg [.int .i64 x.kind, .int .i64 x.links, .ro 1 (x.ptrs.map iv)]])]⟩)
    (fun r => r.1 = .exit 0 ∧ lookA r.2.env 1 = .ptr 0 0 0 ∧ r.2.mem = [some (3, [.agg [.int .i64 x.kind, .int .i64 x.links, .ro 1 (x.ptrs.map iv)]])]) (fun r => r.1 = .ret ∧ lookA r.2.env 2 = .bool false) ?step ?hit ?last).elim ?main
  case step =>
    intro i p hp hi hP _
    have hi1 : (i : Int) < (x.ptrs.length : Int) := by omega
    have hi2 : (i : Int) < 2 := by omega
    have gp : (x.ptrs.map iv).getD i .undef = .int .i64 p := gD_map hp
    have hf : (!inside p 0 16 || decide (x.kind = 0) && !decide (p = 0)) = false := by
      simp only [ptrOk, Bool.and_eq_true, Bool.not_eq_true'] at hP
      rw [hP.1]; simpa using hP.2
    simp only [XG, L173_4, h173_4, go_sem, seval, bnd_ite, hi1, hi2, gp, Int.natCast_nonneg, w_i64 ((i : Int) + 1) (by omega), e108i, hf, Bool.false_eq_true, if_false]
    rfl
  case hit =>
    intro i p hp hi hP _
    have hi1 : (i : Int) < (x.ptrs.length : Int) := by omega
    have hi2 : (i : Int) < 2 := by omega
    have gp : (x.ptrs.map iv).getD i .undef = .int .i64 p := gD_map hp
    have hf : (!inside p 0 16 || decide (x.kind = 0) && !decide (p = 0)) = true := by
      unfold ptrOk at hP
      cases h1 : inside p 0 16 with
      | false => rfl
      | true => rw [h1, Bool.true_and] at hP; simpa using hP
    simp only [XG, L173_4, h173_4, go_sem, seval, bnd_ite, hi1, hi2, gp, Int.natCast_nonneg, w_i64 ((i : Int) + 1) (by omega), e108i, hf, if_true]
    exact .mk (by simp) ⟨rfl, rfl⟩
  case last =>
    intro _
    have hi2 : ¬ (x.ptrs.length : Int) < 2 := by omega
    simp only [XG, L173_4, h173_4, go_sem, seval, bnd_ite, hi2, decide_false]
    exact .mk (by simp) ⟨rfl, rfl, rfl⟩
  case main =>
  rintro ⟨y, e, m⟩ ⟨k1, k2⟩
  have hs : ((0 : Nat) : Int) = 0 := rfl
  simp only [hs] at k1
  unfold inoOk
  rcases k2 with ⟨h, k2, k3⟩ | ⟨h, k2, k3⟩ <;> simp only at k2 k3 <;> subst k2
  · obtain ⟨k3, rfl⟩ := k3
    simp only [ino, F173, h173_4, go_sem, seval, bnd_ite, k1, k3, e108i, hl, hf, hc, h, Bool.true_and, Bool.false_eq_true, if_false]
  · simp only [ino, F173, h173_4, go_sem, seval, bnd_ite, k1, k3, e108i, hl, hf, hc, h, Bool.false_and, Bool.false_eq_true, if_false]
def slotOf (l : List Slt) (s : ByteArray) : Int := if s.size = 0 then -1 else (match l.findIdx? (fun x => decide (x.name = s)) with | some i => (i : Nat) | none => -1)
theorem e263 (x : Slt) (s : ByteArray) : E T 263 [slt x, .rop [.str s]] [] = some (.bool (decide (x.name = s)), []) := by
  rw [E_eq t263 (Nat.le_of_ble_eq_true rfl)]
  simp only [slt, F263, go_sem, seval, bnd_ite]
theorem e262 (l : List Slt) (s : ByteArray) (hl : l.length ≤ maxLen) : E T 262 [.ro 2 (l.map slt), .fn 263 [.rop [.str s]]] [] = some (.int .i64 (match l.findIdx? (fun x => decide (x.name = s)) with | some i => (i : Nat) | none => -1), []) := by
  rw [E_eq t262 (Nat.le_of_ble_eq_true rfl)]
  unfold maxLen at hl
  refine (XL_find (T := T) (b := 0) (hd := H262_2) (x := L262_2) l (fun x => decide (x.name = s)) (fun i => ⟨[(0, .ro 2 (l.map slt)), (1, .fn 263 [.rop [.str s]]), (7, .int .i64 l.length), (8, .int .i64 (i : Nat))], []⟩)
    (fun o r => match o with | some i => r.1 = .ret ∧ lookA r.2.env 4 = .int .i64 (i : Nat) | none => r.1 = .exit 0) ?step ?hit ?last).elim ?main
  case step =>
    intro i p hp hi hP _
    have hi1 : (i : Int) < (l.length : Int) := by omega
    have gp : (l.map slt).getD i .undef = .agg [.str p.name, .int .i64 p.ino] := gD_map hp
    have e1 := e263 p s
    unfold slt at e1
    simp only [XG, L262_2, h262_2, go_sem, seval, bnd_ite, hi1, gp, Int.natCast_nonneg, w_i64 ((i : Int) + 1) (by omega), e1, hP, Bool.false_eq_true, if_false]
    rfl
  case hit =>
    intro i p hp hi hP _
    have hi1 : (i : Int) < (l.length : Int) := by omega
    have gp : (l.map slt).getD i .undef = .agg [.str p.name, .int .i64 p.ino] := gD_map hp
    have e1 := e263 p s
    unfold slt at e1
    simp only [XG, L262_2, h262_2, go_sem, seval, bnd_ite, hi1, gp, Int.natCast_nonneg, w_i64 ((i : Int) + 1) (by omega), e1, hP, if_true]
    exact .mk (by simp) ⟨rfl, rfl⟩
  case last =>
    intro _
    simp only [XG, L262_2, h262_2, go_sem, seval, bnd_ite, Int.lt_irrefl, decide_false]
    exact .mk (by simp) rfl
  case main =>
  rintro ⟨y, e, m⟩ ⟨k1, k2⟩
  have hs : ((0 : Nat) : Int) = 0 := rfl
  simp only [hs] at k1
  split at k2
  · rename_i o i heq
    obtain ⟨k2, k3⟩ := k2
    simp only at k2 k3; subst k2
    simp only [F262, h262_2, go_sem, seval, bnd_ite, k1, k3, heq]
  · rename_i o heq
    simp only at k2; subst k2
    simp only [F262, h262_2, go_sem, seval, bnd_ite, k1, heq]
theorem e235 (x : Blk) (s : ByteArray) (hl : x.slots.length ≤ maxLen) : E T 235 [blk x, .str s] [] = some (.int .i64 (slotOf x.slots s), []) := by
  rw [E_eq t235 (Nat.le_of_ble_eq_true rfl)]
  have e1 := e262 x.slots s hl
  unfold slotOf
  by_cases h : s = ⟨#[]⟩
  · subst h
    simp only [blk, F235, go_sem, seval, bnd_ite, decide_true, if_true]
    rfl
  · have h2 : ¬ s.size = 0 := fun hh => h (by cases s with | mk a => congr 1; exact Array.eq_empty_of_size_eq_zero hh)
    simp only [blk, F235, go_sem, seval, bnd_ite, h, h2, e1, decide_false, if_false]
end Go.Proofs.YtaaajjinpppgeaaGreat
namespace Go.Proofs.YtaaajjinpppgeaaGreat
open Go Go.Abs
set_option maxRecDepth 100000
def bare (s : Slt) : Bool := decide (s.name = ⟨#[]⟩) && decide (s.ino = 0)
def newName (l : List Slt) (i : Nat) (s : Slt) : Bool := (l.take i).all fun q => !decide (q.name = s.name)
def slotOk (l : List Slt) (i : Nat) (s : Slt) : Bool := bare s || (nameOk s.name && inside s.ino 1 8 && newName l i s)
def blkOk (x : Blk) : Bool := if x.dir then x.slots.zipIdx.all (fun p => slotOk x.slots p.2 p.1) && (decide (x.slots.length = 4) && decide (x.text = ⟨#[]⟩)) else decide (x.slots.length = 0) && decide (x.text.size ≤ 16)
theorem zip_at {α : Type} {l : List α} {i : Nat} {p : α × Nat} (h : l.zipIdx[i]? = some p) : l[i]? = some p.1 ∧ p.2 = i := by
  rw [List.getElem?_zipIdx] at h
  cases e : l[i]? with
  | none => rw [e] at h; cases h
  | some x => rw [e] at h; simp at h; subst h; exact ⟨rfl, rfl⟩
theorem nameOk_ne {s : ByteArray} (h : nameOk s = true) : s.size ≠ 0 := by
  simp only [nameOk, inside, Bool.and_eq_true, decide_eq_true_eq] at h
  omega
theorem slotOf_at {l : List Slt} {i : Nat} {s : Slt} (h : l[i]? = some s) (hn : s.name.size ≠ 0) : slotOf l s.name = (i : Nat) ↔ newName l i s = true := by
  unfold slotOf newName
  rw [if_neg hn]
  obtain ⟨hi, rfl⟩ := List.getElem?_eq_some_iff.1 h
  cases e : l.findIdx? (fun x => decide (x.name = l[i].name)) with
  | none =>
    rw [find_none] at e
    have := e l[i] (List.getElem_mem hi)
    simp at this
  | some j =>
    rw [List.findIdx?_eq_some_iff_getElem] at e
    obtain ⟨hj, h1, h2⟩ := e
    simp only [decide_eq_true_eq] at h1
    constructor
    · intro hij
      have hij : ((j : Nat) : Int) = (i : Nat) := hij
      have : j = i := by omega
      subst this
      rw [List.all_eq_true]
      intro q hq
      obtain ⟨k, hk, rfl⟩ := List.mem_take_iff_getElem.1 hq
      have := h2 k (by omega)
      simpa using this
    · intro hall
      rw [List.all_eq_true] at hall
      by_cases c : j < i
      · have := hall l[j] (List.mem_take_iff_getElem.2 ⟨j, by omega, rfl⟩)
        simp [h1] at this
      · by_cases c2 : i < j
        · have := h2 i c2; simp at this
        · have : j = i := by omega
          rw [this]
theorem blk_nil {x : Blk} (h : x.dir = false) : blkOk x = (decide (x.slots.length = 0) && decide (x.text.size ≤ 16)) := by unfold blkOk; rw [h]; rfl
theorem e181 (x : Blk) (hk : x.ok) : E T 181 [blk x] [] = some (.bool (blkOk x), []) := by
  rw [E_eq t181 (Nat.le_of_ble_eq_true rfl)]
  obtain ⟨hk1, hk2, hk3⟩ := hk
  unfold maxLen at hk1
  cases hd : x.dir with
  | false =>
    rw [blk_nil hd]
    simp only [blk, F181, h181_4, go_sem, seval, bnd_ite, hd, Bool.not_false, if_true]
    by_cases h1 : x.slots.length = 0 <;> by_cases h2 : x.text.size ≤ 16 <;> simp [h1, h2] <;> omega
  | true =>
  refine (XL_all (T := T) (b := 0) (hd := H181_4) (x := L181_4) x.slots.zipIdx (fun p => slotOk x.slots p.2 p.1) (fun i => ⟨[(1, .ptr 0 0 0), (19, .ro 2 (x.slots.map slt)), (20, .int .i64 x.slots.length), (21, .int .i64 (i : Nat))], [some (3, [.agg [.bool true, .ro 2 (x.slots.map slt), .str x.text]])]⟩)
    (fun r => r.1 = .exit 0 ∧ lookA r.2.env 1 = .ptr 0 0 0 ∧ r.2.mem = [some (3, [.agg [.bool true, .ro 2 (x.slots.map slt), .str x.text]])]) (fun r => r.1 = .ret ∧ lookA r.2.env 2 = .bool false) ?step ?hit ?last).elim ?main
  case step =>
    rintro i ⟨s, j⟩ hp hi hP _
    obtain ⟨hp, hj⟩ := zip_at hp
    simp only at hp hj hP; subst hj
    rw [List.length_zipIdx] at hi
    have hi1 : (j : Int) < (x.slots.length : Int) := by omega
    have gp : (x.slots.map slt).getD j .undef = .agg [.str s.name, .int .i64 s.ino] := gD_map hp
    have hs := hk3 s (List.mem_of_getElem? hp)
    have e1 := e211 s.name hs
    have e2 := e235 x s.name hk1
    unfold blk at e2
    rw [hd] at e2
    simp only [slotOk] at hP
    cases hb : bare s with
    | true =>
      simp only [bare, Bool.and_eq_true, decide_eq_true_eq] at hb
      obtain ⟨b1, b2⟩ := hb
      simp only [XG, L181_4, h181_4, go_sem, seval, bnd_ite, hi1, gp, b1, b2, Int.natCast_nonneg, w_i64 ((j : Int) + 1) (by omega), e105i, decide_true, Bool.and_self, if_true]
      first | done | rfl
    | false =>
      rw [hb, Bool.false_or, Bool.and_eq_true, Bool.and_eq_true] at hP
      obtain ⟨⟨p1, p2⟩, p3⟩ := hP
      have p4 := (slotOf_at hp (nameOk_ne p1)).2 p3
      simp only [bare] at hb
      have e3 := e208 s.ino
      simp only [XG, L181_4, h181_4, go_sem, seval, bnd_ite, hi1, gp, e1, e2, e3, hb, p1, p2, p4, Int.natCast_nonneg, w_i64 ((j : Int) + 1) (by omega), decide_true, Bool.not_true, Bool.or_self, Bool.and_self, Bool.false_eq_true, if_false]
      first | done | rfl
  case hit =>
    rintro i ⟨s, j⟩ hp hi hP _
    obtain ⟨hp, hj⟩ := zip_at hp
    simp only at hp hj hP; subst hj
    rw [List.length_zipIdx] at hi
    have hi1 : (j : Int) < (x.slots.length : Int) := by omega
    have gp : (x.slots.map slt).getD j .undef = .agg [.str s.name, .int .i64 s.ino] := gD_map hp
    have hs := hk3 s (List.mem_of_getElem? hp)
    have e1 := e211 s.name hs
    have e2 := e235 x s.name hk1
    unfold blk at e2
    rw [hd] at e2
    have e3 := e208 s.ino
    simp only [slotOk, Bool.or_eq_false_iff] at hP
    obtain ⟨hb, hP⟩ := hP
    simp only [bare] at hb
    have hf : (!nameOk s.name || !inside s.ino 1 8 || !decide (slotOf x.slots s.name = (j : Nat))) = true := by
      cases p1 : nameOk s.name with
      | false => rfl
      | true =>
        have p4 := slotOf_at hp (nameOk_ne p1)
        rw [p1, Bool.true_and] at hP
        cases p2 : inside s.ino 1 8 with
        | false => rfl
        | true =>
          rw [p2, Bool.true_and] at hP
          have : ¬ slotOf x.slots s.name = (j : Nat) := fun h => by rw [p4.1 h] at hP; cases hP
          simp [this]
    simp only [XG, L181_4, h181_4, go_sem, seval, bnd_ite, hi1, gp, e1, e2, e3, hb, hf, Int.natCast_nonneg, w_i64 ((j : Int) + 1) (by omega), Bool.false_eq_true, if_false, if_true]
    exact .mk (by simp) ⟨rfl, rfl⟩
  case last =>
    intro _
    simp only [XG, L181_4, h181_4, go_sem, seval, bnd_ite, List.length_zipIdx, Int.lt_irrefl, decide_false]
    exact .mk (by simp) ⟨rfl, rfl, rfl⟩
  case main =>
  rintro ⟨y, e, m⟩ ⟨k1, k2⟩
  have hs : ((0 : Nat) : Int) = 0 := rfl
  simp only [hs] at k1
  unfold blkOk
  rw [hd, if_pos rfl]
  rcases k2 with ⟨h, k2, k3⟩ | ⟨h, k2, k3⟩ <;> simp only at k2 k3 <;> subst k2
  · obtain ⟨k3, rfl⟩ := k3
    have hl : decide ((x.slots.length : Int) = 4) = decide (x.slots.length = 4) := by congr 1; apply propext; omega
    simp only [blk, F181, h181_4, go_sem, seval, bnd_ite, hd, hl, k1, k3, h, Bool.true_and, Bool.not_true, Bool.false_eq_true, if_false]
  · simp only [blk, F181, h181_4, go_sem, seval, bnd_ite, hd, k1, k3, h, Bool.false_and, Bool.not_true, Bool.false_eq_true, if_false]
end Go.Proofs.YtaaajjinpppgeaaGreat
namespace Go.Proofs.YtaaajjinpppgeaaGreat
open Go Go.Abs
set_option maxRecDepth 100000
theorem in221 (x : Blk) (s : Slt) (j : Nat) (hj : j ≤ x.slots.length) (hl : x.slots.length ≤ 4) :
    ∃ r, XL T 0 H174_13 L174_13 ⟨[(1, .ptr 0 0 0), (3, .int .i64 j), (4, .ptr 1 0 0), (5, .int .i64 0)], [some (3, [.agg [.bool true, .ro 2 (x.slots.map slt), .str x.text]]), some (2, [.agg [.str s.name, .int .i64 s.ino]])]⟩ = some r ∧
      (newName x.slots j s = true ∧ (r.1 = .exit 2 ∧ lookA r.2.env 1 = .ptr 0 0 0 ∧ lookA r.2.env 3 = .int .i64 j ∧ lookA r.2.env 4 = .ptr 1 0 0 ∧ r.2.mem = [some (3, [.agg [.bool true, .ro 2 (x.slots.map slt), .str x.text]]), some (2, [.agg [.str s.name, .int .i64 s.ino]])]) ∨
       newName x.slots j s = false ∧ (r.1 = .ret ∧ lookA r.2.env 2 = .bool false)) := by
  have hlt : (x.slots.take j).length = j := by rw [List.length_take]; omega
  refine XL_all (x.slots.take j) (fun q => !decide (q.name = s.name)) (fun i => ⟨[(1, .ptr 0 0 0), (3, .int .i64 j), (4, .ptr 1 0 0), (5, .int .i64 (i : Nat))], [some (3, [.agg [.bool true, .ro 2 (x.slots.map slt), .str x.text]]), some (2, [.agg [.str s.name, .int .i64 s.ino]])]⟩)
    (fun r => r.1 = .exit 2 ∧ lookA r.2.env 1 = .ptr 0 0 0 ∧ lookA r.2.env 3 = .int .i64 j ∧ lookA r.2.env 4 = .ptr 1 0 0 ∧ r.2.mem = [some (3, [.agg [.bool true, .ro 2 (x.slots.map slt), .str x.text]]), some (2, [.agg [.str s.name, .int .i64 s.ino]])])
    (fun r => r.1 = .ret ∧ lookA r.2.env 2 = .bool false) ?step ?hit ?last
  case step =>
    intro i p hp hi hP _
    rw [hlt] at hi
    rw [List.getElem?_take_of_lt hi] at hp
    have hi1 : (i : Int) < (j : Int) := by omega
    have hi2 : (i : Int) < (x.slots.length : Int) := by omega
    have gp : (x.slots.map slt).getD i .undef = .agg [.str p.name, .int .i64 p.ino] := gD_map hp
    have hP : decide (p.name = s.name) = false := by simpa using hP
    simp only [XG, L174_13, h174_13, go_sem, seval, bnd_ite, hi1, hi2, gp, hP, Int.natCast_nonneg, w_i64 ((i : Int) + 1) (by omega), Bool.false_eq_true, if_false]
    first | done | rfl
  case hit =>
    intro i p hp hi hP _
    rw [hlt] at hi
    rw [List.getElem?_take_of_lt hi] at hp
    have hi1 : (i : Int) < (j : Int) := by omega
    have hi2 : (i : Int) < (x.slots.length : Int) := by omega
    have gp : (x.slots.map slt).getD i .undef = .agg [.str p.name, .int .i64 p.ino] := gD_map hp
    have hP : decide (p.name = s.name) = true := by simpa using hP
    simp only [XG, L174_13, h174_13, go_sem, seval, bnd_ite, hi1, hi2, gp, hP, Int.natCast_nonneg, w_i64 ((i : Int) + 1) (by omega), if_true]
    exact .mk (by simp) ⟨rfl, rfl⟩
  case last =>
    intro _
    simp only [XG, L174_13, h174_13, go_sem, seval, bnd_ite, hlt, Int.lt_irrefl, decide_false]
    exact .mk (by simp) ⟨rfl, rfl, rfl, rfl, rfl⟩
theorem e174 (x : Blk) (hk : x.ok) : E T 174 [blk x] [] = some (.bool (blkOk x), []) := by
  rw [E_eq t174 (Nat.le_of_ble_eq_true rfl)]
  obtain ⟨hk1, hk2, hk3⟩ := hk
  unfold maxLen at hk1
  cases hd : x.dir with
  | false =>
    rw [blk_nil hd]
    simp only [blk, F174, h174_6, go_sem, seval, bnd_ite, hd, Bool.not_false, if_true]
    by_cases h1 : x.slots.length = 0 <;> by_cases h2 : x.text.size ≤ 16 <;> simp [h1, h2] <;> omega
  | true =>
  have hl : decide ((x.slots.length : Int) = 4) = decide (x.slots.length = 4) := by congr 1; apply propext; omega
  by_cases hc : (decide (x.slots.length = 4) && decide (x.text = ⟨#[]⟩)) = true
  case neg =>
    have hf : (!decide (x.slots.length = 4) || !decide (x.text = ⟨#[]⟩)) = true := by
      rw [← Bool.not_and, Bool.eq_false_iff.2 hc]; rfl
    have hr : blkOk x = false := by
      unfold blkOk; rw [hd, if_pos rfl, Bool.eq_false_iff.2 hc, Bool.and_false]
    simp only [blk, F174, h174_6, go_sem, seval, bnd_ite, hd, hl, hf, hr, Bool.not_true, Bool.false_eq_true, if_true, if_false]
  have hf : (!decide (x.slots.length = 4) || !decide (x.text = ⟨#[]⟩)) = false := by
    rw [← Bool.not_and, hc]; rfl
  have h2 : x.slots.length = 4 := by simp only [Bool.and_eq_true, decide_eq_true_eq] at hc; exact hc.1
  refine (XL_all (T := T) (b := 0) (hd := H174_6) (x := L174_6) x.slots.zipIdx (fun p => slotOk x.slots p.2 p.1) (fun i => ⟨[(1, .ptr 0 0 0), (3, .int .i64 (i : Nat))], [some (3, [.agg [.bool true, .ro 2 (x.slots.map slt), .str x.text]])]⟩)
    (fun r => r.1 = .exit 0) (fun r => r.1 = .ret ∧ lookA r.2.env 2 = .bool false) ?step ?hit ?last).elim ?main
  case step =>
    rintro i ⟨s, j⟩ hp hi hP _
    obtain ⟨hp, hj⟩ := zip_at hp
    simp only at hp hj hP; subst hj
    rw [List.length_zipIdx] at hi
    have hi1 : (j : Int) < (x.slots.length : Int) := by omega
    have hi2 : (j : Int) < 4 := by omega
    have gp : (x.slots.map slt).getD j .undef = .agg [.str s.name, .int .i64 s.ino] := gD_map hp
    have hs := hk3 s (List.mem_of_getElem? hp)
    have e1 := e216 s.name hs
    simp only [slotOk] at hP
    cases hb : bare s with
    | true =>
      simp only [bare] at hb
      simp only [XG, L174_6, h174_6, go_sem, seval, bnd_ite, hi1, hi2, gp, hb, Int.natCast_nonneg, w_i64 ((j : Int) + 1) (by omega), if_true]
      first | done | rfl
    | false =>
      rw [hb, Bool.false_or, Bool.and_eq_true, Bool.and_eq_true] at hP
      obtain ⟨⟨p1, p2⟩, p3⟩ := hP
      simp only [bare] at hb
      obtain ⟨⟨y, e, m⟩, k1, k2⟩ := in221 x s j (by omega) (by omega)
      rcases k2 with ⟨h, kx, k3, k4, k5, km⟩ | ⟨h, _⟩
      · simp only at kx k3 k4 k5 km; subst kx; subst km
        simp only [XG, L174_6, h174_6, h174_13, go_sem, seval, bnd_ite, hi1, hi2, gp, e1, e108i, hb, p1, p2, k1, k3, k4, k5, Int.natCast_nonneg, w_i64 ((j : Int) + 1) (by omega), Bool.not_true, Bool.or_self, Bool.false_eq_true, if_false]
        first | done | rfl
      · rw [p3] at h; cases h
  case hit =>
    rintro i ⟨s, j⟩ hp hi hP _
    obtain ⟨hp, hj⟩ := zip_at hp
    simp only at hp hj hP; subst hj
    rw [List.length_zipIdx] at hi
    have hi1 : (j : Int) < (x.slots.length : Int) := by omega
    have hi2 : (j : Int) < 4 := by omega
    have gp : (x.slots.map slt).getD j .undef = .agg [.str s.name, .int .i64 s.ino] := gD_map hp
    have hs := hk3 s (List.mem_of_getElem? hp)
    have e1 := e216 s.name hs
    simp only [slotOk, Bool.or_eq_false_iff] at hP
    obtain ⟨hb, hP⟩ := hP
    simp only [bare] at hb
    cases hf : (!nameOk s.name || !inside s.ino 1 8) with
    | true =>
      simp only [XG, L174_6, h174_6, go_sem, seval, bnd_ite, hi1, hi2, gp, e1, e108i, hb, hf, Int.natCast_nonneg, w_i64 ((j : Int) + 1) (by omega), Bool.false_eq_true, if_false, if_true]
      exact .mk (by simp) ⟨rfl, rfl⟩
    | false =>
      obtain ⟨⟨y, e, m⟩, k1, k2⟩ := in221 x s j (by omega) (by omega)
      have p3 : newName x.slots j s = false := by
        rw [← Bool.not_and, Bool.not_eq_false'] at hf
        rw [hf, Bool.true_and] at hP; exact hP
      rcases k2 with ⟨h, _⟩ | ⟨h, kx, k3⟩
      · rw [p3] at h; cases h
      · simp only at kx k3; subst kx
        simp only [XG, L174_6, h174_6, h174_13, go_sem, seval, bnd_ite, hi1, hi2, gp, e1, e108i, hb, hf, k1, k3, Int.natCast_nonneg, w_i64 ((j : Int) + 1) (by omega), Bool.false_eq_true, if_false]
        exact .mk (by simp) ⟨rfl, k3⟩
  case last =>
    intro _
    have hi2 : ¬ (x.slots.length : Int) < 4 := by omega
    simp only [XG, L174_6, h174_6, go_sem, seval, bnd_ite, List.length_zipIdx, hi2, decide_false]
    exact .mk (by simp) rfl
  case main =>
  rintro ⟨y, e, m⟩ ⟨k1, k2⟩
  have hs : ((0 : Nat) : Int) = 0 := rfl
  simp only [hs] at k1
  unfold blkOk
  rw [hd, if_pos rfl, hc, Bool.and_true]
  rcases k2 with ⟨h, k2⟩ | ⟨h, k2, k3⟩ <;> simp only at k2 <;> subst k2
  · simp only [blk, F174, h174_6, go_sem, seval, bnd_ite, hd, hl, hf, k1, h, Bool.not_true, Bool.false_eq_true, if_false]
  · simp only at k3
    simp only [blk, F174, h174_6, go_sem, seval, bnd_ite, hd, hl, hf, k1, k3, h, Bool.not_true, Bool.false_eq_true, if_false]
def dskOk (x : Dsk) : Bool := x.inos.all inoOk && (x.blks.all blkOk && ((decide (x.used.length = 16) && decide (x.taken.length = 8)) && decide (x.inos.length = 8) && decide (x.blks.length = 16)))
end Go.Proofs.YtaaajjinpppgeaaGreat
namespace Go.Proofs.YtaaajjinpppgeaaGreat
open Go Go.Abs
set_option maxRecDepth 100000
def dskV (x : Dsk) : List AV := [.ro 1 (x.used.map bv), .ro 1 (x.taken.map bv), .ro 3 (x.inos.map ino), .ro 3 (x.blks.map blk)]
theorem in155a (x : Dsk) (hk : x.ok) : ∃ r, XL T 0 H84_2 L84_2 ⟨[(1, .ptr 0 0 0), (8, .ro 3 (x.inos.map ino)), (9, .int .i64 x.inos.length), (10, .int .i64 0)], [some (4, [.agg (dskV x)])]⟩ = some r ∧
    (x.inos.all inoOk = true ∧ (r.1 = .exit 0 ∧ lookA r.2.env 1 = .ptr 0 0 0 ∧ r.2.mem = [some (4, [.agg (dskV x)])]) ∨ x.inos.all inoOk = false ∧ (r.1 = .ret ∧ lookA r.2.env 2 = .bool false)) := by
  have hl := hk.inos
  unfold maxLen at hl
  refine XL_all x.inos inoOk (fun i => ⟨[(1, .ptr 0 0 0), (8, .ro 3 (x.inos.map ino)), (9, .int .i64 x.inos.length), (10, .int .i64 (i : Nat))], [some (4, [.agg (dskV x)])]⟩) (fun r => r.1 = .exit 0 ∧ lookA r.2.env 1 = .ptr 0 0 0 ∧ r.2.mem = [some (4, [.agg (dskV x)])]) (fun r => r.1 = .ret ∧ lookA r.2.env 2 = .bool false) ?step ?hit ?last
  case step =>
    intro i p hp hi hP _
    have hi1 : (i : Int) < (x.inos.length : Int) := by omega
    have gp : (x.inos.map ino).getD i .undef = .agg [.int .i64 p.kind, .int .i64 p.links, .ro 1 (p.ptrs.map iv)] := gD_map hp
    have e1 := e180 p (hk.ino p (List.mem_of_getElem? hp))
    unfold ino at e1
    unfold dskV
    simp only [XG, L84_2, h84_2, go_sem, seval, bnd_ite, hi1, gp, e1, hP, Int.natCast_nonneg, w_i64 ((i : Int) + 1) (by omega), Bool.not_true, Bool.false_eq_true, if_false]
    first | done | rfl
  case hit =>
    intro i p hp hi hP _
    have hi1 : (i : Int) < (x.inos.length : Int) := by omega
    have gp : (x.inos.map ino).getD i .undef = .agg [.int .i64 p.kind, .int .i64 p.links, .ro 1 (p.ptrs.map iv)] := gD_map hp
    have e1 := e180 p (hk.ino p (List.mem_of_getElem? hp))
    unfold ino at e1
    unfold dskV
    simp only [XG, L84_2, h84_2, go_sem, seval, bnd_ite, hi1, gp, e1, hP, Int.natCast_nonneg, w_i64 ((i : Int) + 1) (by omega), Bool.not_false, if_true]
    exact .mk (by simp) ⟨rfl, rfl⟩
  case last =>
    intro _
    unfold dskV
    simp only [XG, L84_2, h84_2, go_sem, seval, bnd_ite, Int.lt_irrefl, decide_false]
    exact .mk (by simp) ⟨rfl, rfl, rfl⟩
theorem in155b (x : Dsk) (hk : x.ok) : ∃ r, XL T 0 H84_9 L84_9 ⟨[(1, .ptr 0 0 0), (19, .ro 3 (x.blks.map blk)), (20, .int .i64 x.blks.length), (21, .int .i64 0)], [some (4, [.agg (dskV x)])]⟩ = some r ∧
    (x.blks.all blkOk = true ∧ (r.1 = .exit 2 ∧ lookA r.2.env 1 = .ptr 0 0 0 ∧ r.2.mem = [some (4, [.agg (dskV x)])]) ∨ x.blks.all blkOk = false ∧ (r.1 = .ret ∧ lookA r.2.env 2 = .bool false)) := by
  have hl := hk.blks
  unfold maxLen at hl
  refine XL_all x.blks blkOk (fun i => ⟨[(1, .ptr 0 0 0), (19, .ro 3 (x.blks.map blk)), (20, .int .i64 x.blks.length), (21, .int .i64 (i : Nat))], [some (4, [.agg (dskV x)])]⟩) (fun r => r.1 = .exit 2 ∧ lookA r.2.env 1 = .ptr 0 0 0 ∧ r.2.mem = [some (4, [.agg (dskV x)])]) (fun r => r.1 = .ret ∧ lookA r.2.env 2 = .bool false) ?step ?hit ?last
  case step =>
    intro i p hp hi hP _
    have hi1 : (i : Int) < (x.blks.length : Int) := by omega
    have gp : (x.blks.map blk).getD i .undef = .agg [.bool p.dir, .ro 2 (p.slots.map slt), .str p.text] := gD_map hp
    have e1 := e181 p (hk.blk p (List.mem_of_getElem? hp))
    unfold blk at e1
    unfold dskV
    simp only [XG, L84_9, h84_9, go_sem, seval, bnd_ite, hi1, gp, e1, hP, Int.natCast_nonneg, w_i64 ((i : Int) + 1) (by omega), Bool.not_true, Bool.false_eq_true, if_false]
    first | done | rfl
  case hit =>
    intro i p hp hi hP _
    have hi1 : (i : Int) < (x.blks.length : Int) := by omega
    have gp : (x.blks.map blk).getD i .undef = .agg [.bool p.dir, .ro 2 (p.slots.map slt), .str p.text] := gD_map hp
    have e1 := e181 p (hk.blk p (List.mem_of_getElem? hp))
    unfold blk at e1
    unfold dskV
    simp only [XG, L84_9, h84_9, go_sem, seval, bnd_ite, hi1, gp, e1, hP, Int.natCast_nonneg, w_i64 ((i : Int) + 1) (by omega), Bool.not_false, if_true]
    exact .mk (by simp) ⟨rfl, rfl⟩
  case last =>
    intro _
    unfold dskV
    simp only [XG, L84_9, h84_9, go_sem, seval, bnd_ite, Int.lt_irrefl, decide_false]
    exact .mk (by simp) ⟨rfl, rfl, rfl⟩
theorem e84 (x : Dsk) (hk : x.ok) : E T 84 [dsk x] [] = some (.bool (dskOk x), []) := by
  rw [E_eq t84 (Nat.le_of_ble_eq_true rfl)]
  have c1 : decide ((x.inos.length : Int) = 8) = decide (x.inos.length = 8) := by congr 1; apply propext; omega
  have c2 : decide ((x.blks.length : Int) = 16) = decide (x.blks.length = 16) := by congr 1; apply propext; omega
  obtain ⟨⟨y, e, m⟩, k1, k2⟩ := in155a x hk
  unfold dskOk
  unfold dskV at k1 k2
  rcases k2 with ⟨h, kx, k3, km⟩ | ⟨h, kx, k3⟩
  · simp only at kx k3 km; subst kx; subst km
    obtain ⟨⟨y, e', m⟩, k4, k5⟩ := in155b x hk
    unfold dskV at k4 k5
    rcases k5 with ⟨h', kx, k6, km⟩ | ⟨h', kx, k6⟩
    · simp only at kx k6 km; subst kx; subst km
      have e0 := e182 x.used x.taken
      simp only [dsk, F84, h84_2, h84_9, go_sem, seval, bnd_ite, k1, k3, k4, k6, h, h', c1, c2, e0, Bool.true_and]
    · simp only at kx k6; subst kx
      simp only [dsk, F84, h84_2, h84_9, go_sem, seval, bnd_ite, k1, k3, k4, k6, h, h', Bool.false_and, Bool.and_false]
  · simp only at kx k3; subst kx
    simp only [dsk, F84, h84_2, go_sem, seval, bnd_ite, k1, k3, h, Bool.false_and]
theorem in153a (x : Dsk) (hk : x.ok) : ∃ r, XL T 0 H75_4 L75_4 ⟨[(1, .ptr 0 0 0), (3, .int .i64 0)], [some (4, [.agg (dskV x)])]⟩ = some r ∧
    (x.inos.all inoOk = true ∧ (r.1 = .exit 0 ∧ lookA r.2.env 1 = .ptr 0 0 0 ∧ r.2.mem = [some (4, [.agg (dskV x)])]) ∨ x.inos.all inoOk = false ∧ (r.1 = .ret ∧ lookA r.2.env 2 = .bool false)) := by
  have hl := hk.inos
  unfold maxLen at hl
  refine XL_all x.inos inoOk (fun i => ⟨[(1, .ptr 0 0 0), (3, .int .i64 (i : Nat))], [some (4, [.agg (dskV x)])]⟩) (fun r => r.1 = .exit 0 ∧ lookA r.2.env 1 = .ptr 0 0 0 ∧ r.2.mem = [some (4, [.agg (dskV x)])]) (fun r => r.1 = .ret ∧ lookA r.2.env 2 = .bool false) ?step ?hit ?last
  case step =>
    intro i p hp hi hP _
    have hi1 : (i : Int) < (x.inos.length : Int) := by omega
    have gp : (x.inos.map ino).getD i .undef = .agg [.int .i64 p.kind, .int .i64 p.links, .ro 1 (p.ptrs.map iv)] := gD_map hp
    have e1 := e173 p (hk.ino p (List.mem_of_getElem? hp))
    unfold ino at e1
    unfold dskV
    simp only [XG, L75_4, h75_4, go_sem, seval, bnd_ite, hi1, gp, e1, hP, Int.natCast_nonneg, w_i64 ((i : Int) + 1) (by omega), Bool.not_true, Bool.false_eq_true, if_false]
    first | done | rfl
  case hit =>
    intro i p hp hi hP _
    have hi1 : (i : Int) < (x.inos.length : Int) := by omega
    have gp : (x.inos.map ino).getD i .undef = .agg [.int .i64 p.kind, .int .i64 p.links, .ro 1 (p.ptrs.map iv)] := gD_map hp
    have e1 := e173 p (hk.ino p (List.mem_of_getElem? hp))
    unfold ino at e1
    unfold dskV
    simp only [XG, L75_4, h75_4, go_sem, seval, bnd_ite, hi1, gp, e1, hP, Int.natCast_nonneg, w_i64 ((i : Int) + 1) (by omega), Bool.not_false, if_true]
    exact .mk (by simp) ⟨rfl, rfl⟩
  case last =>
    intro _
    unfold dskV
    simp only [XG, L75_4, h75_4, go_sem, seval, bnd_ite, Int.lt_irrefl, decide_false]
    exact .mk (by simp) ⟨rfl, rfl, rfl⟩
theorem in153b (x : Dsk) (hk : x.ok) : ∃ r, XL T 0 H75_10 L75_10 ⟨[(1, .ptr 0 0 0), (4, .int .i64 0)], [some (4, [.agg (dskV x)])]⟩ = some r ∧
    (x.blks.all blkOk = true ∧ (r.1 = .exit 2) ∨ x.blks.all blkOk = false ∧ (r.1 = .ret ∧ lookA r.2.env 2 = .bool false)) := by
  have hl := hk.blks
  unfold maxLen at hl
  refine XL_all x.blks blkOk (fun i => ⟨[(1, .ptr 0 0 0), (4, .int .i64 (i : Nat))], [some (4, [.agg (dskV x)])]⟩) (fun r => r.1 = .exit 2) (fun r => r.1 = .ret ∧ lookA r.2.env 2 = .bool false) ?step ?hit ?last
  case step =>
    intro i p hp hi hP _
    have hi1 : (i : Int) < (x.blks.length : Int) := by omega
    have gp : (x.blks.map blk).getD i .undef = .agg [.bool p.dir, .ro 2 (p.slots.map slt), .str p.text] := gD_map hp
    have e1 := e174 p (hk.blk p (List.mem_of_getElem? hp))
    unfold blk at e1
    unfold dskV
    simp only [XG, L75_10, h75_10, go_sem, seval, bnd_ite, hi1, gp, e1, hP, Int.natCast_nonneg, w_i64 ((i : Int) + 1) (by omega), Bool.not_true, Bool.false_eq_true, if_false]
    first | done | rfl
  case hit =>
    intro i p hp hi hP _
    have hi1 : (i : Int) < (x.blks.length : Int) := by omega
    have gp : (x.blks.map blk).getD i .undef = .agg [.bool p.dir, .ro 2 (p.slots.map slt), .str p.text] := gD_map hp
    have e1 := e174 p (hk.blk p (List.mem_of_getElem? hp))
    unfold blk at e1
    unfold dskV
    simp only [XG, L75_10, h75_10, go_sem, seval, bnd_ite, hi1, gp, e1, hP, Int.natCast_nonneg, w_i64 ((i : Int) + 1) (by omega), Bool.not_false, if_true]
    exact .mk (by simp) ⟨rfl, rfl⟩
  case last =>
    intro _
    unfold dskV
    simp only [XG, L75_10, h75_10, go_sem, seval, bnd_ite, Int.lt_irrefl, decide_false]
    exact .mk (by simp) rfl
theorem e75 (x : Dsk) (hk : x.ok) : E T 75 [dsk x] [] = some (.bool (dskOk x), []) := by
  rw [E_eq t75 (Nat.le_of_ble_eq_true rfl)]
  have c1 : decide ((x.inos.length : Int) = 8) = decide (x.inos.length = 8) := by congr 1; apply propext; omega
  have c2 : decide ((x.blks.length : Int) = 16) = decide (x.blks.length = 16) := by congr 1; apply propext; omega
  have e0 := e172 x.used x.taken
  by_cases hc : (((decide (x.used.length = 16) && decide (x.taken.length = 8)) && decide (x.inos.length = 8) && decide (x.blks.length = 16))) = true
  case neg =>
    have hr : dskOk x = false := by unfold dskOk; rw [Bool.eq_false_iff.2 hc, Bool.and_false, Bool.and_false]
    have hf : (!(decide (x.used.length = 16) && decide (x.taken.length = 8)) || !decide (x.inos.length = 8) || !decide (x.blks.length = 16)) = true := by
      rw [← Bool.not_and, ← Bool.not_and, Bool.eq_false_iff.2 hc]; rfl
    simp only [dsk, F75, h75_4, go_sem, seval, bnd_ite, e0, c1, c2, hf, hr, if_true]
  have hf : (!(decide (x.used.length = 16) && decide (x.taken.length = 8)) || !decide (x.inos.length = 8) || !decide (x.blks.length = 16)) = false := by
    rw [← Bool.not_and, ← Bool.not_and, hc]; rfl
  obtain ⟨⟨y, e, m⟩, k1, k2⟩ := in153a x hk
  unfold dskOk
  rw [hc, Bool.and_true]
  unfold dskV at k1 k2
  rcases k2 with ⟨h, kx, k3, km⟩ | ⟨h, kx, k3⟩
  · simp only at kx k3 km; subst kx; subst km
    obtain ⟨⟨y, e', m⟩, k4, k5⟩ := in153b x hk
    unfold dskV at k4
    rcases k5 with ⟨h', kx⟩ | ⟨h', kx, k6⟩
    · simp only at kx; subst kx
      simp only [dsk, F75, h75_4, h75_10, go_sem, seval, bnd_ite, k1, k3, k4, h, h', e0, c1, c2, hf, Bool.true_and, Bool.false_eq_true, if_false]
    · simp only at kx k6; subst kx
      simp only [dsk, F75, h75_4, h75_10, go_sem, seval, bnd_ite, k1, k3, k4, k6, h, h', e0, c1, c2, hf, Bool.and_false, Bool.false_eq_true, if_false]
  · simp only at kx k3; subst kx
    simp only [dsk, F75, h75_4, go_sem, seval, bnd_ite, k1, k3, h, e0, c1, c2, hf, Bool.false_and, Bool.false_eq_true, if_false]
end Go.Proofs.YtaaajjinpppgeaaGreat
namespace Go.Proofs.YtaaajjinpppgeaaGreat
open Go Go.Abs
set_option maxRecDepth 100000
def blk0 : Blk := ⟨false, [], ⟨#[]⟩⟩
theorem e110 (x : Blk) (h : x.sm) : E T 110 [blk x] [] = some (blkO x, []) := by
  rw [E_eqW t110 (Nat.le_of_ble_eq_true rfl)]
  obtain ⟨a, l, b⟩ := x
  cases l with
  | nil => simp only [blk, F110, go_sem, seval, bnd_ite, blkO]
  | cons y ys =>
    have h : (ys.length + 1) * 24 ≤ 140737488355328 := by unfold Blk.sm at h; simp only [List.length_cons] at h; omega
    simp only [blk, F110, slt, go_sem, seval, bnd_ite, h, blkO]
theorem e112 (x : Blk) (h : x.sm) : E T 112 [blk x] [] = some (blkO x, []) := by
  rw [E_eqW t112 (Nat.le_of_ble_eq_true rfl)]
  obtain ⟨a, l, b⟩ := x
  cases l with
  | nil => simp only [blk, F112, go_sem, seval, bnd_ite, blkO]
  | cons y ys =>
    have h : (ys.length + 1) * 24 ≤ 140737488355328 := by unfold Blk.sm at h; simp only [List.length_cons] at h; omega
    simp only [blk, F112, slt, go_sem, seval, bnd_ite, h, blkO]
theorem e111n (x : Dsk) (i : Int) (hc : inside i 1 x.blks.length = false) : E T 111 [dsk x, .int .i64 i] [] = some (blk blk0, []) := by
  rw [E_eqW t111 (Nat.le_of_ble_eq_true rfl)]
  simp only [dsk, F111, go_sem, seval, bnd_ite, e105i, hc, blk, blk0, List.map_nil]
theorem e111 (x : Dsk) (i : Int) (hl : x.blks.length ≤ 1048576) (hc : inside i 1 x.blks.length = true) (p : Blk) (hp : x.blks[(i - 1).toNat]? = some p) : E T 111 [dsk x, .int .i64 i] [] = some (blk p, []) := by
  rw [E_eqW t111 (Nat.le_of_ble_eq_true rfl)]
  have hc' := hc
  simp only [inside, Bool.and_eq_true, decide_eq_true_eq] at hc'
  have gp : (x.blks.map blk).getD (i - 1).toNat .undef = .agg [.bool p.dir, .ro 2 (p.slots.map slt), .str p.text] := gD_map hp
  have b1 : 0 ≤ i - 1 := by omega
  have b2 : i - 1 < (x.blks.length : Int) := by omega
  simp only [dsk, F111, go_sem, seval, bnd_ite, e105i, hc, gp, b1, b2, w_i64 (i - 1) (by omega), blk]
end Go.Proofs.YtaaajjinpppgeaaGreat
namespace Go.Proofs.YtaaajjinpppgeaaGreat
open Go Go.Abs
set_option maxRecDepth 100000
theorem e77 (xs : List Int) (y : Int) (ha : xs.length ≤ maxLen) : E T 77 [.ro 1 (xs.map iv), .int .i64 y] [] = some (.bool (decide (y ∈ xs)), []) := by
  rw [E_eq t77 (Nat.le_of_ble_eq_true rfl)]
  simp only [F77, h77_2, go_sem, seval, bnd_ite]
  unfold maxLen at ha
  refine (XL_inv (T := T) (b := 0) (hd := H77_2) (x := L77_2) (β := Unit) (fun i _ => ⟨[(0, .ro 1 (xs.map iv)), (1, .int .i64 y), (5, .int .i64 (i : Nat))], []⟩)
    (fun i _ => y ∉ xs.take i) xs.length (fun r => (r.1 = .exit 0 ∧ y ∉ xs) ∨ (r.1 = .ret ∧ lookA r.2.env 4 = .bool true ∧ y ∈ xs)) ?step ?last 0 () (by omega) (by simp)).elim ?main
  case step =>
    intro i _ hi hI
    obtain ⟨p, hp⟩ := get_at hi
    have hi1 : (i : Int) < (xs.length : Int) := by omega
    simp only [XG, L77_2, h77_2, go_sem, seval, bnd_ite, hi1, gD_map hp, iv, Int.natCast_nonneg, w_i64 ((i : Int) + 1) (by omega)]
    by_cases he : p = y
    · right
      simp only [he, decide_true, if_true]
      exact .mk (by simp) (.inr ⟨rfl, rfl, he ▸ List.mem_of_getElem? hp⟩)
    · left
      simp only [he, decide_false, Bool.false_eq_true, if_false]
      exact ⟨(), rfl, by rw [take_snoc hp]; simp [hI, Ne.symm he]⟩
  case last =>
    intro _ hI
    rw [List.take_length] at hI
    simp only [XG, L77_2, h77_2, go_sem, seval, bnd_ite, Int.lt_irrefl, decide_false]
    exact .mk (by simp) (.inl ⟨rfl, hI⟩)
  case main =>
  rintro ⟨x, st⟩ ⟨h1, h2, h3⟩
  have hs : ((0 : Nat) : Int) = 0 := rfl
  rw [hs] at h1
  simp only [h1]
  obtain ⟨e, m⟩ := st
  rcases h3 with ⟨hx, h4⟩ | ⟨hx, h4, h5⟩
  · simp only at hx; subst hx
    simp only [go_sem, seval]; simp [h4]
  · simp only at hx h4; subst hx
    simp only [go_sem, seval, h4]; simp [h5]
theorem e185 (xs : List Int) (y : Int) (ha : xs.length ≤ maxLen) : ∃ r : Int, E T 185 [.ro 1 (xs.map iv), .int .i64 y] [] = some (.int .i64 r, []) ∧ (0 ≤ r ↔ y ∈ xs) := by
  rw [E_eq t185 (Nat.le_of_ble_eq_true rfl)]
  simp only [F185, h185_2, go_sem, seval, bnd_ite]
  unfold maxLen at ha
  refine (XL_inv (T := T) (b := 0) (hd := H185_2) (x := L185_2) (β := Unit) (fun i _ => ⟨[(0, .ro 1 (xs.map iv)), (1, .int .i64 y), (7, .int .i64 xs.length), (8, .int .i64 (i : Nat))], []⟩)
    (fun i _ => y ∉ xs.take i) xs.length (fun r => (r.1 = .exit 0 ∧ y ∉ xs) ∨ (r.1 = .ret ∧ ∃ n : Nat, lookA r.2.env 4 = .int .i64 n ∧ y ∈ xs)) ?step ?last 0 () (by omega) (by simp)).elim ?main
  case step =>
    intro i _ hi hI
    obtain ⟨p, hp⟩ := get_at hi
    have hi1 : (i : Int) < (xs.length : Int) := by omega
    simp only [XG, L185_2, h185_2, go_sem, seval, bnd_ite, hi1, gD_map hp, iv, Int.natCast_nonneg, w_i64 ((i : Int) + 1) (by omega)]
    by_cases he : y = p
    · right
      simp only [he, decide_true, if_true]
      exact .mk (by simp) (.inr ⟨rfl, i, rfl, List.mem_of_getElem? hp⟩)
    · left
      simp only [he, decide_false, Bool.false_eq_true, if_false]
      exact ⟨(), rfl, by rw [take_snoc hp]; simp [hI, he]⟩
  case last =>
    intro _ hI
    rw [List.take_length] at hI
    simp only [XG, L185_2, h185_2, go_sem, seval, bnd_ite, Int.lt_irrefl, decide_false]
    exact .mk (by simp) (.inl ⟨rfl, hI⟩)
  case main =>
  rintro ⟨x, st⟩ ⟨h1, h2, h3⟩
  have hs : ((0 : Nat) : Int) = 0 := rfl
  rw [hs] at h1
  simp only [h1]
  obtain ⟨e, m⟩ := st
  rcases h3 with ⟨hx, h4⟩ | ⟨hx, n, h4, h5⟩
  · simp only at hx; subst hx
    simp only [go_sem, seval]; exact ⟨-1, rfl, by simp [h4]⟩
  · simp only at hx h4; subst hx
    simp only [go_sem, seval, h4]; exact ⟨n, rfl, by simp [h5]⟩
theorem e86 (xs : List Int) (y : Int) (ha : xs.length ≤ maxLen) : E T 86 [.ro 1 (xs.map iv), .int .i64 y] [] = some (.bool (decide (y ∈ xs)), []) := by
  rw [E_eq t86 (Nat.le_of_ble_eq_true rfl)]
  obtain ⟨r, h1, h2⟩ := e185 xs y ha
  simp only [F86, go_sem, seval, bnd_ite, h1, ← h2]
end Go.Proofs.YtaaajjinpppgeaaGreat
namespace Go.Proofs.YtaaajjinpppgeaaGreat
open Go Go.Abs
set_option maxRecDepth 100000
def ino0 : Ino := ⟨0, 0, []⟩
theorem getD_at {α : Type} {l : List α} {i : Nat} {p z : α} (h : l[i]? = some p) : l.getD i z = p := by simp [List.getD, h]
theorem e143n (x : Dsk) (i : Int) (hc : inside i 1 x.inos.length = false) : E T 143 [dsk x, .int .i64 i] [] = some (ino ino0, []) := by
  rw [E_eqW t143 (Nat.le_of_ble_eq_true rfl)]
  simp only [dsk, F143, go_sem, seval, bnd_ite, e105i, hc, ino, ino0, List.map_nil]
theorem e143 (x : Dsk) (i : Int) (hl : x.inos.length ≤ 1048576) (hc : inside i 1 x.inos.length = true) (p : Ino) (hp : x.inos[(i - 1).toNat]? = some p) : E T 143 [dsk x, .int .i64 i] [] = some (ino p, []) := by
  rw [E_eqW t143 (Nat.le_of_ble_eq_true rfl)]
  have hc' := hc
  simp only [inside, Bool.and_eq_true, decide_eq_true_eq] at hc'
  have gp : (x.inos.map ino).getD (i - 1).toNat .undef = .agg [.int .i64 p.kind, .int .i64 p.links, .ro 1 (p.ptrs.map iv)] := gD_map hp
  have b1 : 0 ≤ i - 1 := by omega
  have b2 : i - 1 < (x.inos.length : Int) := by omega
  simp only [dsk, F143, go_sem, seval, bnd_ite, e105i, hc, gp, b1, b2, w_i64 (i - 1) (by omega), ino]
theorem e193 (x : Dsk) (i : Int) (hl : x.blks.length ≤ 1048576) (hc : inside i 1 x.blks.length = true) (p : Blk) (hp : x.blks[(i - 1).toNat]? = some p) : E T 193 [dsk x, .int .i64 i] [] = some (.tup [blk p, .bool true], []) := by
  rw [E_eqW t193 (Nat.le_of_ble_eq_true rfl)]
  have hc' := hc
  simp only [inside, Bool.and_eq_true, decide_eq_true_eq] at hc'
  have gp : (x.blks.map blk).getD (i - 1).toNat .undef = .agg [.bool p.dir, .ro 2 (p.slots.map slt), .str p.text] := gD_map hp
  have b1 : 0 ≤ i - 1 := by omega
  have b2 : i - 1 < (x.blks.length : Int) := by omega
  simp only [dsk, F193, go_sem, seval, bnd_ite, e108i, hc, gp, b1, b2, w_i64 (i - 1) (by omega), blk]
theorem e193n (x : Dsk) (i : Int) (hc : inside i 1 x.blks.length = false) : E T 193 [dsk x, .int .i64 i] [] = some (.tup [.agg [.bool false, .ro 2 [], .str ⟨#[]⟩], .bool false], []) := by
  rw [E_eqW t193 (Nat.le_of_ble_eq_true rfl)]
  simp only [dsk, F193, go_sem, seval, bnd_ite, e108i, hc]
end Go.Proofs.YtaaajjinpppgeaaGreat
namespace Go.Proofs.YtaaajjinpppgeaaGreat
open Go Go.Abs
set_option maxRecDepth 100000
def slt0 : Slt := ⟨⟨#[]⟩, 0⟩
structure DskOk (x : Dsk) : Prop where
  ino : ∀ p ∈ x.inos, inoOk p = true
  blk : ∀ p ∈ x.blks, blkOk p = true
  used : x.used.length = 16
  taken : x.taken.length = 8
  inos : x.inos.length = 8
  blks : x.blks.length = 16
theorem dskOk_iff {x : Dsk} : dskOk x = true ↔ DskOk x := by
  unfold dskOk
  simp only [Bool.and_eq_true, List.all_eq_true, decide_eq_true_eq]
  exact ⟨fun ⟨a, b, ⟨⟨c, d⟩, e⟩, f⟩ => ⟨a, b, c, d, e, f⟩, fun ⟨a, b, c, d, e, f⟩ => ⟨a, b, ⟨⟨c, d⟩, e⟩, f⟩⟩
structure InoOk (x : Ino) : Prop where
  kind : 0 ≤ x.kind ∧ x.kind ≤ 2
  links : 0 ≤ x.links ∧ x.links ≤ 200
  two : x.ptrs.length = 2
  ptr : ∀ p ∈ x.ptrs, 0 ≤ p ∧ p ≤ 16 ∧ (x.kind = 0 → p = 0)
  none : x.kind = 0 → x.links = 0
theorem inoOk_iff {x : Ino} : inoOk x = true ↔ InoOk x := by
  unfold inoOk ptrOk inside
  simp only [Bool.and_eq_true, List.all_eq_true, decide_eq_true_eq, Bool.not_eq_true', Bool.and_eq_false_iff, decide_eq_false_iff_not, Bool.or_eq_true]
  constructor
  · rintro ⟨a, ⟨⟨b, c⟩, d⟩, e⟩
    refine ⟨b, c, d, fun p hp => ?_, fun h => ?_⟩
    · have := a p hp; omega
    · omega
  · rintro ⟨b, c, d, a, e⟩
    refine ⟨fun p hp => ?_, ⟨⟨b, c⟩, d⟩, ?_⟩
    · have := a p hp; omega
    · omega
theorem blkOk_dir {x : Blk} (h : blkOk x = true) (hd : x.dir = true) : x.slots.length = 4 ∧ x.text = ⟨#[]⟩ ∧ ∀ (i : Nat) s, x.slots[i]? = some s → slotOk x.slots i s = true := by
  unfold blkOk at h
  rw [hd, if_pos rfl] at h
  simp only [Bool.and_eq_true, List.all_eq_true, decide_eq_true_eq] at h
  obtain ⟨h1, h2, h3⟩ := h
  refine ⟨h2, h3, fun i s hs => ?_⟩
  have := h1 (s, i) (List.mem_of_getElem? (i := i) (by rw [List.getElem?_zipIdx, hs]; simp))
  exact this
theorem blkOk_txt {x : Blk} (h : blkOk x = true) (hd : x.dir = false) : x.slots = [] ∧ x.text.size ≤ 16 := by
  rw [blk_nil hd] at h
  simp only [Bool.and_eq_true, decide_eq_true_eq] at h
  exact ⟨List.eq_nil_of_length_eq_zero h.1, h.2⟩
def blkAt (x : Dsk) (i : Int) : Blk := x.blks.getD (i - 1).toNat blk0
end Go.Proofs.YtaaajjinpppgeaaGreat
namespace Go.Proofs.YtaaajjinpppgeaaGreat
open Go Go.Abs
set_option maxRecDepth 100000
def keepS (inos : List Ino) (names : List ByteArray) (dirs : List Int) (s : Slt) : Bool :=
  !(decide (s.ino = 1) || decide ((inos.getD (s.ino - 1).toNat ⟨0, 0, []⟩).kind = 0) || decide (s.ino ∈ dirs)) && !(names.any fun n => decide (n = s.name))
structure NmS where
  out : List Slt
  names : List ByteArray
  dirs : List Int
def slStep (inos : List Ino) (st : NmS) (s : Slt) : NmS :=
  if s.name = ⟨#[]⟩ then { st with out := st.out ++ [s] }
  else if keepS inos st.names st.dirs s then ⟨st.out ++ [s], st.names ++ [s.name], if (inos.getD (s.ino - 1).toNat ⟨0, 0, []⟩).kind = 2 then st.dirs ++ [s.ino] else st.dirs⟩
  else { st with out := st.out ++ [slt0] }
structure NmB where
  blks : List Blk
  names : List ByteArray
  dirs : List Int
  seen : List Int
def sweep (inos : List Ino) (st : NmB) (p : Int) : NmB :=
  match st.blks[(p - 1).toNat]? with
  | some b =>
    let r := b.slots.foldl (slStep inos) ⟨[], st.names, st.dirs⟩
    ⟨st.blks.set (p - 1).toNat { b with slots := r.out }, r.names, r.dirs, st.seen ++ [p]⟩
  | none => { st with seen := st.seen ++ [p] }
def stepP (inos : List Ino) (st : NmB) (p : Int) : NmB := if p > 0 ∧ p ∉ st.seen then sweep inos st p else st
def stepR (inos : List Ino) (st : NmB) (p : Int) : NmB :=
  match st.blks[(p - 1).toNat]? with
  | some b => if p > 0 ∧ b.dir = true ∧ p ∉ st.seen then sweep inos st p else st
  | none => st
def rowsP (inos : List Ino) (st : NmB) (x : Ino) : NmB := if x.kind = 2 then x.ptrs.foldl (stepP inos) { st with names := [] } else st
def rowsR (inos : List Ino) (st : NmB) (x : Ino) : NmB := if x.kind = 2 then x.ptrs.foldl (stepR inos) { st with names := [] } else st
def isDirAt (blks : List Blk) (p : Int) : Bool := match blks[(p - 1).toNat]? with
  | some b => b.dir
  | none => false
structure Side (a b : NmB) : Prop where
  blks : a.blks = b.blks
  names : a.names = b.names
  dirs : a.dirs = b.dirs
  seen : ∀ p, isDirAt a.blks p = true → (p ∈ a.seen ↔ p ∈ b.seen)
  bare : ∀ x ∈ a.blks, x.dir = false → x.slots = []
theorem isDir_set (blks : List Blk) (i : Nat) (b : Blk) (l : List Slt) (h : blks[i]? = some b) (p : Int) : isDirAt (blks.set i { b with slots := l }) p = isDirAt blks p := by
  unfold isDirAt
  by_cases e : i = (p - 1).toNat
  · have hi := (List.getElem?_eq_some_iff.1 h).1
    rw [← e, List.getElem?_set_self hi, h]
  · rw [List.getElem?_set_ne e]
theorem side_step (inos : List Ino) {a b : NmB} (h : Side a b) (p : Int) (hp : 0 ≤ p) (hl : p.toNat ≤ a.blks.length) : Side (stepP inos a p) (stepR inos b p) := by
  obtain ⟨h1, h2, h3, h4, h5⟩ := h
  unfold stepP stepR
  rw [← h1]
  cases hb : a.blks[(p - 1).toNat]? with
  | none =>
    have : (p - 1).toNat ≥ a.blks.length := List.getElem?_eq_none_iff.1 hb
    by_cases hz : p > 0
    · omega
    · have n1 : ¬ (p > 0 ∧ p ∉ a.seen) := fun hh => hz hh.1
      rw [if_neg n1]
      exact ⟨h1, h2, h3, h4, h5⟩
  | some x =>
    simp only
    by_cases hz : p > 0
    · by_cases hd : x.dir = true
      · have hdir : isDirAt a.blks p = true := by unfold isDirAt; rw [hb]; exact hd
        by_cases hs : p ∈ a.seen
        · have n1 : ¬ (p > 0 ∧ p ∉ a.seen) := fun hh => hh.2 hs
          have n2 : ¬ (p > 0 ∧ x.dir = true ∧ p ∉ b.seen) := fun hh => hh.2.2 ((h4 p hdir).1 hs)
          rw [if_neg n1, if_neg n2]
          exact ⟨h1, h2, h3, h4, h5⟩
        · have n1 : p > 0 ∧ p ∉ a.seen := ⟨hz, hs⟩
          have n2 : p > 0 ∧ x.dir = true ∧ p ∉ b.seen := ⟨hz, hd, fun hh => hs ((h4 p hdir).2 hh)⟩
          rw [if_pos n1, if_pos n2]
          unfold sweep
          rw [← h1, hb, ← h2, ← h3]
          refine ⟨rfl, rfl, rfl, fun q hq => ?_, fun y hy hyd => ?_⟩
          · rw [isDir_set _ _ _ _ hb] at hq
            simp only [List.mem_append, List.mem_singleton, h4 q hq]
          · rcases List.mem_or_eq_of_mem_set hy with hy | rfl
            · exact h5 y hy hyd
            · rw [hd] at hyd; cases hyd
      · have hbare := h5 x (List.mem_of_getElem? hb) (by simpa using hd)
        have n2 : ¬ (p > 0 ∧ x.dir = true ∧ p ∉ b.seen) := fun hh => hd hh.2.1
        rw [if_neg n2]
        by_cases hs : p ∈ a.seen
        · have n1 : ¬ (p > 0 ∧ p ∉ a.seen) := fun hh => hh.2 hs
          rw [if_neg n1]
          exact ⟨h1, h2, h3, h4, h5⟩
        · have n1 : p > 0 ∧ p ∉ a.seen := ⟨hz, hs⟩
          rw [if_pos n1]
          unfold sweep
          rw [hb]
          simp only [hbare]
          have same : a.blks.set (p - 1).toNat { x with slots := [] } = a.blks := by
            have e : ({ x with slots := [] } : Blk) = x := by cases x; simp only at hbare; subst hbare; rfl
            rw [e]
            obtain ⟨hi, rfl⟩ := List.getElem?_eq_some_iff.1 hb
            exact List.set_getElem_self hi
          simp only [List.foldl_nil, same]
          refine ⟨h1, h2, h3, fun q hq => ?_, h5⟩
          have : q ≠ p := by
            rintro rfl
            unfold isDirAt at hq
            rw [hb] at hq
            exact hd hq
          simp only [List.mem_append, List.mem_singleton, this, or_false]
          exact h4 q hq
    · have n1 : ¬ (p > 0 ∧ p ∉ a.seen) := fun hh => hz hh.1
      have n2 : ¬ (p > 0 ∧ x.dir = true ∧ p ∉ b.seen) := fun hh => hz hh.1
      rw [if_neg n1, if_neg n2]
      exact ⟨h1, h2, h3, h4, h5⟩
theorem stepP_len (inos : List Ino) (a : NmB) (p : Int) : (stepP inos a p).blks.length = a.blks.length := by
  unfold stepP sweep
  split
  · split <;> simp
  · rfl
theorem side_ptrs (inos : List Ino) : ∀ (l : List Int) {a b : NmB}, Side a b → (∀ p ∈ l, 0 ≤ p ∧ p.toNat ≤ a.blks.length) → Side (l.foldl (stepP inos) a) (l.foldl (stepR inos) b) ∧ (l.foldl (stepP inos) a).blks.length = a.blks.length
  | [], _, _, h, _ => ⟨h, rfl⟩
  | p :: l, a, b, h, hl => by
    obtain ⟨h1, h2⟩ := hl p (List.mem_cons_self ..)
    have := side_ptrs inos l (side_step inos h p h1 h2) (fun q hq => by rw [stepP_len]; exact hl q (List.mem_cons_of_mem _ hq))
    rw [stepP_len] at this
    exact this
theorem side_rows (inos : List Ino) : ∀ (l : List Ino) {a b : NmB}, Side a b → (∀ x ∈ l, ∀ p ∈ x.ptrs, 0 ≤ p ∧ p.toNat ≤ a.blks.length) → Side (l.foldl (rowsP inos) a) (l.foldl (rowsR inos) b)
  | [], _, _, h, _ => h
  | x :: l, a, b, h, hl => by
    rw [List.foldl_cons, List.foldl_cons]
    have key : Side (rowsP inos a x) (rowsR inos b x) ∧ (rowsP inos a x).blks.length = a.blks.length := by
      unfold rowsP rowsR
      by_cases hk : x.kind = 2
      · rw [if_pos hk, if_pos hk]
        exact side_ptrs inos x.ptrs (a := { a with names := [] }) (b := { b with names := [] }) ⟨h.blks, rfl, h.dirs, h.seen, h.bare⟩ (hl x (List.mem_cons_self ..))
      · rw [if_neg hk, if_neg hk]; exact ⟨h, rfl⟩
    exact side_rows inos l key.1 (fun y hy p hp => by rw [key.2]; exact hl y (List.mem_cons_of_mem _ hy) p hp)
end Go.Proofs.YtaaajjinpppgeaaGreat
