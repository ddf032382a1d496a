/- Disks: comparing. Own work; no condition. -/
import Derived.Test.YtaaajjinpppgeaaGreatDb
set_option linter.unusedVariables false
set_option linter.unusedSimpArgs false
set_option linter.unusedSectionVars false
namespace Go.Proofs.YtaaajjinpppgeaaGreat
open Go Go.Abs
set_option maxRecDepth 100000
theorem bdec (x y : Bool) : (x == y) = decide (x = y) := by cases x <;> cases y <;> rfl
theorem bne_dec (x y : Bool) : (x != y) = !decide (x = y) := by cases x <;> cases y <;> rfl
theorem e238 (xs ys : List Int) (ha : xs.length ≤ maxLen) : E T 238 [.ro 1 (xs.map iv), .ro 1 (ys.map iv)] [] = some (.bool (decide (xs = ys)), []) := by
  rw [E_eq t238 (Nat.le_of_ble_eq_true rfl)]
  simp only [F238, h238_4, go_sem, seval, bnd_ite]
  unfold maxLen at ha
  by_cases hl : xs.length = ys.length
  case neg =>
    have : xs ≠ ys := fun e => hl (by rw [e])
    simp [this, show ¬ (xs.length : Int) = ys.length by omega]
  refine (XL_inv (T := T) (b := 0) (hd := H238_4) (x := L238_4) (β := Unit) (fun i _ => ⟨[(0, .ro 1 (xs.map iv)), (1, .ro 1 (ys.map iv)), (5, .int .i64 (i : Nat))], []⟩)
    (fun i _ => xs.take i = ys.take i) xs.length (fun r => (r.1 = .exit 0 ∧ xs = ys) ∨ (r.1 = .ret ∧ lookA r.2.env 4 = .bool false ∧ xs ≠ ys)) ?step ?last 0 () (by omega) rfl).elim ?main
  case step =>
    intro i _ hi hI
    obtain ⟨p, hp⟩ := get_at hi
    obtain ⟨q, hq⟩ := get_at (show i < ys.length by omega)
    have hi1 : (i : Int) < (xs.length : Int) := by omega
    have hi2 : (i : Int) < (ys.length : Int) := by omega
    simp only [XG, L238_4, h238_4, go_sem, seval, bnd_ite, hi1, hi2, gD_map hp, gD_map hq, iv, bdec, bne_dec, Int.natCast_nonneg, w_i64 ((i : Int) + 1) (by omega)]
    by_cases he : p = q
    · left
      subst he
      exact ⟨(), by simp, by rw [take_eq_snoc hp hq]; exact ⟨hI, rfl⟩⟩
    · right
      have hne : xs ≠ ys := fun e => he (by rw [e] at hp; rw [hp] at hq; exact Option.some.inj hq)
      simp only [he, decide_false, Bool.not_false, if_true]
      exact .mk (by simp) (.inr ⟨rfl, rfl, hne⟩)
  case last =>
    intro _ hI
    have e : xs = ys := by rw [List.take_length] at hI; rw [hI, hl, List.take_length]
    simp only [XG, L238_4, h238_4, go_sem, seval, bnd_ite, Int.lt_irrefl, decide_false]
    exact .mk (by simp) (.inl ⟨rfl, e⟩)
  case main =>
  rintro ⟨x, st⟩ ⟨h1, h2, h3⟩
  have hs : (0 : Int) = ((0 : Nat) : Int) := rfl
  simp only [hl, decide_true, Bool.not_true, Bool.false_eq_true, if_false]
  rw [hs, h1]
  obtain ⟨e, m⟩ := st
  rcases h3 with ⟨hx, h4⟩ | ⟨hx, h4, h5⟩
  · simp only at hx; subst hx; subst h4
    simp only [go_sem, seval]; simp
  · simp only at hx h4; subst hx
    simp only [go_sem, seval, h4]; simp [h5]
theorem e160 (xs ys : List Bool) (ha : xs.length ≤ maxLen) : E T 160 [.ro 1 (xs.map bv), .ro 1 (ys.map bv)] [] = some (.bool (decide (xs = ys)), []) := by
  rw [E_eq t160 (Nat.le_of_ble_eq_true rfl)]
  simp only [F160, h160_4, go_sem, seval, bnd_ite]
  unfold maxLen at ha
  by_cases hl : xs.length = ys.length
  case neg =>
    have : xs ≠ ys := fun e => hl (by rw [e])
    simp [this, show ¬ (xs.length : Int) = ys.length by omega]
  refine (XL_inv (T := T) (b := 0) (hd := H160_4) (x := L160_4) (β := Unit) (fun i _ => ⟨[(0, .ro 1 (xs.map bv)), (1, .ro 1 (ys.map bv)), (5, .int .i64 (i : Nat))], []⟩)
    (fun i _ => xs.take i = ys.take i) xs.length (fun r => (r.1 = .exit 0 ∧ xs = ys) ∨ (r.1 = .ret ∧ lookA r.2.env 4 = .bool false ∧ xs ≠ ys)) ?step ?last 0 () (by omega) rfl).elim ?main
  case step =>
    intro i _ hi hI
    obtain ⟨p, hp⟩ := get_at hi
    obtain ⟨q, hq⟩ := get_at (show i < ys.length by omega)
    have hi1 : (i : Int) < (xs.length : Int) := by omega
    have hi2 : (i : Int) < (ys.length : Int) := by omega
    simp only [XG, L160_4, h160_4, go_sem, seval, bnd_ite, hi1, hi2, gD_map hp, gD_map hq, bv, bdec, bne_dec, Int.natCast_nonneg, w_i64 ((i : Int) + 1) (by omega)]
    by_cases he : p = q
    · left
      subst he
      exact ⟨(), by simp, by rw [take_eq_snoc hp hq]; exact ⟨hI, rfl⟩⟩
    · right
      have hne : xs ≠ ys := fun e => he (by rw [e] at hp; rw [hp] at hq; exact Option.some.inj hq)
      simp only [he, decide_false, Bool.not_false, if_true]
      exact .mk (by simp) (.inr ⟨rfl, rfl, hne⟩)
  case last =>
    intro _ hI
    have e : xs = ys := by rw [List.take_length] at hI; rw [hI, hl, List.take_length]
    simp only [XG, L160_4, h160_4, go_sem, seval, bnd_ite, Int.lt_irrefl, decide_false]
    exact .mk (by simp) (.inl ⟨rfl, e⟩)
  case main =>
  rintro ⟨x, st⟩ ⟨h1, h2, h3⟩
  have hs : (0 : Int) = ((0 : Nat) : Int) := rfl
  simp only [hl, decide_true, Bool.not_true, Bool.false_eq_true, if_false]
  rw [hs, h1]
  obtain ⟨e, m⟩ := st
  rcases h3 with ⟨hx, h4⟩ | ⟨hx, h4, h5⟩
  · simp only at hx; subst hx; subst h4
    simp only [go_sem, seval]; simp
  · simp only at hx h4; subst hx
    simp only [go_sem, seval, h4]; simp [h5]
theorem e275 (x y : Slt) : E T 275 [slt x, slt y] [] = some (.bool (decide (x = y)), []) := by
  rw [E_eq t275 (Nat.le_of_ble_eq_true rfl)]
  simp only [slt, F275, go_sem, seval, bnd_ite, bdec, bne_dec, slt_eq]
  by_cases h1 : x.name = y.name <;> by_cases h2 : x.ino = y.ino <;> simp [h1, h2]
theorem t239 : T 239 = some (Feq 2 2 275) := tab Tryz.func239 (by kernel_rfl) rfl
theorem t91 : T 91 = some (Feq 3 3 187) := tab Tryz.func91 (by kernel_rfl) rfl
theorem t92 : T 92 = some (Feq 3 3 188) := tab Tryz.func92 (by kernel_rfl) rfl
theorem e239 (xs ys : List Slt) (ha : xs.length ≤ maxLen) : E T 239 [.ro 2 (xs.map slt), .ro 2 (ys.map slt)] [] = some (.bool (decide (xs = ys)), []) :=
  geq t239 (fun _ => rfl) (fun _ => Nat.le_refl _) (fun _ => rfl) (fun _ => rfl) (fun x y => e275 x y) xs ys ha
section
variable {s n f k : Nat}
/-- Rows whose first one is of a kind. -/
theorem geq' {α : Type} [DecidableEq α] {enc : α → AV} {ok : α → Prop} (ht : T k = some (Feq s n f)) (henc : ∀ x, AV.agg ((enc x).cells.take n) = enc x) (hln : ∀ x, n ≤ (enc x).cells.length) (hcl : ∀ x, (enc x).cells.all closedC = true) (hd : ∀ x, isDef (enc x) = true)
    (hf : ∀ x y, ok x → E T f [enc x, enc y] [] = some (.bool (decide (x = y)), [])) (xs ys : List α) (ha : xs.length ≤ maxLen) (hok : ∀ x ∈ xs, ok x) : E T k [.ro s (xs.map enc), .ro s (ys.map enc)] [] = some (.bool (decide (xs = ys)), []) := by
  rw [E_eq ht (Nat.le_of_ble_eq_true rfl)]
  simp only [Feq, heq, go_sem, seval, bnd_ite]
  unfold maxLen at ha
  by_cases hl : xs.length = ys.length
  case neg =>
    have : xs ≠ ys := fun e => hl (by rw [e])
    simp [this, show ¬ (xs.length : Int) = ys.length by omega]
  refine (XL_inv (T := T) (b := 0) (hd := Heq) (x := Leq s n f) (β := Unit) (fun i _ => ⟨[(0, .ro s (xs.map enc)), (1, .ro s (ys.map enc)), (5, .int .i64 (i : Nat))], []⟩)
    (fun i _ => xs.take i = ys.take i) xs.length (fun r => (r.1 = .exit 0 ∧ xs = ys) ∨ (r.1 = .ret ∧ lookA r.2.env 4 = .bool false ∧ xs ≠ ys)) ?step ?last 0 () (by omega) rfl).elim ?main
  case step =>
    intro i _ hi hI
    obtain ⟨p, hp⟩ := get_at hi
    obtain ⟨q, hq⟩ := get_at (show i < ys.length by omega)
    have hi1 : (i : Int) < (xs.length : Int) := by omega
    have hi2 : (i : Int) < (ys.length : Int) := by omega
    simp only [XG, Leq, heq, go_sem, seval, bnd_ite, hi1, hi2, gD_map hp, gD_map hq, hln p, hln q, henc, hcl, hd, hf p _ (hok p (List.mem_of_getElem? hp)), Int.natCast_nonneg, w_i64 ((i : Int) + 1) (by omega)]
    by_cases he : p = q
    · left
      subst he
      exact ⟨(), by simp, by rw [take_eq_snoc hp hq]; exact ⟨hI, rfl⟩⟩
    · right
      have hne : xs ≠ ys := fun e => he (by rw [e] at hp; rw [hp] at hq; exact Option.some.inj hq)
      simp only [he, decide_false, Bool.not_false, if_true]
      exact .mk (by simp) (.inr ⟨rfl, rfl, hne⟩)
  case last =>
    intro _ hI
    have e : xs = ys := by rw [List.take_length] at hI; rw [hI, hl, List.take_length]
    simp only [XG, Leq, heq, go_sem, seval, bnd_ite, Int.lt_irrefl, decide_false]
    exact .mk (by simp) (.inl ⟨rfl, e⟩)
  case main =>
  rintro ⟨x, st⟩ ⟨h1, h2, h3⟩
  have hs : (0 : Int) = ((0 : Nat) : Int) := rfl
  simp only [hl, decide_true, Bool.not_true, Bool.false_eq_true, if_false]
  rw [hs, h1]
  obtain ⟨e, m⟩ := st
  rcases h3 with ⟨hx, h4⟩ | ⟨hx, h4, h5⟩
  · simp only at hx; subst hx; subst h4
    simp only [go_sem, seval]; simp
  · simp only at hx h4; subst hx
    simp only [go_sem, seval, h4]; simp [h5]
end
theorem e187 (x y : Ino) (h : x.ok) : E T 187 [ino x, ino y] [] = some (.bool (decide (x = y)), []) := by
  rw [E_eq t187 (Nat.le_of_ble_eq_true rfl)]
  simp only [ino, F187, go_sem, seval, bnd_ite, bdec, bne_dec, ino_eq, e238 _ y.ptrs h]
  by_cases h1 : x.kind = y.kind <;> by_cases h2 : x.links = y.links <;> by_cases h3 : x.ptrs = y.ptrs <;> simp [h1, h2, h3]
theorem e188 (x y : Blk) (h : x.ok) : E T 188 [blk x, blk y] [] = some (.bool (decide (x = y)), []) := by
  rw [E_eq t188 (Nat.le_of_ble_eq_true rfl)]
  simp only [blk, F188, go_sem, seval, bnd_ite, bdec, bne_dec, blk_eq, e239 _ y.slots h.1]
  by_cases h1 : x.dir = y.dir <;> by_cases h2 : x.slots = y.slots <;> by_cases h3 : x.text = y.text <;> simp [h1, h2, h3]
theorem e91 (xs ys : List Ino) (ha : xs.length ≤ maxLen) (hok : ∀ x ∈ xs, x.ok) : E T 91 [.ro 3 (xs.map ino), .ro 3 (ys.map ino)] [] = some (.bool (decide (xs = ys)), []) :=
  geq' (ok := Ino.ok) t91 (fun _ => rfl) (fun _ => Nat.le_refl _) (fun _ => rfl) (fun _ => rfl) (fun x y h => e187 x y h) xs ys ha hok
theorem e92 (xs ys : List Blk) (ha : xs.length ≤ maxLen) (hok : ∀ x ∈ xs, x.ok) : E T 92 [.ro 3 (xs.map blk), .ro 3 (ys.map blk)] [] = some (.bool (decide (xs = ys)), []) :=
  geq' (ok := Blk.ok) t92 (fun _ => rfl) (fun _ => Nat.le_refl _) (fun _ => rfl) (fun _ => rfl) (fun x y h => e188 x y h) xs ys ha hok
theorem e90 (a b c d : List Bool) (ha : a.length ≤ maxLen) (hb : b.length ≤ maxLen) : E T 90 [.agg [.ro 1 (a.map bv), .ro 1 (b.map bv)], .agg [.ro 1 (c.map bv), .ro 1 (d.map bv)]] [] = some (.bool (decide (a = c ∧ b = d)), []) := by
  rw [E_eq t90 (Nat.le_of_ble_eq_true rfl)]
  simp only [F90, go_sem, seval, bnd_ite, e160 a c ha, e160 b d hb]
  by_cases h1 : a = c <;> by_cases h2 : b = d <;> simp [h1, h2]
theorem dsk_eq (a b : Dsk) : a = b ↔ (a.used = b.used ∧ a.taken = b.taken) ∧ a.inos = b.inos ∧ a.blks = b.blks := by cases a; cases b; simp [and_assoc]
theorem e23 (x y : Dsk) (h : x.ok) : E T 23 [dsk x, dsk y] [] = some (.bool (decide (x = y)), []) := by
  rw [E_eq t23 (Nat.le_of_ble_eq_true rfl)]
  simp only [dsk, F23, go_sem, seval, bnd_ite, e90 _ _ y.used y.taken h.used h.taken, e91 _ y.inos h.inos h.ino, e92 _ y.blks h.blks h.blk, dsk_eq]
  by_cases h1 : x.used = y.used ∧ x.taken = y.taken <;> by_cases h2 : x.inos = y.inos <;> by_cases h3 : x.blks = y.blks <;> simp [h1, h2, h3]
end Go.Proofs.YtaaajjinpppgeaaGreat
