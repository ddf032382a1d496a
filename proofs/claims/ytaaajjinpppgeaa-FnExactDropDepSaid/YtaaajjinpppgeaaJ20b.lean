/- Part 2 of the texts of a claim, joined by a program of ours (Db, Dc, Ds, Fm, Ma, Ms, Fa). No condition. -/
import Derived.Test.YtaaajjinpppgeaaJ20a
set_option linter.unusedVariables false
set_option linter.unusedSimpArgs false
set_option linter.unusedSectionVars false
/- Disks: copying. Own work; no condition. -/
set_option linter.unusedVariables false
set_option linter.unusedSimpArgs false
set_option linter.unusedSectionVars false
namespace Go.Proofs.Ytaaajjinpppgeaa
open Go Go.Abs
set_option maxRecDepth 100000
theorem e184 (l : List Int) (hl : l.length ≤ 1048576) : E T 184 [.ro 1 (l.map iv)] [] = some (.own 1 (l.map iv), []) := by
  rw [E_eq t184 (Nat.le_of_ble_eq_true rfl)]
  simp only [F184, h184_3, go_sem, seval, bnd_ite]
  rw [if_pos ⟨by omega, by omega, by omega⟩]
  have key := XL_fold (T := T) (b := 0) (hd := H184_3) (x := L184_3) l (fun (_ : Unit) _ => ()) (fun i _ => ⟨[(0, .ro 1 (l.map iv)), (3, .sl 0 0 l.length), (4, .int .i64 (i : Nat))], [some (1, fill iv (.int .i64 0) l i)]⟩)
    (r := (.exit 0, ⟨[(11, .bool false), (10, .int .i64 l.length), (9, .ro 1 (l.map iv)), (8, .int .i64 l.length), (0, .ro 1 (l.map iv)), (3, .sl 0 0 l.length), (4, .int .i64 l.length)], [some (1, l.map iv)]⟩)) ?step () ?last
  case step =>
    intro i _ p hp hi
    have hi1 : (i : Int) < (l.length : Int) := by omega
    have fs : (fill iv (.int .i64 0) l i).set i (.int .i64 p) = _ := fill_set (f := iv) (z := .int .i64 0) hp
    simp only [XG, L184_3, h184_3, go_sem, seval, bnd_ite, hi1, gD_map hp, iv, Int.natCast_nonneg, w_i64 ((i : Int) + 1) (by omega), fill_len (Nat.le_of_lt hi), fill_get hi, hi,
      fill_mi _ iv_cool (z := .int .i64 0) rfl, fill_is _ iv_cool (z := .int .i64 0) rfl, is_set]
    rw [fs]; rfl
  case last =>
    refine XL_out ?_ (by simp)
    simp only [XG, L184_3, h184_3, go_sem, seval, bnd_ite, Int.lt_irrefl, decide_false, fill_all]
  have hir : ∀ u n, idsL u (List.replicate n (.int .i64 0 : AV)) = [] := fun u n => is_rep u n _ rfl
  have e0 : ((0 : Nat) : Int) = 0 := rfl
  rw [fill_0, e0] at key
  simp only [key, hir]
  simp only [go_sem, seval, tk_map, Nat.le_refl]
theorem e136 (l : List Bool) (hl : l.length ≤ 1048576) : E T 136 [.ro 1 (l.map bv)] [] = some (.own 1 (l.map bv), []) := by
  rw [E_eq t136 (Nat.le_of_ble_eq_true rfl)]
  simp only [F136, h136_3, go_sem, seval, bnd_ite]
  rw [if_pos ⟨by omega, by omega, by omega⟩]
  have key := XL_fold (T := T) (b := 0) (hd := H136_3) (x := L136_3) l (fun (_ : Unit) _ => ()) (fun i _ => ⟨[(0, .ro 1 (l.map bv)), (3, .sl 0 0 l.length), (4, .int .i64 (i : Nat))], [some (1, fill bv (.bool false) l i)]⟩)
    (r := (.exit 0, ⟨[(11, .bool false), (10, .int .i64 l.length), (9, .ro 1 (l.map bv)), (8, .int .i64 l.length), (0, .ro 1 (l.map bv)), (3, .sl 0 0 l.length), (4, .int .i64 l.length)], [some (1, l.map bv)]⟩)) ?step () ?last
  case step =>
    intro i _ p hp hi
    have hi1 : (i : Int) < (l.length : Int) := by omega
    have fs : (fill bv (.bool false) l i).set i (.bool p) = _ := fill_set (f := bv) (z := .bool false) hp
    simp only [XG, L136_3, h136_3, go_sem, seval, bnd_ite, hi1, gD_map hp, bv, Int.natCast_nonneg, w_i64 ((i : Int) + 1) (by omega), fill_len (Nat.le_of_lt hi), fill_get hi, hi,
      fill_mi _ bv_cool (z := .bool false) rfl, fill_is _ bv_cool (z := .bool false) rfl, is_set]
    rw [fs]; rfl
  case last =>
    refine XL_out ?_ (by simp)
    simp only [XG, L136_3, h136_3, go_sem, seval, bnd_ite, Int.lt_irrefl, decide_false, fill_all]
  have hir : ∀ u n, idsL u (List.replicate n (.bool false : AV)) = [] := fun u n => is_rep u n _ rfl
  have e0 : ((0 : Nat) : Int) = 0 := rfl
  rw [fill_0, e0] at key
  simp only [key, hir]
  simp only [go_sem, seval, tk_map, Nat.le_refl]

theorem e293 (x : Slt) : E T 293 [slt x] [] = some (slt x, []) := by
  rw [E_eq t293 (Nat.le_of_ble_eq_true rfl)]; simp only [slt, F293, go_sem, seval]
theorem t264 : T 264 = some (Fto 2 24 (.agg [.str ⟨#[]⟩, .int .i64 0]) 2 293) := tab Try.func264 (by kernel_rfl) rfl
theorem e264 (l : List Slt) (hl : l.length ≤ 1048576) : E T 264 [.ro 2 (l.map slt)] [] = some (.own 2 (l.map slt), []) :=
  gto (cs := fun x : Slt => [.str x.name, .int .i64 x.ino]) t264 (by omega) (fun _ => rfl) rfl (fun _ => rfl) (fun _ _ => rfl) (fun _ => rfl) (fun _ => rfl) rfl (fun _ _ => rfl) (fun _ => rfl) (fun x => e293 x) l hl
theorem e213 (x : Ino) (h : x.sm) : E T 213 [ino x] [] = some (inoO x, []) := by
  rw [E_eq t213 (Nat.le_of_ble_eq_true rfl)]; simp only [ino, inoO, F213, go_sem, seval, e184 x.ptrs h]
theorem e214 (x : Blk) (h : x.sm) : E T 214 [blk x] [] = some (blkO x, []) := by
  rw [E_eq t214 (Nat.le_of_ble_eq_true rfl)]; simp only [blk, blkO, F214, go_sem, seval, e264 x.slots h]
theorem t128 : T 128 = some (Fto 3 40 (.agg [.int .i64 0, .int .i64 0, .nil]) 3 213) := tab Try.func128 (by kernel_rfl) rfl
theorem e128 (l : List Ino) (hl : l.length ≤ 1048576) (hs : ∀ x ∈ l, x.sm) : E T 128 [.ro 3 (l.map ino)] [] = some (.own 3 (l.map inoO), []) := by
  rw [E_eq t128 (Nat.le_of_ble_eq_true rfl)]
  simp only [Fto, hto, go_sem, seval, bnd_ite]
  rw [if_pos ⟨by omega, by omega, by omega⟩]
  have key := XL_fold (T := T) (b := 0) (hd := Hto) (x := Lto 3 40 (.agg [.int .i64 0, .int .i64 0, .nil]) 3 213) l (fun (_ : Unit) _ => ()) (fun i _ => ⟨[(0, .ro 3 (l.map ino)), (3, .sl 0 0 l.length), (4, .int .i64 (i : Nat))], [some (3, fill inoO (.agg [.int .i64 0, .int .i64 0, .nil]) l i)]⟩)
    (r := (.exit 0, ⟨[(11, .bool false), (10, .int .i64 l.length), (9, .ro 3 (l.map ino)), (8, .int .i64 l.length), (0, .ro 3 (l.map ino)), (3, .sl 0 0 l.length), (4, .int .i64 l.length)], [some (3, l.map inoO)]⟩)) ?step () ?last
  case step =>
    intro i _ p hp hi
    have hi1 : (i : Int) < (l.length : Int) := by omega
    have fs : (fill inoO (.agg [.int .i64 0, .int .i64 0, .nil]) l i).set i (.agg [.int .i64 p.kind, .int .i64 p.links, .own 1 (p.ptrs.map iv)]) = _ := fill_set (f := inoO) (z := .agg [.int .i64 0, .int .i64 0, .nil]) hp
    have hc := e213 p (hs p (List.mem_of_getElem? hp))
    unfold ino inoO at hc
    simp only [XG, Lto, hto, go_sem, seval, bnd_ite, hi1, gD_map hp, ino, hc, Int.natCast_nonneg, w_i64 ((i : Int) + 1) (by omega), fill_len (Nat.le_of_lt hi), fill_get hi, hi,
      fill_mi _ inoO_cool (z := .agg [.int .i64 0, .int .i64 0, .nil]) rfl, fill_is _ inoO_cool (z := .agg [.int .i64 0, .int .i64 0, .nil]) rfl, is_set]
    rw [fs]; rfl
  case last =>
    refine XL_out ?_ (by simp)
    simp only [XG, Lto, hto, go_sem, seval, bnd_ite, Int.lt_irrefl, decide_false, fill_all]
  have hir : ∀ u n, idsL u (List.replicate n (.agg [.int .i64 0, .int .i64 0, .nil] : AV)) = [] := fun u n => is_rep u n _ rfl
  have e0 : ((0 : Nat) : Int) = 0 := rfl
  rw [fill_0, e0] at key
  simp only [key, hir]
  simp only [go_sem, seval, tk_map, Nat.le_refl]
theorem t129 : T 129 = some (Fto 3 48 (.agg [.bool false, .nil, .str ⟨#[]⟩]) 3 214) := tab Try.func129 (by kernel_rfl) rfl
theorem e129 (l : List Blk) (hl : l.length ≤ 1048576) (hs : ∀ x ∈ l, x.sm) : E T 129 [.ro 3 (l.map blk)] [] = some (.own 3 (l.map blkO), []) := by
  rw [E_eq t129 (Nat.le_of_ble_eq_true rfl)]
  simp only [Fto, hto, go_sem, seval, bnd_ite]
  rw [if_pos ⟨by omega, by omega, by omega⟩]
  have key := XL_fold (T := T) (b := 0) (hd := Hto) (x := Lto 3 48 (.agg [.bool false, .nil, .str ⟨#[]⟩]) 3 214) l (fun (_ : Unit) _ => ()) (fun i _ => ⟨[(0, .ro 3 (l.map blk)), (3, .sl 0 0 l.length), (4, .int .i64 (i : Nat))], [some (3, fill blkO (.agg [.bool false, .nil, .str ⟨#[]⟩]) l i)]⟩)
    (r := (.exit 0, ⟨[(11, .bool false), (10, .int .i64 l.length), (9, .ro 3 (l.map blk)), (8, .int .i64 l.length), (0, .ro 3 (l.map blk)), (3, .sl 0 0 l.length), (4, .int .i64 l.length)], [some (3, l.map blkO)]⟩)) ?step () ?last
  case step =>
    intro i _ p hp hi
    have hi1 : (i : Int) < (l.length : Int) := by omega
    have fs : (fill blkO (.agg [.bool false, .nil, .str ⟨#[]⟩]) l i).set i (.agg [.bool p.dir, .own 2 (p.slots.map slt), .str p.text]) = _ := fill_set (f := blkO) (z := .agg [.bool false, .nil, .str ⟨#[]⟩]) hp
    have hc := e214 p (hs p (List.mem_of_getElem? hp))
    unfold blk blkO at hc
    simp only [XG, Lto, hto, go_sem, seval, bnd_ite, hi1, gD_map hp, blk, hc, Int.natCast_nonneg, w_i64 ((i : Int) + 1) (by omega), fill_len (Nat.le_of_lt hi), fill_get hi, hi,
      fill_mi _ blkO_cool (z := .agg [.bool false, .nil, .str ⟨#[]⟩]) rfl, fill_is _ blkO_cool (z := .agg [.bool false, .nil, .str ⟨#[]⟩]) rfl, is_set]
    rw [fs]; rfl
  case last =>
    refine XL_out ?_ (by simp)
    simp only [XG, Lto, hto, go_sem, seval, bnd_ite, Int.lt_irrefl, decide_false, fill_all]
  have hir : ∀ u n, idsL u (List.replicate n (.agg [.bool false, .nil, .str ⟨#[]⟩] : AV)) = [] := fun u n => is_rep u n _ rfl
  have e0 : ((0 : Nat) : Int) = 0 := rfl
  rw [fill_0, e0] at key
  simp only [key, hir]
  simp only [go_sem, seval, tk_map, Nat.le_refl]
theorem e127 (a b : List Bool) (ha : a.length ≤ 1048576) (hb : b.length ≤ 1048576) : E T 127 [.agg [.ro 1 (a.map bv), .ro 1 (b.map bv)]] [] = some (.agg [.own 1 (a.map bv), .own 1 (b.map bv)], []) := by
  rw [E_eq t127 (Nat.le_of_ble_eq_true rfl)]; simp only [F127, go_sem, seval, e136 a ha, e136 b hb]
theorem e40 (x : Dsk) (h : x.sm) : E T 40 [dsk x] [] = some (dskO x, []) := by
  rw [E_eq t40 (Nat.le_of_ble_eq_true rfl)]; simp only [dsk, dskO, F40, go_sem, seval, e127 _ _ h.used h.taken, e128 _ h.inos h.ino, e129 _ h.blks h.blk]
end Go.Proofs.Ytaaajjinpppgeaa
/- Disks: comparing. Own work; no condition. -/
set_option linter.unusedVariables false
set_option linter.unusedSimpArgs false
set_option linter.unusedSectionVars false
namespace Go.Proofs.Ytaaajjinpppgeaa
open Go Go.Abs
set_option maxRecDepth 100000
theorem bdec (x y : Bool) : (x == y) = decide (x = y) := by cases x <;> cases y <;> rfl
theorem bne_dec (x y : Bool) : (x != y) = !decide (x = y) := by cases x <;> cases y <;> rfl
theorem e99 (xs ys : List Int) (ha : xs.length ≤ maxLen) : E T 99 [.ro 1 (xs.map iv), .ro 1 (ys.map iv)] [] = some (.bool (decide (xs = ys)), []) := by
  rw [E_eq t99 (Nat.le_of_ble_eq_true rfl)]
  simp only [F99, h99_4, go_sem, seval, bnd_ite]
  unfold maxLen at ha
  by_cases hl : xs.length = ys.length
  case neg =>
    have : xs ≠ ys := fun e => hl (by rw [e])
    simp [this, show ¬ (xs.length : Int) = ys.length by omega]
  refine (XL_inv (T := T) (b := 0) (hd := H99_4) (x := L99_4) (β := Unit) (fun i _ => ⟨[(0, .ro 1 (xs.map iv)), (1, .ro 1 (ys.map iv)), (5, .int .i64 (i : Nat))], []⟩)
    (fun i _ => xs.take i = ys.take i) xs.length (fun r => (r.1 = .exit 0 ∧ xs = ys) ∨ (r.1 = .ret ∧ lookA r.2.env 4 = .bool false ∧ xs ≠ ys)) ?step ?last 0 () (by omega) rfl).elim ?main
  case step =>
    intro i _ hi hI
    obtain ⟨p, hp⟩ := get_at hi
    obtain ⟨q, hq⟩ := get_at (show i < ys.length by omega)
    have hi1 : (i : Int) < (xs.length : Int) := by omega
    have hi2 : (i : Int) < (ys.length : Int) := by omega
    simp only [XG, L99_4, h99_4, go_sem, seval, bnd_ite, hi1, hi2, gD_map hp, gD_map hq, iv, bdec, bne_dec, Int.natCast_nonneg, w_i64 ((i : Int) + 1) (by omega)]
    by_cases he : p = q
    · left
      subst he
      exact ⟨(), by simp, by rw [take_eq_snoc hp hq]; exact ⟨hI, rfl⟩⟩
    · right
      have hne : xs ≠ ys := fun e => he (by rw [e] at hp; rw [hp] at hq; exact Option.some.inj hq)
      simp only [he, decide_false, Bool.not_false, if_true]
      exact .mk (by simp) (.inr ⟨rfl, rfl, hne⟩)
  case last =>
    intro _ hI
    have e : xs = ys := by rw [List.take_length] at hI; rw [hI, hl, List.take_length]
    simp only [XG, L99_4, h99_4, go_sem, seval, bnd_ite, Int.lt_irrefl, decide_false]
    exact .mk (by simp) (.inl ⟨rfl, e⟩)
  case main =>
  rintro ⟨x, st⟩ ⟨h1, h2, h3⟩
  have hs : (0 : Int) = ((0 : Nat) : Int) := rfl
  simp only [hl, decide_true, Bool.not_true, Bool.false_eq_true, if_false]
  rw [hs, h1]
  obtain ⟨e, m⟩ := st
  rcases h3 with ⟨hx, h4⟩ | ⟨hx, h4, h5⟩
  · simp only at hx; subst hx; subst h4
    simp only [go_sem, seval]; simp
  · simp only at hx h4; subst hx
    simp only [go_sem, seval, h4]; simp [h5]
theorem e139 (xs ys : List Bool) (ha : xs.length ≤ maxLen) : E T 139 [.ro 1 (xs.map bv), .ro 1 (ys.map bv)] [] = some (.bool (decide (xs = ys)), []) := by
  rw [E_eq t139 (Nat.le_of_ble_eq_true rfl)]
  simp only [F139, h139_4, go_sem, seval, bnd_ite]
  unfold maxLen at ha
  by_cases hl : xs.length = ys.length
  case neg =>
    have : xs ≠ ys := fun e => hl (by rw [e])
    simp [this, show ¬ (xs.length : Int) = ys.length by omega]
  refine (XL_inv (T := T) (b := 0) (hd := H139_4) (x := L139_4) (β := Unit) (fun i _ => ⟨[(0, .ro 1 (xs.map bv)), (1, .ro 1 (ys.map bv)), (5, .int .i64 (i : Nat))], []⟩)
    (fun i _ => xs.take i = ys.take i) xs.length (fun r => (r.1 = .exit 0 ∧ xs = ys) ∨ (r.1 = .ret ∧ lookA r.2.env 4 = .bool false ∧ xs ≠ ys)) ?step ?last 0 () (by omega) rfl).elim ?main
  case step =>
    intro i _ hi hI
    obtain ⟨p, hp⟩ := get_at hi
    obtain ⟨q, hq⟩ := get_at (show i < ys.length by omega)
    have hi1 : (i : Int) < (xs.length : Int) := by omega
    have hi2 : (i : Int) < (ys.length : Int) := by omega
    simp only [XG, L139_4, h139_4, go_sem, seval, bnd_ite, hi1, hi2, gD_map hp, gD_map hq, bv, bdec, bne_dec, Int.natCast_nonneg, w_i64 ((i : Int) + 1) (by omega)]
    by_cases he : p = q
    · left
      subst he
      exact ⟨(), by simp, by rw [take_eq_snoc hp hq]; exact ⟨hI, rfl⟩⟩
    · right
      have hne : xs ≠ ys := fun e => he (by rw [e] at hp; rw [hp] at hq; exact Option.some.inj hq)
      simp only [he, decide_false, Bool.not_false, if_true]
      exact .mk (by simp) (.inr ⟨rfl, rfl, hne⟩)
  case last =>
    intro _ hI
    have e : xs = ys := by rw [List.take_length] at hI; rw [hI, hl, List.take_length]
    simp only [XG, L139_4, h139_4, go_sem, seval, bnd_ite, Int.lt_irrefl, decide_false]
    exact .mk (by simp) (.inl ⟨rfl, e⟩)
  case main =>
  rintro ⟨x, st⟩ ⟨h1, h2, h3⟩
  have hs : (0 : Int) = ((0 : Nat) : Int) := rfl
  simp only [hl, decide_true, Bool.not_true, Bool.false_eq_true, if_false]
  rw [hs, h1]
  obtain ⟨e, m⟩ := st
  rcases h3 with ⟨hx, h4⟩ | ⟨hx, h4, h5⟩
  · simp only at hx; subst hx; subst h4
    simp only [go_sem, seval]; simp
  · simp only at hx h4; subst hx
    simp only [go_sem, seval, h4]; simp [h5]
theorem e218 (x y : Slt) : E T 218 [slt x, slt y] [] = some (.bool (decide (x = y)), []) := by
  rw [E_eq t218 (Nat.le_of_ble_eq_true rfl)]
  simp only [slt, F218, go_sem, seval, bnd_ite, bdec, bne_dec, slt_eq]
  by_cases h1 : x.name = y.name <;> by_cases h2 : x.ino = y.ino <;> simp [h1, h2]
theorem t150 : T 150 = some (Feq 2 2 218) := tab Try.func150 (by kernel_rfl) rfl
theorem t132 : T 132 = some (Feq 3 3 50) := tab Try.func132 (by kernel_rfl) rfl
theorem t133 : T 133 = some (Feq 3 3 56) := tab Try.func133 (by kernel_rfl) rfl
theorem e150 (xs ys : List Slt) (ha : xs.length ≤ maxLen) : E T 150 [.ro 2 (xs.map slt), .ro 2 (ys.map slt)] [] = some (.bool (decide (xs = ys)), []) :=
  geq t150 (fun _ => rfl) (fun _ => Nat.le_refl _) (fun _ => rfl) (fun _ => rfl) (fun x y => e218 x y) xs ys ha
section
variable {s n f k : Nat}
/-- Rows whose first one is of a kind. -/
theorem geq' {α : Type} [DecidableEq α] {enc : α → AV} {ok : α → Prop} (ht : T k = some (Feq s n f)) (henc : ∀ x, AV.agg ((enc x).cells.take n) = enc x) (hln : ∀ x, n ≤ (enc x).cells.length) (hcl : ∀ x, (enc x).cells.all closedC = true) (hd : ∀ x, isDef (enc x) = true)
    (hf : ∀ x y, ok x → E T f [enc x, enc y] [] = some (.bool (decide (x = y)), [])) (xs ys : List α) (ha : xs.length ≤ maxLen) (hok : ∀ x ∈ xs, ok x) : E T k [.ro s (xs.map enc), .ro s (ys.map enc)] [] = some (.bool (decide (xs = ys)), []) := by
  rw [E_eq ht (Nat.le_of_ble_eq_true rfl)]
  simp only [Feq, heq, go_sem, seval, bnd_ite]
  unfold maxLen at ha
  by_cases hl : xs.length = ys.length
  case neg =>
    have : xs ≠ ys := fun e => hl (by rw [e])
    simp [this, show ¬ (xs.length : Int) = ys.length by omega]
  refine (XL_inv (T := T) (b := 0) (hd := Heq) (x := Leq s n f) (β := Unit) (fun i _ => ⟨[(0, .ro s (xs.map enc)), (1, .ro s (ys.map enc)), (5, .int .i64 (i : Nat))], []⟩)
    (fun i _ => xs.take i = ys.take i) xs.length (fun r => (r.1 = .exit 0 ∧ xs = ys) ∨ (r.1 = .ret ∧ lookA r.2.env 4 = .bool false ∧ xs ≠ ys)) ?step ?last 0 () (by omega) rfl).elim ?main
  case step =>
    intro i _ hi hI
    obtain ⟨p, hp⟩ := get_at hi
    obtain ⟨q, hq⟩ := get_at (show i < ys.length by omega)
    have hi1 : (i : Int) < (xs.length : Int) := by omega
    have hi2 : (i : Int) < (ys.length : Int) := by omega
    simp only [XG, Leq, heq, go_sem, seval, bnd_ite, hi1, hi2, gD_map hp, gD_map hq, hln p, hln q, henc, hcl, hd, hf p _ (hok p (List.mem_of_getElem? hp)), Int.natCast_nonneg, w_i64 ((i : Int) + 1) (by omega)]
    by_cases he : p = q
    · left
      subst he
      exact ⟨(), by simp, by rw [take_eq_snoc hp hq]; exact ⟨hI, rfl⟩⟩
    · right
      have hne : xs ≠ ys := fun e => he (by rw [e] at hp; rw [hp] at hq; exact Option.some.inj hq)
      simp only [he, decide_false, Bool.not_false, if_true]
      exact .mk (by simp) (.inr ⟨rfl, rfl, hne⟩)
  case last =>
    intro _ hI
    have e : xs = ys := by rw [List.take_length] at hI; rw [hI, hl, List.take_length]
    simp only [XG, Leq, heq, go_sem, seval, bnd_ite, Int.lt_irrefl, decide_false]
    exact .mk (by simp) (.inl ⟨rfl, e⟩)
  case main =>
  rintro ⟨x, st⟩ ⟨h1, h2, h3⟩
  have hs : (0 : Int) = ((0 : Nat) : Int) := rfl
  simp only [hl, decide_true, Bool.not_true, Bool.false_eq_true, if_false]
  rw [hs, h1]
  obtain ⟨e, m⟩ := st
  rcases h3 with ⟨hx, h4⟩ | ⟨hx, h4, h5⟩
  · simp only at hx; subst hx; subst h4
    simp only [go_sem, seval]; simp
  · simp only at hx h4; subst hx
    simp only [go_sem, seval, h4]; simp [h5]
end
theorem e50 (x y : Ino) (h : x.ok) : E T 50 [ino x, ino y] [] = some (.bool (decide (x = y)), []) := by
  rw [E_eq t50 (Nat.le_of_ble_eq_true rfl)]
  simp only [ino, F50, go_sem, seval, bnd_ite, bdec, bne_dec, ino_eq, e99 _ y.ptrs h]
  by_cases h1 : x.kind = y.kind <;> by_cases h2 : x.links = y.links <;> by_cases h3 : x.ptrs = y.ptrs <;> simp [h1, h2, h3]
theorem e56 (x y : Blk) (h : x.ok) : E T 56 [blk x, blk y] [] = some (.bool (decide (x = y)), []) := by
  rw [E_eq t56 (Nat.le_of_ble_eq_true rfl)]
  simp only [blk, F56, go_sem, seval, bnd_ite, bdec, bne_dec, blk_eq, e150 _ y.slots h.1]
  by_cases h1 : x.dir = y.dir <;> by_cases h2 : x.slots = y.slots <;> by_cases h3 : x.text = y.text <;> simp [h1, h2, h3]
theorem e132 (xs ys : List Ino) (ha : xs.length ≤ maxLen) (hok : ∀ x ∈ xs, x.ok) : E T 132 [.ro 3 (xs.map ino), .ro 3 (ys.map ino)] [] = some (.bool (decide (xs = ys)), []) :=
  geq' (ok := Ino.ok) t132 (fun _ => rfl) (fun _ => Nat.le_refl _) (fun _ => rfl) (fun _ => rfl) (fun x y h => e50 x y h) xs ys ha hok
theorem e133 (xs ys : List Blk) (ha : xs.length ≤ maxLen) (hok : ∀ x ∈ xs, x.ok) : E T 133 [.ro 3 (xs.map blk), .ro 3 (ys.map blk)] [] = some (.bool (decide (xs = ys)), []) :=
  geq' (ok := Blk.ok) t133 (fun _ => rfl) (fun _ => Nat.le_refl _) (fun _ => rfl) (fun _ => rfl) (fun x y h => e56 x y h) xs ys ha hok
theorem e131 (a b c d : List Bool) (ha : a.length ≤ maxLen) (hb : b.length ≤ maxLen) : E T 131 [.agg [.ro 1 (a.map bv), .ro 1 (b.map bv)], .agg [.ro 1 (c.map bv), .ro 1 (d.map bv)]] [] = some (.bool (decide (a = c ∧ b = d)), []) := by
  rw [E_eq t131 (Nat.le_of_ble_eq_true rfl)]
  simp only [F131, go_sem, seval, bnd_ite, e139 a c ha, e139 b d hb]
  by_cases h1 : a = c <;> by_cases h2 : b = d <;> simp [h1, h2]
theorem dsk_eq (a b : Dsk) : a = b ↔ (a.used = b.used ∧ a.taken = b.taken) ∧ a.inos = b.inos ∧ a.blks = b.blks := by cases a; cases b; simp [and_assoc]
theorem e42 (x y : Dsk) (h : x.ok) : E T 42 [dsk x, dsk y] [] = some (.bool (decide (x = y)), []) := by
  rw [E_eq t42 (Nat.le_of_ble_eq_true rfl)]
  simp only [dsk, F42, go_sem, seval, bnd_ite, e131 _ _ y.used y.taken h.used h.taken, e132 _ y.inos h.inos h.ino, e133 _ y.blks h.blks h.blk, dsk_eq]
  by_cases h1 : x.used = y.used ∧ x.taken = y.taken <;> by_cases h2 : x.inos = y.inos <;> by_cases h3 : x.blks = y.blks <;> simp [h1, h2, h3]
end Go.Proofs.Ytaaajjinpppgeaa
/- The shapes of disks; Shared answers true for each. Own work; no condition. -/
set_option linter.unusedVariables false
set_option linter.unusedSimpArgs false
set_option linter.unusedSectionVars false
namespace Go.Proofs.Ytaaajjinpppgeaa
open Go Go.Abs
set_option maxRecDepth 100000
/-- A row of a shape is a row of things of a kind. -/
theorem rowsOf {α : Type} {e : Shp} {enc : α → AV} {ok : α → Prop} (h : ∀ cs, Is e cs → ∃ x, e.elem cs = enc x ∧ ok x) : ∀ {css : List (List AV)}, (∀ cs ∈ css, Is e cs) → ∃ xs : List α, css.map e.elem = xs.map enc ∧ xs.length = css.length ∧ ∀ x ∈ xs, ok x := by
  intro css
  induction css with
  | nil => intro _; exact ⟨[], rfl, rfl, fun x hx => by cases hx⟩
  | cons cs css ih =>
    intro hc
    obtain ⟨x, h1, h2⟩ := h cs (hc cs (List.mem_cons_self ..))
    obtain ⟨xs, h3, h4, h5⟩ := ih (fun c hcc => hc c (List.mem_cons_of_mem _ hcc))
    exact ⟨x :: xs, by simp [h1, h3], by simp [h4], fun y hy => by rcases List.mem_cons.1 hy with rfl | hy; exact h2; exact h5 y hy⟩
theorem isSl {α : Type} {s : Nat} {e : Shp} {enc : α → AV} {ok : α → Prop} (h : ∀ cs, Is e cs → ∃ x, e.elem cs = enc x ∧ ok x) {cs : List AV} (hc : Is (.slice s e) cs) : ∃ xs : List α, cs = [.ro s (xs.map enc)] ∧ xs.length ≤ maxLen ∧ ∀ x ∈ xs, ok x := by
  cases hc with | slice h1 hl =>
  obtain ⟨xs, h3, h4, h5⟩ := rowsOf h h1
  exact ⟨xs, by rw [h3], by omega, h5⟩
theorem isIv (cs : List AV) (h : Is (.int .i64) cs) : ∃ x : Int, (Shp.int .i64).elem cs = iv x ∧ True := by cases h; exact ⟨_, rfl, trivial⟩
theorem isBv (cs : List AV) (h : Is .bool cs) : ∃ x : Bool, Shp.bool.elem cs = bv x ∧ True := by cases h; exact ⟨_, rfl, trivial⟩
def shS : Shp := .struct [.str, .int .i64]
def shI : Shp := .struct [.int .i64, .int .i64, .slice 1 (.int .i64)]
def shB : Shp := .struct [.bool, .slice 2 shS, .str]
def shT : Shp := .struct [.slice 1 .bool, .slice 1 .bool]
def shD : Shp := .struct [shT, .slice 3 shI, .slice 3 shB]
theorem isS (cs : List AV) (h : Is shS cs) : ∃ x : Slt, shS.elem cs = slt x ∧ x.ok := by
  cases h with | struct h =>
  cases h with | cons h1 h =>
  cases h with | cons h2 h =>
  cases h
  cases h1; cases h2
  exact ⟨⟨_, _⟩, rfl, by assumption⟩
theorem isI (cs : List AV) (h : Is shI cs) : ∃ x : Ino, shI.elem cs = ino x ∧ x.ok := by
  cases h with | struct h =>
  cases h with | cons h1 h =>
  cases h with | cons h2 h =>
  cases h with | cons h3 h =>
  cases h
  cases h1; cases h2
  obtain ⟨xs, rfl, h4, _⟩ := isSl isIv h3
  exact ⟨⟨_, _, xs⟩, rfl, h4⟩
theorem isB (cs : List AV) (h : Is shB cs) : ∃ x : Blk, shB.elem cs = blk x ∧ x.ok := by
  cases h with | struct h =>
  cases h with | cons h1 h =>
  cases h with | cons h2 h =>
  cases h with | cons h3 h =>
  cases h
  cases h1; cases h3
  obtain ⟨xs, rfl, h4, h5⟩ := isSl isS h2
  exact ⟨⟨_, xs, _⟩, rfl, h4, by assumption, h5⟩
theorem isT (cs : List AV) (h : Is shT cs) : ∃ a b : List Bool, cs = [.ro 1 (a.map bv), .ro 1 (b.map bv)] ∧ a.length ≤ maxLen ∧ b.length ≤ maxLen := by
  cases h with | struct h =>
  cases h with | cons h1 h =>
  cases h with | cons h2 h =>
  cases h
  obtain ⟨a, rfl, a1, _⟩ := isSl isBv h1
  obtain ⟨b, rfl, b1, _⟩ := isSl isBv h2
  exact ⟨a, b, rfl, a1, b1⟩
theorem isDc (cs : List AV) (h : Is shD cs) : ∃ x : Dsk, .agg cs = dsk x ∧ x.ok := by
  cases h with | struct h =>
  cases h with | cons h1 h =>
  cases h with | cons h2 h =>
  cases h with | cons h3 h =>
  cases h
  obtain ⟨a, b, rfl, a1, b1⟩ := isT _ h1
  obtain ⟨c, rfl, c1, c2⟩ := isSl isI h2
  obtain ⟨d, rfl, d1, d2⟩ := isSl isB h3
  exact ⟨⟨a, b, c, d⟩, rfl, ⟨a1, b1, c1, d1, c2, d2⟩⟩
theorem isD {av : AV} (h : IsA shD av) : ∃ x : Dsk, av = dsk x ∧ x.ok := by
  obtain ⟨cs, h, rfl⟩ := h
  exact isDc cs h
end Go.Proofs.Ytaaajjinpppgeaa
/- The code of some functions, as the evaluator reads it (printed by a program of ours), checked against the program. Own work; no condition. -/
set_option linter.unusedVariables false
set_option linter.unusedSimpArgs false
set_option linter.unusedSectionVars false
namespace Go.Proofs.Ytaaajjinpppgeaa
open Go Go.Abs
set_option maxRecDepth 100000
-- laws.FnExactSettled
def F6 : EF := ⟨(.seq (.region [(.op (.box 7) [(.tmp 0)] (some 1) true), (.op .mv [(.const (.bool false))] (some 2) true)] false) (.seq (.region [(.op .mv [(.const (.int .i64 1048576))] (some 3) true)] false) (.seq (.region [(.op (.loadN 7) [(.tmp 1)] (some 7) true), (.op .mv [(.tmp 3)] (some 8) true), (.pc (.const (.fn 43 [])) [(.tmp 7), (.tmp 8)] (some 9) true), (.op .mv [(.tmp 9)] (some 3) true)] false) (.seq (.seq (.region [(.op .mv [(.tmp 3)] (some 10) true), (.op (.bin .lss) [(.tmp 10), (.const (.int .i64 0))] (some 11) true)] false) (.cond (.tmp 11) (.seq (.region [(.op .mv [(.const (.bool true))] (some 2) true)] false) .ret) .skip)) (.seq (.region [(.op (.loadN 7) [(.tmp 1)] (some 12) true), (.pc (.const (.fn 45 [])) [(.tmp 12)] (some 13) true), (.pc (.const (.fn 44 [])) [(.tmp 13)] (some 14) true), (.op .mv [(.tmp 14)] (some 4) true)] false) (.seq (.region [(.op (.loadN 7) [(.tmp 1)] (some 15) true), (.pc (.const (.fn 45 [])) [(.tmp 15)] (some 16) true), (.op (.alloc (.agg [.nil, .nil, .nil, .nil, .nil, .nil, (.int .i64 0)])) [] (some 5) true), (.op (.storeN 7) [(.tmp 5), (.tmp 16)] none true)] false) (.seq (.region [(.op (.loadN 7) [(.tmp 5)] (some 17) true), (.pc (.const (.fn 46 [])) [(.tmp 17)] (some 18) true), (.op .mv [(.tmp 18)] (some 6) true)] false) (.seq (.seq (.region [(.op .mv [(.tmp 6)] (some 19) true), (.op .mv [(.tmp 4)] (some 20) true), (.op (.binB true) [(.tmp 19), (.tmp 20)] (some 21) true)] false) (.cond (.tmp 21) (.seq (.region [(.op .mv [(.const (.bool false))] (some 2) true)] false) .ret) .skip)) (.seq (.seq (.region [(.op (.loadN 7) [(.tmp 5)] (some 22) false), (.op (.loadN 7) [(.tmp 1)] (some 23) false), (.pc (.const (.fn 45 [])) [(.tmp 23)] (some 24) false), (.pc (.const (.fn 47 [])) [(.tmp 22), (.tmp 24)] (some 25) true), (.op .not [(.tmp 25)] (some 26) true)] true) (.cond (.tmp 26) (.seq (.region [(.op .mv [(.const (.bool false))] (some 2) true)] false) .ret) .skip)) (.seq (.region [(.op .mv [(.const (.bool true))] (some 2) true)] false) .ret)))))))))), [(.tmp 2)], 27, .one, none⟩
theorem t6 : T 6 = some F6 := tab Try.func6 (by kernel_rfl) rfl
-- laws.szMem
def F43 : EF := ⟨(.seq (.region [(.op (.box 7) [(.tmp 0)] (some 2) true), (.op .mv [(.const (.int .i64 0))] (some 4) true)] false) (.seq (.region [(.op (.faddr 0) [(.tmp 2)] (some 5) true), (.op (.loadN 4) [(.tmp 5)] (some 6) true), (.op .mv [(.tmp 1)] (some 7) true), (.pc (.const (.fn 38 [])) [(.tmp 6), (.tmp 7)] (some 8) true), (.op .mv [(.tmp 8)] (some 1) true)] false) (.seq (.seq (.region [(.op .mv [(.tmp 1)] (some 9) true), (.op (.bin .lss) [(.tmp 9), (.const (.int .i64 0))] (some 10) true)] false) (.cond (.tmp 10) (.seq (.region [(.op .mv [(.const (.int .i64 (-1)))] (some 4) true)] false) .ret) .skip)) (.seq (.region [(.op (.faddr 4) [(.tmp 2)] (some 11) true), (.op .load1 [(.tmp 11)] (some 12) true), (.op .mv [(.tmp 1)] (some 13) true), (.pc (.const (.fn 134 [])) [(.tmp 12), (.tmp 13)] (some 14) true), (.op .mv [(.tmp 14)] (some 1) true)] false) (.seq (.seq (.region [(.op .mv [(.tmp 1)] (some 15) true), (.op (.bin .lss) [(.tmp 15), (.const (.int .i64 0))] (some 16) true)] false) (.cond (.tmp 16) (.seq (.region [(.op .mv [(.const (.int .i64 (-1)))] (some 4) true)] false) .ret) .skip)) (.seq (.region [(.op (.faddr 5) [(.tmp 2)] (some 17) true), (.op .load1 [(.tmp 17)] (some 18) true), (.op .mv [(.tmp 1)] (some 19) true), (.pc (.const (.fn 135 [])) [(.tmp 18), (.tmp 19)] (some 20) true), (.op .mv [(.tmp 20)] (some 1) true)] false) (.seq (.seq (.region [(.op .mv [(.tmp 1)] (some 21) true), (.op (.bin .lss) [(.tmp 21), (.const (.int .i64 0))] (some 22) true)] false) (.cond (.tmp 22) (.seq (.region [(.op .mv [(.const (.int .i64 (-1)))] (some 4) true)] false) .ret) .skip)) (.seq (.region [(.op .mv [(.tmp 1)] (some 23) true), (.op .mv [(.tmp 23)] (some 4) true)] false) .ret)))))))), [(.tmp 4)], 24, .one, none⟩
theorem t43 : T 43 = some F43 := tab Try.func43 (by kernel_rfl) rfl
def H44_2 : List Vw := [.tidy [1, 3] [(1, none), (3, none)]]
theorem h44_2 (b : Nat) (s : St) : vwL b H44_2 s = vwL b [.tidy [1, 3] [(1, none), (3, none)]] s := rfl
def L44_2 : EC := (.seq (.seq (.region [(.op .mv [(.tmp 3)] (some 4) true), (.op (.faddr 4) [(.tmp 1)] (some 5) true), (.op .load1 [(.tmp 5)] (some 6) true), (.op .len [(.tmp 6)] (some 7) true), (.op (.bin .lss) [(.tmp 4), (.tmp 7)] (some 8) true)] false) (.cond (.tmp 8) .skip (.exit 0))) (.seq (.block 1 (.seq (.region [(.op (.faddr 4) [(.tmp 1)] (some 11) true), (.op .load1 [(.tmp 11)] (some 12) true), (.op .mv [(.tmp 3)] (some 13) true), (.op (.iaddr 1) [(.tmp 12), (.tmp 13)] (some 14) true), (.op .load1 [(.tmp 14)] (some 15) true)] false) (.cond (.tmp 15) (.seq (.region [(.op .mv [(.const (.bool false))] (some 2) true)] false) .ret) .skip))) (.region [(.op .mv [(.tmp 3)] (some 9) true), (.op (.bin .add) [(.tmp 9), (.const (.int .i64 1))] (some 10) true), (.op .mv [(.tmp 10)] (some 3) true)] false)))
-- spec.Settled
def F44 : EF := ⟨(.seq (.region [(.op (.box 7) [(.tmp 0)] (some 1) true), (.op .mv [(.const (.bool false))] (some 2) true)] false) (.seq (.seq (.region [(.op .mv [(.const (.int .i64 0))] (some 3) true)] false) (.block 0 (.loop H44_2 L44_2))) (.seq (.region [(.op (.faddr 5) [(.tmp 1)] (some 16) true), (.op .load1 [(.tmp 16)] (some 17) true), (.op .len [(.tmp 17)] (some 18) true), (.op (.bin .eql) [(.tmp 18), (.const (.int .i64 0))] (some 19) true), (.op .mv [(.tmp 19)] (some 2) true)] false) .ret))), [(.tmp 2)], 20, .one, none⟩
theorem t44 : T 44 = some F44 := tab Try.func44 (by kernel_rfl) rfl
-- laws.toMem
def F45 : EF := ⟨(.seq (.region [(.op (.box 7) [(.tmp 0)] (some 1) true), (.op (.alloc (.agg [.nil, .nil, .nil, .nil, .nil, .nil, (.int .i64 0)])) [] (some 2) true)] false) (.seq (.region [(.op (.alloc (.agg [.nil, .nil, .nil, .nil, .nil, .nil, (.int .i64 0)])) [] (some 3) true)] false) (.seq (.region [(.op (.faddr 0) [(.tmp 1)] (some 4) true), (.op (.loadN 4) [(.tmp 4)] (some 5) true), (.pc (.const (.fn 40 [])) [(.tmp 5)] (some 6) true), (.op (.faddr 0) [(.tmp 3)] (some 7) true), (.op (.storeN 4) [(.tmp 7), (.tmp 6)] none true)] false) (.seq (.region [(.op (.faddr 4) [(.tmp 1)] (some 8) true), (.op .load1 [(.tmp 8)] (some 9) true), (.pc (.const (.fn 136 [])) [(.tmp 9)] (some 10) true), (.op (.faddr 4) [(.tmp 3)] (some 11) true), (.op .store1 [(.tmp 11), (.tmp 10)] none true)] false) (.seq (.region [(.op (.faddr 5) [(.tmp 1)] (some 12) true), (.op .load1 [(.tmp 12)] (some 13) true), (.pc (.const (.fn 137 [])) [(.tmp 13)] (some 14) true), (.op (.faddr 5) [(.tmp 3)] (some 15) true), (.op .store1 [(.tmp 15), (.tmp 14)] none true)] false) (.seq (.region [(.op (.faddr 6) [(.tmp 1)] (some 16) true), (.op .load1 [(.tmp 16)] (some 17) true), (.op (.faddr 6) [(.tmp 3)] (some 18) true), (.op .store1 [(.tmp 18), (.tmp 17)] none true)] false) (.seq (.region [(.op (.loadN 7) [(.tmp 3)] (some 19) true), (.op (.storeN 7) [(.tmp 2), (.tmp 19)] none true)] false) .ret))))))), [(.cell 2 (.loadN 7))], 20, .one, none⟩
theorem t45 : T 45 = some F45 := tab Try.func45 (by kernel_rfl) rfl
-- impl.Settled
def F46 : EF := ⟨(.seq (.region [(.op (.box 7) [(.tmp 0)] (some 1) true), (.op .mv [(.const (.bool false))] (some 2) true)] false) (.seq (.region [(.op (.faddr 4) [(.tmp 1)] (some 3) true), (.op .load1 [(.tmp 3)] (some 4) true), (.pc (.const (.fn 138 [])) [(.tmp 4), (.const (.bool true))] (some 5) true), (.op .not [(.tmp 5)] (some 6) true), (.op .mv [(.tmp 6)] (some 7) true), (.grp 7 true [(.op (.faddr 5) [(.tmp 1)] (some 8) true), (.op .load1 [(.tmp 8)] (some 9) true), (.op .len [(.tmp 9)] (some 10) true), (.op (.bin .eql) [(.tmp 10), (.const (.int .i64 0))] (some 11) true)] 11 12 true), (.op .mv [(.tmp 12)] (some 2) true)] false) .ret)), [(.tmp 2)], 13, .one, none⟩
theorem t46 : T 46 = some F46 := tab Try.func46 (by kernel_rfl) rfl
-- laws.eqMem
def F47 : EF := ⟨(.seq (.region [(.op (.box 7) [(.tmp 0)] (some 2) true), (.op (.box 7) [(.tmp 1)] (some 3) true), (.op .mv [(.const (.bool false))] (some 4) true)] false) (.seq (.seq (.region [(.op (.faddr 0) [(.tmp 2)] (some 5) true), (.op (.loadN 4) [(.tmp 5)] (some 6) true), (.op (.faddr 0) [(.tmp 3)] (some 7) true), (.op (.loadN 4) [(.tmp 7)] (some 8) true), (.pc (.const (.fn 42 [])) [(.tmp 6), (.tmp 8)] (some 9) true), (.op .not [(.tmp 9)] (some 10) true)] false) (.cond (.tmp 10) (.seq (.region [(.op .mv [(.const (.bool false))] (some 4) true)] false) .ret) .skip)) (.seq (.seq (.region [(.op (.faddr 4) [(.tmp 2)] (some 11) true), (.op .load1 [(.tmp 11)] (some 12) true), (.op (.faddr 4) [(.tmp 3)] (some 13) true), (.op .load1 [(.tmp 13)] (some 14) true), (.pc (.const (.fn 139 [])) [(.tmp 12), (.tmp 14)] (some 15) true), (.op .not [(.tmp 15)] (some 16) true)] false) (.cond (.tmp 16) (.seq (.region [(.op .mv [(.const (.bool false))] (some 4) true)] false) .ret) .skip)) (.seq (.seq (.region [(.op (.faddr 5) [(.tmp 2)] (some 17) true), (.op .load1 [(.tmp 17)] (some 18) true), (.op (.faddr 5) [(.tmp 3)] (some 19) true), (.op .load1 [(.tmp 19)] (some 20) true), (.pc (.const (.fn 140 [])) [(.tmp 18), (.tmp 20)] (some 21) true), (.op .not [(.tmp 21)] (some 22) true)] false) (.cond (.tmp 22) (.seq (.region [(.op .mv [(.const (.bool false))] (some 4) true)] false) .ret) .skip)) (.seq (.seq (.region [(.op (.faddr 6) [(.tmp 2)] (some 23) true), (.op .load1 [(.tmp 23)] (some 24) true), (.op (.faddr 6) [(.tmp 3)] (some 25) true), (.op .load1 [(.tmp 25)] (some 26) true), (.op (.bin .neq) [(.tmp 24), (.tmp 26)] (some 27) true)] false) (.cond (.tmp 27) (.seq (.region [(.op .mv [(.const (.bool false))] (some 4) true)] false) .ret) .skip)) (.seq (.region [(.op .mv [(.const (.bool true))] (some 4) true)] false) .ret)))))), [(.tmp 4)], 28, .one, none⟩
theorem t47 : T 47 = some F47 := tab Try.func47 (by kernel_rfl) rfl
-- laws.szDep
def F85 : EF := ⟨(.seq (.region [(.op (.box 11) [(.tmp 0)] (some 2) true), (.op .mv [(.const (.int .i64 0))] (some 4) true)] false) (.seq (.region [(.op .mv [(.tmp 1)] (some 5) true), (.op (.faddr 6) [(.tmp 2)] (some 6) true), (.op .load1 [(.tmp 6)] (some 7) true), (.op .lenStr [(.tmp 7)] (some 8) true), (.op (.bin .sub) [(.tmp 5), (.tmp 8)] (some 9) true), (.op .mv [(.tmp 9)] (some 1) true)] false) (.seq (.seq (.region [(.op .mv [(.tmp 1)] (some 10) true), (.op (.bin .lss) [(.tmp 10), (.const (.int .i64 0))] (some 11) true)] false) (.cond (.tmp 11) (.seq (.region [(.op .mv [(.const (.int .i64 (-1)))] (some 4) true)] false) .ret) .skip)) (.seq (.region [(.op (.faddr 10) [(.tmp 2)] (some 12) true), (.op .load1 [(.tmp 12)] (some 13) true), (.op .mv [(.tmp 1)] (some 14) true), (.pc (.const (.fn 182 [])) [(.tmp 13), (.tmp 14)] (some 15) true), (.op .mv [(.tmp 15)] (some 1) true)] false) (.seq (.seq (.region [(.op .mv [(.tmp 1)] (some 16) true), (.op (.bin .lss) [(.tmp 16), (.const (.int .i64 0))] (some 17) true)] false) (.cond (.tmp 17) (.seq (.region [(.op .mv [(.const (.int .i64 (-1)))] (some 4) true)] false) .ret) .skip)) (.seq (.region [(.op .mv [(.tmp 1)] (some 18) true), (.op .mv [(.tmp 18)] (some 4) true)] false) .ret)))))), [(.tmp 4)], 19, .one, none⟩
theorem t85 : T 85 = some F85 := tab Try.func85 (by kernel_rfl) rfl
-- laws.toDep
def F87 : EF := ⟨(.seq (.region [(.op (.box 11) [(.tmp 0)] (some 1) true), (.op (.alloc (.agg [(.int .i64 0), (.int .i64 0), (.int .i64 0), (.int .i64 0), (.int .i64 0), (.int .i64 0), (.str ⟨#[]⟩), (.bool false), (.bool false), (.int .i64 0), .nil])) [] (some 2) true)] false) (.seq (.region [(.op (.alloc (.agg [(.int .i64 0), (.int .i64 0), (.int .i64 0), (.int .i64 0), (.int .i64 0), (.int .i64 0), (.str ⟨#[]⟩), (.bool false), (.bool false), (.int .i64 0), .nil])) [] (some 3) true)] false) (.seq (.region [(.op (.faddr 0) [(.tmp 1)] (some 4) true), (.op .load1 [(.tmp 4)] (some 5) true), (.op (.faddr 0) [(.tmp 3)] (some 6) true), (.op .store1 [(.tmp 6), (.tmp 5)] none true)] false) (.seq (.region [(.op (.faddr 1) [(.tmp 1)] (some 7) true), (.op .load1 [(.tmp 7)] (some 8) true), (.op (.faddr 1) [(.tmp 3)] (some 9) true), (.op .store1 [(.tmp 9), (.tmp 8)] none true)] false) (.seq (.region [(.op (.faddr 2) [(.tmp 1)] (some 10) true), (.op .load1 [(.tmp 10)] (some 11) true), (.op (.faddr 2) [(.tmp 3)] (some 12) true), (.op .store1 [(.tmp 12), (.tmp 11)] none true)] false) (.seq (.region [(.op (.faddr 3) [(.tmp 1)] (some 13) true), (.op .load1 [(.tmp 13)] (some 14) true), (.op (.faddr 3) [(.tmp 3)] (some 15) true), (.op .store1 [(.tmp 15), (.tmp 14)] none true)] false) (.seq (.region [(.op (.faddr 4) [(.tmp 1)] (some 16) true), (.op .load1 [(.tmp 16)] (some 17) true), (.op (.faddr 4) [(.tmp 3)] (some 18) true), (.op .store1 [(.tmp 18), (.tmp 17)] none true)] false) (.seq (.region [(.op (.faddr 5) [(.tmp 1)] (some 19) true), (.op .load1 [(.tmp 19)] (some 20) true), (.op (.faddr 5) [(.tmp 3)] (some 21) true), (.op .store1 [(.tmp 21), (.tmp 20)] none true)] false) (.seq (.region [(.op (.faddr 6) [(.tmp 1)] (some 22) true), (.op .load1 [(.tmp 22)] (some 23) true), (.op (.faddr 6) [(.tmp 3)] (some 24) true), (.op .store1 [(.tmp 24), (.tmp 23)] none true)] false) (.seq (.region [(.op (.faddr 7) [(.tmp 1)] (some 25) true), (.op .load1 [(.tmp 25)] (some 26) true), (.op (.faddr 7) [(.tmp 3)] (some 27) true), (.op .store1 [(.tmp 27), (.tmp 26)] none true)] false) (.seq (.region [(.op (.faddr 8) [(.tmp 1)] (some 28) true), (.op .load1 [(.tmp 28)] (some 29) true), (.op (.faddr 8) [(.tmp 3)] (some 30) true), (.op .store1 [(.tmp 30), (.tmp 29)] none true)] false) (.seq (.region [(.op (.faddr 9) [(.tmp 1)] (some 31) true), (.op .load1 [(.tmp 31)] (some 32) true), (.op (.faddr 9) [(.tmp 3)] (some 33) true), (.op .store1 [(.tmp 33), (.tmp 32)] none true)] false) (.seq (.region [(.op (.faddr 10) [(.tmp 1)] (some 34) true), (.op .load1 [(.tmp 34)] (some 35) true), (.pc (.const (.fn 184 [])) [(.tmp 35)] (some 36) true), (.op (.faddr 10) [(.tmp 3)] (some 37) true), (.op .store1 [(.tmp 37), (.tmp 36)] none true)] false) (.seq (.region [(.op (.loadN 11) [(.tmp 3)] (some 38) true), (.op (.storeN 11) [(.tmp 2), (.tmp 38)] none true)] false) .ret)))))))))))))), [(.cell 2 (.loadN 11))], 39, .one, none⟩
theorem t87 : T 87 = some F87 := tab Try.func87 (by kernel_rfl) rfl
-- laws.eqDep
def F89 : EF := ⟨(.seq (.region [(.op (.box 11) [(.tmp 0)] (some 2) true), (.op (.box 11) [(.tmp 1)] (some 3) true), (.op .mv [(.const (.bool false))] (some 4) true)] false) (.seq (.seq (.region [(.op (.faddr 0) [(.tmp 2)] (some 5) true), (.op .load1 [(.tmp 5)] (some 6) true), (.op (.faddr 0) [(.tmp 3)] (some 7) true), (.op .load1 [(.tmp 7)] (some 8) true), (.op (.bin .neq) [(.tmp 6), (.tmp 8)] (some 9) true)] false) (.cond (.tmp 9) (.seq (.region [(.op .mv [(.const (.bool false))] (some 4) true)] false) .ret) .skip)) (.seq (.seq (.region [(.op (.faddr 1) [(.tmp 2)] (some 10) true), (.op .load1 [(.tmp 10)] (some 11) true), (.op (.faddr 1) [(.tmp 3)] (some 12) true), (.op .load1 [(.tmp 12)] (some 13) true), (.op (.bin .neq) [(.tmp 11), (.tmp 13)] (some 14) true)] false) (.cond (.tmp 14) (.seq (.region [(.op .mv [(.const (.bool false))] (some 4) true)] false) .ret) .skip)) (.seq (.seq (.region [(.op (.faddr 2) [(.tmp 2)] (some 15) true), (.op .load1 [(.tmp 15)] (some 16) true), (.op (.faddr 2) [(.tmp 3)] (some 17) true), (.op .load1 [(.tmp 17)] (some 18) true), (.op (.bin .neq) [(.tmp 16), (.tmp 18)] (some 19) true)] false) (.cond (.tmp 19) (.seq (.region [(.op .mv [(.const (.bool false))] (some 4) true)] false) .ret) .skip)) (.seq (.seq (.region [(.op (.faddr 3) [(.tmp 2)] (some 20) true), (.op .load1 [(.tmp 20)] (some 21) true), (.op (.faddr 3) [(.tmp 3)] (some 22) true), (.op .load1 [(.tmp 22)] (some 23) true), (.op (.bin .neq) [(.tmp 21), (.tmp 23)] (some 24) true)] false) (.cond (.tmp 24) (.seq (.region [(.op .mv [(.const (.bool false))] (some 4) true)] false) .ret) .skip)) (.seq (.seq (.region [(.op (.faddr 4) [(.tmp 2)] (some 25) true), (.op .load1 [(.tmp 25)] (some 26) true), (.op (.faddr 4) [(.tmp 3)] (some 27) true), (.op .load1 [(.tmp 27)] (some 28) true), (.op (.bin .neq) [(.tmp 26), (.tmp 28)] (some 29) true)] false) (.cond (.tmp 29) (.seq (.region [(.op .mv [(.const (.bool false))] (some 4) true)] false) .ret) .skip)) (.seq (.seq (.region [(.op (.faddr 5) [(.tmp 2)] (some 30) true), (.op .load1 [(.tmp 30)] (some 31) true), (.op (.faddr 5) [(.tmp 3)] (some 32) true), (.op .load1 [(.tmp 32)] (some 33) true), (.op (.bin .neq) [(.tmp 31), (.tmp 33)] (some 34) true)] false) (.cond (.tmp 34) (.seq (.region [(.op .mv [(.const (.bool false))] (some 4) true)] false) .ret) .skip)) (.seq (.seq (.region [(.op (.faddr 6) [(.tmp 2)] (some 35) true), (.op .load1 [(.tmp 35)] (some 36) true), (.op (.faddr 6) [(.tmp 3)] (some 37) true), (.op .load1 [(.tmp 37)] (some 38) true), (.op (.bin .neq) [(.tmp 36), (.tmp 38)] (some 39) true)] false) (.cond (.tmp 39) (.seq (.region [(.op .mv [(.const (.bool false))] (some 4) true)] false) .ret) .skip)) (.seq (.seq (.region [(.op (.faddr 7) [(.tmp 2)] (some 40) true), (.op .load1 [(.tmp 40)] (some 41) true), (.op (.faddr 7) [(.tmp 3)] (some 42) true), (.op .load1 [(.tmp 42)] (some 43) true), (.op (.binB true) [(.tmp 41), (.tmp 43)] (some 44) true)] false) (.cond (.tmp 44) (.seq (.region [(.op .mv [(.const (.bool false))] (some 4) true)] false) .ret) .skip)) (.seq (.seq (.region [(.op (.faddr 8) [(.tmp 2)] (some 45) true), (.op .load1 [(.tmp 45)] (some 46) true), (.op (.faddr 8) [(.tmp 3)] (some 47) true), (.op .load1 [(.tmp 47)] (some 48) true), (.op (.binB true) [(.tmp 46), (.tmp 48)] (some 49) true)] false) (.cond (.tmp 49) (.seq (.region [(.op .mv [(.const (.bool false))] (some 4) true)] false) .ret) .skip)) (.seq (.seq (.region [(.op (.faddr 9) [(.tmp 2)] (some 50) true), (.op .load1 [(.tmp 50)] (some 51) true), (.op (.faddr 9) [(.tmp 3)] (some 52) true), (.op .load1 [(.tmp 52)] (some 53) true), (.op (.bin .neq) [(.tmp 51), (.tmp 53)] (some 54) true)] false) (.cond (.tmp 54) (.seq (.region [(.op .mv [(.const (.bool false))] (some 4) true)] false) .ret) .skip)) (.seq (.seq (.region [(.op (.faddr 10) [(.tmp 2)] (some 55) true), (.op .load1 [(.tmp 55)] (some 56) true), (.op (.faddr 10) [(.tmp 3)] (some 57) true), (.op .load1 [(.tmp 57)] (some 58) true), (.pc (.const (.fn 99 [])) [(.tmp 56), (.tmp 58)] (some 59) true), (.op .not [(.tmp 59)] (some 60) true)] false) (.cond (.tmp 60) (.seq (.region [(.op .mv [(.const (.bool false))] (some 4) true)] false) .ret) .skip)) (.seq (.region [(.op .mv [(.const (.bool true))] (some 4) true)] false) .ret))))))))))))), [(.tmp 4)], 61, .one, none⟩
theorem t89 : T 89 = some F89 := tab Try.func89 (by kernel_rfl) rfl
-- slices.Contains[[]bool,bool]
def F138 : EF := ⟨(.seq (.region [(.op .mv [(.const (.bool false))] (some 4) true)] false) (.seq (.region [(.op .mv [(.tmp 0)] (some 5) true), (.op .mv [(.tmp 1)] (some 6) true), (.pc (.const (.fn 216 [])) [(.tmp 5), (.tmp 6)] (some 7) true), (.op (.bin .geq) [(.tmp 7), (.const (.int .i64 0))] (some 8) true), (.op .mv [(.tmp 8)] (some 4) true)] false) .ret)), [(.tmp 4)], 9, .one, none⟩
theorem t138 : T 138 = some F138 := tab Try.func138 (by kernel_rfl) rfl
def H216_2 : List Vw := [.tidy [0, 1, 7, 8] [(0, none), (1, none), (7, none), (8, none)]]
theorem h216_2 (b : Nat) (s : St) : vwL b H216_2 s = vwL b [.tidy [0, 1, 7, 8] [(0, none), (1, none), (7, none), (8, none)]] s := rfl
def L216_2 : EC := (.seq (.region [(.op (.bin .lss) [(.tmp 8), (.tmp 7)] (some 9) true)] false) (.seq (.cond (.tmp 9) .skip (.exit 0)) (.seq (.block 1 (.seq (.region [(.op .mv [(.tmp 8)] (some 10) true), (.op .mv [(.tmp 10)] (some 5) true)] false) (.seq (.region [(.op .mv [(.tmp 1)] (some 11) true), (.op .mv [(.tmp 0)] (some 12) true), (.op .mv [(.tmp 5)] (some 13) true), (.op (.iaddr 1) [(.tmp 12), (.tmp 13)] (some 14) true), (.op .load1 [(.tmp 14)] (some 15) true), (.op (.binB false) [(.tmp 11), (.tmp 15)] (some 16) true)] false) (.cond (.tmp 16) (.seq (.region [(.op .mv [(.tmp 5)] (some 17) true), (.op .mv [(.tmp 17)] (some 4) true)] false) .ret) .skip)))) (.region [(.op (.bin .add) [(.tmp 8), (.const (.int .i64 1))] (some 18) true), (.op .mv [(.tmp 18)] (some 8) true)] false))))
-- slices.Index[[]bool,bool]
def F216 : EF := ⟨(.seq (.region [(.op .mv [(.const (.int .i64 0))] (some 4) true)] false) (.seq (.seq (.region [(.op .mv [(.tmp 0)] (some 6) true), (.op .len [(.tmp 6)] (some 7) true), (.op .mv [(.const (.int .i64 0))] (some 8) true)] false) (.block 0 (.loop H216_2 L216_2))) (.seq (.region [(.op .mv [(.const (.int .i64 (-1)))] (some 4) true)] false) .ret))), [(.tmp 4)], 19, .one, none⟩
theorem t216 : T 216 = some F216 := tab Try.func216 (by kernel_rfl) rfl
end Go.Proofs.Ytaaajjinpppgeaa
/- Memories: counting, copying, comparing. Own work; no condition. -/
set_option linter.unusedVariables false
set_option linter.unusedSimpArgs false
set_option linter.unusedSectionVars false
namespace Go.Proofs.Ytaaajjinpppgeaa
open Go Go.Abs
set_option maxRecDepth 100000
structure Dp where
  id : Int
  kind : Int
  ino : Int
  ptr : Int
  block : Int
  slot : Int
  name : ByteArray
  bits : Bool
  other : Bool
  after : Int
  blocks : List Int
  deriving DecidableEq
def dp (x : Dp) : AV := .agg [.int .i64 x.id, .int .i64 x.kind, .int .i64 x.ino, .int .i64 x.ptr, .int .i64 x.block, .int .i64 x.slot, .str x.name, .bool x.bits, .bool x.other, .int .i64 x.after, .ro 1 (x.blocks.map iv)]
def dpO (x : Dp) : AV := .agg [.int .i64 x.id, .int .i64 x.kind, .int .i64 x.ino, .int .i64 x.ptr, .int .i64 x.block, .int .i64 x.slot, .str x.name, .bool x.bits, .bool x.other, .int .i64 x.after, .own 1 (x.blocks.map iv)]
def Dp.ok (x : Dp) : Prop := x.name.size ≤ maxLen ∧ x.blocks.length ≤ maxLen
def Dp.sm (x : Dp) : Prop := x.blocks.length ≤ 1048576

theorem dp_cells (x : Dp) : (dp x).cells = [.int .i64 x.id, .int .i64 x.kind, .int .i64 x.ino, .int .i64 x.ptr, .int .i64 x.block, .int .i64 x.slot, .str x.name, .bool x.bits, .bool x.other, .int .i64 x.after, .ro 1 (x.blocks.map iv)] := rfl
theorem dp_cool (x : Dp) : coolX (dp x) = true := rfl
theorem dp_len (x : Dp) : (dp x).cells.length = 11 := rfl
theorem dp_mi (g : Bool → Nat → Nat → Nat → AV) (l : List Dp) : mapIdL g (l.map dp) = l.map dp := mi_map g dp l dp_cool
theorem dp_is (u : Bool → Nat → Nat → Nat → List Nat) (l : List Dp) : idsL u (l.map dp) = [] := is_map u dp l dp_cool
theorem dp_m1 (g : Bool → Nat → Nat → Nat → AV) (x : Dp) : mapId g (dp x) = dp x := ((cool_ids g (fun _ _ _ _ => []) (dp x)).2 (dp_cool x)).1
theorem dp_i1 (u : Bool → Nat → Nat → Nat → List Nat) (x : Dp) : idsV u (dp x) = [] := ((cool_ids (fun _ _ _ _ => .undef) u (dp x)).2 (dp_cool x)).2
theorem dp_coR (l : List Dp) : coolR 11 (l.map dp) = true := coR_map 11 dp l dp_len dp_cool
theorem dp_ice (x : Dp) : ice (dp x) = dp x := rfl
theorem dp_ic (l : List Dp) : iceL (l.map dp) = l.map dp := by rw [ice_m]; exact List.map_congr_left fun x _ => dp_ice x
theorem dp_no (x : Dp) : (dp x).cells.all noOwnC = true := rfl
theorem dp_noL (l : List Dp) : (l.map dp).all (fun x => x.cells.all noOwnC) = true := no_map dp l dp_no
attribute [go_sem] dp_mi dp_is dp_coR dp_ic dp_ice dp_noL

theorem dpO_cells (x : Dp) : (dpO x).cells = [.int .i64 x.id, .int .i64 x.kind, .int .i64 x.ino, .int .i64 x.ptr, .int .i64 x.block, .int .i64 x.slot, .str x.name, .bool x.bits, .bool x.other, .int .i64 x.after, .own 1 (x.blocks.map iv)] := rfl
theorem dpO_cool (x : Dp) : coolX (dpO x) = true := by simp only [dpO, go_sem, Bool.and_self]
theorem dpO_len (x : Dp) : (dpO x).cells.length = 11 := rfl
theorem dpO_mi (g : Bool → Nat → Nat → Nat → AV) (l : List Dp) : mapIdL g (l.map dpO) = l.map dpO := mi_map g dpO l dpO_cool
theorem dpO_is (u : Bool → Nat → Nat → Nat → List Nat) (l : List Dp) : idsL u (l.map dpO) = [] := is_map u dpO l dpO_cool
theorem dpO_m1 (g : Bool → Nat → Nat → Nat → AV) (x : Dp) : mapId g (dpO x) = dpO x := ((cool_ids g (fun _ _ _ _ => []) (dpO x)).2 (dpO_cool x)).1
theorem dpO_i1 (u : Bool → Nat → Nat → Nat → List Nat) (x : Dp) : idsV u (dpO x) = [] := ((cool_ids (fun _ _ _ _ => .undef) u (dpO x)).2 (dpO_cool x)).2
theorem dpO_coR (l : List Dp) : coolR 11 (l.map dpO) = true := coR_map 11 dpO l dpO_len dpO_cool
theorem dpO_ice (x : Dp) : ice (dpO x) = dp x := by simp only [dpO, dp, go_sem]
theorem dpO_ic (l : List Dp) : iceL (l.map dpO) = l.map dp := by rw [ice_m]; exact List.map_congr_left fun x _ => dpO_ice x
theorem dpO_rf (x : Dp) : (dpO x).roFree = true := by simp [dpO, AV.roFree, roFreeL, iv_rfL]
theorem dpO_rfL (l : List Dp) : roFreeL (l.map dpO) = true := rf_map dpO l dpO_rf
attribute [go_sem] dpO_mi dpO_is dpO_coR dpO_ic dpO_ice dpO_rfL
theorem dp_eq (a b : Dp) : a = b ↔ a.id = b.id ∧ a.kind = b.kind ∧ a.ino = b.ino ∧ a.ptr = b.ptr ∧ a.block = b.block ∧ a.slot = b.slot ∧ a.name = b.name ∧ a.bits = b.bits ∧ a.other = b.other ∧ a.after = b.after ∧ a.blocks = b.blocks := by cases a; cases b; simp
theorem e85 (x : Dp) (n : Int) (h0 : 0 ≤ n) (hn : n ≤ 1048576) (hl : x.ok) :
    ∃ r : Int, E T 85 [dp x, .int .i64 n] [] = some (.int .i64 r, []) ∧ -1 ≤ r ∧ r ≤ n ∧ (0 ≤ r → x.sm) := by
  rw [E_eq t85 (Nat.le_of_ble_eq_true rfl)]
  obtain ⟨hl1, hl2⟩ := hl
  unfold maxLen at hl1
  simp only [dp, F85, go_sem, seval, bnd_ite]
  rw [w_i64 (n - (x.name.size : Int)) (by omega)]
  by_cases c1 : n - (x.name.size : Int) < 0
  · rw [if_pos c1]; exact ⟨_, rfl, by omega, by omega, fun h => by omega⟩
  obtain ⟨r, h1, h2, h3, h4⟩ := e182 x.blocks (n - (x.name.size : Int)) (by omega) (by omega) hl2
  rw [if_neg c1]
  simp only [go_sem, seval, bnd_ite, h1]
  by_cases c2 : r < 0
  · rw [if_pos c2]; exact ⟨_, rfl, by omega, by omega, fun h => by omega⟩
  rw [if_neg c2]; exact ⟨_, rfl, by omega, by omega, fun h => h4 (by omega)⟩
theorem t135 : T 135 = some (Fsz 11 11 85) := tab Try.func135 (by kernel_rfl) rfl
theorem e135 (l : List Dp) (n : Int) (h0 : 0 ≤ n) (hn : n ≤ 1048576) (hl : l.length ≤ maxLen) (hok : ∀ x ∈ l, x.ok) :
    ∃ r : Int, E T 135 [.ro 11 (l.map dp), .int .i64 n] [] = some (.int .i64 r, []) ∧ -1 ≤ r ∧ r ≤ n ∧ (0 ≤ r → l.length ≤ 1048576 ∧ ∀ x ∈ l, x.sm) :=
  gsz (ok := Dp.ok) t135 (fun _ => rfl) (fun _ => Nat.le_refl _) (fun _ => rfl) (fun _ => rfl) (fun x r h h0 h1 => e85 x r h0 h1 h) l n h0 hn hl hok
theorem e87 (x : Dp) (h : x.sm) : E T 87 [dp x] [] = some (dpO x, []) := by
  rw [E_eq t87 (Nat.le_of_ble_eq_true rfl)]; simp only [dp, dpO, F87, go_sem, seval, e184 x.blocks h]
theorem t137 : T 137 = some (Fto 11 104 (.agg [.int .i64 0, .int .i64 0, .int .i64 0, .int .i64 0, .int .i64 0, .int .i64 0, .str ⟨#[]⟩, .bool false, .bool false, .int .i64 0, .nil]) 11 87) := tab Try.func137 (by kernel_rfl) rfl
theorem e137 (l : List Dp) (hl : l.length ≤ 1048576) (hs : ∀ x ∈ l, x.sm) : E T 137 [.ro 11 (l.map dp)] [] = some (.own 11 (l.map dpO), []) := by
  rw [E_eq t137 (Nat.le_of_ble_eq_true rfl)]
  simp only [Fto, hto, go_sem, seval, bnd_ite]
  rw [if_pos ⟨by omega, by omega, by omega⟩]
  have key := XL_fold (T := T) (b := 0) (hd := Hto) (x := Lto 11 104 (.agg [.int .i64 0, .int .i64 0, .int .i64 0, .int .i64 0, .int .i64 0, .int .i64 0, .str ⟨#[]⟩, .bool false, .bool false, .int .i64 0, .nil]) 11 87) l (fun (_ : Unit) _ => ()) (fun i _ => ⟨[(0, .ro 11 (l.map dp)), (3, .sl 0 0 l.length), (4, .int .i64 (i : Nat))], [some (11, fill dpO (.agg [.int .i64 0, .int .i64 0, .int .i64 0, .int .i64 0, .int .i64 0, .int .i64 0, .str ⟨#[]⟩, .bool false, .bool false, .int .i64 0, .nil]) l i)]⟩)
    (r := (.exit 0, ⟨[(11, .bool false), (10, .int .i64 l.length), (9, .ro 11 (l.map dp)), (8, .int .i64 l.length), (0, .ro 11 (l.map dp)), (3, .sl 0 0 l.length), (4, .int .i64 l.length)], [some (11, l.map dpO)]⟩)) ?step () ?last
  case step =>
    intro i _ p hp hi
    have hi1 : (i : Int) < (l.length : Int) := by omega
    have fs : (fill dpO (.agg [.int .i64 0, .int .i64 0, .int .i64 0, .int .i64 0, .int .i64 0, .int .i64 0, .str ⟨#[]⟩, .bool false, .bool false, .int .i64 0, .nil]) l i).set i (.agg [.int .i64 p.id, .int .i64 p.kind, .int .i64 p.ino, .int .i64 p.ptr, .int .i64 p.block, .int .i64 p.slot, .str p.name, .bool p.bits, .bool p.other, .int .i64 p.after, .own 1 (p.blocks.map iv)]) = _ := fill_set (f := dpO) (z := .agg [.int .i64 0, .int .i64 0, .int .i64 0, .int .i64 0, .int .i64 0, .int .i64 0, .str ⟨#[]⟩, .bool false, .bool false, .int .i64 0, .nil]) hp
    have hc := e87 p (hs p (List.mem_of_getElem? hp))
    unfold dp dpO at hc
    simp only [XG, Lto, hto, go_sem, seval, bnd_ite, hi1, gD_map hp, dp, hc, Int.natCast_nonneg, w_i64 ((i : Int) + 1) (by omega), fill_len (Nat.le_of_lt hi), fill_get hi, hi,
      fill_mi _ dpO_cool (z := .agg [.int .i64 0, .int .i64 0, .int .i64 0, .int .i64 0, .int .i64 0, .int .i64 0, .str ⟨#[]⟩, .bool false, .bool false, .int .i64 0, .nil]) rfl, fill_is _ dpO_cool (z := .agg [.int .i64 0, .int .i64 0, .int .i64 0, .int .i64 0, .int .i64 0, .int .i64 0, .str ⟨#[]⟩, .bool false, .bool false, .int .i64 0, .nil]) rfl, is_set]
    rw [fs]; rfl
  case last =>
    refine XL_out ?_ (by simp)
    simp only [XG, Lto, hto, go_sem, seval, bnd_ite, Int.lt_irrefl, decide_false, fill_all]
  have hir : ∀ u n, idsL u (List.replicate n (.agg [.int .i64 0, .int .i64 0, .int .i64 0, .int .i64 0, .int .i64 0, .int .i64 0, .str ⟨#[]⟩, .bool false, .bool false, .int .i64 0, .nil] : AV)) = [] := fun u n => is_rep u n _ rfl
  have e0 : ((0 : Nat) : Int) = 0 := rfl
  rw [fill_0, e0] at key
  simp only [key, hir]
  simp only [go_sem, seval, tk_map, Nat.le_refl]
theorem e89 (x y : Dp) (h : x.ok) : E T 89 [dp x, dp y] [] = some (.bool (decide (x = y)), []) := by
  rw [E_eq t89 (Nat.le_of_ble_eq_true rfl)]
  simp only [dp, F89, go_sem, seval, bnd_ite, bdec, bne_dec, dp_eq, e99 _ y.blocks h.2]
  by_cases h0 : x.id = y.id
  case neg => simp [h0]
  simp only [h0, decide_true, Bool.not_true, Bool.false_eq_true, if_false, true_and]
  by_cases h1 : x.kind = y.kind
  case neg => simp [h1]
  simp only [h1, decide_true, Bool.not_true, Bool.false_eq_true, if_false, true_and]
  by_cases h2 : x.ino = y.ino
  case neg => simp [h2]
  simp only [h2, decide_true, Bool.not_true, Bool.false_eq_true, if_false, true_and]
  by_cases h3 : x.ptr = y.ptr
  case neg => simp [h3]
  simp only [h3, decide_true, Bool.not_true, Bool.false_eq_true, if_false, true_and]
  by_cases h4 : x.block = y.block
  case neg => simp [h4]
  simp only [h4, decide_true, Bool.not_true, Bool.false_eq_true, if_false, true_and]
  by_cases h5 : x.slot = y.slot
  case neg => simp [h5]
  simp only [h5, decide_true, Bool.not_true, Bool.false_eq_true, if_false, true_and]
  by_cases h6 : x.name = y.name
  case neg => simp [h6]
  simp only [h6, decide_true, Bool.not_true, Bool.false_eq_true, if_false, true_and]
  by_cases h7 : x.bits = y.bits
  case neg => simp [h7]
  simp only [h7, decide_true, Bool.not_true, Bool.false_eq_true, if_false, true_and]
  by_cases h8 : x.other = y.other
  case neg => simp [h8]
  simp only [h8, decide_true, Bool.not_true, Bool.false_eq_true, if_false, true_and]
  by_cases h9 : x.after = y.after
  case neg => simp [h9]
  simp only [h9, decide_true, Bool.not_true, Bool.false_eq_true, if_false, true_and]
  by_cases hb : x.blocks = y.blocks <;> simp [hb]
theorem t140 : T 140 = some (Feq 11 11 89) := tab Try.func140 (by kernel_rfl) rfl
theorem e140 (xs ys : List Dp) (ha : xs.length ≤ maxLen) (hok : ∀ x ∈ xs, x.ok) : E T 140 [.ro 11 (xs.map dp), .ro 11 (ys.map dp)] [] = some (.bool (decide (xs = ys)), []) :=
  geq' (ok := Dp.ok) t140 (fun _ => rfl) (fun _ => Nat.le_refl _) (fun _ => rfl) (fun _ => rfl) (fun x y h => e89 x y h) xs ys ha hok
structure Mm where
  disk : Dsk
  dirty : List Bool
  deps : List Dp
  next : Int
  deriving DecidableEq
def mm (x : Mm) : AV := .agg [.ro 1 (x.disk.used.map bv), .ro 1 (x.disk.taken.map bv), .ro 3 (x.disk.inos.map ino), .ro 3 (x.disk.blks.map blk), .ro 1 (x.dirty.map bv), .ro 11 (x.deps.map dp), .int .i64 x.next]
def mmO (x : Mm) : AV := .agg [.own 1 (x.disk.used.map bv), .own 1 (x.disk.taken.map bv), .own 3 (x.disk.inos.map inoO), .own 3 (x.disk.blks.map blkO), .own 1 (x.dirty.map bv), .own 11 (x.deps.map dpO), .int .i64 x.next]
structure Mm.ok (x : Mm) : Prop where
  disk : x.disk.ok
  dirty : x.dirty.length ≤ maxLen
  deps : x.deps.length ≤ maxLen
  dep : ∀ y ∈ x.deps, y.ok
structure Mm.sm (x : Mm) : Prop where
  disk : x.disk.sm
  dirty : x.dirty.length ≤ 1048576
  deps : x.deps.length ≤ 1048576
  dep : ∀ y ∈ x.deps, y.sm
theorem e43 (x : Mm) (n : Int) (h0 : 0 ≤ n) (hn : n ≤ 1048576) (hk : x.ok) :
    ∃ r : Int, E T 43 [mm x, .int .i64 n] [] = some (.int .i64 r, []) ∧ -1 ≤ r ∧ r ≤ n ∧ (0 ≤ r → x.sm) := by
  rw [E_eq t43 (Nat.le_of_ble_eq_true rfl)]
  obtain ⟨r, h1, h2, h3, h4⟩ := e38 x.disk n h0 hn hk.disk
  unfold dsk at h1
  simp only [mm, F43, go_sem, seval, bnd_ite, h1]
  by_cases c1 : r < 0
  · rw [if_pos c1]; exact ⟨_, rfl, by omega, by omega, fun h => by omega⟩
  obtain ⟨r2, g1, g2, g3, g4⟩ := e134 x.dirty r (by omega) (by omega) hk.dirty
  rw [if_neg c1]
  simp only [go_sem, seval, bnd_ite, g1]
  by_cases c2 : r2 < 0
  · rw [if_pos c2]; exact ⟨_, rfl, by omega, by omega, fun h => by omega⟩
  obtain ⟨r3, f1, f2, f3, f4⟩ := e135 x.deps r2 (by omega) (by omega) hk.deps hk.dep
  rw [if_neg c2]
  simp only [go_sem, seval, bnd_ite, f1]
  by_cases c3 : r3 < 0
  · rw [if_pos c3]; exact ⟨_, rfl, by omega, by omega, fun h => by omega⟩
  rw [if_neg c3]; exact ⟨_, rfl, by omega, by omega, fun h => ⟨h4 (by omega), g4 (by omega), (f4 (by omega)).1, (f4 (by omega)).2⟩⟩
theorem e45 (x : Mm) (h : x.sm) : E T 45 [mm x] [] = some (mmO x, []) := by
  have c40 := e40 x.disk h.disk
  unfold dsk dskO at c40
  rw [E_eq t45 (Nat.le_of_ble_eq_true rfl)]; simp only [mm, mmO, F45, go_sem, seval, c40, e136 _ h.dirty, e137 _ h.deps h.dep]
theorem mm_eq (a b : Mm) : a = b ↔ a.disk = b.disk ∧ a.dirty = b.dirty ∧ a.deps = b.deps ∧ a.next = b.next := by cases a; cases b; simp
theorem e47 (x y : Mm) (h : x.ok) : E T 47 [mm x, mm y] [] = some (.bool (decide (x = y)), []) := by
  have c42 := e42 x.disk y.disk h.disk
  unfold dsk at c42
  rw [E_eq t47 (Nat.le_of_ble_eq_true rfl)]
  simp only [mm, F47, go_sem, seval, bnd_ite, c42, e139 _ y.dirty h.dirty, e140 _ y.deps h.deps h.dep, mm_eq]
  by_cases h1 : x.disk = y.disk <;> by_cases h2 : x.dirty = y.dirty <;> by_cases h3 : x.deps = y.deps <;> by_cases h4 : x.next = y.next <;> simp [h1, h2, h3, h4]
end Go.Proofs.Ytaaajjinpppgeaa
/- The shapes of memories. Own work; no condition. -/
set_option linter.unusedVariables false
set_option linter.unusedSimpArgs false
set_option linter.unusedSectionVars false
namespace Go.Proofs.Ytaaajjinpppgeaa
open Go Go.Abs
set_option maxRecDepth 100000
def shP : Shp := .struct [.int .i64, .int .i64, .int .i64, .int .i64, .int .i64, .int .i64, .str, .bool, .bool, .int .i64, .slice 1 (.int .i64)]
def shM : Shp := .struct [shD, .slice 1 .bool, .slice 11 shP, .int .i64]
theorem isP (cs : List AV) (h : Is shP cs) : ∃ x : Dp, shP.elem cs = dp x ∧ x.ok := by
  cases h with | struct h =>
  cases h with | cons h1 h =>
  cases h with | cons h2 h =>
  cases h with | cons h3 h =>
  cases h with | cons h4 h =>
  cases h with | cons h5 h =>
  cases h with | cons h6 h =>
  cases h with | cons h7 h =>
  cases h with | cons h8 h =>
  cases h with | cons h9 h =>
  cases h with | cons h10 h =>
  cases h with | cons h11 h =>
  cases h
  cases h1; cases h2; cases h3; cases h4; cases h5; cases h6; cases h7; cases h8; cases h9; cases h10
  obtain ⟨xs, rfl, h4, _⟩ := isSl isIv h11
  exact ⟨⟨_, _, _, _, _, _, _, _, _, _, xs⟩, rfl, by assumption, h4⟩
theorem dsk_inj {cs : List AV} {x : Dsk} (h : AV.agg cs = dsk x) : cs = [.ro 1 (x.used.map bv), .ro 1 (x.taken.map bv), .ro 3 (x.inos.map ino), .ro 3 (x.blks.map blk)] := by
  unfold dsk at h; injection h
theorem isMc (cs : List AV) (h : Is shM cs) : ∃ x : Mm, .agg cs = mm x ∧ x.ok := by
  cases h with | struct h =>
  cases h with | cons h1 h =>
  cases h with | cons h2 h =>
  cases h with | cons h3 h =>
  cases h with | cons h4 h =>
  cases h
  obtain ⟨d, h5, h6⟩ := isDc _ h1
  have h5 := dsk_inj h5
  subst h5
  obtain ⟨a, rfl, a1, _⟩ := isSl isBv h2
  obtain ⟨b, rfl, b1, b2⟩ := isSl isP h3
  cases h4
  exact ⟨⟨d, a, b, _⟩, rfl, ⟨h6, a1, b1, b2⟩⟩
theorem isM {av : AV} (h : IsA shM av) : ∃ x : Mm, av = mm x ∧ x.ok := by
  obtain ⟨cs, h, rfl⟩ := h
  exact isMc cs h
end Go.Proofs.Ytaaajjinpppgeaa
/- The code of some functions, as the evaluator reads it (printed by a program of ours), checked against the program. Own work; no condition. -/
set_option linter.unusedVariables false
set_option linter.unusedSimpArgs false
set_option linter.unusedSectionVars false
namespace Go.Proofs.Ytaaajjinpppgeaa
open Go Go.Abs
set_option maxRecDepth 100000
-- laws.FnExactPutDep
def F19 : EF := ⟨(.seq (.region [(.op (.box 7) [(.tmp 0)] (some 2) true), (.op (.box 11) [(.tmp 1)] (some 3) true), (.op .mv [(.const (.bool false))] (some 4) true)] false) (.seq (.region [(.op .mv [(.const (.int .i64 1048576))] (some 5) true)] false) (.seq (.region [(.op (.loadN 7) [(.tmp 2)] (some 17) true), (.op .mv [(.tmp 5)] (some 18) true), (.pc (.const (.fn 43 [])) [(.tmp 17), (.tmp 18)] (some 19) true), (.op .mv [(.tmp 19)] (some 5) true)] false) (.seq (.seq (.region [(.op .mv [(.tmp 5)] (some 20) true), (.op (.bin .lss) [(.tmp 20), (.const (.int .i64 0))] (some 21) true)] false) (.cond (.tmp 21) (.seq (.region [(.op .mv [(.const (.bool true))] (some 4) true)] false) .ret) .skip)) (.seq (.region [(.op (.loadN 11) [(.tmp 3)] (some 22) true), (.op .mv [(.tmp 5)] (some 23) true), (.pc (.const (.fn 85 [])) [(.tmp 22), (.tmp 23)] (some 24) true), (.op .mv [(.tmp 24)] (some 5) true)] false) (.seq (.seq (.region [(.op .mv [(.tmp 5)] (some 25) true), (.op (.bin .lss) [(.tmp 25), (.const (.int .i64 0))] (some 26) true)] false) (.cond (.tmp 26) (.seq (.region [(.op .mv [(.const (.bool true))] (some 4) true)] false) .ret) .skip)) (.seq (.region [(.op (.loadN 7) [(.tmp 2)] (some 28) false), (.pc (.const (.fn 45 [])) [(.tmp 28)] (some 29) false), (.op (.loadN 11) [(.tmp 3)] (some 30) false), (.pc (.const (.fn 87 [])) [(.tmp 30)] (some 31) false), (.pc (.const (.fn 86 [])) [(.tmp 29), (.tmp 31)] (some 32) false), (.op .mv [(.tmp 32)] (some 27) false), (.op (.ext 0) [(.tmp 27)] (some 33) false), (.op (.ext 1) [(.tmp 27)] (some 34) false), (.op (.alloc (.agg [.nil, .nil, .nil, .nil, .nil, .nil, (.int .i64 0)])) [] (some 6) false), (.op (.storeN 7) [(.tmp 6), (.tmp 33)] none true), (.op .mv [(.tmp 34)] (some 7) true)] true) (.seq (.region [(.op (.loadN 7) [(.tmp 2)] (some 35) true), (.pc (.const (.fn 45 [])) [(.tmp 35)] (some 36) true), (.op (.alloc (.agg [.nil, .nil, .nil, .nil, .nil, .nil, (.int .i64 0)])) [] (some 8) true), (.op (.storeN 7) [(.tmp 8), (.tmp 36)] none true)] false) (.seq (.region [(.op (.loadN 11) [(.tmp 3)] (some 37) true), (.pc (.const (.fn 87 [])) [(.tmp 37)] (some 38) true), (.op (.alloc (.agg [(.int .i64 0), (.int .i64 0), (.int .i64 0), (.int .i64 0), (.int .i64 0), (.int .i64 0), (.str ⟨#[]⟩), (.bool false), (.bool false), (.int .i64 0), .nil])) [] (some 9) true), (.op (.storeN 11) [(.tmp 9), (.tmp 38)] none true)] false) (.seq (.region [(.op (.loadN 7) [(.tmp 8)] (some 40) true), (.op (.loadN 11) [(.tmp 9)] (some 41) true), (.pc (.const (.fn 88 [])) [(.tmp 40), (.tmp 41)] (some 42) true), (.op .mv [(.tmp 42)] (some 39) true), (.op (.ext 0) [(.tmp 39)] (some 43) true), (.op (.ext 1) [(.tmp 39)] (some 44) true), (.op (.alloc (.agg [.nil, .nil, .nil, .nil, .nil, .nil, (.int .i64 0)])) [] (some 10) true), (.op (.storeN 7) [(.tmp 10), (.tmp 43)] none true), (.op .mv [(.tmp 44)] (some 11) true)] false) (.seq (.seq (.region [(.op (.loadN 7) [(.tmp 10)] (some 45) true), (.op (.loadN 7) [(.tmp 6)] (some 46) true), (.pc (.const (.fn 47 [])) [(.tmp 45), (.tmp 46)] (some 47) true), (.op .not [(.tmp 47)] (some 48) true), (.op .mv [(.tmp 48)] (some 49) true), (.grp 49 false [(.op .mv [(.tmp 11)] (some 50) true), (.op .mv [(.tmp 7)] (some 51) true), (.op (.bin .neq) [(.tmp 50), (.tmp 51)] (some 52) true)] 52 53 true)] false) (.cond (.tmp 53) (.seq (.region [(.op .mv [(.const (.bool false))] (some 4) true)] false) .ret) .skip)) (.seq (.seq (.region [(.op (.loadN 7) [(.tmp 8)] (some 54) false), (.op (.loadN 7) [(.tmp 2)] (some 55) false), (.pc (.const (.fn 45 [])) [(.tmp 55)] (some 56) false), (.pc (.const (.fn 47 [])) [(.tmp 54), (.tmp 56)] (some 57) true), (.op .not [(.tmp 57)] (some 58) true)] true) (.cond (.tmp 58) (.seq (.region [(.op .mv [(.const (.bool false))] (some 4) true)] false) .ret) .skip)) (.seq (.seq (.region [(.op (.loadN 11) [(.tmp 9)] (some 59) false), (.op (.loadN 11) [(.tmp 3)] (some 60) false), (.pc (.const (.fn 87 [])) [(.tmp 60)] (some 61) false), (.pc (.const (.fn 89 [])) [(.tmp 59), (.tmp 61)] (some 62) true), (.op .not [(.tmp 62)] (some 63) true)] true) (.cond (.tmp 63) (.seq (.region [(.op .mv [(.const (.bool false))] (some 4) true)] false) .ret) .skip)) (.seq (.region [(.op .mv [(.const (.int .i64 1))] (some 12) true)] false) (.seq (.region [(.op (.loadN 7) [(.tmp 8)] (some 64) true), (.op .mv [(.tmp 12)] (some 65) true), (.sc (.const (.fn 51 [])) [(.tmp 64), (.tmp 65)] (some 66) true), (.op .mv [(.tmp 66)] (some 12) true)] false) (.seq (.region [(.op (.loadN 11) [(.tmp 9)] (some 67) true), (.op .mv [(.tmp 12)] (some 68) true), (.sc (.const (.fn 90 [])) [(.tmp 67), (.tmp 68)] (some 69) true), (.op .mv [(.tmp 69)] (some 12) true)] false) (.seq (.seq (.region [(.op .mv [(.tmp 12)] (some 70) true), (.op (.bin .lss) [(.tmp 70), (.const (.int .i64 0))] (some 71) true), (.op .mv [(.tmp 71)] (some 72) true), (.grp 72 false [(.op (.loadN 7) [(.tmp 10)] (some 73) true), (.op (.loadN 7) [(.tmp 6)] (some 74) true), (.pc (.const (.fn 47 [])) [(.tmp 73), (.tmp 74)] (some 75) true), (.op .not [(.tmp 75)] (some 76) true)] 76 77 true), (.op .mv [(.tmp 77)] (some 78) true), (.grp 78 false [(.op .mv [(.tmp 11)] (some 79) true), (.op .mv [(.tmp 7)] (some 80) true), (.op (.bin .neq) [(.tmp 79), (.tmp 80)] (some 81) true)] 81 82 true)] false) (.cond (.tmp 82) (.seq (.region [(.op .mv [(.const (.bool false))] (some 4) true)] false) .ret) .skip)) (.seq (.region [(.op .mv [(.const (.int .i64 1))] (some 13) true)] false) (.seq (.region [(.op (.loadN 7) [(.tmp 10)] (some 83) true), (.op .mv [(.tmp 13)] (some 84) true), (.sc (.const (.fn 51 [])) [(.tmp 83), (.tmp 84)] (some 85) true), (.op .mv [(.tmp 85)] (some 13) true)] false) (.seq (.region [(.op .mv [(.const (.int .i64 1))] (some 14) true)] false) (.seq (.region [(.op (.loadN 7) [(.tmp 10)] (some 86) true), (.op .mv [(.tmp 14)] (some 87) true), (.pc (.const (.fn 64 [])) [(.tmp 86), (.tmp 87)] (some 88) true), (.op .mv [(.tmp 88)] (some 14) true)] false) (.seq (.seq (.region [(.op .mv [(.tmp 14)] (some 89) true), (.op (.bin .lss) [(.tmp 89), (.const (.int .i64 0))] (some 90) true)] false) (.cond (.tmp 90) (.seq (.region [(.op .mv [(.const (.bool false))] (some 4) true)] false) .ret) .skip)) (.seq (.seq (.region [(.op .mv [(.tmp 14)] (some 91) true), (.op .mv [(.tmp 13)] (some 92) true), (.op (.bin .neq) [(.tmp 91), (.tmp 92)] (some 93) true)] false) (.cond (.tmp 93) (.seq (.region [(.op .mv [(.const (.bool false))] (some 4) true)] false) .ret) .skip)) (.seq (.region [(.op (.loadN 7) [(.tmp 2)] (some 95) false), (.pc (.const (.fn 45 [])) [(.tmp 95)] (some 96) false), (.op (.loadN 11) [(.tmp 3)] (some 97) false), (.pc (.const (.fn 87 [])) [(.tmp 97)] (some 98) false), (.pc (.const (.fn 88 [])) [(.tmp 96), (.tmp 98)] (some 99) false), (.op .mv [(.tmp 99)] (some 94) false), (.op (.ext 0) [(.tmp 94)] (some 100) false), (.op (.ext 1) [(.tmp 94)] (some 101) false), (.op (.alloc (.agg [.nil, .nil, .nil, .nil, .nil, .nil, (.int .i64 0)])) [] (some 15) false), (.op (.storeN 7) [(.tmp 15), (.tmp 100)] none true), (.op .mv [(.tmp 101)] (some 16) true)] true) (.seq (.seq (.region [(.op (.loadN 7) [(.tmp 15)] (some 102) true), (.op (.loadN 7) [(.tmp 6)] (some 103) true), (.pc (.const (.fn 47 [])) [(.tmp 102), (.tmp 103)] (some 104) true), (.op .not [(.tmp 104)] (some 105) true), (.op .mv [(.tmp 105)] (some 106) true), (.grp 106 false [(.op .mv [(.tmp 16)] (some 107) true), (.op .mv [(.tmp 7)] (some 108) true), (.op (.bin .neq) [(.tmp 107), (.tmp 108)] (some 109) true)] 109 110 true)] false) (.cond (.tmp 110) (.seq (.region [(.op .mv [(.const (.bool false))] (some 4) true)] false) .ret) .skip)) (.seq (.region [(.op .mv [(.const (.int .i64 1))] (some 14) true)] false) (.seq (.region [(.op (.loadN 7) [(.tmp 10)] (some 111) true), (.op .mv [(.tmp 14)] (some 112) true), (.pc (.const (.fn 64 [])) [(.tmp 111), (.tmp 112)] (some 113) true), (.op .mv [(.tmp 113)] (some 14) true)] false) (.seq (.seq (.region [(.op .mv [(.tmp 14)] (some 114) true), (.op (.bin .lss) [(.tmp 114), (.const (.int .i64 0))] (some 115) true)] false) (.cond (.tmp 115) (.seq (.region [(.op .mv [(.const (.bool false))] (some 4) true)] false) .ret) .skip)) (.seq (.seq (.region [(.op .mv [(.tmp 14)] (some 116) true), (.op .mv [(.tmp 13)] (some 117) true), (.op (.bin .neq) [(.tmp 116), (.tmp 117)] (some 118) true)] false) (.cond (.tmp 118) (.seq (.region [(.op .mv [(.const (.bool false))] (some 4) true)] false) .ret) .skip)) (.seq (.region [(.op .mv [(.const (.bool true))] (some 4) true)] false) .ret)))))))))))))))))))))))))))))), [(.tmp 4)], 119, .one, none⟩
theorem t19 : T 19 = some F19 := tab Try.func19 (by kernel_rfl) rfl
-- laws.FnExactTakeBlock
def F21 : EF := ⟨(.seq (.region [(.op (.box 7) [(.tmp 0)] (some 1) true), (.op .mv [(.const (.bool false))] (some 2) true)] false) (.seq (.region [(.op .mv [(.const (.int .i64 1048576))] (some 3) true)] false) (.seq (.region [(.op (.loadN 7) [(.tmp 1)] (some 14) true), (.op .mv [(.tmp 3)] (some 15) true), (.pc (.const (.fn 43 [])) [(.tmp 14), (.tmp 15)] (some 16) true), (.op .mv [(.tmp 16)] (some 3) true)] false) (.seq (.seq (.region [(.op .mv [(.tmp 3)] (some 17) true), (.op (.bin .lss) [(.tmp 17), (.const (.int .i64 0))] (some 18) true)] false) (.cond (.tmp 18) (.seq (.region [(.op .mv [(.const (.bool true))] (some 2) true)] false) .ret) .skip)) (.seq (.region [(.op (.loadN 7) [(.tmp 1)] (some 20) true), (.pc (.const (.fn 45 [])) [(.tmp 20)] (some 21) true), (.pc (.const (.fn 93 [])) [(.tmp 21)] (some 22) true), (.op .mv [(.tmp 22)] (some 19) true), (.op (.ext 0) [(.tmp 19)] (some 23) true), (.op (.ext 1) [(.tmp 19)] (some 24) true), (.op (.alloc (.agg [.nil, .nil, .nil, .nil, .nil, .nil, (.int .i64 0)])) [] (some 4) true), (.op (.storeN 7) [(.tmp 4), (.tmp 23)] none true), (.op .mv [(.tmp 24)] (some 5) true)] false) (.seq (.region [(.op (.loadN 7) [(.tmp 1)] (some 25) true), (.pc (.const (.fn 45 [])) [(.tmp 25)] (some 26) true), (.op (.alloc (.agg [.nil, .nil, .nil, .nil, .nil, .nil, (.int .i64 0)])) [] (some 6) true), (.op (.storeN 7) [(.tmp 6), (.tmp 26)] none true)] false) (.seq (.region [(.op (.loadN 7) [(.tmp 6)] (some 28) true), (.pc (.const (.fn 94 [])) [(.tmp 28)] (some 29) true), (.op .mv [(.tmp 29)] (some 27) true), (.op (.ext 0) [(.tmp 27)] (some 30) true), (.op (.ext 1) [(.tmp 27)] (some 31) true), (.op (.alloc (.agg [.nil, .nil, .nil, .nil, .nil, .nil, (.int .i64 0)])) [] (some 7) true), (.op (.storeN 7) [(.tmp 7), (.tmp 30)] none true), (.op .mv [(.tmp 31)] (some 8) true)] false) (.seq (.seq (.region [(.op (.loadN 7) [(.tmp 7)] (some 32) true), (.op (.loadN 7) [(.tmp 4)] (some 33) true), (.pc (.const (.fn 47 [])) [(.tmp 32), (.tmp 33)] (some 34) true), (.op .not [(.tmp 34)] (some 35) true), (.op .mv [(.tmp 35)] (some 36) true), (.grp 36 false [(.op .mv [(.tmp 8)] (some 37) true), (.op .mv [(.tmp 5)] (some 38) true), (.op (.bin .neq) [(.tmp 37), (.tmp 38)] (some 39) true)] 39 40 true)] false) (.cond (.tmp 40) (.seq (.region [(.op .mv [(.const (.bool false))] (some 2) true)] false) .ret) .skip)) (.seq (.seq (.region [(.op (.loadN 7) [(.tmp 6)] (some 41) false), (.op (.loadN 7) [(.tmp 1)] (some 42) false), (.pc (.const (.fn 45 [])) [(.tmp 42)] (some 43) false), (.pc (.const (.fn 47 [])) [(.tmp 41), (.tmp 43)] (some 44) true), (.op .not [(.tmp 44)] (some 45) true)] true) (.cond (.tmp 45) (.seq (.region [(.op .mv [(.const (.bool false))] (some 2) true)] false) .ret) .skip)) (.seq (.region [(.op .mv [(.const (.int .i64 1))] (some 9) true)] false) (.seq (.region [(.op (.loadN 7) [(.tmp 6)] (some 46) true), (.op .mv [(.tmp 9)] (some 47) true), (.sc (.const (.fn 51 [])) [(.tmp 46), (.tmp 47)] (some 48) true), (.op .mv [(.tmp 48)] (some 9) true)] false) (.seq (.seq (.region [(.op .mv [(.tmp 9)] (some 49) true), (.op (.bin .lss) [(.tmp 49), (.const (.int .i64 0))] (some 50) true), (.op .mv [(.tmp 50)] (some 51) true), (.grp 51 false [(.op (.loadN 7) [(.tmp 7)] (some 52) true), (.op (.loadN 7) [(.tmp 4)] (some 53) true), (.pc (.const (.fn 47 [])) [(.tmp 52), (.tmp 53)] (some 54) true), (.op .not [(.tmp 54)] (some 55) true)] 55 56 true), (.op .mv [(.tmp 56)] (some 57) true), (.grp 57 false [(.op .mv [(.tmp 8)] (some 58) true), (.op .mv [(.tmp 5)] (some 59) true), (.op (.bin .neq) [(.tmp 58), (.tmp 59)] (some 60) true)] 60 61 true)] false) (.cond (.tmp 61) (.seq (.region [(.op .mv [(.const (.bool false))] (some 2) true)] false) .ret) .skip)) (.seq (.region [(.op .mv [(.const (.int .i64 1))] (some 10) true)] false) (.seq (.region [(.op (.loadN 7) [(.tmp 7)] (some 62) true), (.op .mv [(.tmp 10)] (some 63) true), (.sc (.const (.fn 51 [])) [(.tmp 62), (.tmp 63)] (some 64) true), (.op .mv [(.tmp 64)] (some 10) true)] false) (.seq (.region [(.op .mv [(.const (.int .i64 1))] (some 11) true)] false) (.seq (.region [(.op (.loadN 7) [(.tmp 7)] (some 65) true), (.op .mv [(.tmp 11)] (some 66) true), (.pc (.const (.fn 64 [])) [(.tmp 65), (.tmp 66)] (some 67) true), (.op .mv [(.tmp 67)] (some 11) true)] false) (.seq (.seq (.region [(.op .mv [(.tmp 11)] (some 68) true), (.op (.bin .lss) [(.tmp 68), (.const (.int .i64 0))] (some 69) true)] false) (.cond (.tmp 69) (.seq (.region [(.op .mv [(.const (.bool false))] (some 2) true)] false) .ret) .skip)) (.seq (.seq (.region [(.op .mv [(.tmp 11)] (some 70) true), (.op .mv [(.tmp 10)] (some 71) true), (.op (.bin .neq) [(.tmp 70), (.tmp 71)] (some 72) true)] false) (.cond (.tmp 72) (.seq (.region [(.op .mv [(.const (.bool false))] (some 2) true)] false) .ret) .skip)) (.seq (.region [(.op (.loadN 7) [(.tmp 1)] (some 74) true), (.pc (.const (.fn 45 [])) [(.tmp 74)] (some 75) true), (.pc (.const (.fn 94 [])) [(.tmp 75)] (some 76) true), (.op .mv [(.tmp 76)] (some 73) true), (.op (.ext 0) [(.tmp 73)] (some 77) true), (.op (.ext 1) [(.tmp 73)] (some 78) true), (.op (.alloc (.agg [.nil, .nil, .nil, .nil, .nil, .nil, (.int .i64 0)])) [] (some 12) true), (.op (.storeN 7) [(.tmp 12), (.tmp 77)] none true), (.op .mv [(.tmp 78)] (some 13) true)] false) (.seq (.seq (.region [(.op (.loadN 7) [(.tmp 12)] (some 79) true), (.op (.loadN 7) [(.tmp 4)] (some 80) true), (.pc (.const (.fn 47 [])) [(.tmp 79), (.tmp 80)] (some 81) true), (.op .not [(.tmp 81)] (some 82) true), (.op .mv [(.tmp 82)] (some 83) true), (.grp 83 false [(.op .mv [(.tmp 13)] (some 84) true), (.op .mv [(.tmp 5)] (some 85) true), (.op (.bin .neq) [(.tmp 84), (.tmp 85)] (some 86) true)] 86 87 true)] false) (.cond (.tmp 87) (.seq (.region [(.op .mv [(.const (.bool false))] (some 2) true)] false) .ret) .skip)) (.seq (.region [(.op .mv [(.const (.int .i64 1))] (some 11) true)] false) (.seq (.region [(.op (.loadN 7) [(.tmp 7)] (some 88) true), (.op .mv [(.tmp 11)] (some 89) true), (.pc (.const (.fn 64 [])) [(.tmp 88), (.tmp 89)] (some 90) true), (.op .mv [(.tmp 90)] (some 11) true)] false) (.seq (.seq (.region [(.op .mv [(.tmp 11)] (some 91) true), (.op (.bin .lss) [(.tmp 91), (.const (.int .i64 0))] (some 92) true)] false) (.cond (.tmp 92) (.seq (.region [(.op .mv [(.const (.bool false))] (some 2) true)] false) .ret) .skip)) (.seq (.seq (.region [(.op .mv [(.tmp 11)] (some 93) true), (.op .mv [(.tmp 10)] (some 94) true), (.op (.bin .neq) [(.tmp 93), (.tmp 94)] (some 95) true)] false) (.cond (.tmp 95) (.seq (.region [(.op .mv [(.const (.bool false))] (some 2) true)] false) .ret) .skip)) (.seq (.region [(.op .mv [(.const (.bool true))] (some 2) true)] false) .ret))))))))))))))))))))))))), [(.tmp 2)], 96, .one, none⟩
theorem t21 : T 21 = some F21 := tab Try.func21 (by kernel_rfl) rfl
-- laws.FnExactTakeIno
def F22 : EF := ⟨(.seq (.region [(.op (.box 7) [(.tmp 0)] (some 1) true), (.op .mv [(.const (.bool false))] (some 2) true)] false) (.seq (.region [(.op .mv [(.const (.int .i64 1048576))] (some 3) true)] false) (.seq (.region [(.op (.loadN 7) [(.tmp 1)] (some 14) true), (.op .mv [(.tmp 3)] (some 15) true), (.pc (.const (.fn 43 [])) [(.tmp 14), (.tmp 15)] (some 16) true), (.op .mv [(.tmp 16)] (some 3) true)] false) (.seq (.seq (.region [(.op .mv [(.tmp 3)] (some 17) true), (.op (.bin .lss) [(.tmp 17), (.const (.int .i64 0))] (some 18) true)] false) (.cond (.tmp 18) (.seq (.region [(.op .mv [(.const (.bool true))] (some 2) true)] false) .ret) .skip)) (.seq (.region [(.op (.loadN 7) [(.tmp 1)] (some 20) true), (.pc (.const (.fn 45 [])) [(.tmp 20)] (some 21) true), (.pc (.const (.fn 95 [])) [(.tmp 21)] (some 22) true), (.op .mv [(.tmp 22)] (some 19) true), (.op (.ext 0) [(.tmp 19)] (some 23) true), (.op (.ext 1) [(.tmp 19)] (some 24) true), (.op (.alloc (.agg [.nil, .nil, .nil, .nil, .nil, .nil, (.int .i64 0)])) [] (some 4) true), (.op (.storeN 7) [(.tmp 4), (.tmp 23)] none true), (.op .mv [(.tmp 24)] (some 5) true)] false) (.seq (.region [(.op (.loadN 7) [(.tmp 1)] (some 25) true), (.pc (.const (.fn 45 [])) [(.tmp 25)] (some 26) true), (.op (.alloc (.agg [.nil, .nil, .nil, .nil, .nil, .nil, (.int .i64 0)])) [] (some 6) true), (.op (.storeN 7) [(.tmp 6), (.tmp 26)] none true)] false) (.seq (.region [(.op (.loadN 7) [(.tmp 6)] (some 28) true), (.pc (.const (.fn 96 [])) [(.tmp 28)] (some 29) true), (.op .mv [(.tmp 29)] (some 27) true), (.op (.ext 0) [(.tmp 27)] (some 30) true), (.op (.ext 1) [(.tmp 27)] (some 31) true), (.op (.alloc (.agg [.nil, .nil, .nil, .nil, .nil, .nil, (.int .i64 0)])) [] (some 7) true), (.op (.storeN 7) [(.tmp 7), (.tmp 30)] none true), (.op .mv [(.tmp 31)] (some 8) true)] false) (.seq (.seq (.region [(.op (.loadN 7) [(.tmp 7)] (some 32) true), (.op (.loadN 7) [(.tmp 4)] (some 33) true), (.pc (.const (.fn 47 [])) [(.tmp 32), (.tmp 33)] (some 34) true), (.op .not [(.tmp 34)] (some 35) true), (.op .mv [(.tmp 35)] (some 36) true), (.grp 36 false [(.op .mv [(.tmp 8)] (some 37) true), (.op .mv [(.tmp 5)] (some 38) true), (.op (.bin .neq) [(.tmp 37), (.tmp 38)] (some 39) true)] 39 40 true)] false) (.cond (.tmp 40) (.seq (.region [(.op .mv [(.const (.bool false))] (some 2) true)] false) .ret) .skip)) (.seq (.seq (.region [(.op (.loadN 7) [(.tmp 6)] (some 41) false), (.op (.loadN 7) [(.tmp 1)] (some 42) false), (.pc (.const (.fn 45 [])) [(.tmp 42)] (some 43) false), (.pc (.const (.fn 47 [])) [(.tmp 41), (.tmp 43)] (some 44) true), (.op .not [(.tmp 44)] (some 45) true)] true) (.cond (.tmp 45) (.seq (.region [(.op .mv [(.const (.bool false))] (some 2) true)] false) .ret) .skip)) (.seq (.region [(.op .mv [(.const (.int .i64 1))] (some 9) true)] false) (.seq (.region [(.op (.loadN 7) [(.tmp 6)] (some 46) true), (.op .mv [(.tmp 9)] (some 47) true), (.sc (.const (.fn 51 [])) [(.tmp 46), (.tmp 47)] (some 48) true), (.op .mv [(.tmp 48)] (some 9) true)] false) (.seq (.seq (.region [(.op .mv [(.tmp 9)] (some 49) true), (.op (.bin .lss) [(.tmp 49), (.const (.int .i64 0))] (some 50) true), (.op .mv [(.tmp 50)] (some 51) true), (.grp 51 false [(.op (.loadN 7) [(.tmp 7)] (some 52) true), (.op (.loadN 7) [(.tmp 4)] (some 53) true), (.pc (.const (.fn 47 [])) [(.tmp 52), (.tmp 53)] (some 54) true), (.op .not [(.tmp 54)] (some 55) true)] 55 56 true), (.op .mv [(.tmp 56)] (some 57) true), (.grp 57 false [(.op .mv [(.tmp 8)] (some 58) true), (.op .mv [(.tmp 5)] (some 59) true), (.op (.bin .neq) [(.tmp 58), (.tmp 59)] (some 60) true)] 60 61 true)] false) (.cond (.tmp 61) (.seq (.region [(.op .mv [(.const (.bool false))] (some 2) true)] false) .ret) .skip)) (.seq (.region [(.op .mv [(.const (.int .i64 1))] (some 10) true)] false) (.seq (.region [(.op (.loadN 7) [(.tmp 7)] (some 62) true), (.op .mv [(.tmp 10)] (some 63) true), (.sc (.const (.fn 51 [])) [(.tmp 62), (.tmp 63)] (some 64) true), (.op .mv [(.tmp 64)] (some 10) true)] false) (.seq (.region [(.op .mv [(.const (.int .i64 1))] (some 11) true)] false) (.seq (.region [(.op (.loadN 7) [(.tmp 7)] (some 65) true), (.op .mv [(.tmp 11)] (some 66) true), (.pc (.const (.fn 64 [])) [(.tmp 65), (.tmp 66)] (some 67) true), (.op .mv [(.tmp 67)] (some 11) true)] false) (.seq (.seq (.region [(.op .mv [(.tmp 11)] (some 68) true), (.op (.bin .lss) [(.tmp 68), (.const (.int .i64 0))] (some 69) true)] false) (.cond (.tmp 69) (.seq (.region [(.op .mv [(.const (.bool false))] (some 2) true)] false) .ret) .skip)) (.seq (.seq (.region [(.op .mv [(.tmp 11)] (some 70) true), (.op .mv [(.tmp 10)] (some 71) true), (.op (.bin .neq) [(.tmp 70), (.tmp 71)] (some 72) true)] false) (.cond (.tmp 72) (.seq (.region [(.op .mv [(.const (.bool false))] (some 2) true)] false) .ret) .skip)) (.seq (.region [(.op (.loadN 7) [(.tmp 1)] (some 74) true), (.pc (.const (.fn 45 [])) [(.tmp 74)] (some 75) true), (.pc (.const (.fn 96 [])) [(.tmp 75)] (some 76) true), (.op .mv [(.tmp 76)] (some 73) true), (.op (.ext 0) [(.tmp 73)] (some 77) true), (.op (.ext 1) [(.tmp 73)] (some 78) true), (.op (.alloc (.agg [.nil, .nil, .nil, .nil, .nil, .nil, (.int .i64 0)])) [] (some 12) true), (.op (.storeN 7) [(.tmp 12), (.tmp 77)] none true), (.op .mv [(.tmp 78)] (some 13) true)] false) (.seq (.seq (.region [(.op (.loadN 7) [(.tmp 12)] (some 79) true), (.op (.loadN 7) [(.tmp 4)] (some 80) true), (.pc (.const (.fn 47 [])) [(.tmp 79), (.tmp 80)] (some 81) true), (.op .not [(.tmp 81)] (some 82) true), (.op .mv [(.tmp 82)] (some 83) true), (.grp 83 false [(.op .mv [(.tmp 13)] (some 84) true), (.op .mv [(.tmp 5)] (some 85) true), (.op (.bin .neq) [(.tmp 84), (.tmp 85)] (some 86) true)] 86 87 true)] false) (.cond (.tmp 87) (.seq (.region [(.op .mv [(.const (.bool false))] (some 2) true)] false) .ret) .skip)) (.seq (.region [(.op .mv [(.const (.int .i64 1))] (some 11) true)] false) (.seq (.region [(.op (.loadN 7) [(.tmp 7)] (some 88) true), (.op .mv [(.tmp 11)] (some 89) true), (.pc (.const (.fn 64 [])) [(.tmp 88), (.tmp 89)] (some 90) true), (.op .mv [(.tmp 90)] (some 11) true)] false) (.seq (.seq (.region [(.op .mv [(.tmp 11)] (some 91) true), (.op (.bin .lss) [(.tmp 91), (.const (.int .i64 0))] (some 92) true)] false) (.cond (.tmp 92) (.seq (.region [(.op .mv [(.const (.bool false))] (some 2) true)] false) .ret) .skip)) (.seq (.seq (.region [(.op .mv [(.tmp 11)] (some 93) true), (.op .mv [(.tmp 10)] (some 94) true), (.op (.bin .neq) [(.tmp 93), (.tmp 94)] (some 95) true)] false) (.cond (.tmp 95) (.seq (.region [(.op .mv [(.const (.bool false))] (some 2) true)] false) .ret) .skip)) (.seq (.region [(.op .mv [(.const (.bool true))] (some 2) true)] false) .ret))))))))))))))))))))))))), [(.tmp 2)], 96, .one, none⟩
theorem t22 : T 22 = some F22 := tab Try.func22 (by kernel_rfl) rfl
-- spec.PutDep
def F86 : EF := ⟨(.seq (.region [(.op (.box 7) [(.tmp 0)] (some 2) true), (.op (.box 11) [(.tmp 1)] (some 3) true), (.op (.alloc (.agg [.nil, .nil, .nil, .nil, .nil, .nil, (.int .i64 0)])) [] (some 4) true), (.op .mv [(.const (.int .i64 0))] (some 5) true)] false) (.seq (.region [(.op (.loadN 7) [(.tmp 2)] (some 7) true), (.pc (.const (.fn 183 [])) [(.tmp 7)] (some 8) true), (.op (.alloc (.agg [.nil, .nil, .nil, .nil, .nil, .nil, (.int .i64 0)])) [] (some 6) true), (.op (.storeN 7) [(.tmp 6), (.tmp 8)] none true)] false) (.seq (.seq (.region [(.op (.faddr 5) [(.tmp 2)] (some 9) true), (.op .load1 [(.tmp 9)] (some 10) true), (.op .len [(.tmp 10)] (some 11) true), (.op (.bin .geq) [(.tmp 11), (.const (.int .i64 40))] (some 12) true), (.op .mv [(.tmp 12)] (some 13) true), (.grp 13 false [(.op (.faddr 6) [(.tmp 2)] (some 14) true), (.op .load1 [(.tmp 14)] (some 15) true), (.pc (.const (.fn 116 [])) [(.tmp 15), (.const (.int .i64 1)), (.const (.int .i64 99999))] (some 16) true), (.op .not [(.tmp 16)] (some 17) true)] 17 18 true)] false) (.cond (.tmp 18) (.seq (.view [.opn 6 none none 0 1, .opn 6 none none 1 1, .opn 6 none none 2 3, .opn 6 none none 3 3, .opn 6 none none 4 1, .opn 6 none none 5 11] (.region [(.op (.loadN 7) [(.tmp 6)] (some 19) true), (.op (.storeN 7) [(.tmp 4), (.tmp 19)] none true), (.op .mv [(.const (.int .i64 0))] (some 5) true)] false)) .ret) .skip)) (.seq (.region [(.op (.faddr 6) [(.tmp 2)] (some 20) true), (.op .load1 [(.tmp 20)] (some 21) true), (.op (.faddr 0) [(.tmp 3)] (some 22) true), (.op .store1 [(.tmp 22), (.tmp 21)] none true)] false) (.seq (.region [(.op (.bslice 1 0 (.int .i64 0) []) [] (some 23) true), (.op (.faddr 10) [(.tmp 3)] (some 24) true), (.op .load1 [(.tmp 24)] (some 25) true), (.op (.append 1 8) [(.tmp 23), (.tmp 25)] (some 26) true), (.op (.faddr 10) [(.tmp 3)] (some 27) true), (.op .store1 [(.tmp 27), (.tmp 26)] none true)] false) (.seq (.view [.opn 6 none none 5 11, .opn 3 none none 10 1] (.region [(.op (.faddr 5) [(.tmp 6)] (some 28) true), (.op .load1 [(.tmp 28)] (some 29) true), (.op (.loadN 11) [(.tmp 3)] (some 30) true), (.op (.bslice 11 1 (.agg [(.int .i64 0), (.int .i64 0), (.int .i64 0), (.int .i64 0), (.int .i64 0), (.int .i64 0), (.str ⟨#[]⟩), (.bool false), (.bool false), (.int .i64 0), .nil]) [0]) [(.tmp 30)] (some 31) true), (.op (.append 11 104) [(.tmp 29), (.tmp 31)] (some 32) true), (.op (.faddr 5) [(.tmp 6)] (some 33) true), (.op .store1 [(.tmp 33), (.tmp 32)] none true)] false)) (.seq (.region [(.op (.faddr 6) [(.tmp 2)] (some 34) true), (.op .load1 [(.tmp 34)] (some 35) true), (.op (.bin .add) [(.tmp 35), (.const (.int .i64 1))] (some 36) true), (.op (.faddr 6) [(.tmp 6)] (some 37) true), (.op .store1 [(.tmp 37), (.tmp 36)] none true)] false) (.seq (.view [.opn 6 none none 0 1, .opn 6 none none 1 1, .opn 6 none none 2 3, .opn 6 none none 3 3, .opn 6 none none 4 1, .opn 6 none none 5 11] (.regL [(.op (.loadN 7) [(.tmp 6)] (some 38) true), (.op (.faddr 0) [(.tmp 3)] (some 39) false), (.op .load1 [(.tmp 39)] (some 40) false), (.op (.storeN 7) [(.tmp 4), (.tmp 38)] none true), (.op .mv [(.tmp 40)] (some 5) true)] [3, 39] [4])) .ret)))))))), [(.cell 4 (.loadN 7)), (.tmp 5)], 41, .one, none⟩
theorem t86 : T 86 = some F86 := tab Try.func86 (by kernel_rfl) rfl
-- impl.PutDep
def F88 : EF := ⟨(.seq (.region [(.op (.box 7) [(.tmp 0)] (some 2) true), (.op (.box 11) [(.tmp 1)] (some 3) true), (.op (.alloc (.agg [.nil, .nil, .nil, .nil, .nil, .nil, (.int .i64 0)])) [] (some 4) true), (.op .mv [(.const (.int .i64 0))] (some 5) true)] false) (.seq (.region [(.op (.loadN 7) [(.tmp 2)] (some 8) true), (.pc (.const (.fn 185 [])) [(.tmp 8)] (some 9) true), (.op (.alloc (.agg [.nil, .nil, .nil, .nil, .nil, .nil, (.int .i64 0)])) [] (some 6) true), (.op (.storeN 7) [(.tmp 6), (.tmp 9)] none true)] false) (.seq (.view [.opn 6 none none 0 1, .opn 6 none none 1 1, .opn 6 none none 2 3, .opn 6 none none 3 3, .opn 6 none none 4 1, .opn 6 none none 5 11] (.region [(.op (.loadN 11) [(.tmp 3)] (some 10) true), (.sc (.const (.fn 186 [])) [(.tmp 6), (.tmp 10)] (some 11) true), (.op .mv [(.tmp 11)] (some 7) true)] false)) (.seq (.view [.opn 6 none none 0 1, .opn 6 none none 1 1, .opn 6 none none 2 3, .opn 6 none none 3 3, .opn 6 none none 4 1, .opn 6 none none 5 11] (.region [(.op (.loadN 7) [(.tmp 6)] (some 12) true), (.op .mv [(.tmp 7)] (some 13) true), (.op (.storeN 7) [(.tmp 4), (.tmp 12)] none true), (.op .mv [(.tmp 13)] (some 5) true)] false)) .ret)))), [(.cell 4 (.loadN 7)), (.tmp 5)], 14, .one, none⟩
theorem t88 : T 88 = some F88 := tab Try.func88 (by kernel_rfl) rfl
-- spec.TakeBlock
def F93 : EF := ⟨(.seq (.region [(.op (.box 7) [(.tmp 0)] (some 1) true), (.op (.alloc (.agg [.nil, .nil, .nil, .nil, .nil, .nil, (.int .i64 0)])) [] (some 2) true), (.op .mv [(.const (.int .i64 0))] (some 3) true)] false) (.seq (.region [(.op (.loadN 7) [(.tmp 1)] (some 6) true), (.pc (.const (.fn 183 [])) [(.tmp 6)] (some 7) true), (.op (.alloc (.agg [.nil, .nil, .nil, .nil, .nil, .nil, (.int .i64 0)])) [] (some 4) true), (.op (.storeN 7) [(.tmp 4), (.tmp 7)] none true)] false) (.seq (.region [(.op (.faddr 0) [(.tmp 1)] (some 8) true), (.op (.faddr 0) [(.tmp 8)] (some 9) true), (.op (.faddr 0) [(.tmp 9)] (some 10) true), (.op .load1 [(.tmp 10)] (some 11) true), (.pc (.const (.fn 188 [])) [(.tmp 11)] (some 12) true), (.op .mv [(.tmp 12)] (some 5) true)] false) (.seq (.seq (.region [(.op .mv [(.tmp 5)] (some 13) true), (.op (.bin .eql) [(.tmp 13), (.const (.int .i64 0))] (some 14) true)] false) (.cond (.tmp 14) (.seq (.view [.opn 4 none none 0 1, .opn 4 none none 1 1, .opn 4 none none 2 3, .opn 4 none none 3 3, .opn 4 none none 4 1, .opn 4 none none 5 11] (.region [(.op (.loadN 7) [(.tmp 4)] (some 15) true), (.op (.storeN 7) [(.tmp 2), (.tmp 15)] none true), (.op .mv [(.const (.int .i64 0))] (some 3) true)] false)) .ret) .skip)) (.seq (.view [.opn 4 none none 0 1] (.region [(.op (.faddr 0) [(.tmp 4)] (some 16) true), (.op (.faddr 0) [(.tmp 16)] (some 17) true), (.op (.faddr 0) [(.tmp 17)] (some 18) true), (.op .load1 [(.tmp 18)] (some 19) true), (.op .mv [(.tmp 5)] (some 20) true), (.op (.bin .sub) [(.tmp 20), (.const (.int .i64 1))] (some 21) true), (.op (.iaddr 1) [(.tmp 19), (.tmp 21)] (some 22) true), (.op .store1 [(.tmp 22), (.const (.bool true))] none true)] false)) (.seq (.view [.opn 4 none none 4 1] (.region [(.sc (.const (.fn 189 [])) [(.tmp 4), (.const (.int .i64 0))] (some 23) true)] false)) (.seq (.view [.opn 4 none none 0 1, .opn 4 none none 1 1, .opn 4 none none 2 3, .opn 4 none none 3 3, .opn 4 none none 4 1, .opn 4 none none 5 11] (.region [(.op (.loadN 7) [(.tmp 4)] (some 24) true), (.op .mv [(.tmp 5)] (some 25) true), (.op (.storeN 7) [(.tmp 2), (.tmp 24)] none true), (.op .mv [(.tmp 25)] (some 3) true)] false)) .ret))))))), [(.cell 2 (.loadN 7)), (.tmp 3)], 26, .one, none⟩
theorem t93 : T 93 = some F93 := tab Try.func93 (by kernel_rfl) rfl
-- impl.TakeBlock
def F94 : EF := ⟨(.seq (.region [(.op (.box 7) [(.tmp 0)] (some 1) true), (.op (.alloc (.agg [.nil, .nil, .nil, .nil, .nil, .nil, (.int .i64 0)])) [] (some 2) true), (.op .mv [(.const (.int .i64 0))] (some 3) true)] false) (.seq (.region [(.op (.loadN 7) [(.tmp 1)] (some 6) true), (.pc (.const (.fn 185 [])) [(.tmp 6)] (some 7) true), (.op (.alloc (.agg [.nil, .nil, .nil, .nil, .nil, .nil, (.int .i64 0)])) [] (some 4) true), (.op (.storeN 7) [(.tmp 4), (.tmp 7)] none true)] false) (.seq (.view [.opn 4 none none 0 1, .opn 4 none none 4 1] (.region [(.op (.faddr 0) [(.tmp 4)] (some 8) true), (.op (.faddr 0) [(.tmp 8)] (some 9) true), (.op (.faddr 0) [(.tmp 9)] (some 10) true), (.op .load1 [(.tmp 10)] (some 11) true), (.sc (.const (.fn 190 [])) [(.tmp 4), (.tmp 11)] (some 12) true), (.op .mv [(.tmp 12)] (some 5) true)] false)) (.seq (.view [.opn 4 none none 0 1, .opn 4 none none 1 1, .opn 4 none none 2 3, .opn 4 none none 3 3, .opn 4 none none 4 1, .opn 4 none none 5 11] (.region [(.op (.loadN 7) [(.tmp 4)] (some 13) true), (.op .mv [(.tmp 5)] (some 14) true), (.op (.storeN 7) [(.tmp 2), (.tmp 13)] none true), (.op .mv [(.tmp 14)] (some 3) true)] false)) .ret)))), [(.cell 2 (.loadN 7)), (.tmp 3)], 15, .one, none⟩
theorem t94 : T 94 = some F94 := tab Try.func94 (by kernel_rfl) rfl
-- spec.TakeIno
def F95 : EF := ⟨(.seq (.region [(.op (.box 7) [(.tmp 0)] (some 1) true), (.op (.alloc (.agg [.nil, .nil, .nil, .nil, .nil, .nil, (.int .i64 0)])) [] (some 2) true), (.op .mv [(.const (.int .i64 0))] (some 3) true)] false) (.seq (.region [(.op (.loadN 7) [(.tmp 1)] (some 6) true), (.pc (.const (.fn 183 [])) [(.tmp 6)] (some 7) true), (.op (.alloc (.agg [.nil, .nil, .nil, .nil, .nil, .nil, (.int .i64 0)])) [] (some 4) true), (.op (.storeN 7) [(.tmp 4), (.tmp 7)] none true)] false) (.seq (.region [(.op (.faddr 0) [(.tmp 1)] (some 8) true), (.op (.faddr 0) [(.tmp 8)] (some 9) true), (.op (.faddr 1) [(.tmp 9)] (some 10) true), (.op .load1 [(.tmp 10)] (some 11) true), (.pc (.const (.fn 188 [])) [(.tmp 11)] (some 12) true), (.op .mv [(.tmp 12)] (some 5) true)] false) (.seq (.seq (.region [(.op .mv [(.tmp 5)] (some 13) true), (.op (.bin .eql) [(.tmp 13), (.const (.int .i64 0))] (some 14) true)] false) (.cond (.tmp 14) (.seq (.view [.opn 4 none none 0 1, .opn 4 none none 1 1, .opn 4 none none 2 3, .opn 4 none none 3 3, .opn 4 none none 4 1, .opn 4 none none 5 11] (.region [(.op (.loadN 7) [(.tmp 4)] (some 15) true), (.op (.storeN 7) [(.tmp 2), (.tmp 15)] none true), (.op .mv [(.const (.int .i64 0))] (some 3) true)] false)) .ret) .skip)) (.seq (.view [.opn 4 none none 1 1] (.region [(.op (.faddr 0) [(.tmp 4)] (some 16) true), (.op (.faddr 0) [(.tmp 16)] (some 17) true), (.op (.faddr 1) [(.tmp 17)] (some 18) true), (.op .load1 [(.tmp 18)] (some 19) true), (.op .mv [(.tmp 5)] (some 20) true), (.op (.bin .sub) [(.tmp 20), (.const (.int .i64 1))] (some 21) true), (.op (.iaddr 1) [(.tmp 19), (.tmp 21)] (some 22) true), (.op .store1 [(.tmp 22), (.const (.bool true))] none true)] false)) (.seq (.view [.opn 4 none none 4 1] (.region [(.sc (.const (.fn 189 [])) [(.tmp 4), (.const (.int .i64 0))] (some 23) true)] false)) (.seq (.view [.opn 4 none none 0 1, .opn 4 none none 1 1, .opn 4 none none 2 3, .opn 4 none none 3 3, .opn 4 none none 4 1, .opn 4 none none 5 11] (.region [(.op (.loadN 7) [(.tmp 4)] (some 24) true), (.op .mv [(.tmp 5)] (some 25) true), (.op (.storeN 7) [(.tmp 2), (.tmp 24)] none true), (.op .mv [(.tmp 25)] (some 3) true)] false)) .ret))))))), [(.cell 2 (.loadN 7)), (.tmp 3)], 26, .one, none⟩
theorem t95 : T 95 = some F95 := tab Try.func95 (by kernel_rfl) rfl
-- impl.TakeIno
def F96 : EF := ⟨(.seq (.region [(.op (.box 7) [(.tmp 0)] (some 1) true), (.op (.alloc (.agg [.nil, .nil, .nil, .nil, .nil, .nil, (.int .i64 0)])) [] (some 2) true), (.op .mv [(.const (.int .i64 0))] (some 3) true)] false) (.seq (.region [(.op (.loadN 7) [(.tmp 1)] (some 6) true), (.pc (.const (.fn 185 [])) [(.tmp 6)] (some 7) true), (.op (.alloc (.agg [.nil, .nil, .nil, .nil, .nil, .nil, (.int .i64 0)])) [] (some 4) true), (.op (.storeN 7) [(.tmp 4), (.tmp 7)] none true)] false) (.seq (.view [.opn 4 none none 1 1, .opn 4 none none 4 1] (.region [(.op (.faddr 0) [(.tmp 4)] (some 8) true), (.op (.faddr 0) [(.tmp 8)] (some 9) true), (.op (.faddr 1) [(.tmp 9)] (some 10) true), (.op .load1 [(.tmp 10)] (some 11) true), (.sc (.const (.fn 190 [])) [(.tmp 4), (.tmp 11)] (some 12) true), (.op .mv [(.tmp 12)] (some 5) true)] false)) (.seq (.view [.opn 4 none none 0 1, .opn 4 none none 1 1, .opn 4 none none 2 3, .opn 4 none none 3 3, .opn 4 none none 4 1, .opn 4 none none 5 11] (.region [(.op (.loadN 7) [(.tmp 4)] (some 13) true), (.op .mv [(.tmp 5)] (some 14) true), (.op (.storeN 7) [(.tmp 2), (.tmp 13)] none true), (.op .mv [(.tmp 14)] (some 3) true)] false)) .ret)))), [(.cell 2 (.loadN 7)), (.tmp 3)], 15, .one, none⟩
theorem t96 : T 96 = some F96 := tab Try.func96 (by kernel_rfl) rfl
def H183_3 : List Vw := [.opn 3 none none 4 1, .opn 3 none none 5 11, .tidy [1, 2, 3, 4] [(1, none), (2, none), (3, none), (4, none), (3, some 5)]]
theorem h183_3 (b : Nat) (s : St) : vwL b H183_3 s = vwL b [.opn 3 none none 4 1, .opn 3 none none 5 11, .tidy [1, 2, 3, 4] [(1, none), (2, none), (3, none), (4, none), (3, some 5)]] s := rfl
def L183_3 : EC := (.seq (.seq (.region [(.op .mv [(.tmp 4)] (some 16) true), (.op (.faddr 5) [(.tmp 1)] (some 17) true), (.op .load1 [(.tmp 17)] (some 18) true), (.op .len [(.tmp 18)] (some 19) true), (.op (.bin .lss) [(.tmp 16), (.tmp 19)] (some 20) true)] false) (.cond (.tmp 20) .skip (.exit 0))) (.seq (.block 1 (.seq (.region [(.op (.faddr 5) [(.tmp 1)] (some 23) true), (.op .load1 [(.tmp 23)] (some 24) true), (.op .mv [(.tmp 4)] (some 25) true), (.op (.iaddr 11) [(.tmp 24), (.tmp 25)] (some 26) true), (.op (.loadN 11) [(.tmp 26)] (some 27) true), (.op (.alloc (.agg [(.int .i64 0), (.int .i64 0), (.int .i64 0), (.int .i64 0), (.int .i64 0), (.int .i64 0), (.str ⟨#[]⟩), (.bool false), (.bool false), (.int .i64 0), .nil])) [] (some 5) true), (.op (.storeN 11) [(.tmp 5), (.tmp 27)] none true)] false) (.seq (.region [(.op (.bslice 1 0 (.int .i64 0) []) [] (some 28) true), (.op (.faddr 10) [(.tmp 5)] (some 29) true), (.op .load1 [(.tmp 29)] (some 30) true), (.op (.append 1 8) [(.tmp 28), (.tmp 30)] (some 31) true), (.op (.faddr 10) [(.tmp 5)] (some 32) true), (.op .store1 [(.tmp 32), (.tmp 31)] none true)] false) (.view [.opn 5 none none 10 1] (.region [(.op (.faddr 5) [(.tmp 3)] (some 33) true), (.op .load1 [(.tmp 33)] (some 34) true), (.op (.loadN 11) [(.tmp 5)] (some 35) true), (.op (.bslice 11 1 (.agg [(.int .i64 0), (.int .i64 0), (.int .i64 0), (.int .i64 0), (.int .i64 0), (.int .i64 0), (.str ⟨#[]⟩), (.bool false), (.bool false), (.int .i64 0), .nil]) [0]) [(.tmp 35)] (some 36) true), (.op (.append 11 104) [(.tmp 34), (.tmp 36)] (some 37) true), (.op (.faddr 5) [(.tmp 3)] (some 38) true), (.op .store1 [(.tmp 38), (.tmp 37)] none true)] false))))) (.region [(.op .mv [(.tmp 4)] (some 21) true), (.op (.bin .add) [(.tmp 21), (.const (.int .i64 1))] (some 22) true), (.op .mv [(.tmp 22)] (some 4) true)] false)))
-- spec.l08Copy
def F183 : EF := ⟨(.seq (.region [(.op (.box 7) [(.tmp 0)] (some 1) true), (.op (.alloc (.agg [.nil, .nil, .nil, .nil, .nil, .nil, (.int .i64 0)])) [] (some 2) true)] false) (.seq (.region [(.op (.faddr 0) [(.tmp 1)] (some 6) false), (.op (.loadN 4) [(.tmp 6)] (some 7) false), (.pc (.const (.fn 158 [])) [(.tmp 7)] (some 8) false), (.op (.bslice 1 0 (.bool false) []) [] (some 9) false), (.op (.faddr 4) [(.tmp 1)] (some 10) false), (.op .load1 [(.tmp 10)] (some 11) false), (.op (.append 1 1) [(.tmp 9), (.tmp 11)] (some 12) false), (.op (.faddr 6) [(.tmp 1)] (some 13) false), (.op .load1 [(.tmp 13)] (some 14) false), (.op (.build [.nil, .nil, .nil, .nil, .nil, .nil, (.int .i64 0)] [(0, 4), (4, 1), (6, 1)]) [(.tmp 8), (.tmp 12), (.tmp 14)] (some 15) false), (.op (.alloc (.agg [.nil, .nil, .nil, .nil, .nil, .nil, (.int .i64 0)])) [] (some 3) false), (.op (.storeN 7) [(.tmp 3), (.tmp 15)] none true)] true) (.seq (.seq (.region [(.op .mv [(.const (.int .i64 0))] (some 4) true)] false) (.block 0 (.loop H183_3 L183_3))) (.seq (.view [.opn 3 none none 0 1, .opn 3 none none 1 1, .opn 3 none none 2 3, .opn 3 none none 3 3, .opn 3 none none 4 1, .opn 3 none none 5 11] (.region [(.op (.loadN 7) [(.tmp 3)] (some 39) true), (.op (.storeN 7) [(.tmp 2), (.tmp 39)] none true)] false)) .ret)))), [(.cell 2 (.loadN 7))], 40, (.agg [.one, .one, .one, .one, .one, .row 11 .one, .one]), none⟩
theorem t183 : T 183 = some F183 := tab Try.func183 (by kernel_rfl) rfl
-- impl.copyMem
def F185 : EF := ⟨(.seq (.region [(.op (.box 7) [(.tmp 0)] (some 1) true), (.op (.alloc (.agg [.nil, .nil, .nil, .nil, .nil, .nil, (.int .i64 0)])) [] (some 2) true)] false) (.seq (.region [(.op (.faddr 0) [(.tmp 1)] (some 3) false), (.op (.loadN 4) [(.tmp 3)] (some 4) false), (.pc (.const (.fn 159 [])) [(.tmp 4)] (some 5) false), (.op (.faddr 4) [(.tmp 1)] (some 6) false), (.op .load1 [(.tmp 6)] (some 7) false), (.pc (.const (.fn 238 [])) [(.tmp 7)] (some 8) false), (.op (.faddr 5) [(.tmp 1)] (some 9) false), (.op .load1 [(.tmp 9)] (some 10) false), (.pc (.const (.fn 239 [])) [(.tmp 10)] (some 11) false), (.op (.faddr 6) [(.tmp 1)] (some 12) false), (.op .load1 [(.tmp 12)] (some 13) false), (.op (.build [.nil, .nil, .nil, .nil, .nil, .nil, (.int .i64 0)] [(0, 4), (4, 1), (5, 1), (6, 1)]) [(.tmp 5), (.tmp 8), (.tmp 11), (.tmp 13)] (some 14) true), (.op (.storeN 7) [(.tmp 2), (.tmp 14)] none true)] true) .ret)), [(.cell 2 (.loadN 7))], 15, .one, none⟩
theorem t185 : T 185 = some F185 := tab Try.func185 (by kernel_rfl) rfl
-- (*impl.Mem).put
def F186 : EF := ⟨(.seq (.region [(.op (.box 11) [(.tmp 1)] (some 3) true), (.op .mv [(.const (.int .i64 0))] (some 4) true)] false) (.seq (.seq (.region [(.op .mv [(.tmp 0)] (some 5) true), (.op .nilck [(.tmp 5)] (some 6) true), (.op (.loadN 7) [(.tmp 6)] (some 7) true), (.pc (.const (.fn 240 [])) [(.tmp 7)] (some 8) true), (.op .not [(.tmp 8)] (some 9) true)] false) (.cond (.tmp 9) (.seq (.region [(.op .mv [(.const (.int .i64 0))] (some 4) true)] false) .ret) .skip)) (.seq (.region [(.op .mv [(.tmp 0)] (some 10) true), (.op .nilck [(.tmp 10)] (some 11) true), (.op (.faddr 6) [(.tmp 11)] (some 12) true), (.op .load1 [(.tmp 12)] (some 13) true), (.op (.faddr 0) [(.tmp 3)] (some 14) true), (.op .store1 [(.tmp 14), (.tmp 13)] none true)] false) (.seq (.region [(.op .mv [(.tmp 0)] (some 15) false), (.op .mv [(.tmp 0)] (some 16) false), (.op .nilck [(.tmp 16)] (some 17) false), (.op (.faddr 5) [(.tmp 17)] (some 18) false), (.op .load1 [(.tmp 18)] (some 19) false), (.op (.loadN 11) [(.tmp 3)] (some 20) false), (.pc (.const (.fn 241 [])) [(.tmp 20)] (some 21) false), (.op (.bslice 11 1 (.agg [(.int .i64 0), (.int .i64 0), (.int .i64 0), (.int .i64 0), (.int .i64 0), (.int .i64 0), (.str ⟨#[]⟩), (.bool false), (.bool false), (.int .i64 0), .nil]) [0]) [(.tmp 21)] (some 22) false), (.op (.append 11 104) [(.tmp 19), (.tmp 22)] (some 23) true), (.op .nilck [(.tmp 15)] (some 24) true), (.op (.faddr 5) [(.tmp 24)] (some 25) true), (.op .store1 [(.tmp 25), (.tmp 23)] none true)] true) (.seq (.region [(.op .mv [(.tmp 0)] (some 26) true), (.op .nilck [(.tmp 26)] (some 27) true), (.op (.faddr 6) [(.tmp 27)] (some 28) true), (.op .load1 [(.tmp 28)] (some 29) true), (.op (.bin .add) [(.tmp 29), (.const (.int .i64 1))] (some 30) true), (.op .nilck [(.tmp 26)] (some 31) true), (.op (.faddr 6) [(.tmp 31)] (some 32) true), (.op .store1 [(.tmp 32), (.tmp 30)] none true)] false) (.seq (.region [(.op (.faddr 0) [(.tmp 3)] (some 33) true), (.op .load1 [(.tmp 33)] (some 34) true), (.op .mv [(.tmp 34)] (some 4) true)] false) .ret)))))), [(.tmp 4)], 35, .one, none⟩
theorem t186 : T 186 = some F186 := tab Try.func186 (by kernel_rfl) rfl
def H188_2 : List Vw := [.tidy [0, 3] [(0, none), (3, none)]]
theorem h188_2 (b : Nat) (s : St) : vwL b H188_2 s = vwL b [.tidy [0, 3] [(0, none), (3, none)]] s := rfl
def L188_2 : EC := (.seq (.seq (.region [(.op .mv [(.tmp 3)] (some 4) true), (.op .mv [(.tmp 0)] (some 5) true), (.op .len [(.tmp 5)] (some 6) true), (.op (.bin .lss) [(.tmp 4), (.tmp 6)] (some 7) true)] false) (.cond (.tmp 7) .skip (.exit 0))) (.seq (.block 1 (.seq (.region [(.op .mv [(.tmp 0)] (some 10) true), (.op .mv [(.tmp 3)] (some 11) true), (.op (.iaddr 1) [(.tmp 10), (.tmp 11)] (some 12) true), (.op .load1 [(.tmp 12)] (some 13) true), (.op .not [(.tmp 13)] (some 14) true)] false) (.cond (.tmp 14) (.seq (.region [(.op .mv [(.tmp 3)] (some 15) true), (.op (.bin .add) [(.tmp 15), (.const (.int .i64 1))] (some 16) true), (.op .mv [(.tmp 16)] (some 2) true)] false) .ret) .skip))) (.region [(.op .mv [(.tmp 3)] (some 8) true), (.op (.bin .add) [(.tmp 8), (.const (.int .i64 1))] (some 9) true), (.op .mv [(.tmp 9)] (some 3) true)] false)))
-- spec.FirstFree
def F188 : EF := ⟨(.seq (.region [(.op .mv [(.const (.int .i64 0))] (some 2) true)] false) (.seq (.seq (.region [(.op .mv [(.const (.int .i64 0))] (some 3) true)] false) (.block 0 (.loop H188_2 L188_2))) (.seq (.region [(.op .mv [(.const (.int .i64 0))] (some 2) true)] false) .ret))), [(.tmp 2)], 17, .one, none⟩
theorem t188 : T 188 = some F188 := tab Try.func188 (by kernel_rfl) rfl
-- spec.l08Mark
def F189 : EF := ⟨(.seq (.region [(.op .mv [(.tmp 1)] (some 4) true), (.op (.bin .geq) [(.tmp 4), (.const (.int .i64 0))] (some 5) true), (.op .mv [(.tmp 5)] (some 6) true), (.grp 6 true [(.op .mv [(.tmp 1)] (some 7) true), (.op .mv [(.tmp 0)] (some 8) true), (.op .nilck [(.tmp 8)] (some 9) true), (.op (.faddr 4) [(.tmp 9)] (some 10) true), (.op .load1 [(.tmp 10)] (some 11) true), (.op .len [(.tmp 11)] (some 12) true), (.op (.bin .lss) [(.tmp 7), (.tmp 12)] (some 13) true)] 13 14 true)] false) (.cond (.tmp 14) (.region [(.op .mv [(.tmp 0)] (some 15) true), (.op .nilck [(.tmp 15)] (some 16) true), (.op (.faddr 4) [(.tmp 16)] (some 17) true), (.op .load1 [(.tmp 17)] (some 18) true), (.op .mv [(.tmp 1)] (some 19) true), (.op (.iaddr 1) [(.tmp 18), (.tmp 19)] (some 20) true), (.op .store1 [(.tmp 20), (.const (.bool true))] none true)] false) .skip)), [], 21, .one, none⟩
theorem t189 : T 189 = some F189 := tab Try.func189 (by kernel_rfl) rfl
-- (*impl.Mem).take
def F190 : EF := ⟨(.seq (.region [(.op .mv [(.const (.int .i64 0))] (some 4) true)] false) (.seq (.region [(.op .mv [(.tmp 1)] (some 6) true), (.pc (.const (.fn 244 [])) [(.tmp 6)] (some 7) true), (.op .mv [(.tmp 7)] (some 5) true)] false) (.seq (.seq (.region [(.op .mv [(.tmp 5)] (some 8) true), (.op (.bin .gtr) [(.tmp 8), (.const (.int .i64 0))] (some 9) true)] false) (.cond (.tmp 9) (.seq (.region [(.op .mv [(.tmp 1)] (some 10) true), (.op .mv [(.tmp 5)] (some 11) true), (.op (.bin .sub) [(.tmp 11), (.const (.int .i64 1))] (some 12) true), (.op (.iaddr 1) [(.tmp 10), (.tmp 12)] (some 13) true), (.op .store1 [(.tmp 13), (.const (.bool true))] none true)] false) (.region [(.op .mv [(.tmp 0)] (some 14) true), (.sc (.const (.fn 245 [])) [(.tmp 14), (.const (.int .i64 0))] (some 15) true)] false)) .skip)) (.seq (.region [(.op .mv [(.tmp 5)] (some 16) true), (.op .mv [(.tmp 16)] (some 4) true)] false) .ret)))), [(.tmp 4)], 17, .one, none⟩
theorem t190 : T 190 = some F190 := tab Try.func190 (by kernel_rfl) rfl
def H239_3 : List Vw := [.lay 3 11, .tidy [3, 7, 8, 9] [(3, none), (7, none), (8, none), (9, none)]]
theorem h239_3 (b : Nat) (s : St) : vwL b H239_3 s = vwL b [.lay 3 11, .tidy [3, 7, 8, 9] [(3, none), (7, none), (8, none), (9, none)]] s := rfl
def L239_3 : EC := (.seq (.region [(.op (.bin .lss) [(.tmp 9), (.tmp 8)] (some 10) true)] false) (.seq (.cond (.tmp 10) .skip (.exit 0)) (.seq (.block 1 (.seq (.region [(.op (.iaddr 11) [(.tmp 7), (.tmp 9)] (some 11) true), (.op (.loadN 11) [(.tmp 11)] (some 12) true), (.op (.alloc (.agg [(.int .i64 0), (.int .i64 0), (.int .i64 0), (.int .i64 0), (.int .i64 0), (.int .i64 0), (.str ⟨#[]⟩), (.bool false), (.bool false), (.int .i64 0), .nil])) [] (some 5) true), (.op (.storeN 11) [(.tmp 5), (.tmp 12)] none true)] false) (.region [(.op .mv [(.tmp 3)] (some 13) true), (.op (.loadN 11) [(.tmp 5)] (some 14) true), (.pc (.const (.fn 241 [])) [(.tmp 14)] (some 15) true), (.op (.bslice 11 1 (.agg [(.int .i64 0), (.int .i64 0), (.int .i64 0), (.int .i64 0), (.int .i64 0), (.int .i64 0), (.str ⟨#[]⟩), (.bool false), (.bool false), (.int .i64 0), .nil]) [0]) [(.tmp 15)] (some 16) true), (.op (.append 11 104) [(.tmp 13), (.tmp 16)] (some 17) true), (.op .mv [(.tmp 17)] (some 3) true)] false))) (.region [(.op (.bin .add) [(.tmp 9), (.const (.int .i64 1))] (some 18) true), (.op .mv [(.tmp 18)] (some 9) true)] false))))
-- impl.copyDeps
def F239 : EF := ⟨(.seq (.region [(.op .mv [(.const .nil)] (some 2) true)] false) (.seq (.region [(.op (.bslice 11 0 (.agg [(.int .i64 0), (.int .i64 0), (.int .i64 0), (.int .i64 0), (.int .i64 0), (.int .i64 0), (.str ⟨#[]⟩), (.bool false), (.bool false), (.int .i64 0), .nil]) []) [] (some 6) true), (.op .mv [(.tmp 6)] (some 3) true)] false) (.seq (.seq (.region [(.op .mv [(.tmp 0)] (some 7) true), (.op .len [(.tmp 7)] (some 8) true), (.op .mv [(.const (.int .i64 0))] (some 9) true)] false) (.block 0 (.loop H239_3 L239_3))) (.seq (.region [(.op .mv [(.tmp 3)] (some 19) true), (.op .mv [(.tmp 19)] (some 2) true)] false) .ret)))), [(.tmp 2)], 20, (.row 11 .one), none⟩
theorem t239 : T 239 = some F239 := tab Try.func239 (by kernel_rfl) rfl
-- impl.mayPut
def F240 : EF := ⟨(.seq (.region [(.op (.box 7) [(.tmp 0)] (some 1) true), (.op .mv [(.const (.bool false))] (some 2) true)] false) (.seq (.region [(.op (.faddr 5) [(.tmp 1)] (some 3) true), (.op .load1 [(.tmp 3)] (some 4) true), (.op .len [(.tmp 4)] (some 5) true), (.op (.bin .lss) [(.tmp 5), (.const (.int .i64 40))] (some 6) true), (.op .mv [(.tmp 6)] (some 7) true), (.grp 7 true [(.op (.faddr 6) [(.tmp 1)] (some 8) true), (.op .load1 [(.tmp 8)] (some 9) true), (.pc (.const (.fn 117 [])) [(.tmp 9), (.const (.int .i64 1)), (.const (.int .i64 99999))] (some 10) true)] 10 11 true), (.op .mv [(.tmp 11)] (some 2) true)] false) .ret)), [(.tmp 2)], 12, .one, none⟩
theorem t240 : T 240 = some F240 := tab Try.func240 (by kernel_rfl) rfl
-- impl.copyDep
def F241 : EF := ⟨(.seq (.region [(.op (.box 11) [(.tmp 0)] (some 1) true), (.op (.alloc (.agg [(.int .i64 0), (.int .i64 0), (.int .i64 0), (.int .i64 0), (.int .i64 0), (.int .i64 0), (.str ⟨#[]⟩), (.bool false), (.bool false), (.int .i64 0), .nil])) [] (some 2) true)] false) (.seq (.region [(.op (.faddr 10) [(.tmp 1)] (some 3) true), (.op .load1 [(.tmp 3)] (some 4) true), (.pc (.const (.fn 217 [])) [(.tmp 4)] (some 5) true), (.op (.faddr 10) [(.tmp 1)] (some 6) true), (.op .store1 [(.tmp 6), (.tmp 5)] none true)] false) (.seq (.region [(.op (.loadN 11) [(.tmp 1)] (some 7) true), (.op (.storeN 11) [(.tmp 2), (.tmp 7)] none true)] false) .ret))), [(.cell 2 (.loadN 11))], 8, .one, none⟩
theorem t241 : T 241 = some F241 := tab Try.func241 (by kernel_rfl) rfl
def H244_2 : List Vw := [.tidy [5, 6, 7] [(5, none), (6, none), (7, none)]]
theorem h244_2 (b : Nat) (s : St) : vwL b H244_2 s = vwL b [.tidy [5, 6, 7] [(5, none), (6, none), (7, none)]] s := rfl
def L244_2 : EC := (.seq (.region [(.op (.bin .lss) [(.tmp 7), (.tmp 6)] (some 8) true)] false) (.seq (.cond (.tmp 8) .skip (.exit 0)) (.seq (.block 1 (.seq (.region [(.op .mv [(.tmp 7)] (some 9) true), (.op (.iaddr 1) [(.tmp 5), (.tmp 7)] (some 10) true), (.op .load1 [(.tmp 10)] (some 11) true), (.op .mv [(.tmp 9)] (some 3) true), (.op .mv [(.tmp 11)] (some 4) true)] false) (.seq (.region [(.op .mv [(.tmp 4)] (some 12) true), (.op .not [(.tmp 12)] (some 13) true)] false) (.cond (.tmp 13) (.seq (.region [(.op .mv [(.tmp 3)] (some 14) true), (.op (.bin .add) [(.tmp 14), (.const (.int .i64 1))] (some 15) true), (.op .mv [(.tmp 15)] (some 2) true)] false) .ret) .skip)))) (.region [(.op (.bin .add) [(.tmp 7), (.const (.int .i64 1))] (some 16) true), (.op .mv [(.tmp 16)] (some 7) true)] false))))
-- impl.FirstFree
def F244 : EF := ⟨(.seq (.region [(.op .mv [(.const (.int .i64 0))] (some 2) true)] false) (.seq (.seq (.region [(.op .mv [(.tmp 0)] (some 5) true), (.op .len [(.tmp 5)] (some 6) true), (.op .mv [(.const (.int .i64 0))] (some 7) true)] false) (.block 0 (.loop H244_2 L244_2))) (.seq (.region [(.op .mv [(.const (.int .i64 0))] (some 2) true)] false) .ret))), [(.tmp 2)], 17, .one, none⟩
theorem t244 : T 244 = some F244 := tab Try.func244 (by kernel_rfl) rfl
-- (*impl.Mem).mark
def F245 : EF := ⟨(.seq (.region [(.op .mv [(.tmp 1)] (some 4) true), (.op .mv [(.tmp 0)] (some 5) true), (.op .nilck [(.tmp 5)] (some 6) true), (.op (.faddr 4) [(.tmp 6)] (some 7) true), (.op .load1 [(.tmp 7)] (some 8) true), (.op .len [(.tmp 8)] (some 9) true), (.op (.bin .sub) [(.tmp 9), (.const (.int .i64 1))] (some 10) true), (.pc (.const (.fn 117 [])) [(.tmp 4), (.const (.int .i64 0)), (.tmp 10)] (some 11) true)] false) (.cond (.tmp 11) (.region [(.op .mv [(.tmp 0)] (some 12) true), (.op .nilck [(.tmp 12)] (some 13) true), (.op (.faddr 4) [(.tmp 13)] (some 14) true), (.op .load1 [(.tmp 14)] (some 15) true), (.op .mv [(.tmp 1)] (some 16) true), (.op (.iaddr 1) [(.tmp 15), (.tmp 16)] (some 17) true), (.op .store1 [(.tmp 17), (.const (.bool true))] none true)] false) .skip)), [], 18, .one, none⟩
theorem t245 : T 245 = some F245 := tab Try.func245 (by kernel_rfl) rfl
end Go.Proofs.Ytaaajjinpppgeaa
