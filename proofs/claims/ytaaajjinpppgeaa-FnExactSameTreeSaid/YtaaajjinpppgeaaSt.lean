/- Nodes: copying, comparing, counting; both answers of SameTree are alike. Own work; no condition. -/
import Derived.Test.YtaaajjinpppgeaaFn
set_option linter.unusedVariables false
set_option linter.unusedSimpArgs false
set_option linter.unusedSectionVars false
namespace Go.Proofs.Ytaaajjinpppgeaa
open Go Go.Abs
set_option maxRecDepth 100000
structure Nd where
  path : ByteArray
  dir : Bool
  head : ByteArray
  tail : ByteArray
  deriving DecidableEq
def nd (x : Nd) : AV := .agg [.str x.path, .bool x.dir, .str x.head, .str x.tail]
theorem nd_cells (x : Nd) : (nd x).cells = [.str x.path, .bool x.dir, .str x.head, .str x.tail] := rfl
theorem nd_cool (x : Nd) : coolX (nd x) = true := rfl
theorem nd_len (x : Nd) : (nd x).cells.length = 4 := rfl
theorem nd_ice (x : Nd) : ice (nd x) = nd x := rfl
theorem nd_rf (x : Nd) : (nd x).roFree = true := rfl
theorem nd_no (x : Nd) : (nd x).cells.all noOwnC = true := rfl
theorem nd_mi (g : Bool → Nat → Nat → Nat → AV) (l : List Nd) : mapIdL g (l.map nd) = l.map nd := mi_map g nd l nd_cool
theorem nd_is (u : Bool → Nat → Nat → Nat → List Nat) (l : List Nd) : idsL u (l.map nd) = [] := is_map u nd l nd_cool
theorem nd_coR (l : List Nd) : coolR 4 (l.map nd) = true := coR_map 4 nd l nd_len nd_cool
theorem nd_ic (l : List Nd) : iceL (l.map nd) = l.map nd := ice_m nd l
theorem nd_rfL (l : List Nd) : roFreeL (l.map nd) = true := rf_map nd l nd_rf
theorem nd_noL (l : List Nd) : (l.map nd).all (fun x => x.cells.all noOwnC) = true := no_map nd l nd_no
attribute [go_sem] nd_cells nd_cool nd_ice nd_rf nd_mi nd_is nd_coR nd_ic nd_rfL nd_noL
theorem nd_eq (a b : Nd) : a = b ↔ a.path = b.path ∧ a.dir = b.dir ∧ a.head = b.head ∧ a.tail = b.tail := by
  cases a; cases b; simp
theorem beq_dec (x y : Bool) : (x == y) = decide (x = y) := by cases x <;> cases y <;> rfl
/-- Small enough in all its parts. -/
def Nd.ok (x : Nd) : Prop := x.path.size ≤ maxLen ∧ x.head.size ≤ maxLen ∧ x.tail.size ≤ maxLen

theorem e122 (a1 : ByteArray) (a2 : Bool) (a3 a4 b1 : ByteArray) (b2 : Bool) (b3 b4 : ByteArray) :
    E T 122 [.agg [.str a1, .bool a2, .str a3, .str a4], .agg [.str b1, .bool b2, .str b3, .str b4]] [] = some (.bool (decide (a1 = b1 ∧ a2 = b2 ∧ a3 = b3 ∧ a4 = b4)), []) := by
  rw [E_eq t122 (Nat.le_of_ble_eq_true rfl)]
  simp only [F122, go_sem, seval, bnd_ite, beq_dec]
  by_cases h1 : a1 = b1 <;> by_cases h2 : a2 = b2 <;> by_cases h3 : a3 = b3 <;> by_cases h4 : a4 = b4 <;> simp [h1, h2, h3, h4]

theorem t37 : T 37 = some (Feq 4 4 122) := table_at' Try.func37 (by kernel_rfl)
theorem t33 : T 33 = some (Fsz 4 4 119) := table_at' Try.func33 (by kernel_rfl)
theorem t35 : T 35 = some (Fto 4 56 (.agg [.str ⟨#[]⟩, .bool false, .str ⟨#[]⟩, .str ⟨#[]⟩]) 4 120) := table_at' Try.func35 (by kernel_rfl)
theorem e37 (xs ys : List Nd) (ha : xs.length ≤ maxLen) : E T 37 [.ro 4 (xs.map nd), .ro 4 (ys.map nd)] [] = some (.bool (decide (xs = ys)), []) :=
  geq t37 (fun _ => rfl) (fun _ => Nat.le_refl _) (fun _ => rfl) (fun _ => rfl) (fun x y => by
    show E T 122 [.agg [.str x.path, .bool x.dir, .str x.head, .str x.tail], .agg [.str y.path, .bool y.dir, .str y.head, .str y.tail]] [] = _
    rw [e122]; congr 3; simp only [nd_eq]) xs ys ha

theorem e119 (a1 : ByteArray) (a2 : Bool) (a3 a4 : ByteArray) (n : Int) (h0 : 0 ≤ n) (hn : n ≤ 1048576) (h1 : a1.size ≤ maxLen) (h3 : a3.size ≤ maxLen) (h4 : a4.size ≤ maxLen) :
    ∃ r : Int, E T 119 [.agg [.str a1, .bool a2, .str a3, .str a4], .int .i64 n] [] = some (.int .i64 r, []) ∧ -1 ≤ r ∧ r ≤ n := by
  rw [E_eq t119 (Nat.le_of_ble_eq_true rfl)]
  simp only [F119, go_sem, seval, bnd_ite]
  unfold maxLen at h1 h3 h4
  rw [w_i64 (n - (a1.size : Int)) (by omega)]
  by_cases c1 : n - (a1.size : Int) < 0
  · rw [if_pos c1]; exact ⟨_, rfl, by omega, by omega⟩
  rw [if_neg c1, w_i64 (n - (a1.size : Int) - (a3.size : Int)) (by omega)]
  by_cases c2 : n - (a1.size : Int) - (a3.size : Int) < 0
  · rw [if_pos c2]; exact ⟨_, rfl, by omega, by omega⟩
  rw [if_neg c2, w_i64 (n - (a1.size : Int) - (a3.size : Int) - (a4.size : Int)) (by omega)]
  by_cases c3 : n - (a1.size : Int) - (a3.size : Int) - (a4.size : Int) < 0
  · rw [if_pos c3]; exact ⟨_, rfl, by omega, by omega⟩
  rw [if_neg c3]; exact ⟨_, rfl, by omega, by omega⟩


theorem e33 (l : List Nd) (n : Int) (h0 : 0 ≤ n) (hn : n ≤ 1048576) (hl : l.length ≤ maxLen) (hok : ∀ x ∈ l, x.ok) :
    ∃ r : Int, E T 33 [.ro 4 (l.map nd), .int .i64 n] [] = some (.int .i64 r, []) ∧ -1 ≤ r ∧ r ≤ n ∧ (0 ≤ r → l.length ≤ 1048576 ∧ ∀ x ∈ l, True) :=
  gsz (ok := Nd.ok) t33 (fun _ => rfl) (fun _ => Nat.le_refl _) (fun _ => rfl) (fun _ => rfl) (fun x r h h0 h1 => by
    obtain ⟨v, h2, h3, h4⟩ := e119 x.path x.dir x.head x.tail r h0 h1 h.1 h.2.1 h.2.2
    exact ⟨v, h2, h3, h4, fun _ => trivial⟩) l n h0 hn hl hok
theorem e120 (a1 : ByteArray) (a2 : Bool) (a3 a4 : ByteArray) : E T 120 [.agg [.str a1, .bool a2, .str a3, .str a4]] [] = some (.agg [.str a1, .bool a2, .str a3, .str a4], []) := by
  rw [E_eq t120 (Nat.le_of_ble_eq_true rfl)]; simp only [F120, go_sem, seval]
theorem e35 (l : List Nd) (hl : l.length ≤ 1048576) : E T 35 [.ro 4 (l.map nd)] [] = some (.own 4 (l.map nd), []) :=
  gto (cs := fun x : Nd => [.str x.path, .bool x.dir, .str x.head, .str x.tail]) t35 (by omega) (fun _ => rfl) rfl (fun _ => rfl) (fun _ _ => rfl) (fun _ => rfl) (fun _ => rfl) rfl (fun _ _ => rfl) (fun _ => rfl) (fun x => e120 ..) l hl

theorem e34 (xs ys : List Nd) (ha : xs.length ≤ maxLen) : E T 34 [.ro 4 (xs.map nd), .ro 4 (ys.map nd)] [] = some (.bool (decide (xs = ys)), []) := by
  rw [E_eq t34 (Nat.le_of_ble_eq_true rfl)]
  simp only [F34, h34_4, go_sem, seval, bnd_ite]
  unfold maxLen at ha
  by_cases hl : xs.length = ys.length
  case neg =>
    have : xs ≠ ys := fun e => hl (by rw [e])
    simp [this, show ¬ (xs.length : Int) = ys.length by omega]
  refine (XL_inv (T := T) (b := 0) (hd := H34_4) (x := L34_4) (β := Unit) (fun i _ => ⟨[(0, .ro 4 (xs.map nd)), (1, .ro 4 (ys.map nd)), (5, .int .i64 (i : Nat))], []⟩)
    (fun i _ => xs.take i = ys.take i) xs.length (fun r => (r.1 = .exit 0 ∧ xs = ys) ∨ (r.1 = .ret ∧ lookA r.2.env 4 = .bool false ∧ xs ≠ ys)) ?step ?last 0 () (by omega) rfl).elim ?main
  case step =>
    intro i _ hi hI
    obtain ⟨p, hp⟩ := get_at hi
    obtain ⟨q, hq⟩ := get_at (show i < ys.length by omega)
    have hi1 : (i : Int) < (xs.length : Int) := by omega
    have hi2 : (i : Int) < (ys.length : Int) := by omega
    simp only [XG, L34_4, h34_4, go_sem, seval, bnd_ite, hi1, hi2, gD_map hp, gD_map hq, beq_dec, Int.natCast_nonneg, w_i64 ((i : Int) + 1) (by omega)]
    by_cases he : p = q
    · left
      subst he
      exact ⟨(), by simp, by rw [take_eq_snoc hp hq]; exact ⟨hI, rfl⟩⟩
    · right
      have hne : xs ≠ ys := fun e => he (by rw [e] at hp; rw [hp] at hq; exact Option.some.inj hq)
      rw [nd_eq] at he
      have he : (decide (p.path = q.path) && (decide (p.dir = q.dir) && (decide (p.head = q.head) && decide (p.tail = q.tail)))) = false := by
        rw [← Bool.not_eq_true]; simpa using he
      simp only [he, Bool.not_false, if_true]
      exact .mk (by simp) (.inr ⟨rfl, rfl, hne⟩)
  case last =>
    intro _ hI
    have e : xs = ys := by rw [List.take_length] at hI; rw [hI, hl, List.take_length]
    simp only [XG, L34_4, h34_4, go_sem, seval, bnd_ite, Int.lt_irrefl, decide_false]
    exact .mk (by simp) (.inl ⟨rfl, e⟩)
  case main =>
  rintro ⟨x, st⟩ ⟨h1, h2, h3⟩
  have hs : (0 : Int) = ((0 : Nat) : Int) := rfl
  simp only [hl, decide_true, Bool.not_true, Bool.false_eq_true, if_false]
  rw [hs, h1]
  obtain ⟨e, m⟩ := st
  rcases h3 with ⟨hx, h4⟩ | ⟨hx, h4, h5⟩
  · simp only at hx; subst hx; subst h4
    simp only [go_sem, seval]; simp
  · simp only at hx h4; subst hx
    simp only [go_sem, seval, h4]; simp [h5]

theorem e121 (xs ys : List Nd) (ha : xs.length ≤ maxLen) : E T 121 [.ro 4 (xs.map nd), .ro 4 (ys.map nd)] [] = some (.bool (decide (xs = ys)), []) := by
  rw [E_eq t121 (Nat.le_of_ble_eq_true rfl)]
  simp only [F121, h121_4, go_sem, seval, bnd_ite]
  unfold maxLen at ha
  by_cases hl : xs.length = ys.length
  case neg =>
    have : xs ≠ ys := fun e => hl (by rw [e])
    simp [this, show ¬ (xs.length : Int) = ys.length by omega]
  refine (XL_inv (T := T) (b := 0) (hd := H121_4) (x := L121_4) (β := Unit) (fun i _ => ⟨[(0, .ro 4 (xs.map nd)), (1, .ro 4 (ys.map nd)), (12, .int .i64 xs.length), (13, .int .i64 (i : Nat))], []⟩)
    (fun i _ => xs.take i = ys.take i) xs.length (fun r => (r.1 = .exit 0 ∧ xs = ys) ∨ (r.1 = .ret ∧ lookA r.2.env 4 = .bool false ∧ xs ≠ ys)) ?step ?last 0 () (by omega) rfl).elim ?main
  case step =>
    intro i _ hi hI
    obtain ⟨p, hp⟩ := get_at hi
    obtain ⟨q, hq⟩ := get_at (show i < ys.length by omega)
    have hi1 : (i : Int) < (xs.length : Int) := by omega
    have hi2 : (i : Int) < (ys.length : Int) := by omega
    simp only [XG, L121_4, h121_4, go_sem, seval, bnd_ite, hi1, hi2, gD_map hp, gD_map hq, beq_dec, Int.natCast_nonneg, w_i64 ((i : Int) + 1) (by omega)]
    by_cases he : p = q
    · left
      subst he
      exact ⟨(), by simp, by rw [take_eq_snoc hp hq]; exact ⟨hI, rfl⟩⟩
    · right
      have hne : xs ≠ ys := fun e => he (by rw [e] at hp; rw [hp] at hq; exact Option.some.inj hq)
      rw [nd_eq] at he
      have he : (decide (p.path = q.path) && (decide (p.dir = q.dir) && (decide (p.head = q.head) && decide (p.tail = q.tail)))) = false := by
        rw [← Bool.not_eq_true]; simpa using he
      simp only [he, Bool.not_false, if_true]
      exact .mk (by simp) (.inr ⟨rfl, rfl, hne⟩)
  case last =>
    intro _ hI
    have e : xs = ys := by rw [List.take_length] at hI; rw [hI, hl, List.take_length]
    simp only [XG, L121_4, h121_4, go_sem, seval, bnd_ite, Int.lt_irrefl, decide_false]
    exact .mk (by simp) (.inl ⟨rfl, e⟩)
  case main =>
  rintro ⟨x, st⟩ ⟨h1, h2, h3⟩
  have hs : (0 : Int) = ((0 : Nat) : Int) := rfl
  simp only [hl, decide_true, Bool.not_true, Bool.false_eq_true, if_false]
  rw [hs]; rw [hl] at h1; rw [h1]
  obtain ⟨e, m⟩ := st
  rcases h3 with ⟨hx, h4⟩ | ⟨hx, h4, h5⟩
  · simp only at hx; subst hx; subst h4
    simp only [go_sem, seval]; simp
  · simp only at hx h4; subst hx
    simp only [go_sem, seval, h4]; simp [h5]

theorem e36 (xs ys : List Nd) (ha : xs.length ≤ maxLen) : E T 36 [.ro 4 (xs.map nd), .ro 4 (ys.map nd)] [] = some (.bool (decide (xs = ys)), []) := by
  rw [E_eq t36 (Nat.le_of_ble_eq_true rfl)]
  simp only [F36, go_sem, seval, e121 xs ys ha]
theorem e4 (xs ys : List Nd) (hx : xs.length ≤ maxLen) (hy : ys.length ≤ maxLen) (hxo : ∀ x ∈ xs, x.ok) (hyo : ∀ x ∈ ys, x.ok) : E T 4 [.ro 4 (xs.map nd), .ro 4 (ys.map nd)] [] = some (.bool true, []) := by
  rw [E_eq t4 (Nat.le_of_ble_eq_true rfl)]
  obtain ⟨r1, h1, h2, h3, h4⟩ := e33 xs 1048576 (by omega) (by omega) hx hxo
  simp only [F4, go_sem, seval, bnd_ite, h1]
  by_cases c1 : r1 < 0
  · rw [if_pos c1]
  rw [if_neg c1]
  obtain ⟨r2, g1, g2, g3, g4⟩ := e33 ys r1 (by omega) (by omega) hy hyo
  simp only [go_sem, seval, bnd_ite, g1]
  by_cases c2 : r2 < 0
  · rw [if_pos c2]
  rw [if_neg c2]
  have b1 := (h4 (by omega)).1
  have b2 := (g4 (by omega)).1
  simp only [go_sem, seval, bnd_ite, e35 xs b1, e35 ys b2, e34 xs ys hx, e36 xs ys hx, e37 xs xs hx, e37 ys ys hy]
  cases decide (xs = ys) <;> simp
/-- A row of a shape is a row of things of a kind. -/
theorem rows_of {α : Type} {e : Shp} {enc : α → AV} {ok : α → Prop} (h : ∀ cs, Is e cs → ∃ x, e.elem cs = enc x ∧ ok x) : ∀ {css : List (List AV)}, (∀ cs ∈ css, Is e cs) → ∃ xs : List α, css.map e.elem = xs.map enc ∧ xs.length = css.length ∧ ∀ x ∈ xs, ok x := by
  intro css
  induction css with
  | nil => intro _; exact ⟨[], rfl, rfl, fun x hx => by cases hx⟩
  | cons cs css ih =>
    intro hc
    obtain ⟨x, h1, h2⟩ := h cs (hc cs (List.mem_cons_self ..))
    obtain ⟨xs, h3, h4, h5⟩ := ih (fun c hcc => hc c (List.mem_cons_of_mem _ hcc))
    exact ⟨x :: xs, by simp [h1, h3], by simp [h4], fun y hy => by rcases List.mem_cons.1 hy with rfl | hy; exact h2; exact h5 y hy⟩
def shN : Shp := .struct [.str, .bool, .str, .str]
theorem isN (cs : List AV) (h : Is shN cs) : ∃ x : Nd, shN.elem cs = nd x ∧ x.ok := by
  cases h with | struct h =>
  cases h with | cons h1 h =>
  cases h with | cons h2 h =>
  cases h with | cons h3 h =>
  cases h with | cons h4 h =>
  cases h
  cases h1; cases h2; cases h3; cases h4
  exact ⟨⟨_, _, _, _⟩, rfl, by assumption, by assumption, by assumption⟩
theorem isNs {av : AV} (h : IsA (.slice 4 shN) av) : ∃ xs : List Nd, av = .ro 4 (xs.map nd) ∧ xs.length ≤ maxLen ∧ ∀ x ∈ xs, x.ok := by
  obtain ⟨cs, h, rfl⟩ := h
  cases h with | slice h hl =>
  obtain ⟨xs, h1, h2, h3⟩ := rows_of isN h
  exact ⟨xs, by show AV.ro 4 _ = _; rw [h1], by omega, h3⟩
def shFnExactSameTree : List Shp := [.slice 4 shN, .slice 4 shN]
theorem isFnExactSameTree {avs : List AV} (h : IsAs shFnExactSameTree avs) : E T 4 avs [] = some (.bool true, []) := by
  cases h with | cons h1 h =>
  cases h with | cons h2 h =>
  cases h
  obtain ⟨xs, rfl, a1, a2⟩ := isNs h1
  obtain ⟨ys, rfl, b1, b2⟩ := isNs h2
  exact e4 xs ys a1 b1 a2 b2
end Go.Proofs.Ytaaajjinpppgeaa
