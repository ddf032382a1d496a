/- Part 2 of the texts of a claim, joined by a program of ours (A2). No condition. -/
import Derived.Test.YtaaajjinpppgeaaP27aa
set_option linter.unusedVariables false
set_option linter.unusedSimpArgs false
set_option linter.unusedSectionVars false
namespace Go.Abs
open Go Go.RowKit
variable {live live' : Live} {k : K} {args : List AV} {Q : Eff → Prop}
theorem det_and {C : Prop} {f : (Eff → Prop) → Prop} (c : C) (h : ∃ e, Q e ∧ ∀ Q', Q' e → f Q') : ∃ e, Q e ∧ ∀ Q', Q' e → (C ∧ f Q') := by
  obtain ⟨e, h1, h2⟩ := h
  exact ⟨e, h1, fun Q' hq => ⟨c, h2 Q' hq⟩⟩
theorem weffAppend_det {s bytes : Nat} {base : AV} {es : List AV} (h : weffAppend live s bytes base es Q) : ∃ e, Q e ∧ ∀ Q', Q' e → weffAppend live s bytes base es Q' := by
  unfold weffAppend at *
  split at h
  all_goals repeat' first
    | exact h.elim
    | exact ⟨_, h, fun _ h => h⟩
    | (obtain ⟨c, h⟩ := h; refine det_and c ?_)
    | (split at h <;> first | (rename_i hl; simp only [hl]) | skip)
theorem weff_det' (h : weff live k args Q) : ∃ e, Q e ∧ ∀ Q', Q' e → weff live k args Q' := by
  unfold weff at *
  split at h
  all_goals repeat' first
    | exact h.elim
    | exact ⟨_, h, fun _ h => h⟩
    | exact weffAppend_det h
    | (obtain ⟨c, h⟩ := h; refine det_and c ?_)
    | (split at h <;> first | (rename_i hl; simp only [hl]) | skip)
theorem weff_det (h : weff live k args Q) : ∃ e, Q e ∧ weff live k args (· = e) := by
  obtain ⟨e, h1, h2⟩ := weff_det' h
  exact ⟨e, h1, h2 _ rfl⟩
def Ext (live live' : Live) : Prop := ∀ id x, live id = some x → live' id = some x
theorem Ext.isSome (hx : Ext live live') {id : Nat} (h : (live id).isSome = true) : (live' id).isSome = true := by
  obtain ⟨x, hl⟩ := Option.isSome_iff_exists.1 h
  rw [hx _ _ hl]; rfl
theorem okV_ext (hx : Ext live live') {x : AV} (h : okV live x = true) : okV live' x = true := by
  cases x <;> first | exact h | exact hx.isSome h
theorem okC_ext (hx : Ext live live') {x : AV} (h : okC live x = true) : okC live' x = true := by
  cases x <;> first | exact h | exact hx.isSome h
theorem elems_ext (hx : Ext live live') {s : Nat} {x : AV} {es : List AV} (h : elems live s x = some es) : elems live' s x = some es := by
  cases x <;> try exact h
  rename_i id off n
  simp only [elems] at *
  split at h
  · rename_i hl
    rw [hx _ _ hl]; exact h
  · cases h
theorem all_okC_ext (hx : Ext live live') {es : List AV} (h : es.all (fun x => x.cells.all (okC live)) = true) : es.all (fun x => x.cells.all (okC live')) = true := by
  rw [List.all_eq_true] at h ⊢
  intro x hm
  have := h x hm
  rw [List.all_eq_true] at this ⊢
  exact fun c hc => okC_ext hx (this c hc)
theorem weffAppend_ext (hx : Ext live live') {s bytes : Nat} {base : AV} {es : List AV} (h : weffAppend live s bytes base es Q) : weffAppend live' s bytes base es Q := by
  unfold weffAppend at *
  split at h
  · exact h
  · split at h
    · rename_i hl
      simp only [hx _ _ hl]
      obtain ⟨h1, h2, h3, h4, h5, h6⟩ := h
      exact ⟨h1, h2, h3, h4, all_okC_ext hx h5, h6⟩
    · exact h.elim
  · exact h.elim
theorem allC_ext (hx : Ext live live') {l : List AV} (h : l.all (okC live) = true) : l.all (okC live') = true := by
  rw [List.all_eq_true] at h ⊢; exact fun x hm => okC_ext hx (h x hm)
theorem weff_ext (hx : Ext live live') (h : weff live k args Q) : weff live' k args Q := by
  unfold weff at *
  split at h
  all_goals repeat' first
    | exact False.elim h
    | exact h
    | exact weffAppend_ext hx h
    | (obtain ⟨c, h⟩ := h; refine ⟨by first | exact c | exact allC_ext hx c | exact hx.isSome c | exact okV_ext hx c | exact okC_ext hx c | exact fun x hm => okV_ext hx (c x hm) | exact fun x hm => okC_ext hx (c x hm) | exact fun x hm => ⟨(c x hm).1, okV_ext hx (c x hm).2⟩, ?_⟩)
    | (split at h <;> first | (rename_i hl; simp only [hx _ _ hl]) | (rename_i hl; simp only [elems_ext hx hl]) | (rename_i hl; simp only [hl]) | skip)
def K.blind : K → Bool
  | .mv | .pick | .field1 _ | .fieldN .. | .idxStr | .sliceStr .. | .lenStr | .bin _ | .binB _ | .eqs .. | .not | .neg | .conv _ | .mkfn _ | .ext _ | .max | .min => true
  | _ => false
theorem weff_blind (hk : k.blind = true) (h : weff live k args Q) : weff live' k args Q := by
  unfold weff at *
  split at h
  all_goals first
    | exact h
    | exact False.elim h
    | (simp [K.blind] at hk; done)
theorem weff_blind_val (hk : k.blind = true) {e : Eff} (h : weff live k args (· = e)) : ∃ v, e = .val v := by
  have h3 : weff live k args (fun e' => e' = e ∧ ∃ v, e' = .val v) := by
    unfold weff at *
    split at h
    all_goals repeat' first
      | exact False.elim h
      | exact ⟨h, _, rfl⟩
      | (simp [K.blind] at hk; done)
      | (obtain ⟨c, h⟩ := h; refine ⟨c, ?_⟩)
      | (split at h <;> first | (rename_i hl; simp only [hl]) | skip)
  obtain ⟨e', ⟨rfl, h4⟩, _⟩ := weff_det' h3
  exact h4
end Go.Abs
namespace Go.Abs
open Go Go.RowKit
abbrev Mem := List (Option (Nat × List AV))
def liveOf (mem : Mem) : Live := fun id => (mem[id]?).join
theorem liveOf_ge {mem : Mem} {t : Nat} (h : mem.length ≤ t) : liveOf mem t = none := by simp [liveOf, List.getElem?_eq_none h]
theorem liveOf_append {mem new : Mem} {t : Nat} (h : t < mem.length) : liveOf (mem ++ new) t = liveOf mem t := by simp [liveOf, List.getElem?_append_left h]
theorem liveOf_lt {mem : Mem} {t : Nat} {x} (h : liveOf mem t = some x) : t < mem.length := by
  rcases Nat.lt_or_ge t mem.length with h1 | h1
  · exact h1
  · rw [liveOf_ge h1] at h; cases h
abbrev Rds (Y : Nat → Prop) (w : World) (m : IdMap) (d : Nat → Prop) (Fs : Nat → List Nat) (E : Nat → AV) (rd : List Nat) (a : Act) : Prop :=
  ∀ t ∈ rd, R Y w m d Fs (E t) (a.tmps.getD t Go.undef)
def Fresh (live : Live) (d : Nat → Prop) (m : IdMap) : Prop := ∃ i, m i = none ∧ ¬ d i ∧ live i = none
def BlindAt (P : Program) (o : Oper) (E : Nat → AV) (rd : List Nat) (v : AV) (live : Live) : Prop :=
  ∀ (Y : Nat → Prop) (w0 : World) (F0 : List Nat) (d : Nat → Prop) (m : IdMap) (Fs : Nat → List Nat) (w : World) (a : Act),
    RelW Y w0 F0 live d m Fs w → Fresh live d m → Rds Y w m d Fs E rd a → ∀ (next : Act → World → Prop) (Q : Exit → Act → World → Prop),
    (∀ v' w' m' Fs', RelW Y w0 F0 live d m' Fs' w' → (∀ t, m' t = m t) → Carry w w' m m' d d (XOf Y m Fs) (XOf Y m' Fs') → R Y w' m' d Fs' v v' → next (a.put o.dst v') w') → o.wp P a w next Q
def Blind (P : Program) (o : Oper) (E : Nat → AV) (rd : List Nat) (v : AV) : Prop := ∀ live, BlindAt P o E rd v live
def Quiet (P : Program) (o : Oper) (E : Nat → AV) (rd : List Nat) (mem : Mem) (v : AV) (mem' : Mem) : Prop :=
  (∃ new, mem' = mem ++ new) ∧ ∀ (Y : Nat → Prop) (w0 : World) (F0 : List Nat) (live : Live) (d : Nat → Prop) (m : IdMap) (Fs : Nat → List Nat) (w : World) (a : Act),
    Ext (liveOf mem) live → (∀ t, mem.length ≤ t → t < mem'.length → live t = liveOf mem' t ∧ m t = none ∧ ¬ d t) →
    RelW Y w0 F0 live d m Fs w → Fresh live d m → Rds Y w m d Fs E rd a → ∀ (next : Act → World → Prop) (Q : Exit → Act → World → Prop),
    (∀ v' w' m' Fs', RelW Y w0 F0 live d m' Fs' w' → (∀ t, (t < mem.length ∨ mem'.length ≤ t) → m' t = m t) →
      Carry w w' m m' d d (XOf Y m Fs) (XOf Y m' Fs') → R Y w' m' d Fs' v v' → next (a.put o.dst v') w') → o.wp P a w next Q
def Solid (P : Program) (o : Oper) (E : Nat → AV) (rd : List Nat) (mem : Mem) (v : AV) (mem' : Mem) : Prop :=
  mem.length ≤ mem'.length ∧ ∀ (Y : Nat → Prop) (w0 : World) (F0 : List Nat) (d : Nat → Prop) (m : IdMap) (Fs : Nat → List Nat) (w : World) (a : Act),
    (∀ t, mem.length ≤ t → m t = none ∧ ¬ d t) → RelW Y w0 F0 (liveOf mem) d m Fs w → Rds Y w m d Fs E rd a → ∀ (next : Act → World → Prop) (Q : Exit → Act → World → Prop),
    (∀ v' w' d' m' Fs', RelW Y w0 F0 (liveOf mem') d' m' Fs' w' → (∀ t, mem'.length ≤ t → m' t = none ∧ ¬ d' t) →
      Carry w w' m m' d d' (XOf Y m Fs) (XOf Y m' Fs') → R Y w' m' d' Fs' v v' → next (a.put o.dst v') w') → o.wp P a w next Q
inductive Cls where
  | skip | blind | quiet | solid
  deriving DecidableEq
inductive Bef (ops : Array Oper) : Nat → Nat → Prop
  | one {j : Nat} {o : Oper} {e : Edge} (ho : ops[j]? = some o) (he : e ∈ o.after) (hb : Region.binds .any e = true) : Bef ops e.on j
  | trans {i j k : Nat} (h : Bef ops i j) (h' : Bef ops j k) : Bef ops i k
def LDspec (mem : Nat → Mem) (n p : Nat) (L : Live) : Prop :=
  (∀ t, t < (mem p).length → L t = liveOf (mem p) t) ∧ (∀ j, p ≤ j → j < n → ∀ t, (mem j).length ≤ t → t < (mem (j + 1)).length → L t = liveOf (mem (j + 1)) t) ∧
    (∀ t, (mem n).length ≤ t → L t = none)
structure Step (P : Program) (ops : Array Oper) (E0 : Nat → AV) (E : Nat → Nat → AV) (val : Nat → AV) (mem : Nat → Mem) (rd : Nat → List Nat) (cls : Nat → Cls) (j : Nat) (o : Oper) : Prop where
  reads : ∀ t ∈ rd j, (∃ i oi, Bef ops i j ∧ ops[i]? = some oi ∧ oi.dst = some t ∧ E j t = val i) ∨ ((∀ (i : Nat) (oi : Oper), ops[i]? = some oi → oi.dst = some t → Bef ops j i) ∧ E j t = E0 t)
  guard : o.guard = none ∧ cls j ≠ .skip ∨ (∃ g want og t b, o.guard = some (g, want) ∧ Bef ops g j ∧ ops[g]? = some og ∧ og.dst = some t ∧ val g = .bool b ∧ (cls j = .skip ↔ b ≠ want))
    ∨ ∃ g want og t, o.guard = some (g, want) ∧ Bef ops g j ∧ ops[g]? = some og ∧ og.dst = some t ∧ val g = .tup [] ∧ cls j = .skip
  act : match cls j with
    | .skip => val j = .tup [] ∧ mem (j + 1) = mem j
    | .blind => (∀ p L, p ≤ ops.size → LDspec mem ops.size p L → BlindAt P o (E j) (rd j) (val j) L) ∧ mem (j + 1) = mem j
    | .quiet => Quiet P o (E j) (rd j) (mem j) (val j) (mem (j + 1))
    | .solid => Solid P o (E j) (rd j) (mem j) (val j) (mem (j + 1)) ∧ ∀ i, i < ops.size → i ≠ j → (cls i = .quiet ∨ cls i = .solid) → Bef ops i j ∨ Bef ops j i
theorem LDspec.step {mem : Nat → Mem} {n j : Nat} {L : Live} (hj : j < n) {new : Mem} (hm : mem (j + 1) = mem j ++ new) : LDspec mem n j L ↔ LDspec mem n (j + 1) L := by
  constructor
  · rintro ⟨h1, h2, h3⟩
    refine ⟨fun t ht => ?_, fun i hi hin => h2 i (by omega) hin, h3⟩
    rcases Nat.lt_or_ge t (mem j).length with h | h
    · rw [h1 t h, hm, liveOf_append h]
    · exact h2 j (Nat.le_refl _) hj t h ht
  · rintro ⟨h1, h2, h3⟩
    have hl : (mem j).length ≤ (mem (j + 1)).length := by rw [hm]; simp
    refine ⟨fun t ht => ?_, fun i hi hin => ?_, h3⟩
    · rw [h1 t (by omega), hm, liveOf_append ht]
    · rcases Nat.eq_or_lt_of_le hi with rfl | h
      · intro t _ ht; exact h1 t ht
      · exact h2 i h hin
theorem LDspec.go {mem : Nat → Mem} {n : Nat} {L : Live} {p : Nat} : ∀ k, p + k ≤ n → (∀ j, p ≤ j → j < p + k → ∃ new, mem (j + 1) = mem j ++ new) →
    (LDspec mem n p L ↔ LDspec mem n (p + k) L) := by
  intro k
  induction k with
  | zero => intro _ _; exact Iff.rfl
  | succ k ih =>
    intro hk h
    obtain ⟨new, hn⟩ := h (p + k) (by omega) (by omega)
    exact (ih (by omega) (fun j h1 h2 => h j h1 (by omega))).trans (LDspec.step (by omega) hn)
theorem LDspec.shift {mem : Nat → Mem} {n : Nat} {L : Live} {p q : Nat} (hp : p ≤ n) (hq : q ≤ n) (h : ∀ j, (p ≤ j ∧ j < q ∨ q ≤ j ∧ j < p) → ∃ new, mem (j + 1) = mem j ++ new)
    (hL : LDspec mem n p L) : LDspec mem n q L := by
  rcases Nat.le_total p q with hpq | hpq
  · have := LDspec.go (mem := mem) (n := n) (L := L) (p := p) (q - p) (by omega) (fun j h1 h2 => h j (.inl ⟨h1, by omega⟩))
    rw [Nat.add_sub_cancel' hpq] at this
    exact this.1 hL
  · have := LDspec.go (mem := mem) (n := n) (L := L) (p := q) (p - q) (by omega) (fun j h1 h2 => h j (.inr ⟨h1, by omega⟩))
    rw [Nat.add_sub_cancel' hpq] at this
    exact this.2 hL
theorem find_range {len : Nat → Nat} {t : Nat} : ∀ j, len 0 ≤ t → t < len j → ∃ i, i < j ∧ len i ≤ t ∧ t < len (i + 1) := by
  intro j
  induction j with
  | zero => intro h1 h2; omega
  | succ j ih =>
    intro h1 h2
    rcases Nat.lt_or_ge t (len j) with h | h
    · obtain ⟨i, h3, h4⟩ := ih h1 h
      exact ⟨i, by omega, h4⟩
    · exact ⟨j, by omega, h, h2⟩
theorem count_lt {p q : Nat → Bool} : ∀ {l : List Nat} {j : Nat}, j ∈ l → (∀ i ∈ l, p i = true → q i = true) → p j = false → q j = true → l.countP p < l.countP q := by
  intro l
  induction l with
  | nil => intro j hj; cases hj
  | cons x l ih =>
    intro j hj h hp hq
    have hle : l.countP p ≤ l.countP q := List.countP_mono_left (fun i hi => h i (List.mem_cons_of_mem _ hi))
    rw [List.countP_cons, List.countP_cons]
    rcases List.mem_cons.1 hj with rfl | hj
    · simp [hp, hq]; omega
    · have := ih hj (fun i hi => h i (List.mem_cons_of_mem _ hi)) hp hq
      have hx := h x (List.mem_cons_self ..)
      by_cases hpx : p x = true
      · simp [hpx, hx hpx]; omega
      · simp [hpx]; split <;> omega
section
variable {P : Program} {ops : Array Oper} {E0 : Nat → AV} {E : Nat → Nat → AV} {val : Nat → AV} {mem : Nat → Mem} {rd : Nat → List Nat} {cls : Nat → Cls} {N : Nat}
variable {Y : Nat → Prop} {w0 : World} {F0 : List Nat}
def On (listed : Array Bool) (i : Nat) : Prop := listed.getD i false = true
structure Start where
  w : World
  m : IdMap
  d : Nat → Prop
  X : Nat → Prop
def Start.Car (B : Start) (Y : Nat → Prop) (d : Nat → Prop) (m : IdMap) (Fs : Nat → List Nat) (w : World) : Prop := Carry B.w w B.m m B.d d B.X (XOf Y m Fs)
structure Stage (B : Start) (Y : Nat → Prop) (w0 : World) (F0 : List Nat) (ops : Array Oper) (E0 : Nat → AV) (val : Nat → AV) (mem : Nat → Mem) (cls : Nat → Cls) (N : Nat) (listed : Array Bool)
    (p : Nat) (d : Nat → Prop) (m : IdMap) (Fs : Nat → List Nat) (L : Live) (a : Act) (w : World) : Prop where
  size : listed.size = ops.size
  pn : p ≤ ops.size
  closed : ∀ (j : Nat) (o : Oper) (e : Edge), On listed j → ops[j]? = some o → e ∈ o.after → Region.binds .any e = true → On listed e.on
  sol : ∀ j, j < ops.size → cls j = .solid → (On listed j ↔ j < p)
  ld : LDspec mem ops.size p L
  rel : RelW Y w0 F0 L d m Fs w
  mapped : ∀ t, (mem 0).length ≤ t → (m t ≠ none ∨ d t) → ∃ j, j < ops.size ∧ On listed j ∧ (cls j = .quiet ∨ cls j = .solid) ∧ (mem j).length ≤ t ∧ t < (mem (j + 1)).length
  env1 : ∀ (i : Nat) (oi : Oper) (t : Nat), ops[i]? = some oi → On listed i → oi.dst = some t → R Y w m d Fs (val i) (a.tmps.getD t Go.undef)
  env2 : ∀ t, (∀ (i : Nat) (oi : Oper), ops[i]? = some oi → On listed i → oi.dst ≠ some t) → R Y w m d Fs (E0 t) (a.tmps.getD t Go.undef)
  defers : a.defers = []
  tmps : a.tmps.size = N
  car : B.Car Y d m Fs w
theorem on_bef {listed : Array Bool} (hc : ∀ (j : Nat) (o : Oper) (e : Edge), On listed j → ops[j]? = some o → e ∈ o.after → Region.binds .any e = true → On listed e.on) {i j : Nat} (h : Bef ops i j) : On listed j → On listed i := by
  induction h with
  | one ho he hb => exact fun hj => hc _ _ _ hj ho he hb
  | trans _ _ ih1 ih2 => exact fun h => ih1 (ih2 h)
theorem on_bef_ready {listed : Array Bool} (hc : ∀ (j : Nat) (o : Oper) (e : Edge), On listed j → ops[j]? = some o → e ∈ o.after → Region.binds .any e = true → On listed e.on) {i j : Nat} (h : Bef ops i j)
    (hr : ∀ (o : Oper) (e : Edge), ops[j]? = some o → e ∈ o.after → Region.binds .any e = true → On listed e.on) : On listed i := by
  induction h with
  | one ho he hb => exact hr _ _ ho he hb
  | trans h1 _ _ ih2 => exact on_bef hc h1 (ih2 hr)
theorem bef_lt (back : ∀ (j : Nat) (o : Oper) (e : Edge), ops[j]? = some o → e ∈ o.after → Region.binds .any e = true → e.on < j) {i j : Nat} (h : Bef ops i j) : i < j := by
  induction h with
  | one ho he hb => exact back _ _ _ ho he hb
  | trans _ _ ih1 ih2 => omega
theorem on_set {listed : Array Bool} {i j : Nat} (hi : i < listed.size) : On (listed.setIfInBounds i true) j ↔ (j = i ∨ On listed j) := by
  unfold On
  by_cases h : i = j
  · subst h; simp [hi]
  · rw [Go.getD_set_ne false h]
    constructor
    · exact .inr
    · rintro (h1 | h1)
      · exact absurd h1.symm h
      · exact h1
theorem put_getD (a : Act) (dst : Option Tmp) (v : Value) (t : Nat) : (a.put dst v).tmps.getD t Go.undef = if dst = some t ∧ t < a.tmps.size then v else a.tmps.getD t Go.undef := by
  cases dst with
  | none => simp [Act.put]
  | some k =>
    simp only [Act.put, Option.some.injEq]
    by_cases h : k = t
    · subst h
      by_cases h2 : k < a.tmps.size
      · simp [h2]
      · simp [h2]
    · simp [h, Array.getElem?_setIfInBounds_ne h]
theorem put_size (a : Act) (dst : Option Tmp) (v : Value) : (a.put dst v).tmps.size = a.tmps.size := by cases dst <;> simp [Act.put]
theorem put_defers' (a : Act) (dst : Option Tmp) (v : Value) : (a.put dst v).defers = a.defers := by cases dst <;> rfl
theorem Stage.next {B : Start} {listed : Array Bool} {p p' : Nat} {d d' : Nat → Prop} {m m' : IdMap} {Fs Fs' : Nat → List Nat} {L L' : Live} {a : Act} {w w' : World} {j : Nat} {o : Oper}
    (S : Stage B Y w0 F0 ops E0 val mem cls N listed p d m Fs L a w)
    (dsts : ∀ (i j : Nat) (oi oj : Oper) (t : Nat), ops[i]? = some oi → ops[j]? = some oj → oi.dst = some t → oj.dst = some t → i = j)
    (dstN : ∀ (i : Nat) (oi : Oper) (t : Nat), ops[i]? = some oi → oi.dst = some t → t < N)
    (ho : ops[j]? = some o) (hj : ¬ On listed j) (hr : ∀ (o : Oper) (e : Edge), ops[j]? = some o → e ∈ o.after → Region.binds .any e = true → On listed e.on)
    (pn : p' ≤ ops.size) (sol : ∀ i, i < ops.size → cls i = .solid → ((i = j ∨ On listed i) ↔ i < p')) (ld : LDspec mem ops.size p' L') (rel : RelW Y w0 F0 L' d' m' Fs' w')
    (mapped : ∀ t, (mem 0).length ≤ t → (m' t ≠ none ∨ d' t) → ∃ i, i < ops.size ∧ (i = j ∨ On listed i) ∧ (cls i = .quiet ∨ cls i = .solid) ∧ (mem i).length ≤ t ∧ t < (mem (i + 1)).length)
    (C : Carry w w' m m' d d' (XOf Y m Fs) (XOf Y m' Fs')) {v' : Value} (hv : R Y w' m' d' Fs' (val j) v') :
    Stage B Y w0 F0 ops E0 val mem cls N (listed.setIfInBounds j true) p' d' m' Fs' L' (a.put o.dst v') w' := by
  have hjn : j < listed.size := by rw [S.size]; exact (Array.getElem?_eq_some_iff.1 ho).1
  have on := fun i => on_set (listed := listed) (j := i) hjn
  have car : ∀ x y, R Y w m d Fs x y → R Y w' m' d' Fs' x y := fun x y h => RelV.carry C h (fun b hb => by cases hb)
  refine { size := by simp [S.size], pn := pn, closed := ?_, sol := fun i hi hs => by rw [on]; exact sol i hi hs, ld := ld, rel := rel, mapped := ?_, env1 := ?_, env2 := ?_, defers := by rw [put_defers']; exact S.defers, tmps := by rw [put_size]; exact S.tmps, car := Carry.trans S.car C }
  · intro i oi e hi hoi he hb
    rw [on] at hi ⊢
    rcases hi with rfl | hi
    · exact .inr (hr oi e hoi he hb)
    · exact .inr (S.closed i oi e hi hoi he hb)
  · intro t h1 h2
    obtain ⟨i, h3, h4, h5⟩ := mapped t h1 h2
    exact ⟨i, h3, (on i).2 h4, h5⟩
  · intro i oi t hoi hon hd
    rw [on] at hon
    rw [put_getD]
    by_cases hij : i = j
    · subst hij
      rw [ho] at hoi; cases hoi
      rw [if_pos ⟨hd, by rw [S.tmps]; exact dstN _ _ _ ho hd⟩]
      exact hv
    · rw [if_neg (fun h => hij (dsts i j oi o t hoi ho hd h.1))]
      exact car _ _ (S.env1 i oi t hoi (hon.resolve_left hij) hd)
  · intro t ht
    rw [put_getD, if_neg (fun h => ht j o ho ((on j).2 (.inl rfl)) h.1)]
    exact car _ _ (S.env2 t (fun i oi hoi hon => ht i oi hoi ((on i).2 (.inr hon))))
theorem any_sound {B : Start}
    (back : ∀ (j : Nat) (o : Oper) (e : Edge), ops[j]? = some o → e ∈ o.after → Region.binds .any e = true → e.on < j)
    (dsts : ∀ (i j : Nat) (oi oj : Oper) (t : Nat), ops[i]? = some oi → ops[j]? = some oj → oi.dst = some t → oj.dst = some t → i = j)
    (dstN : ∀ (i : Nat) (oi : Oper) (t : Nat), ops[i]? = some oi → oi.dst = some t → t < N)
    (step : ∀ (j : Nat) (o : Oper), ops[j]? = some o → Step P ops E0 E val mem rd cls j o)
    {Q : Exit → Act → World → Prop}
    (hQ : ∀ a w d m Fs, RelW Y w0 F0 (liveOf (mem ops.size)) d m Fs w → (∀ t, (mem ops.size).length ≤ t → m t = none ∧ ¬ d t) →
      (∀ (i : Nat) (oi : Oper) (t : Nat), ops[i]? = some oi → oi.dst = some t → R Y w m d Fs (val i) (a.tmps.getD t Go.undef)) →
      (∀ t, (∀ (i : Nat) (oi : Oper), ops[i]? = some oi → oi.dst ≠ some t) → R Y w m d Fs (E0 t) (a.tmps.getD t Go.undef)) → a.defers = [] → a.tmps.size = N → B.Car Y d m Fs w → Q .normal a w) :
    ∀ (fuel : Nat) (listed : Array Bool) p d m Fs L a w, Stage B Y w0 F0 ops E0 val mem cls N listed p d m Fs L a w →
      ((List.range ops.size).countP fun i => !listed.getD i false) ≤ fuel → wpAny P .any ops Q fuel listed a w := by
  have ext : ∀ j, j < ops.size → cls j ≠ .solid → ∃ new, mem (j + 1) = mem j ++ new := by
    intro j hj hs
    have h := (step j ops[j] (by simp [hj])).act
    cases hc : cls j with
    | skip => rw [hc] at h; exact ⟨[], by rw [h.2]; simp⟩
    | blind => rw [hc] at h; exact ⟨[], by rw [h.2]; simp⟩
    | quiet => rw [hc] at h; exact h.1
    | solid => exact absurd hc hs
  have mono1 : ∀ j, j < ops.size → (mem j).length ≤ (mem (j + 1)).length := by
    intro j hj
    by_cases hs : cls j = .solid
    · have h := (step j ops[j] (by simp [hj])).act
      rw [hs] at h
      exact h.1.1
    · obtain ⟨new, h⟩ := ext j hj hs
      rw [h]; simp
  have mono : ∀ k i, i + k ≤ ops.size → (mem i).length ≤ (mem (i + k)).length := by
    intro k
    induction k with
    | zero => intro i _; exact Nat.le_refl _
    | succ k ih => intro i h; exact Nat.le_trans (ih i (by omega)) (mono1 (i + k) (by omega))
  have mono' : ∀ i j, i ≤ j → j ≤ ops.size → (mem i).length ≤ (mem j).length := by
    intro i j h1 h2
    have := mono (j - i) i (by omega)
    rwa [Nat.add_sub_cancel' h1] at this
  have uniq : ∀ i j t, i < ops.size → j < ops.size → (mem i).length ≤ t → t < (mem (i + 1)).length → (mem j).length ≤ t → t < (mem (j + 1)).length → i = j := by
    intro i j t hi hj h1 h2 h3 h4
    rcases Nat.lt_trichotomy i j with h | h | h
    · have := mono' (i + 1) j h (by omega); omega
    · exact h
    · have := mono' (j + 1) i h (by omega); omega
  have nonq : ∀ j, j < ops.size → (mem j).length < (mem (j + 1)).length → cls j = .quiet ∨ cls j = .solid := by
    intro j hj hl
    have h := (step j ops[j] (by simp [hj])).act
    cases hc : cls j with
    | skip => rw [hc] at h; rw [h.2] at hl; omega
    | blind => rw [hc] at h; rw [h.2] at hl; omega
    | quiet => exact .inl rfl
    | solid => exact .inr rfl
  have done : ∀ listed p d m Fs L a w, Stage B Y w0 F0 ops E0 val mem cls N listed p d m Fs L a w → Region.ready .any ops listed = [] → Q .normal a w := by
    intro listed p d m Fs L a w S hr
    have all : ∀ j, j < ops.size → On listed j := by
      intro j
      induction j using Nat.strongRecOn with
      | _ j ih =>
        intro hj
        apply Classical.byContradiction
        intro hn
        have hm : j ∈ Region.ready .any ops listed := by
          rw [Go.mem_ready]
          have hjs : j < listed.size := by rw [S.size]; exact hj
          refine ⟨?_, ops[j], by simp [hj], fun e he hb => ?_⟩
          · unfold On at hn; simp [hjs] at hn ⊢; exact hn
          · have := back j ops[j] e (by simp [hj]) he hb
            exact ih e.on this (by omega)
        rw [hr] at hm; cases hm
    have hL : LDspec mem ops.size ops.size L := S.ld.shift S.pn (Nat.le_refl _) (fun j hj => by
      have hjn : j < ops.size := by have := S.pn; omega
      refine ext j hjn (fun hs => ?_)
      have := (S.sol j hjn hs).1 (all j hjn)
      omega)
    have hfresh : ∀ t, (mem ops.size).length ≤ t → m t = none ∧ ¬ d t := by
      intro t ht
      have h0 := mono' 0 ops.size (by omega) (Nat.le_refl _)
      have key : ¬ (m t ≠ none ∨ d t) := fun h => by
        obtain ⟨j, hj, _, _, _, h4⟩ := S.mapped t (by omega) h
        have := mono' (j + 1) ops.size hj (Nat.le_refl _)
        omega
      exact ⟨Classical.byContradiction fun h => key (.inl h), fun h => key (.inr h)⟩
    refine hQ a w d m Fs (S.rel.relive (fun t ht => ?_) (fun t ht => ?_)) hfresh (fun i oi t hoi hd => S.env1 i oi t hoi (all i (Array.getElem?_eq_some_iff.1 hoi).1) hd)
      (fun t ht => S.env2 t (fun i oi hoi _ => ht i oi hoi)) S.defers S.tmps S.car
    · rcases Nat.lt_or_ge t (mem ops.size).length with h | h
      · exact (hL.1 t h).symm
      · exact absurd (hfresh t h).1 ht
    · rcases Nat.lt_or_ge t (mem ops.size).length with h | h
      · rw [← hL.1 t h]; exact S.rel.ddom t ht
      · exact liveOf_ge h
  have run : ∀ listed p d m Fs L a w (K : Act → World → Prop), Stage B Y w0 F0 ops E0 val mem cls N listed p d m Fs L a w → ∀ j, j ∈ Region.ready .any ops listed →
      (∀ p d m Fs L a w, Stage B Y w0 F0 ops E0 val mem cls N (listed.setIfInBounds j true) p d m Fs L a w → K a w) → wpOp P ops Q j K a w := by
    intro listed p d m Fs L a w K S j hj hK
    rw [Go.mem_ready] at hj
    obtain ⟨hju, o, ho, hrd⟩ := hj
    have hjn : j < ops.size := (Array.getElem?_eq_some_iff.1 ho).1
    have hjs : j < listed.size := by rw [S.size]; exact hjn
    have hju : ¬ On listed j := by unfold On; simp [hjs] at hju ⊢; exact hju
    have hr : ∀ (o : Oper) (e : Edge), ops[j]? = some o → e ∈ o.after → Region.binds .any e = true → On listed e.on := fun o' e h1 h2 h3 => by
      rw [ho] at h1; cases h1; exact hrd e h2 h3
    have T := step j o ho
    have befOn : ∀ i, Bef ops i j → On listed i := fun i h => on_bef_ready S.closed h hr
    have rds : Rds Y w m d Fs (E j) (rd j) a := by
      intro t ht
      rcases T.reads t ht with ⟨i, oi, h1, h2, h3, h4⟩ | ⟨h1, h2⟩
      · rw [h4]; exact S.env1 i oi t h2 (befOn i h1) h3
      · rw [h2]; exact S.env2 t (fun i oi hoi hon hdt => hju (on_bef S.closed (h1 i oi hoi hdt) hon))
    have hwant : Region.wanted o (yielded ops a.tmps) = true ↔ cls j ≠ .skip := by
      rcases T.guard with ⟨h1, h2⟩ | ⟨g, want, og, t, b, h1, h2, h3, h4, h5, h6⟩ | ⟨g, want, og, t, h1, h2, h3, h4, h5, h6⟩
      · unfold Region.wanted; rw [h1]; exact ⟨fun _ => h2, fun _ => rfl⟩
      · have hv := S.env1 g og t h3 (befOn g h2) h4
        rw [h5] at hv
        have hv' : a.tmps.getD t Go.undef = .bool b := by
          generalize a.tmps.getD t Go.undef = x at hv; cases hv; rfl
        have htn : t < a.tmps.size := by rw [S.tmps]; exact dstN g og t h3 h4
        have hy : yielded ops a.tmps g = some b := by
          have e1 : ((ops[g]?).bind (·.dst)).bind (a.tmps[·]?) = some (.bool b) := by
            rw [h3]; show og.dst.bind _ = _
            rw [h4]; show a.tmps[t]? = _
            rw [← hv']; simp [htn]
          unfold yielded; rw [e1]
        unfold Region.wanted; rw [h1]; simp only [hy]
        rw [Ne, h6]
        simp
      · have hv := S.env1 g og t h3 (befOn g h2) h4
        rw [h5] at hv
        have hv' : a.tmps.getD t Go.undef = .tuple #[] := by
          generalize a.tmps.getD t Go.undef = x at hv
          cases hv with
          | tup h => cases h; rfl
        have htn : t < a.tmps.size := by rw [S.tmps]; exact dstN g og t h3 h4
        have hy : yielded ops a.tmps g = none := by
          have e1 : ((ops[g]?).bind (·.dst)).bind (a.tmps[·]?) = some (.tuple #[]) := by
            rw [h3]; show og.dst.bind _ = _
            rw [h4]; show a.tmps[t]? = _
            rw [← hv']; simp [htn]
          unfold yielded; rw [e1]
        unfold Region.wanted; rw [h1]; simp only [hy]
        simp [h6]
    have hfr0 : Fresh L d m := by
      have h0 := mono' 0 ops.size (by omega) (Nat.le_refl _)
      have key : ¬ (m (mem ops.size).length ≠ none ∨ d (mem ops.size).length) := fun h => by
        obtain ⟨j, hj, _, _, _, h4⟩ := S.mapped _ (by omega) h
        have := mono' (j + 1) ops.size hj (Nat.le_refl _)
        omega
      exact ⟨(mem ops.size).length, Classical.byContradiction fun h => key (.inl h), fun h => key (.inr h), S.ld.2.2 _ (Nat.le_refl _)⟩
    unfold wpOp
    simp only [ho]
    have sides : (cls j = .quiet ∨ cls j = .solid) → ∀ i, i < ops.size → cls i = .solid → i ≠ j → (On listed i ↔ i < j) := by
      intro hcj i hi hs hij
      have hA := (step i ops[i] (by simp [hi])).act
      rw [hs] at hA
      rcases hA.2 j hjn (fun e => hij e.symm) hcj with h | h
      · have := bef_lt back h
        exact ⟨fun hon => absurd (on_bef S.closed h hon) hju, fun hlt => by omega⟩
      · have := bef_lt back h
        exact ⟨fun _ => this, fun _ => befOn i h⟩
    have toJ : (cls j = .quiet ∨ cls j = .solid) → LDspec mem ops.size j L := by
      intro hcj
      refine S.ld.shift S.pn (by omega) (fun i hi => ?_)
      have hin : i < ops.size := by have := S.pn; omega
      refine ext i hin (fun hs => ?_)
      by_cases hij : i = j
      · subst hij
        have h1 := S.sol i hin hs
        have : ¬ i < p := fun h => hju (h1.2 h)
        omega
      · have h1 := S.sol i hin hs
        have h2 := sides hcj i hin hs hij
        have : i < p ↔ i < j := h1.symm.trans h2
        omega
    have noJ : ∀ t, (mem j).length ≤ t → t < (mem (j + 1)).length → m t = none ∧ ¬ d t := by
      intro t h1 h2
      have h0 := mono' 0 j (by omega) (by omega)
      have key : ¬ (m t ≠ none ∨ d t) := fun h => by
        obtain ⟨i, hi, hon, _, h3, h4⟩ := S.mapped t (by omega) h
        have := uniq i j t hi hjn h3 h4 h1 h2
        subst this; exact hju hon
      exact ⟨Classical.byContradiction fun h => key (.inl h), fun h => key (.inr h)⟩
    have hact := T.act
    cases hc : cls j with
    | skip =>
      rw [hc] at hact
      rw [if_neg (fun h => hwant.1 h hc)]
      refine hK p d m Fs L _ w (S.next dsts dstN ho hju hr S.pn (fun i hi hs => ?_) S.ld S.rel (fun t h1 h2 => ?_) .refl ?_)
      · have : i ≠ j := fun e => by rw [e, hc] at hs; cases hs
        simp only [this, false_or]; exact S.sol i hi hs
      · obtain ⟨i, h3, h4, h5⟩ := S.mapped t h1 h2; exact ⟨i, h3, .inr h4, h5⟩
      · rw [hact.1]; exact .tup .nil
    | blind =>
      rw [hc] at hact
      rw [if_pos (hwant.2 (by rw [hc]; decide))]
      refine .inl (hact.1 p L S.pn S.ld Y w0 F0 d m Fs w a S.rel hfr0 rds _ _ (fun v' w' m' Fs' hrel hmm hC hv => ?_))
      refine hK p d m' Fs' L _ w' (S.next dsts dstN ho hju hr S.pn (fun i hi hs => ?_) S.ld hrel (fun t h1 h2 => ?_) hC hv)
      · have : i ≠ j := fun e => by rw [e, hc] at hs; cases hs
        simp only [this, false_or]; exact S.sol i hi hs
      · rw [hmm t] at h2
        obtain ⟨i, h3, h4, h5⟩ := S.mapped t h1 h2; exact ⟨i, h3, .inr h4, h5⟩
    | quiet =>
      rw [hc] at hact
      rw [if_pos (hwant.2 (by rw [hc]; decide))]
      have hLj := toJ (.inl hc)
      refine .inl (hact.2 Y w0 F0 L d m Fs w a (fun id x hx => by rw [hLj.1 id (liveOf_lt hx)]; exact hx) (fun t h1 h2 => ⟨hLj.2.1 j (Nat.le_refl _) hjn t h1 h2, noJ t h1 h2⟩) S.rel hfr0 rds _ _
        (fun v' w' m' Fs' hrel hmm hC hv => ?_))
      refine hK j d m' Fs' L _ w' (S.next dsts dstN ho hju hr (by omega) (fun i hi hs => ?_) hLj hrel (fun t h1 h2 => ?_) hC hv)
      · have : i ≠ j := fun e => by rw [e, hc] at hs; cases hs
        simp only [this, false_or]; exact sides (.inl hc) i hi hs this
      · by_cases ht : (mem j).length ≤ t ∧ t < (mem (j + 1)).length
        · exact ⟨j, hjn, .inl rfl, .inl hc, ht⟩
        · rw [hmm t (by omega)] at h2
          obtain ⟨i, h3, h4, h5⟩ := S.mapped t h1 h2; exact ⟨i, h3, .inr h4, h5⟩
    | solid =>
      rw [hc] at hact
      rw [if_pos (hwant.2 (by rw [hc]; decide))]
      have hLj := toJ (.inr hc)
      obtain ⟨⟨hlen, hgo⟩, hcmp⟩ := hact
      have fresh : ∀ t, (mem j).length ≤ t → m t = none ∧ ¬ d t := by
        intro t h1
        have h0 := mono' 0 j (by omega) (by omega)
        have key : ¬ (m t ≠ none ∨ d t) := fun h => by
          obtain ⟨i, hi, hon, hci, h3, h4⟩ := S.mapped t (by omega) h
          by_cases hij : i = j
          · subst hij; exact hju hon
          · rcases hcmp i hi hij hci with hb | hb
            · have := mono' (i + 1) j (bef_lt back hb) (by omega); omega
            · exact hju (on_bef S.closed hb hon)
        exact ⟨Classical.byContradiction fun h => key (.inl h), fun h => key (.inr h)⟩
      have rel' : RelW Y w0 F0 (liveOf (mem j)) d m Fs w := S.rel.relive
        (fun t ht => by
          rcases Nat.lt_or_ge t (mem j).length with h | h
          · exact (hLj.1 t h).symm
          · exact absurd (fresh t h).1 ht)
        (fun t ht => by
          rcases Nat.lt_or_ge t (mem j).length with h | h
          · rw [← hLj.1 t h]; exact S.rel.ddom t ht
          · exact absurd ht (fresh t h).2)
      refine .inl (hgo Y w0 F0 d m Fs w a fresh rel' rds _ _ (fun v' w' d' m' Fs' hrel hfr hC hv => ?_))
      have hL' : LDspec mem ops.size (j + 1) (fun t => if t < (mem (j + 1)).length then liveOf (mem (j + 1)) t else L t) := by
        refine ⟨fun t ht => by simp [ht], fun i h1 h2 t h3 h4 => ?_, fun t ht => ?_⟩
        · have := mono' (j + 1) i h1 (by omega)
          show (if _ then _ else _) = _
          rw [if_neg (by omega)]; exact hLj.2.1 i (by omega) h2 t h3 h4
        · have := mono' (j + 1) ops.size hjn (Nat.le_refl _)
          show (if _ then _ else _) = _
          rw [if_neg (by omega)]; exact hLj.2.2 t ht
      refine hK (j + 1) d' m' Fs' _ _ w' (S.next dsts dstN ho hju hr hjn (fun i hi hs => ?_) hL' (hrel.relive (fun t ht => ?_) (fun t ht => ?_)) (fun t h1 h2 => ?_) hC hv)
      · by_cases hij : i = j
        · subst hij; exact ⟨fun _ => by omega, fun _ => .inl rfl⟩
        · simp only [hij, false_or, sides (.inr hc) i hi hs hij]; omega
      · show (if _ then _ else _) = _
        rcases Nat.lt_or_ge t (mem (j + 1)).length with h | h
        · rw [if_pos h]
        · exact absurd (hfr t h).1 ht
      · show (if _ then _ else _) = _
        rcases Nat.lt_or_ge t (mem (j + 1)).length with h | h
        · rw [if_pos h]; exact hrel.ddom t ht
        · exact absurd ht (hfr t h).2
      · have htl : t < (mem (j + 1)).length := by
          rcases Nat.lt_or_ge t (mem (j + 1)).length with h | h
          · exact h
          · rcases h2 with h2 | h2
            · exact absurd (hfr t h).1 h2
            · exact absurd h2 (hfr t h).2
        rcases Nat.lt_or_ge t (mem j).length with h | h
        · obtain ⟨i, h3, h4, h5⟩ := find_range (len := fun i => (mem i).length) j h1 h
          have hq := nonq i (by omega) (by omega)
          refine ⟨i, by omega, .inr ?_, hq, h4, h5⟩
          rcases hcmp i (by omega) (by omega) hq with hb | hb
          · exact befOn i hb
          · have := bef_lt back hb; omega
        · exact ⟨j, hjn, .inl rfl, .inr hc, h, htl⟩
  intro fuel
  induction fuel with
  | zero =>
    intro listed p d m Fs L a w S hcnt
    have hr : Region.ready .any ops listed = [] := by
      rw [List.eq_nil_iff_forall_not_mem]
      intro j hj
      rw [Go.mem_ready] at hj
      obtain ⟨hju, o, ho, _⟩ := hj
      have hjn : j < ops.size := (Array.getElem?_eq_some_iff.1 ho).1
      have hjs : j < listed.size := by rw [S.size]; exact hjn
      have h0 := List.countP_eq_zero.1 (Nat.le_zero.1 hcnt) j (List.mem_range.2 hjn)
      simp [hjs] at h0 hju
      rw [h0] at hju; cases hju
    exact ⟨hr, done _ _ _ _ _ _ _ _ S hr⟩
  | succ fuel ih =>
    intro listed p d m Fs L a w S hcnt
    refine ⟨fun hr => done _ _ _ _ _ _ _ _ S hr, fun j hj => run listed p d m Fs L a w _ S j hj (fun p d m Fs L a w S' => ih _ p d m Fs L a w S' ?_)⟩
    rw [Go.mem_ready] at hj
    obtain ⟨hju, o, ho, _⟩ := hj
    have hjn : j < ops.size := (Array.getElem?_eq_some_iff.1 ho).1
    have hjs : j < listed.size := by rw [S.size]; exact hjn
    have hlt : ((List.range ops.size).countP fun i => !(listed.setIfInBounds j true).getD i false) < ((List.range ops.size).countP fun i => !listed.getD i false) := by
      refine count_lt (List.mem_range.2 hjn) (fun i hi => ?_) ?_ ?_
      · by_cases hij : j = i
        · subst hij; simp [hjs]
        · rw [Go.getD_set_ne false hij]; exact fun h => h
      · simp [hjs]
      · simp [hjs] at hju ⊢; exact hju
    omega
end
end Go.Abs
namespace Go.Abs
open Go Go.RowKit
section
variable {live : Live} {k : K} {args : List AV} {Q : Eff → Prop}
def effOk (live : Live) : Eff → Prop
  | .upd id _ _ | .updv id _ _ _ | .app id _ _ => (live id).isSome = true
  | _ => True
theorem weffAppend_ok {s bytes : Nat} {base : AV} {es : List AV} (h : weffAppend live s bytes base es Q) : weffAppend live s bytes base es (fun e => Q e ∧ effOk live e) := by
  unfold weffAppend at *
  split at h
  · split at h
    · exact ⟨h, trivial⟩
    · exact ⟨h.1, h.2, trivial⟩
  · split at h
    · rename_i hl
      simp only [hl]
      obtain ⟨h1, h2, h3, h4, h5, h6⟩ := h
      exact ⟨h1, h2, h3, h4, h5, h6, by simp [effOk, hl]⟩
    · exact h.elim
  · exact h.elim
theorem weff_ok (h : weff live k args Q) : weff live k args (fun e => Q e ∧ effOk live e) := by
  unfold weff at *
  split at h
  all_goals repeat' first
    | exact False.elim h
    | exact ⟨h, trivial⟩
    | exact weffAppend_ok h
    | exact ⟨h, by simp [effOk, *]⟩
    | (obtain ⟨c, h⟩ := h; refine ⟨c, ?_⟩)
    | (split at h <;> first | (rename_i hl; simp only [hl]) | skip)
end
def effMem (mem : Mem) : Eff → Mem
  | .val _ => mem
  | .newSl s xs => mem ++ [some (s, xs)]
  | .newPtr s x => mem ++ [some (s, [x])]
  | .upd id s xs => mem.set id (some (s, xs))
  | .updv id s xs _ => mem.set id (some (s, xs))
  | .app id s xs => mem.set id none ++ [some (s, xs)]
theorem liveOf_snoc {mem : Mem} {x : Option (Nat × List AV)} : liveOf (mem ++ [x]) = upd (liveOf mem) mem.length x := by
  funext t
  rcases Nat.lt_trichotomy t mem.length with h | h | h
  · rw [liveOf_append h, upd_ne _ _ (by omega)]
  · subst h; rw [upd_same]; simp [liveOf]
  · rw [upd_ne _ _ (by omega), liveOf_ge (mem := mem) (by omega), liveOf_ge (by rw [List.length_append]; simp; omega)]
theorem liveOf_set {mem : Mem} {id : Nat} {x : Option (Nat × List AV)} (h : id < mem.length) : liveOf (mem.set id x) = upd (liveOf mem) id x := by
  funext t
  by_cases ht : t = id
  · subst ht; rw [upd_same]; simp [liveOf, h]
  · rw [upd_ne _ _ ht]; simp [liveOf, List.getElem?_set_ne (Ne.symm ht)]
theorem effLive_mem {mem : Mem} {e : Eff} (h : effOk (liveOf mem) e) : effLive mem.length (liveOf mem) e = liveOf (effMem mem e) := by
  cases e with
  | val v => rfl
  | newSl s xs => exact liveOf_snoc.symm
  | newPtr s x => exact liveOf_snoc.symm
  | upd id s xs =>
    obtain ⟨y, hy⟩ := Option.isSome_iff_exists.1 h
    exact (liveOf_set (liveOf_lt hy)).symm
  | updv id s xs _ =>
    obtain ⟨y, hy⟩ := Option.isSome_iff_exists.1 h
    exact (liveOf_set (liveOf_lt hy)).symm
  | app id s xs =>
    obtain ⟨y, hy⟩ := Option.isSome_iff_exists.1 h
    show upd (upd _ _ _) _ _ = liveOf (mem.set id none ++ [some (s, xs)])
    rw [liveOf_snoc, liveOf_set (liveOf_lt hy), List.length_set]
def tmpsOf (os : List Opd) : List Nat := os.filterMap fun | .tmp t => some t | .const _ => none
theorem tmps_congr {E E' : Nat → AV} {os : List Opd} (h : ∀ t ∈ tmpsOf os, E t = E' t) : os.map (getOpd E) = os.map (getOpd E') := by
  apply List.map_congr_left
  intro x hx
  cases x with
  | const v => rfl
  | tmp t => exact h t (by simp only [tmpsOf, List.mem_filterMap]; exact ⟨_, hx, rfl⟩)
def only (rd : List Nat) (E : Nat → AV) : Nat → AV := fun t => if rd.contains t then E t else .undef
theorem only_of {rd : List Nat} {E : Nat → AV} {t : Nat} (h : t ∈ rd) : only rd E t = E t := by simp [only, h]
section
variable {P : Program} {TT : Types} {Y : Nat → Prop} {w0 : World} {F0 : List Nat} {live : Live} {d : Nat → Prop} {m : IdMap} {Fs : Nat → List Nat} {w : World} {i : Nat} {Q : Eff → Prop} {E : Nat → AV} {a : Act} {o : Oper} {k : K} {os : List Opd} {mem : Mem}
theorem only_rel {rd : List Nat} (h : Rds Y w m d Fs E rd a) : ∀ t, R Y w m d Fs (only rd E t) (a.tmps.getD t Go.undef) := by
  intro t
  by_cases ht : t ∈ rd
  · rw [only_of ht]; exact h t ht
  · have : only rd E t = .undef := by simp [only, ht]
    rw [this]; exact .undef _
theorem OpGoal.wp {next : Act → World → Prop} {QQ : Exit → Act → World → Prop} (h : OpGoal P Y w0 F0 live d m Fs w i (execOp a.eval o) Q)
    (k : ∀ e v' w', Q e → EffRes Y w0 F0 live d m Fs w i e v' w' → next (a.put o.dst v') w') : o.wp P a w next QQ := by
  obtain ⟨e, v', w', hq, hr, he⟩ := h
  rcases hr with hr | ⟨hr, rfl⟩
  · simp only [Oper.wp, hr, Oper.upon]; exact k e v' w' hq he
  · simp only [Oper.wp, hr, Oper.upon]; exact k e _ w' hq he
theorem op_run (hTT : ∀ t T, TT.get t = some T → tyOf P t = some T) (hc : compileOp P TT o.op = some (k, os)) (h : RelW Y w0 F0 live d m Fs w) (hi : m i = none) (hd : ¬ d i)
    {rd : List Nat} (hrd : ∀ t ∈ tmpsOf os, t ∈ rd) (hr : Rds Y w m d Fs E rd a) (hfi : ∀ s by' off n r, k = .append s by' → os.map (getOpd E) = .sl i off n :: r → False) (hw : weff live k (os.map (getOpd E)) Q) : OpGoal P Y w0 F0 live d m Fs w i (execOp a.eval o) Q := by
  have hE := tmps_congr (E := E) (fun t ht => (only_of (E := E) (hrd t ht)).symm)
  refine op_sound (env := only rd E) hTT h hi hd (only_rel hr) hc (by rw [← hE]; exact hfi) ?_
  rw [← hE]
  exact hw
theorem append_live {args : List AV} (hw : weff (liveOf mem) k args Q) (hge : mem.length ≤ i) : ∀ s by' off n r, k = .append s by' → args = .sl i off n :: r → False := by
  rintro s b off n r rfl rfl
  cases r with
  | nil => simp [weff] at hw
  | cons x r =>
    cases r with
    | cons y r => simp [weff] at hw
    | nil =>
      simp only [weff] at hw
      split at hw
      · simp only [weffAppend, liveOf_ge hge] at hw
      · exact hw
theorem append_dead {args : List AV} (hw : weff live k args Q) (hli : live i = none) : ∀ s by' off n r, k = .append s by' → args = .sl i off n :: r → False := by
  rintro s b off n r rfl rfl
  cases r with
  | nil => simp [weff] at hw
  | cons x r =>
    cases r with
    | cons y r => simp [weff] at hw
    | nil =>
      simp only [weff] at hw
      split at hw
      · simp only [weffAppend, hli] at hw
      · exact hw
theorem op_at (hTT : ∀ t T, TT.get t = some T → tyOf P t = some T) (hc : compileOp P TT o.op = some (k, os)) (hk : ∀ s by', k ≠ .append s by') {v : AV} {rd : List Nat} (hrd : ∀ t ∈ tmpsOf os, t ∈ rd)
    (hw : weff live k (os.map (getOpd E)) (· = .val v)) : BlindAt P o E rd v live := by
  intro Y w0 F0 d m Fs w a h hf hr next QQ hn
  obtain ⟨i, hi, hd, hli⟩ := hf
  refine (op_run hTT hc h hi hd hrd hr (fun s b off n r e => absurd e (hk s b)) hw).wp (fun e v' w' he hres => ?_)
  subst he
  obtain ⟨m', Fs', h1, h2, h3, h4⟩ := hres
  refine hn v' w' m' Fs' h1 (fun t => ?_) h2 h4
  by_cases ht : t = i
  · subst ht
    rw [hi]
    apply Classical.byContradiction
    intro hm
    exact h1.dom t hm hli
  · exact h3 rfl t ht
theorem op_blind (hTT : ∀ t T, TT.get t = some T → tyOf P t = some T) (hc : compileOp P TT o.op = some (k, os)) (hk : k.blind = true) {v : AV} {rd : List Nat} (hrd : ∀ t ∈ tmpsOf os, t ∈ rd)
    (hw : weff live k (os.map (getOpd E)) (· = .val v)) : Blind P o E rd v := by
  intro live' Y w0 F0 d m Fs w a h hf hr next QQ hn
  obtain ⟨i, hi, hd, hli⟩ := hf
  refine (op_run hTT hc h hi hd hrd hr (fun s b off n r e => by rw [e] at hk; cases hk) (weff_blind hk hw)).wp (fun e v' w' he hres => ?_)
  subst he
  obtain ⟨m', Fs', h1, h2, h3, h4⟩ := hres
  refine hn v' w' m' Fs' h1 (fun t => ?_) h2 h4
  by_cases ht : t = i
  · subst ht
    rw [hi]
    apply Classical.byContradiction
    intro hm
    exact h1.dom t hm hli
  · exact h3 rfl t ht
theorem quiet_grows {e : Eff} (hq : e.quiet = true) : ∃ new, effMem mem e = mem ++ new := by
  cases e <;> first | (cases hq; done) | exact ⟨_, rfl⟩ | exact ⟨[], by simp [effMem]⟩
theorem op_quiet (hTT : ∀ t T, TT.get t = some T → tyOf P t = some T) (hc : compileOp P TT o.op = some (k, os)) {e : Eff} (hq : e.quiet = true) {rd : List Nat} (hrd : ∀ t ∈ tmpsOf os, t ∈ rd)
    (hw : weff (liveOf mem) k (os.map (getOpd E)) (· = e)) : Quiet P o E rd mem (effVal mem.length e) (effMem mem e) := by
  refine ⟨quiet_grows hq, ?_⟩
  intro Y w0 F0 live d m Fs w a hx hnew h hf hr next QQ hn
  have hw' := weff_ext hx hw
  cases e with
  | upd id s xs => cases hq
  | updv id s xs c => cases hq
  | app id s xs => cases hq
  | val v =>
    obtain ⟨i, hi, hd, hli⟩ := hf
    refine (op_run hTT hc h hi hd hrd hr (fun s b off n r hk ha => by subst hk; exact append_dead hw' hli s b off n r rfl ha) hw').wp (fun e v' w' he hres => ?_)
    subst he
    obtain ⟨m', Fs', h1, h2, h3, h4⟩ := hres
    refine hn v' w' m' Fs' h1 (fun t _ => ?_) h2 h4
    by_cases ht : t = i
    · subst ht
      rw [hi]
      apply Classical.byContradiction
      intro hm
      exact h1.dom t hm hli
    · exact h3 rfl t ht
  | newSl s xs =>
    obtain ⟨hl, hi, hd⟩ := hnew mem.length (Nat.le_refl _) (by simp [effMem])
    refine (op_run hTT hc h hi hd hrd hr (append_live hw (Nat.le_refl _)) hw').wp (fun e v' w' he hres => ?_)
    subst he
    obtain ⟨m', Fs', h1, h2, h3, h4⟩ := hres
    have hlive : upd live mem.length (some (s, xs)) = live := by
      funext t
      by_cases ht : t = mem.length
      · subst ht; rw [upd_same, hl]; show _ = liveOf (mem ++ _) _; rw [liveOf_snoc, upd_same]
      · rw [upd_ne _ _ ht]
    have h1 : RelW Y w0 F0 (upd live mem.length (some (s, xs))) d m' Fs' w' := h1
    rw [hlive] at h1
    exact hn v' w' m' Fs' h1 (fun t ht => h3 rfl t (by simp [effMem] at ht; omega)) h2 h4
  | newPtr s x =>
    obtain ⟨hl, hi, hd⟩ := hnew mem.length (Nat.le_refl _) (by simp [effMem])
    refine (op_run hTT hc h hi hd hrd hr (append_live hw (Nat.le_refl _)) hw').wp (fun e v' w' he hres => ?_)
    subst he
    obtain ⟨m', Fs', h1, h2, h3, h4⟩ := hres
    have hlive : upd live mem.length (some (s, [x])) = live := by
      funext t
      by_cases ht : t = mem.length
      · subst ht; rw [upd_same, hl]; show _ = liveOf (mem ++ _) _; rw [liveOf_snoc, upd_same]
      · rw [upd_ne _ _ ht]
    have h1 : RelW Y w0 F0 (upd live mem.length (some (s, [x]))) d m' Fs' w' := h1
    rw [hlive] at h1
    exact hn v' w' m' Fs' h1 (fun t ht => h3 rfl t (by simp [effMem] at ht; omega)) h2 h4
theorem op_solid (hTT : ∀ t T, TT.get t = some T → tyOf P t = some T) (hc : compileOp P TT o.op = some (k, os)) {e : Eff} {rd : List Nat} (hrd : ∀ t ∈ tmpsOf os, t ∈ rd)
    (hw : weff (liveOf mem) k (os.map (getOpd E)) (· = e)) : Solid P o E rd mem (effVal mem.length e) (effMem mem e) := by
  refine ⟨by cases e <;> simp [effMem], ?_⟩
  intro Y w0 F0 d m Fs w a hfr h hr next QQ hn
  obtain ⟨hi, hd⟩ := hfr mem.length (Nat.le_refl _)
  refine (op_run hTT hc h hi hd hrd hr (append_live hw (Nat.le_refl _)) (weff_ok hw)).wp (fun e' v' w' he hres => ?_)
  obtain ⟨rfl, hok⟩ := he
  obtain ⟨m', Fs', h1, h2, h3, h4⟩ := hres
  rw [effLive_mem hok] at h1
  refine hn v' w' _ m' Fs' h1 (fun t ht => ⟨?_, ?_⟩) h2 h4
  · apply Classical.byContradiction
    intro hm
    exact h1.dom t hm (liveOf_ge ht)
  · have hge : mem.length ≤ t := by cases e' <;> simp [effMem] at ht <;> omega
    cases e' with
    | app id s xs =>
      obtain ⟨y, hy⟩ := Option.isSome_iff_exists.1 hok
      have := liveOf_lt hy
      rintro (h5 | h5)
      · exact (hfr t hge).2 h5
      · omega
    | _ => exact (hfr t hge).2
end
end Go.Abs
namespace Go.Abs
open Go Go.RowKit
def m0 : IdMap := fun _ => none
def d0 : Nat → Prop := fun _ => False
mutual
def AV.roFree : AV → Bool
  | .ro _ xs => xs.isEmpty
  | .rop _ => false
  | .agg cs => roFreeL cs
  | .tup cs => roFreeL cs
  | .own _ xs => roFreeL xs
  | .box x => AV.roFree x
  | .fn _ cs => roFreeL cs
  | _ => true
def roFreeL : List AV → Bool
  | [] => true
  | x :: xs => x.roFree && roFreeL xs
end
theorem roFreeL_all (xs : List AV) : roFreeL xs = xs.all AV.roFree := by
  induction xs with
  | nil => simp [roFreeL]
  | cons x xs ih => simp [roFreeL, ih]
theorem roFree_cells {x : AV} (h : x.roFree = true) : roFreeL x.cells = true := by
  cases x <;> simp_all [AV.cells, AV.roFree, roFreeL]
theorem roFree_flat {xs : List AV} (h : roFreeL xs = true) : roFreeL (flat xs) = true := by
  induction xs with
  | nil => simp [flat, roFreeL]
  | cons x xs ih =>
    simp only [roFreeL, Bool.and_eq_true] at h
    rw [flat_cons, roFreeL_all, List.all_append, ← roFreeL_all, ← roFreeL_all, roFree_cells h.1, ih h.2]; rfl
theorem RelL.free {w : World} {m : IdMap} {d X X1 : Nat → Prop} {a : List AV} {v : List Value} {F : List Nat} (h : RelL w m0 d0 X1 a v F) : roFreeL a = true → RelL w m d X a v F := by
  refine RelL.rec (motive_1 := fun a v F _ => a.roFree = true → RelV w m d X a v F) (motive_2 := fun a v F _ => roFreeL a = true → RelL w m d X a v F)
    ?undef ?one ?bool ?int ?str ?agg ?tup ?nil ?ro ?own ?own0 ?sl ?sl0 ?slDead ?ptr ?ptrDead ?rop ?box ?fn ?lnil ?lcons h
  case undef => exact fun v _ => .undef v
  case one => exact fun v h _ => .one v h
  case bool => exact fun b _ => .bool b
  case int => exact fun k n _ => .int k n
  case str => exact fun s _ => .str s
  case agg => exact fun _ ih h => .agg (ih (by simpa [AV.roFree] using h))
  case tup => exact fun _ ih h => .tup (ih (by simpa [AV.roFree] using h))
  case nil => exact fun A _ => .nil A
  case ro =>
    intro s xs ys vs A cap hn he hc hf hcl h1 ih hr
    simp [AV.roFree] at hr
    subst hr
    simp [flat] at hf; subst hf
    have : vs = [] := by cases h1; rfl
    subst this
    exact .ro (ys := []) (vs := []) hn he (.inl rfl) rfl rfl .nil
  case own =>
    intro s xs ys vs b o cap F hn he hc hf _ ih hr
    exact .own hn he hc hf (ih (by rw [← hf]; exact roFree_flat (by simpa [AV.roFree] using hr)))
  case own0 => exact fun A _ => .own0 A
  case sl => exact fun hm _ _ _ => by cases hm
  case sl0 => exact fun A _ => .sl0 A
  case slDead => exact fun _ hd _ => hd.elim
  case ptr => exact fun hm _ => by cases hm
  case ptrDead => exact fun _ hd _ => hd.elim
  case rop => intro cs vs b o hX hb hc hcl _ _ hr; simp [AV.roFree] at hr
  case box =>
    intro x ys vs b o F hc hf _ ih hr
    exact .box hc hf (ih (by rw [← hf]; exact roFree_cells (by simpa [AV.roFree] using hr)))
  case fn => exact fun _ ih h => .fn (ih (by simpa [AV.roFree] using h))
  case lnil => exact fun _ => .nil
  case lcons =>
    intro a v F as vs G _ _ ih1 ih2 hr
    simp only [roFreeL, Bool.and_eq_true] at hr
    exact .cons (ih1 hr.1) (ih2 hr.2)
theorem RelV.free {w : World} {m : IdMap} {d X X1 : Nat → Prop} {a : AV} {v : Value} {F : List Nat} (h : RelV w m0 d0 X1 a v F) (hr : a.roFree = true) : RelV w m d X a v F :=
  (RelL.free (RelL.single h) (by simp [roFreeL, hr])).head
theorem RelL.closed {w : World} {m m' : IdMap} {d d' X X' : Nat → Prop} (hX : ∀ b, X' b → X b) {a : List AV} {v : List Value} {F : List Nat} (h : RelL w m d X a v F) :
    a.all closedC = true → F = [] ∧ RelL w m' d' X' a v [] := by
  refine RelL.rec (motive_1 := fun a v F _ => closedC a = true → F = [] ∧ RelV w m' d' X' a v []) (motive_2 := fun a v F _ => a.all closedC = true → F = [] ∧ RelL w m' d' X' a v [])
    ?undef ?one ?bool ?int ?str ?agg ?tup ?nil ?ro ?own ?own0 ?sl ?sl0 ?slDead ?ptr ?ptrDead ?rop ?box ?fn ?lnil ?lcons h
  case undef => exact fun v _ => ⟨rfl, .undef v⟩
  case one => exact fun v h _ => ⟨rfl, .one v h⟩
  case bool => exact fun b _ => ⟨rfl, .bool b⟩
  case int => exact fun k n _ => ⟨rfl, .int k n⟩
  case str => exact fun s _ => ⟨rfl, .str s⟩
  case agg => exact fun _ _ h => by simp [closedC] at h
  case tup => exact fun _ _ h => by simp [closedC] at h
  case nil => exact fun A _ => ⟨rfl, .nil A⟩
  case ro =>
    intro s xs ys vs A cap hn he hc hf hcl _ ih _
    refine ⟨rfl, .ro hn he ?_ hf hcl (ih hcl).2⟩
    rcases hc with hc | ⟨b, o, h1, h2, h3, h4⟩
    · exact .inl hc
    · exact .inr ⟨b, o, h1, fun h => h2 (hX b h), h3, h4⟩
  case own => intro _ _ _ _ _ _ _ _ _ _ _ _ _ _ h; simp [closedC] at h
  case own0 => exact fun A h => by simp [closedC] at h
  case sl => exact fun _ _ _ h => by simp [closedC] at h
  case sl0 => exact fun A h => by simp [closedC] at h
  case slDead => exact fun _ _ h => by simp [closedC] at h
  case ptr => exact fun _ h => by simp [closedC] at h
  case ptrDead => exact fun _ _ h => by simp [closedC] at h
  case rop =>
    intro cs vs b o hx hb hc hcl _ ih _
    exact ⟨rfl, .rop (fun h => hx (hX b h)) hb hc hcl (ih hcl).2⟩
  case box => intro _ _ _ _ _ _ _ _ _ _ h; simp [closedC] at h
  case fn =>
    intro f caps vs F h ih hc
    cases caps with
    | nil => cases h; exact ⟨rfl, .fn .nil⟩
    | cons a t => simp [closedC] at hc
  case lnil => exact fun _ => ⟨rfl, .nil⟩
  case lcons =>
    intro a v F as vs G _ _ ih1 ih2 hc
    simp only [List.all_cons, Bool.and_eq_true] at hc
    obtain ⟨rfl, h1⟩ := ih1 hc.1
    obtain ⟨rfl, h2⟩ := ih2 hc.2
    exact ⟨rfl, .cons h1 h2⟩
def AV.closed (x : AV) : Bool := x.cells.all closedC
theorem RelV.closed {w : World} {m m' : IdMap} {d d' X X' : Nat → Prop} (hX : ∀ b, X' b → X b) {a : AV} {v : Value} {F : List Nat} (h : RelV w m d X a v F) (hc : a.closed = true) :
    F = [] ∧ RelV w m' d' X' a v [] := by
  by_cases ha : ∃ cs, a = .agg cs
  · obtain ⟨cs, rfl⟩ := ha
    cases h with
    | agg h =>
      obtain ⟨rfl, h'⟩ := RelL.closed (m' := m') (d' := d') hX h hc
      exact ⟨rfl, .agg h'⟩
  · have e : a.cells = [a] := by cases a <;> first | rfl | exact absurd ⟨_, rfl⟩ ha
    have hc' : [a].all closedC = true := by rw [← e]; exact hc
    obtain ⟨h1, h2⟩ := RelL.closed (m' := m') (d' := d') hX (RelL.single h) hc'
    exact ⟨h1, h2.head⟩
theorem RelL.closedA {w : World} {m m' : IdMap} {d d' X X' : Nat → Prop} (hX : ∀ b, X' b → X b) : ∀ {a : List AV} {v : List Value} {F : List Nat}, RelL w m d X a v F → a.all AV.closed = true →
    F = [] ∧ RelL w m' d' X' a v [] := by
  intro a
  induction a with
  | nil => intro v F h _; cases h; exact ⟨rfl, .nil⟩
  | cons a as ih =>
    intro v F h hc
    cases h with
    | cons h t =>
      simp only [List.all_cons, Bool.and_eq_true] at hc
      obtain ⟨rfl, h1⟩ := RelV.closed (m' := m') (d' := d') hX h hc.1
      obtain ⟨rfl, h2⟩ := ih t hc.2
      exact ⟨rfl, .cons h1 h2⟩
mutual
inductive Frz (live : Live) : AV → AV → Prop
  | closed {x : AV} (h : x.closed = true) : Frz live x x
  | nil (s : Nat) : Frz live .nil (.ro s [])
  | agg {cs ds : List AV} (h : FrzL live cs ds) : Frz live (.agg cs) (.agg ds)
  | fn {f : FuncId} {cs ds : List AV} (h : FrzL live cs ds) : Frz live (.fn f cs) (.fn f ds)
  | sl {id off n s : Nat} {xs ys zs : List AV} (hl : live id = some (s, xs)) (hn : off + n ≤ xs.length) (h : FrzL live (flat ((xs.drop off).take n)) zs) (he : Even s ys) (hy : ys.length = n) (hf : flat ys = zs) (hc : zs.all closedC = true) :
      Frz live (.sl id off n) (.ro s ys)
  | own {s : Nat} {xs ys zs : List AV} (h : FrzL live (flat xs) zs) (he : Even s ys) (hy : ys.length = xs.length) (hf : flat ys = zs) (hc : zs.all closedC = true) : Frz live (.own s xs) (.ro s ys)
  | ptr {id i j s : Nat} {xs zs : List AV} (hl : live id = some (s, xs)) (hi : i < xs.length) (h : FrzL live ((xs.getD i .undef).cells.drop j) zs) (hc : zs.all closedC = true) : Frz live (.ptr id i j) (.rop zs)
  | box {x : AV} {zs : List AV} (h : FrzL live x.cells zs) (hc : zs.all closedC = true) : Frz live (.box x) (.rop zs)
inductive FrzL (live : Live) : List AV → List AV → Prop
  | nil : FrzL live [] []
  | cons {x y : AV} {xs ys : List AV} (h : Frz live x y) (t : FrzL live xs ys) : FrzL live (x :: xs) (y :: ys)
end
theorem FrzL.ext {live live' : Live} (hx : Ext live live') {xs ys : List AV} (h : FrzL live xs ys) : FrzL live' xs ys := by
  refine FrzL.rec (motive_1 := fun a b _ => Frz live' a b) (motive_2 := fun a b _ => FrzL live' a b) ?closed ?nil ?agg ?fn ?sl ?own ?ptr ?box ?lnil ?lcons h
  case closed => exact fun h => .closed h
  case nil => exact fun s => .nil s
  case agg => exact fun _ ih => .agg ih
  case fn => exact fun _ ih => .fn ih
  case sl => exact fun hl hn _ he hy hf hc ih => .sl (hx _ _ hl) hn ih he hy hf hc
  case own => exact fun _ he hy hf hc ih => .own ih he hy hf hc
  case ptr => exact fun hl hi _ hc ih => .ptr (hx _ _ hl) hi ih hc
  case box => exact fun _ hc ih => .box ih hc
  case lnil => exact .nil
  case lcons => exact fun _ _ ih1 ih2 => .cons ih1 ih2
theorem FrzL.length {live : Live} {xs ys : List AV} (h : FrzL live xs ys) : xs.length = ys.length := by
  induction xs generalizing ys with
  | nil => cases h; rfl
  | cons x xs ih => cases h with | cons h t => simp [ih t]
section
variable {Y : Nat → Prop} {w0 : World} {F0 : List Nat} {live : Live} {d : Nat → Prop} {m : IdMap} {Fs : Nat → List Nat} {w : World}
theorem CellsAt.lt {b o : Nat} {vs : List Value} (h : CellsAt w b o vs) : b < w.heap.size := by
  obtain ⟨c, ty, fr, hb, _⟩ := h; exact heap_lt hb
theorem FrzL.sound (h : RelW Y w0 F0 live d m Fs w) {a b : List AV} (hf : FrzL live a b) : ∀ {v : List Value} {F : List Nat}, RelL w m d (XOf Y m Fs) a v F → RelL w m0 d0 (fun _ => False) b v [] := by
  refine FrzL.rec (motive_1 := fun a b _ => ∀ {v : Value} {F : List Nat}, RelV w m d (XOf Y m Fs) a v F → RelV w m0 d0 (fun _ => False) b v [])
    (motive_2 := fun a b _ => ∀ {v : List Value} {F : List Nat}, RelL w m d (XOf Y m Fs) a v F → RelL w m0 d0 (fun _ => False) b v [])
    ?closed ?nil ?agg ?fn ?sl ?own ?ptr ?box ?lnil ?lcons hf
  case closed => intro x hc v F hv; exact (RelV.closed (fun _ h => h.elim) hv hc).2
  case nil =>
    intro s v F hv
    cases hv with
    | nil A => exact .ro (xs := []) (ys := []) (vs := []) (Nat.le_refl _) (Even.nil s) (.inl rfl) rfl rfl .nil
  case agg => intro cs ds _ ih v F hv; cases hv with | agg hv => exact .agg (ih hv)
  case fn => intro f cs ds _ ih v F hv; cases hv with | fn hv => exact .fn (ih hv)
  case sl =>
    intro id off n s xs ys zs hl hn _ he hy hfl hc ih v F hv
    cases hv with
    | slDead _ hdd => rw [h.ddom _ hdd] at hl; cases hl
    | sl0 A =>
      have : ys = [] := List.eq_nil_of_length_eq_zero hy
      subst this
      exact .ro (xs := []) (ys := []) (vs := []) (Nat.le_refl _) (Even.nil s) (.inl rfl) rfl rfl .nil
    | sl hm hnc hcx =>
      rename_i b o s' cap
      obtain ⟨rfl, hev, vs, hex, hr⟩ := h.cells _ _ _ _ _ _ hl hm
      obtain ⟨F1, F2, hF, _, h2⟩ := hr.take (off * s')
      obtain ⟨G1, G2, hG, h3, _⟩ := h2.take (n * s')
      have hfl' : flat ((xs.drop off).take n) = ((flat xs).drop (off * s')).take (n * s') := by rw [flat_take (hev.drop off), flat_drop hev]
      rw [← hfl'] at h3
      have h4 := ih h3
      rw [← hy]
      exact .ro (by omega) he (.inr ⟨b, _, rfl, fun h => h, hex.lt, (hex.at.drop (n := off * s')).take (n := n * s')⟩) hfl hc h4
  case own =>
    intro s xs ys zs _ he hy hfl hc ih v F hv
    cases hv with
    | own0 A =>
      have : ys = [] := List.eq_nil_of_length_eq_zero (by simpa using hy)
      subst this
      exact .ro (xs := []) (ys := []) (vs := []) (Nat.le_refl _) (Even.nil s) (.inl rfl) rfl rfl .nil
    | own hn hev hex hf' hr =>
      subst hf'
      have h4 := ih hr
      rw [← hy]
      exact .ro (by omega) he (.inr ⟨_, _, rfl, fun h => h, hex.lt, hex.at⟩) hfl hc h4
  case ptr =>
    intro id i j s xs zs hl hi _ hc ih v F hv
    cases hv with
    | ptrDead _ hdd => rw [h.ddom _ hdd] at hl; cases hl
    | ptr hm =>
      rename_i b o s'
      obtain ⟨rfl, hev, vs, hex, hr⟩ := h.cells _ _ _ _ _ _ hl hm
      obtain ⟨F', _, h3⟩ := row_cells hev hr hi
      obtain ⟨F1, F2, hF, _, h4⟩ := h3.take j
      have h5 := ih h4
      have hat := ((hex.at.drop (n := i * s')).take (n := s')).drop (n := j)
      rw [Nat.add_assoc] at hat
      rw [show o + i * s' + j = o + (i * s' + j) by omega]
      exact .rop (fun h => h) hex.lt hat hc h5
  case box =>
    intro x zs _ hc ih v F hv
    cases hv with
    | box hex hf' hr =>
      subst hf'
      exact .rop (fun h => h) hex.lt hex.at hc (ih hr)
  case lnil => intro v F hv; cases hv; exact .nil
  case lcons =>
    intro x y xs ys _ _ ih1 ih2 v F hv
    cases hv with
    | cons h t => exact .cons (F := []) (ih1 h) (ih2 t)
theorem RelW.widen (h : RelW Y w0 F0 live d m Fs w) {w' : World} (e : Evo (fun _ => False) w w') {F : List Nat} (hF : ∀ b ∈ F, w.heap.size ≤ b) :
    RelW (fun b => Y b ∨ b ∈ F) w0 F0 live d m Fs w' ∧ Carry w w' m m d d (XOf Y m Fs) (XOf (fun b => Y b ∨ b ∈ F) m Fs) := by
  have hs : ∀ b, b < w.heap.size → w'.heap[b]? = w.heap[b]? := fun b hb => e.block b hb id
  have C : Carry w w' m m d d (XOf Y m Fs) (XOf (fun b => Y b ∨ b ∈ F) m Fs) :=
    { cells := e.cells
      size := e.size
      ro := fun b hb hx => ⟨fun h' => by
        rcases h' with (h' | h') | h'
        · exact hx (.inl h')
        · have := hF b h'; omega
        · exact hx (.inr h'), hs b hb⟩
      ids := fun id q hq => .inl hq
      dead := fun _ h => h }
  refine ⟨?_, C⟩
  exact
    { dom := h.dom
      ddom := h.ddom
      cells := fun id s xs b o s' hl hm => by
        obtain ⟨e1, e2, vs, e3, e4⟩ := h.cells id s xs b o s' hl hm
        refine ⟨e1, e2, vs, e3.same (hs b e3.lt), RelL.carry C e4 (fun x hx => hs x ?_)⟩
        exact (h.own x ⟨id, by rw [blocksOf_some hm]; exact List.mem_cons_of_mem _ hx⟩).1
      nodup := h.nodup
      disj := h.disj
      own := fun x hx => ⟨Nat.lt_of_lt_of_le (h.own x hx).1 e.size, (h.own x hx).2⟩
      evo := h.evo.trans e (fun _ _ h => h.elim) }
theorem RelW.adopt {b : Nat} {F1 G : List Nat} (h : RelW (fun x => Y x ∨ x ∈ (b :: F1) ++ G) w0 F0 live d m Fs w) {i s : Nat} {xs : List AV} {vs : List Value} {o : Nat}
    (hl : live i = some (s, xs)) (hi : m i = none) (hx : Excl w b o vs (o + vs.length)) (he : Even s xs) (hr : RelL w m d (XOf (fun x => Y x ∨ x ∈ (b :: F1) ++ G) m Fs) (flat xs) vs F1)
    (hn : (b :: F1).Nodup) (hge : ∀ x ∈ b :: F1, w0.heap.size ≤ x ∧ x < w.heap.size ∧ ¬ OwnOf m Fs x) :
    RelW (fun x => Y x ∨ x ∈ G) w0 F0 live d (upd m i (some (b, o, s))) (upd Fs i F1) w ∧
      Carry w w m (upd m i (some (b, o, s))) d d (XOf (fun x => Y x ∨ x ∈ (b :: F1) ++ G) m Fs) (XOf (fun x => Y x ∨ x ∈ G) (upd m i (some (b, o, s))) (upd Fs i F1)) ∧
      (∀ x, OwnOf (upd m i (some (b, o, s))) (upd Fs i F1) x → OwnOf m Fs x ∨ x ∈ b :: F1) := by
  have hbi : blocksOf (upd m i (some (b, o, s))) (upd Fs i F1) i = b :: F1 := by simp [blocksOf, upd]
  have hbn : ∀ id, id ≠ i → blocksOf (upd m i (some (b, o, s))) (upd Fs i F1) id = blocksOf m Fs id := fun id hid => blocksOf_congr (upd_ne _ _ hid) (upd_ne _ _ hid)
  have hown : ∀ x, OwnOf (upd m i (some (b, o, s))) (upd Fs i F1) x ↔ OwnOf m Fs x ∨ x ∈ b :: F1 := by
    intro x
    constructor
    · rintro ⟨id, hid⟩
      by_cases e : id = i
      · subst e; rw [hbi] at hid; exact .inr hid
      · rw [hbn id e] at hid; exact .inl ⟨id, hid⟩
    · rintro (⟨id, hid⟩ | hx)
      · have e : id ≠ i := fun e => by subst e; rw [blocksOf_none hi] at hid; cases hid
        exact ⟨id, by rw [hbn id e]; exact hid⟩
      · exact ⟨i, by rw [hbi]; exact hx⟩
  have hX : ∀ x, XOf (fun x => Y x ∨ x ∈ G) (upd m i (some (b, o, s))) (upd Fs i F1) x → XOf (fun x => Y x ∨ x ∈ (b :: F1) ++ G) m Fs x := by
    rintro x ((hx | hx) | hx)
    · exact .inl (.inl hx)
    · exact .inl (.inr (List.mem_append_right _ hx))
    · rcases (hown x).1 hx with hx | hx
      · exact .inr hx
      · exact .inl (.inr (List.mem_append_left _ hx))
  have C : Carry w w m (upd m i (some (b, o, s))) d d (XOf (fun x => Y x ∨ x ∈ (b :: F1) ++ G) m Fs) (XOf (fun x => Y x ∨ x ∈ G) (upd m i (some (b, o, s))) (upd Fs i F1)) :=
    { cells := fun b c ty fr hc => ⟨c, hc, rfl⟩
      size := Nat.le_refl _
      ro := fun x _ hx' => ⟨fun h => hx' (hX x h), rfl⟩
      ids := fun id q hq => .inl (by rw [upd_ne _ _ (fun e => by rw [e, hi] at hq; cases hq)]; exact hq)
      dead := fun _ h => h }
  refine ⟨?_, C, fun x hx => (hown x).1 hx⟩
  refine { dom := fun id hm => ?_, ddom := h.ddom, cells := fun id s2 xs2 b2 o2 s2' hl2 hm2 => ?_, nodup := fun id => ?_, disj := fun id id' hne x hx1 hx2 => ?_, own := fun x hx' => ?_, evo := h.evo }
  · by_cases e : id = i
    · subst e; simp [hl]
    · rw [upd_ne _ _ e] at hm; exact h.dom id hm
  · by_cases e : id = i
    · subst e
      rw [upd_same] at hm2; cases hm2
      rw [hl] at hl2; cases hl2
      exact ⟨rfl, he, vs, hx, by rw [upd_same]; exact RelL.carry C hr (fun _ _ => rfl)⟩
    · rw [upd_ne _ _ e] at hm2
      obtain ⟨e1, e2, vs', e3, e4⟩ := h.cells id s2 xs2 b2 o2 s2' hl2 hm2
      exact ⟨e1, e2, vs', e3, by rw [upd_ne _ _ e]; exact RelL.carry C e4 (fun _ _ => rfl)⟩
  · by_cases e : id = i
    · subst e; rw [hbi]; exact hn
    · rw [hbn id e]; exact h.nodup id
  · by_cases e : id = i
    · subst e
      rw [hbi] at hx1
      rw [hbn id' (Ne.symm hne)] at hx2
      exact (hge x hx1).2.2 ⟨id', hx2⟩
    · rw [hbn id e] at hx1
      by_cases e' : id' = i
      · subst e'; rw [hbi] at hx2; exact (hge x hx2).2.2 ⟨id, hx1⟩
      · rw [hbn id' e'] at hx2; exact h.disj id id' hne x hx1 hx2
  · rcases (hown x).1 hx' with hx' | hx'
    · exact h.own x hx'
    · exact ⟨(hge x hx').2.1, .inr (hge x hx').1⟩
def unp1 (n : Nat) : AV → AV × Mem
  | .own s xs => (.sl n 0 xs.length, [some (s, xs)])
  | .box x => (.ptr n 0 0, [some (x.cells.length, [x])])
  | x => (x, [])
def unpL (n : Nat) : List AV → List AV × Mem
  | [] => ([], [])
  | x :: xs => ((unp1 n x).1 :: (unpL (n + (unp1 n x).2.length) xs).1, (unp1 n x).2 ++ (unpL (n + (unp1 n x).2.length) xs).2)
def unp2 (n : Nat) : AV → AV × Mem
  | .agg cs => (.agg (unpL n cs).1, (unpL n cs).2)
  | x => unp1 n x
def unpL2 (n : Nat) : List AV → List AV × Mem
  | [] => ([], [])
  | x :: xs => ((unp2 n x).1 :: (unpL2 (n + (unp2 n x).2.length) xs).1, (unp2 n x).2 ++ (unpL2 (n + (unp2 n x).2.length) xs).2)
def unp (n : Nat) : AV → AV × Mem
  | .tup cs => (.tup (unpL2 n cs).1, (unpL2 n cs).2)
  | x => unp2 n x
def unpOk1 : AV → Bool
  | .own .. | .box .. => true
  | x => noOwnC x
def unpOk2 : AV → Bool
  | .agg cs => cs.all unpOk1
  | x => unpOk1 x
def unpOk : AV → Bool
  | .tup cs => cs.all unpOk2
  | x => unpOk2 x
def Laid (Y : Nat → Prop) (w0 : World) (F0 : List Nat) (live : Live) (d : Nat → Prop) (m : IdMap) (Fs : Nat → List Nat) (w : World) (F G : List Nat) (n k : Nat) (m' : IdMap) (Fs' : Nat → List Nat) : Prop :=
  RelW (fun x => Y x ∨ x ∈ G) w0 F0 live d m' Fs' w ∧ Carry w w m m' d d (XOf (fun x => Y x ∨ x ∈ F ++ G) m Fs) (XOf (fun x => Y x ∨ x ∈ G) m' Fs') ∧
    (∀ t, t < n ∨ n + k ≤ t → m' t = m t) ∧ (∀ x, OwnOf m' Fs' x → OwnOf m Fs x ∨ x ∈ F)
structure Aside (Y : Nat → Prop) (w0 : World) (F0 : List Nat) (live : Live) (d : Nat → Prop) (m : IdMap) (Fs : Nat → List Nat) (w : World) (H : List Nat) (n : Nat) (new : Mem) : Prop where
  rel : RelW (fun x => Y x ∨ x ∈ H) w0 F0 live d m Fs w
  nodup : H.Nodup
  blk : ∀ b ∈ H, w0.heap.size ≤ b ∧ b < w.heap.size ∧ ¬ OwnOf m Fs b
  ids : ∀ k y, new[k]? = some y → live (n + k) = y ∧ m (n + k) = none
theorem Aside.left {H : List Nat} {n : Nat} {new new' : Mem} (h : Aside Y w0 F0 live d m Fs w H n (new ++ new')) : Aside Y w0 F0 live d m Fs w H n new :=
  ⟨h.rel, h.nodup, h.blk, fun k y hk => h.ids k y (by rw [List.getElem?_append_left]; exact hk; exact (List.getElem?_eq_some_iff.1 hk).1)⟩
theorem Aside.right {F G : List Nat} {n : Nat} {new new' : Mem} {m' : IdMap} {Fs' : Nat → List Nat} (h : Aside Y w0 F0 live d m Fs w (F ++ G) n (new ++ new'))
    (hl : Laid Y w0 F0 live d m Fs w F G n new.length m' Fs') : Aside Y w0 F0 live d m' Fs' w G (n + new.length) new' := by
  obtain ⟨h1, h2, h3, h4⟩ := hl
  refine ⟨h1, (List.nodup_append.1 h.nodup).2.1, fun b hb => ?_, fun k y hk => ?_⟩
  · obtain ⟨e1, e2, e3⟩ := h.blk b (List.mem_append_right _ hb)
    refine ⟨e1, e2, fun ho => ?_⟩
    rcases h4 b ho with ho | ho
    · exact e3 ho
    · exact (List.nodup_append.1 h.nodup).2.2 b ho b hb rfl
  · have := h.ids (new.length + k) y (by rw [List.getElem?_append_right (by omega)]; rw [Nat.add_sub_cancel_left]; exact hk)
    rw [← Nat.add_assoc] at this
    exact ⟨this.1, by rw [h3 _ (.inr (by omega))]; exact this.2⟩
theorem unp1_sound {F G : List Nat} {n : Nat} {x : AV} {v : Value} (h : Aside Y w0 F0 live d m Fs w (F ++ G) n (unp1 n x).2)
    (hv : RelV w m d (XOf (fun x => Y x ∨ x ∈ F ++ G) m Fs) x v F) (hok : unpOk1 x = true) :
    ∃ m' Fs', Laid Y w0 F0 live d m Fs w F G n (unp1 n x).2.length m' Fs' ∧ RelV w m' d (XOf (fun x => Y x ∨ x ∈ G) m' Fs') (unp1 n x).1 v [] := by
  have leaf : noOwnC x = true → unp1 n x = (x, []) → ∃ m' Fs', Laid Y w0 F0 live d m Fs w F G n (unp1 n x).2.length m' Fs' ∧ RelV w m' d (XOf (fun x => Y x ∨ x ∈ G) m' Fs') (unp1 n x).1 v [] := by
    intro hno hu
    have hF := hv.noOwnC hno
    subst hF
    rw [hu]
    exact ⟨m, Fs, ⟨h.rel, .refl, fun _ _ => rfl, fun x hx => .inl hx⟩, hv⟩
  cases x with
  | own s xs =>
    simp only [unp1] at h ⊢
    cases hv with
    | own0 A =>
      exact ⟨m, Fs, ⟨h.rel, .refl, fun _ _ => rfl, fun x hx => .inl hx⟩, .sl0 A⟩
    | own hn hev hex hf hr =>
      rename_i ys vs b o cap F1
      subst hf
      obtain ⟨h1, h2⟩ := h.ids 0 (some (s, xs)) rfl
      have hlen := hr.length
      rw [flat_length hev] at hlen
      have hex' : Excl w b o vs (o + vs.length) := by
        obtain ⟨c, ty, e1, e2, e3⟩ := hex
        have := Nat.mul_le_mul_right s hn
        exact ⟨c, ty, e1, e2, by omega⟩
      obtain ⟨k1, k2, k3⟩ := h.rel.adopt (i := n) h1 h2 hex' hev hr (List.nodup_append.1 h.nodup).1 (fun x hx => h.blk x (List.mem_append_left _ hx))
      refine ⟨_, _, ⟨k1, k2, fun t ht => upd_ne _ _ (fun e => by subst e; simp at ht; omega), k3⟩, ?_⟩
      have := RelV.sl (w := w) (m := upd m n (some (b, o, s))) (d := d) (X := XOf (fun x => Y x ∨ x ∈ G) (upd m n (some (b, o, s))) (upd Fs n F1)) (id := n) (off := 0) (n := xs.length) (cap := cap) (b := b) (o := o) (s := s) (upd_same _ _ _) hn
        (by obtain ⟨c, ty, e1, e2, e3⟩ := hex; exact ⟨c, ty, e1, fun j v hj => by simp at hj, by omega⟩)
      rwa [Nat.zero_mul, Nat.add_zero] at this
  | box x =>
    simp only [unp1] at h ⊢
    cases hv with
    | box hex hf hr =>
      rename_i ys vs b o F1
      subst hf
      obtain ⟨h1, h2⟩ := h.ids 0 _ rfl
      obtain ⟨k1, k2, k3⟩ := h.rel.adopt (i := n) (s := x.cells.length) (xs := [x]) h1 h2 hex (Even.mk rfl (Even.nil _)) (by simpa [flat] using hr) (List.nodup_append.1 h.nodup).1 (fun x hx => h.blk x (List.mem_append_left _ hx))
      refine ⟨_, _, ⟨k1, k2, fun t ht => upd_ne _ _ (fun e => by subst e; simp at ht; omega), k3⟩, ?_⟩
      have := RelV.ptr (w := w) (m := upd m n (some (b, o, x.cells.length))) (d := d) (X := XOf (fun x => Y x ∨ x ∈ G) (upd m n (some (b, o, x.cells.length))) (upd Fs n F1)) (id := n) (i := 0) (j := 0) (upd_same _ _ _)
      rwa [Nat.zero_mul, Nat.add_zero] at this
  | _ => first | exact leaf hok rfl
theorem unpL_sound : ∀ {xs : List AV} {F G : List Nat} {n : Nat} {m : IdMap} {Fs : Nat → List Nat} {vs : List Value}, Aside Y w0 F0 live d m Fs w (F ++ G) n (unpL n xs).2 →
    RelL w m d (XOf (fun x => Y x ∨ x ∈ F ++ G) m Fs) xs vs F → xs.all unpOk1 = true →
    ∃ m' Fs', Laid Y w0 F0 live d m Fs w F G n (unpL n xs).2.length m' Fs' ∧ RelL w m' d (XOf (fun x => Y x ∨ x ∈ G) m' Fs') (unpL n xs).1 vs [] := by
  intro xs
  induction xs with
  | nil =>
    intro F G n m Fs vs h hv _
    cases hv
    exact ⟨m, Fs, ⟨h.rel, .refl, fun _ _ => rfl, fun x hx => .inl hx⟩, .nil⟩
  | cons x xs ih =>
    intro F G n m Fs vs h hv hok
    simp only [List.all_cons, Bool.and_eq_true] at hok
    cases hv with
    | cons hv ht =>
      rename_i v F1 vs F2
      rw [List.append_assoc] at h hv ht
      simp only [unpL] at h
      obtain ⟨m1, Fs1, l1, r1⟩ := unp1_sound (Y := Y) (F := F1) (G := F2 ++ G) h.left hv hok.1
      have h2 := h.right l1
      have ht' := RelL.carry l1.2.1 ht (fun _ _ => rfl)
      obtain ⟨m2, Fs2, l2, r2⟩ := ih h2 ht' hok.2
      refine ⟨m2, Fs2, ⟨l2.1, ?_, fun t ht => ?_, fun x hx => ?_⟩, .cons (F := []) (RelV.carry l2.2.1 r1 (fun _ h => by cases h)) r2⟩
      · rw [List.append_assoc]; exact l1.2.1.trans l2.2.1
      · simp only [unpL, List.length_append] at ht
        rw [l2.2.2.1 t (by omega), l1.2.2.1 t (by omega)]
      · rcases l2.2.2.2 x hx with h3 | h3
        · rcases l1.2.2.2 x h3 with h4 | h4
          · exact .inl h4
          · exact .inr (List.mem_append_left _ h4)
        · exact .inr (List.mem_append_right _ h3)
theorem unp2_sound {F G : List Nat} {n : Nat} {m : IdMap} {Fs : Nat → List Nat} {x : AV} {v : Value} (h : Aside Y w0 F0 live d m Fs w (F ++ G) n (unp2 n x).2)
    (hv : RelV w m d (XOf (fun x => Y x ∨ x ∈ F ++ G) m Fs) x v F) (hok : unpOk2 x = true) :
    ∃ m' Fs', Laid Y w0 F0 live d m Fs w F G n (unp2 n x).2.length m' Fs' ∧ RelV w m' d (XOf (fun x => Y x ∨ x ∈ G) m' Fs') (unp2 n x).1 v [] := by
  by_cases ha : ∃ cs, x = .agg cs
  · obtain ⟨cs, rfl⟩ := ha
    cases hv with
    | agg hv =>
      obtain ⟨m', Fs', h1, h2⟩ := unpL_sound h hv hok
      exact ⟨m', Fs', h1, .agg h2⟩
  · have e : unp2 n x = unp1 n x := by cases x <;> first | rfl | exact absurd ⟨_, rfl⟩ ha
    have e2 : unpOk2 x = unpOk1 x := by cases x <;> first | rfl | exact absurd ⟨_, rfl⟩ ha
    rw [e] at h ⊢
    exact unp1_sound h hv (by rw [← e2]; exact hok)
theorem unpL2_sound : ∀ {xs : List AV} {F G : List Nat} {n : Nat} {m : IdMap} {Fs : Nat → List Nat} {vs : List Value}, Aside Y w0 F0 live d m Fs w (F ++ G) n (unpL2 n xs).2 →
    RelL w m d (XOf (fun x => Y x ∨ x ∈ F ++ G) m Fs) xs vs F → xs.all unpOk2 = true →
    ∃ m' Fs', Laid Y w0 F0 live d m Fs w F G n (unpL2 n xs).2.length m' Fs' ∧ RelL w m' d (XOf (fun x => Y x ∨ x ∈ G) m' Fs') (unpL2 n xs).1 vs [] := by
  intro xs
  induction xs with
  | nil =>
    intro F G n m Fs vs h hv _
    cases hv
    exact ⟨m, Fs, ⟨h.rel, .refl, fun _ _ => rfl, fun x hx => .inl hx⟩, .nil⟩
  | cons x xs ih =>
    intro F G n m Fs vs h hv hok
    simp only [List.all_cons, Bool.and_eq_true] at hok
    cases hv with
    | cons hv ht =>
      rename_i v F1 vs F2
      rw [List.append_assoc] at h hv ht
      simp only [unpL2] at h
      obtain ⟨m1, Fs1, l1, r1⟩ := unp2_sound (Y := Y) (F := F1) (G := F2 ++ G) h.left hv hok.1
      have h2 := h.right l1
      have ht' := RelL.carry l1.2.1 ht (fun _ _ => rfl)
      obtain ⟨m2, Fs2, l2, r2⟩ := ih h2 ht' hok.2
      refine ⟨m2, Fs2, ⟨l2.1, ?_, fun t ht => ?_, fun x hx => ?_⟩, .cons (F := []) (RelV.carry l2.2.1 r1 (fun _ h => by cases h)) r2⟩
      · rw [List.append_assoc]; exact l1.2.1.trans l2.2.1
      · simp only [unpL2, List.length_append] at ht
        rw [l2.2.2.1 t (by omega), l1.2.2.1 t (by omega)]
      · rcases l2.2.2.2 x hx with h3 | h3
        · rcases l1.2.2.2 x h3 with h4 | h4
          · exact .inl h4
          · exact .inr (List.mem_append_left _ h4)
        · exact .inr (List.mem_append_right _ h3)
theorem unp_sound {F G : List Nat} {n : Nat} {m : IdMap} {Fs : Nat → List Nat} {x : AV} {v : Value} (h : Aside Y w0 F0 live d m Fs w (F ++ G) n (unp n x).2)
    (hv : RelV w m d (XOf (fun x => Y x ∨ x ∈ F ++ G) m Fs) x v F) (hok : unpOk x = true) :
    ∃ m' Fs', Laid Y w0 F0 live d m Fs w F G n (unp n x).2.length m' Fs' ∧ RelV w m' d (XOf (fun x => Y x ∨ x ∈ G) m' Fs') (unp n x).1 v [] := by
  by_cases ha : ∃ cs, x = .tup cs
  · obtain ⟨cs, rfl⟩ := ha
    cases hv with
    | tup hv =>
      obtain ⟨m', Fs', h1, h2⟩ := unpL2_sound h hv hok
      exact ⟨m', Fs', h1, .tup h2⟩
  · have e : unp n x = unp2 n x := by cases x <;> first | rfl | exact absurd ⟨_, rfl⟩ ha
    have e2 : unpOk x = unpOk2 x := by cases x <;> first | rfl | exact absurd ⟨_, rfl⟩ ha
    rw [e] at h ⊢
    exact unp2_sound h hv (by rw [← e2]; exact hok)
end
end Go.Abs
namespace Go.Abs
open Go Go.RowKit
def CallOk (P : Program) (f : FuncId) (vs : List Value) (w : World) (Rr : Value → World → Prop) : Prop :=
  ∀ (o : Oper) (a : Act) (next : Act → World → Prop) (Q : Exit → Act → World → Prop), (∀ v w', Rr v w' → next (a.put o.dst v) w') → o.upon P a next Q ((callFunc f vs.toArray).run P w)
def ACall (P : Program) (f : FuncId) (args : List AV) (res : AV) : Prop :=
  ∀ (Y : Nat → Prop) (w : World) (vs : List Value), RelL w m0 d0 Y args vs [] →
    CallOk P f vs w (fun v w' => ∃ F, F.Nodup ∧ (∀ b ∈ F, w.heap.size ≤ b ∧ b < w'.heap.size) ∧ RelV w' m0 d0 (fun b => Y b ∨ b ∈ F) res v F ∧ Evo (fun _ => False) w w')
def SCall (P : Program) (f : FuncId) (args : List AV) (mem : Mem) (res : AV) (mem' : Mem) : Prop :=
  mem.length ≤ mem'.length ∧ ∀ (Y : Nat → Prop) (w0 : World) (F0 : List Nat) (d : Nat → Prop) (m : IdMap) (Fs : Nat → List Nat) (w : World) (vs : List Value),
    (∀ t, mem.length ≤ t → m t = none ∧ ¬ d t) → RelW Y w0 F0 (liveOf mem) d m Fs w → RelL w m d (XOf Y m Fs) args vs [] →
    CallOk P f vs w (fun v w' => ∃ d' m' Fs', RelW Y w0 F0 (liveOf mem') d' m' Fs' w' ∧ (∀ t, mem'.length ≤ t → m' t = none ∧ ¬ d' t) ∧ Carry w w' m m' d d' (XOf Y m Fs) (XOf Y m' Fs') ∧ R Y w' m' d' Fs' res v)
theorem CallOk.of_calls {P : Program} {f : FuncId} {fn : Func} {c : Code} {vs : List Value} {w : World} {Rr : Value → World → Prop} (hf : P.funcs[f]? = some fn) (hname : (fn.name == "runtime.NumGoroutine") = false)
    (hb : fn.body = some c) (h : Calls P f vs.toArray w fun | .returned v, w' => Rr v w' | _, _ => False) : CallOk P f vs w Rr := by
  intro o a next Q hn
  have h1 : fn.name ≠ "runtime.NumGoroutine" := by simpa using hname
  have hr : (callFunc f vs.toArray).run P w = .ok (.enter f vs.toArray) w := by simp [callFunc, go_sem, hf, h1, hb]
  rw [hr, Oper.upon_enter]
  refine Calls.mono h (fun e w' he => ?_)
  cases e with
  | returned v => exact hn v w' he
  | panicked c => exact he.elim
  | outgrown => exact he.elim
def Lend (live : Live) (args args' : List AV) (res : AV) : Prop := (args' = args ∧ args.all AV.closed = true) ∨ (FrzL live args args' ∧ res.roFree = true)
section
variable {P : Program} {E : Nat → AV} {a : Act} {o : Oper} {os : List Opd} {mem : Mem} {Y : Nat → Prop} {w0 : World} {F0 : List Nat} {live : Live} {d : Nat → Prop} {m : IdMap} {Fs : Nat → List Nat} {w : World}
theorem fn_inv {X : Nat → Prop} {f : FuncId} {caps : List AV} {v : Value} (h : RelV w m d X (.fn f caps) v []) : ∃ vs, v = .func (.func f) #[] vs.toArray ∧ RelL w m d X caps vs [] := by
  generalize hF : ([] : List Nat) = F at h
  cases h with
  | fn h => subst hF; exact ⟨_, rfl, h⟩
theorem exec_call {c : Call} {g0 : Operand} {f : FuncId} {vs : List Value} (ho : o.op = .call c) (hc : c.callee = .value g0) (hg : a.eval g0 = .func (.func f) #[] vs.toArray) (w : World) :
    (execOp a.eval o).run P w = (callFunc f (c.args.toList.map a.eval ++ vs).toArray).run P w := by
  simp only [execOp, ho, resolve, hc, hg, Deferred.ofValue, Sem.run_bind, Sem.run_pure, Result.andThen_ok, invoke]
  have : (#[] ++ c.args.map a.eval ++ vs.toArray) = (c.args.toList.map a.eval ++ vs).toArray := by
    apply Array.ext'; simp
  rw [this]
theorem call_values {c : Call} {g0 : Operand} {g : Opd} {f : FuncId} {caps : List AV} (hg : opd g0 = some g) (ha : opds c.args.toList = some os) (hf : getOpd E g = .fn f caps)
    {rd : List Nat} (hrd : ∀ t ∈ tmpsOf (g :: os), t ∈ rd) (hr : Rds Y w m d Fs E rd a) :
    ∃ vs, a.eval g0 = .func (.func f) #[] vs.toArray ∧ RelL w m d (XOf Y m Fs) (os.map (getOpd E) ++ caps) (c.args.toList.map a.eval ++ vs) [] := by
  have hE : (g :: os).map (getOpd E) = (g :: os).map (getOpd (only rd E)) := tmps_congr (fun t ht => (only_of (hrd t ht)).symm)
  simp only [List.map_cons, List.cons.injEq] at hE
  have h1 := opd_rel (only_rel hr) hg
  rw [← hE.1, hf] at h1
  obtain ⟨vs, h2, h3⟩ := fn_inv h1
  have h4 := opds_rel (only_rel hr) ha
  rw [← hE.2] at h4
  exact ⟨vs, h2, h4.append h3⟩
theorem call_quiet {c : Call} {g0 : Operand} {g : Opd} (ho : o.op = .call c) (hc : c.callee = .value g0) (hg : opd g0 = some g) (ha : opds c.args.toList = some os) {f : FuncId} {caps : List AV} (hf : getOpd E g = .fn f caps)
    {args' : List AV} {res : AV} (hl : Lend (liveOf mem) (os.map (getOpd E) ++ caps) args' res) (hA : ACall P f args' res) (hu : unpOk res = true) {rd : List Nat} (hrd : ∀ t ∈ tmpsOf (g :: os), t ∈ rd) :
    Quiet P o E rd mem (unp mem.length res).1 (mem ++ (unp mem.length res).2) := by
  refine ⟨⟨_, rfl⟩, ?_⟩
  intro Y w0 F0 live d m Fs w a hx hnew h hfr hr next QQ hn
  obtain ⟨vs, e1, hargs⟩ := call_values (c := c) hg ha hf hrd hr
  rw [Oper.wp, exec_call ho hc e1]
  have fin : ∀ (Yc : Nat → Prop) (v : Value) (w' : World) (F : List Nat), F.Nodup → (∀ b ∈ F, w.heap.size ≤ b ∧ b < w'.heap.size) → Evo (fun _ => False) w w' →
      RelV w' m d (XOf (fun b => Y b ∨ b ∈ F ++ []) m Fs) res v F → next (a.put o.dst v) w' := by
    intro Yc v w' F hn1 hb he hv
    obtain ⟨k1, k2⟩ := h.widen he (F := F ++ []) (fun b hb' => (hb b (by simpa using hb')).1)
    have hold : ∀ b ∈ F, w0.heap.size ≤ b ∧ b < w'.heap.size ∧ ¬ OwnOf m Fs b := fun b hb' => by
      obtain ⟨h1, h2⟩ := hb b hb'
      have := h.evo.size
      exact ⟨by omega, h2, fun ho => by have := (h.own b ho).1; omega⟩
    have hA : Aside Y w0 F0 live d m Fs w' (F ++ []) mem.length (unp mem.length res).2 :=
      ⟨k1, by simpa using hn1, fun b hb' => hold b (by simpa using hb'), fun k y hk => by
        have hlt := (List.getElem?_eq_some_iff.1 hk).1
        obtain ⟨h1, h2, _⟩ := hnew (mem.length + k) (by omega) (by rw [List.length_append]; omega)
        refine ⟨?_, h2⟩
        rw [h1]
        show ((mem ++ _)[mem.length + k]?).join = y
        rw [List.getElem?_append_right (by omega), Nat.add_sub_cancel_left, hk]; rfl⟩
    obtain ⟨m', Fs', ⟨l1, l2, l3, l4⟩, hv'⟩ := unp_sound hA hv hu
    have hYY : (fun x => Y x ∨ x ∈ ([] : List Nat)) = Y := by funext x; simp
    rw [hYY] at l1 l2 hv'
    refine hn v w' m' Fs' l1 (fun t ht => l3 t (by rw [List.length_append] at ht; omega)) (k2.trans l2) hv'
  rcases hl with ⟨rfl, hcl⟩ | ⟨hfz, hro⟩
  · have ha' := (RelL.closedA (m' := m0) (d' := d0) (X' := XOf Y m Fs) (fun _ h => h) hargs hcl).2
    refine hA (XOf Y m Fs) w _ ha' o a next QQ (fun v w' hres => ?_)
    obtain ⟨F, hn1, hb, hv, he⟩ := hres
    refine fin (XOf Y m Fs) v w' F hn1 hb he ?_
    refine RelV.carry (w := w') (m := m0) (d := d0) { cells := fun b c ty fr hc => ⟨c, hc, rfl⟩, size := Nat.le_refl _, ro := fun b _ hx => ⟨fun h' => hx ?_, rfl⟩, ids := fun id q hq => (by cases hq), dead := fun _ h => False.elim h } hv (fun _ _ => rfl)
    rcases h' with (h' | h') | h'
    · exact .inl (.inl h')
    · exact .inr (by simpa using h')
    · exact .inl (.inr h')
  · have hfz' : FrzL live (os.map (getOpd E) ++ caps) args' := hfz.ext hx
    have ha' := hfz'.sound h hargs
    refine hA (fun _ => False) w _ ha' o a next QQ (fun v w' hres => ?_)
    obtain ⟨F, hn1, hb, hv, he⟩ := hres
    exact fin (fun _ => False) v w' F hn1 hb he (hv.free hro)
theorem call_solid {c : Call} {g0 : Operand} {g : Opd} (ho : o.op = .call c) (hc : c.callee = .value g0) (hg : opd g0 = some g) (ha : opds c.args.toList = some os) {f : FuncId} {caps : List AV} (hf : getOpd E g = .fn f caps)
    {res : AV} {mem' : Mem} (hA : SCall P f (os.map (getOpd E) ++ caps) mem res mem') {rd : List Nat} (hrd : ∀ t ∈ tmpsOf (g :: os), t ∈ rd) : Solid P o E rd mem res mem' := by
  refine ⟨hA.1, ?_⟩
  intro Y w0 F0 d m Fs w a hfr h hr next QQ hn
  obtain ⟨vs, e1, hargs⟩ := call_values (c := c) hg ha hf hrd hr
  rw [Oper.wp, exec_call ho hc e1]
  refine hA.2 Y w0 F0 d m Fs w _ hfr h hargs o a next QQ (fun v w' hres => ?_)
  obtain ⟨d', m', Fs', h1, h2, h3, h4⟩ := hres
  exact hn v w' d' m' Fs' h1 h2 h3 h4
end
mutual
inductive Pk (live : Live) : AV → AV → List Nat → Prop
  | closed {x : AV} (h : x.closed = true) : Pk live x x []
  | agg {cs ds : List AV} {ids : List Nat} (h : PkL live cs ds ids) : Pk live (.agg cs) (.agg ds) ids
  | tup {cs ds : List AV} {ids : List Nat} (h : PkL live cs ds ids) : Pk live (.tup cs) (.tup ds) ids
  | fn {f : FuncId} {cs ds : List AV} {ids : List Nat} (h : PkL live cs ds ids) : Pk live (.fn f cs) (.fn f ds) ids
  | sl {id n s : Nat} {xs ys zs : List AV} {ids : List Nat} (hl : live id = some (s, xs)) (hn : n ≤ xs.length) (h : PkL live (flat (xs.take n)) zs ids) (he : Even s ys) (hy : ys.length = n) (hf : flat ys = zs) :
      Pk live (.sl id 0 n) (.own s ys) (id :: ids)
  | ptr {id s : Nat} {x y : AV} {zs : List AV} {ids : List Nat} (hl : live id = some (s, [x])) (h : PkL live x.cells zs ids) (hf : y.cells = zs) : Pk live (.ptr id 0 0) (.box y) (id :: ids)
  | own {s : Nat} {xs ys zs : List AV} {ids : List Nat} (h : PkL live (flat xs) zs ids) (he : Even s ys) (hy : ys.length = xs.length) (hf : flat ys = zs) : Pk live (.own s xs) (.own s ys) ids
  | box {x y : AV} {zs : List AV} {ids : List Nat} (h : PkL live x.cells zs ids) (hf : y.cells = zs) : Pk live (.box x) (.box y) ids
inductive PkL (live : Live) : List AV → List AV → List Nat → Prop
  | nil : PkL live [] [] []
  | cons {x y : AV} {xs ys : List AV} {ids ids' : List Nat} (h : Pk live x y ids) (t : PkL live xs ys ids') : PkL live (x :: xs) (y :: ys) (ids ++ ids')
end
section
variable {Y : Nat → Prop} {w0 : World} {F0 : List Nat} {live : Live} {d : Nat → Prop} {m : IdMap} {Fs : Nat → List Nat} {w : World}
def Used (m : IdMap) (Fs : Nat → List Nat) (F F' : List Nat) (ids : List Nat) : Prop := F'.Nodup ∧ ∀ x ∈ F', x ∈ F ∨ ∃ id ∈ ids, x ∈ blocksOf m Fs id
def Free (m : IdMap) (Fs : Nat → List Nat) (F : List Nat) (ids : List Nat) : Prop := F.Nodup ∧ ids.Nodup ∧ ∀ x ∈ F, ∀ id ∈ ids, x ∉ blocksOf m Fs id
theorem PkL.sound (h : RelW Y w0 F0 live d m Fs w) {a b : List AV} {ids : List Nat} (hp : PkL live a b ids) : ∀ {v : List Value} {F : List Nat}, Free m Fs F ids → RelL w m d (XOf Y m Fs) a v F →
    ∃ F', Used m Fs F F' ids ∧ RelL w m0 d0 (XOf Y m Fs) b v F' := by
  refine PkL.rec (motive_1 := fun a b ids _ => ∀ {v : Value} {F : List Nat}, Free m Fs F ids → RelV w m d (XOf Y m Fs) a v F → ∃ F', Used m Fs F F' ids ∧ RelV w m0 d0 (XOf Y m Fs) b v F')
    (motive_2 := fun a b ids _ => ∀ {v : List Value} {F : List Nat}, Free m Fs F ids → RelL w m d (XOf Y m Fs) a v F → ∃ F', Used m Fs F F' ids ∧ RelL w m0 d0 (XOf Y m Fs) b v F')
    ?closed ?agg ?tup ?fn ?sl ?ptr ?own ?box ?lnil ?lcons hp
  case closed =>
    intro x hc v F hfr hv
    exact ⟨[], ⟨List.nodup_nil, fun _ h => by cases h⟩, (RelV.closed (fun _ h => h) hv hc).2⟩
  case agg => intro cs ds ids _ ih v F hfr hv; cases hv with | agg hv => obtain ⟨F', h1, h2⟩ := ih hfr hv; exact ⟨F', h1, .agg h2⟩
  case tup => intro cs ds ids _ ih v F hfr hv; cases hv with | tup hv => obtain ⟨F', h1, h2⟩ := ih hfr hv; exact ⟨F', h1, .tup h2⟩
  case fn => intro f cs ds ids _ ih v F hfr hv; cases hv with | fn hv => obtain ⟨F', h1, h2⟩ := ih hfr hv; exact ⟨F', h1, .fn h2⟩
  case sl =>
    intro id n s xs ys zs ids hl hn _ he hy hf ih v F hfr hv
    cases hv with
    | slDead _ hdd => rw [h.ddom _ hdd] at hl; cases hl
    | sl0 A =>
      have : ys = [] := List.eq_nil_of_length_eq_zero hy
      subst this
      exact ⟨[], ⟨List.nodup_nil, fun _ h => by cases h⟩, .own0 A⟩
    | sl hm hnc hcx =>
      rename_i b o s' cap
      obtain ⟨rfl, hev, vs, hex, hr⟩ := h.cells _ _ _ _ _ _ hl hm
      obtain ⟨G1, G2, hG, h3, _⟩ := hr.take (n * s')
      rw [← flat_take hev] at h3
      have hnd := h.nodup id
      rw [blocksOf_some hm, hG] at hnd
      have hidn := List.nodup_cons.1 hfr.2.1
      have hG1 : ∀ x ∈ G1, x ∈ blocksOf m Fs id := fun x hx => by rw [blocksOf_some hm, hG]; exact List.mem_cons_of_mem _ (List.mem_append_left _ hx)
      have hbid : b ∈ blocksOf m Fs id := by rw [blocksOf_some hm]; exact List.mem_cons_self ..
      have hdj : ∀ x ∈ blocksOf m Fs id, ∀ id' ∈ ids, x ∉ blocksOf m Fs id' := fun x hx id' hid' => h.disj id id' (fun e => hidn.1 (e ▸ hid')) x hx
      obtain ⟨F1, ⟨hn1, hsub⟩, hr1⟩ := ih ⟨(List.nodup_append.1 (List.nodup_cons.1 hnd).2).1, hidn.2, fun x hx id' hid' => hdj x (hG1 x hx) id' hid'⟩ h3
      refine ⟨b :: F1, ⟨List.nodup_cons.2 ⟨fun hb => ?_, hn1⟩, fun x hx => .inr ?_⟩, ?_⟩
      · rcases hsub b hb with h1 | ⟨id', h1, h2⟩
        · exact (List.nodup_cons.1 hnd).1 (List.mem_append_left _ h1)
        · exact hdj b hbid id' h1 h2
      · rcases List.mem_cons.1 hx with rfl | hx
        · exact ⟨id, List.mem_cons_self .., hbid⟩
        · rcases hsub x hx with h1 | ⟨id', h1, h2⟩
          · exact ⟨id, List.mem_cons_self .., hG1 x h1⟩
          · exact ⟨id', List.mem_cons_of_mem _ h1, h2⟩
      · have hex' : Excl w b (o + 0 * s') (vs.take (n * s')) (o + 0 * s' + cap * s') := by
          obtain ⟨c, ty, e1, e2, _⟩ := hex
          obtain ⟨c', ty', e1', _, e3'⟩ := hcx
          rw [e1] at e1'; cases e1'
          refine ⟨c, ty, e1, fun j v hj => ?_, e3'⟩
          rw [Nat.zero_mul, Nat.add_zero]
          rw [List.getElem?_take] at hj
          split at hj
          · exact e2 j v hj
          · cases hj
        rw [← hy]
        exact .own (by omega) he hex' hf hr1
  case ptr =>
    intro id s x y zs ids hl _ hf ih v F hfr hv
    cases hv with
    | ptrDead _ hdd => rw [h.ddom _ hdd] at hl; cases hl
    | ptr hm =>
      rename_i b o s'
      obtain ⟨rfl, hev, vs, hex, hr⟩ := h.cells _ _ _ _ _ _ hl hm
      have hfl : flat [x] = x.cells := by simp [flat]
      rw [hfl] at hr
      have hnd := h.nodup id
      rw [blocksOf_some hm] at hnd
      have hidn := List.nodup_cons.1 hfr.2.1
      have hbid : b ∈ blocksOf m Fs id := by rw [blocksOf_some hm]; exact List.mem_cons_self ..
      have hG1 : ∀ x ∈ Fs id, x ∈ blocksOf m Fs id := fun x hx => by rw [blocksOf_some hm]; exact List.mem_cons_of_mem _ hx
      have hdj : ∀ x ∈ blocksOf m Fs id, ∀ id' ∈ ids, x ∉ blocksOf m Fs id' := fun x hx id' hid' => h.disj id id' (fun e => hidn.1 (e ▸ hid')) x hx
      obtain ⟨F1, ⟨hn1, hsub⟩, hr1⟩ := ih ⟨(List.nodup_cons.1 hnd).2, hidn.2, fun x hx id' hid' => hdj x (hG1 x hx) id' hid'⟩ hr
      refine ⟨b :: F1, ⟨List.nodup_cons.2 ⟨fun hb => ?_, hn1⟩, fun x hx => .inr ?_⟩, ?_⟩
      · rcases hsub b hb with h1 | ⟨id', h1, h2⟩
        · exact (List.nodup_cons.1 hnd).1 h1
        · exact hdj b hbid id' h1 h2
      · rcases List.mem_cons.1 hx with rfl | hx
        · exact ⟨id, List.mem_cons_self .., hbid⟩
        · rcases hsub x hx with h1 | ⟨id', h1, h2⟩
          · exact ⟨id, List.mem_cons_self .., hG1 x h1⟩
          · exact ⟨id', List.mem_cons_of_mem _ h1, h2⟩
      · rw [Nat.zero_mul, Nat.add_zero]
        exact .box hex hf hr1
  case own =>
    intro s xs ys zs ids _ he hy hf ih v F hfr hv
    cases hv with
    | own0 A =>
      have : ys = [] := List.eq_nil_of_length_eq_zero (by simpa using hy)
      subst this
      exact ⟨[], ⟨List.nodup_nil, fun _ h => by cases h⟩, .own0 A⟩
    | own hn hev hex hf' hr =>
      rename_i ys' vs b o cap F1
      subst hf'
      have hnd := List.nodup_cons.1 hfr.1
      obtain ⟨F', ⟨hn1, hsub⟩, hr1⟩ := ih ⟨hnd.2, hfr.2.1, fun x hx => hfr.2.2 x (List.mem_cons_of_mem _ hx)⟩ hr
      refine ⟨b :: F', ⟨List.nodup_cons.2 ⟨fun hb => ?_, hn1⟩, fun x hx => ?_⟩, ?_⟩
      · rcases hsub b hb with h1 | ⟨id', h1, h2⟩
        · exact hnd.1 h1
        · exact hfr.2.2 b (List.mem_cons_self ..) id' h1 h2
      · rcases List.mem_cons.1 hx with rfl | hx
        · exact .inl (List.mem_cons_self ..)
        · rcases hsub x hx with h1 | h1
          · exact .inl (List.mem_cons_of_mem _ h1)
          · exact .inr h1
      · rw [← hy]; exact .own (by omega) he hex hf hr1
  case box =>
    intro x y zs ids _ hf ih v F hfr hv
    cases hv with
    | box hex hf' hr =>
      rename_i ys' vs b o F1
      subst hf'
      have hnd := List.nodup_cons.1 hfr.1
      obtain ⟨F', ⟨hn1, hsub⟩, hr1⟩ := ih ⟨hnd.2, hfr.2.1, fun x hx => hfr.2.2 x (List.mem_cons_of_mem _ hx)⟩ hr
      refine ⟨b :: F', ⟨List.nodup_cons.2 ⟨fun hb => ?_, hn1⟩, fun x hx => ?_⟩, .box hex hf hr1⟩
      · rcases hsub b hb with h1 | ⟨id', h1, h2⟩
        · exact hnd.1 h1
        · exact hfr.2.2 b (List.mem_cons_self ..) id' h1 h2
      · rcases List.mem_cons.1 hx with rfl | hx
        · exact .inl (List.mem_cons_self ..)
        · rcases hsub x hx with h1 | h1
          · exact .inl (List.mem_cons_of_mem _ h1)
          · exact .inr h1
  case lnil => intro v F _ hv; cases hv; exact ⟨[], ⟨List.nodup_nil, fun _ h => by cases h⟩, .nil⟩
  case lcons =>
    intro x y xs ys ids ids' _ _ ih1 ih2 v F hfr hv
    cases hv with
    | cons hv ht =>
      rename_i v F1 vs F2
      obtain ⟨f1, f2, f3⟩ := hfr
      obtain ⟨f4, f5, f6⟩ := List.nodup_append.1 f1
      obtain ⟨g4, g5, g6⟩ := List.nodup_append.1 f2
      obtain ⟨F1', ⟨a1, a2⟩, a3⟩ := ih1 ⟨f4, g4, fun x hx id hid => f3 x (List.mem_append_left _ hx) id (List.mem_append_left _ hid)⟩ hv
      obtain ⟨F2', ⟨b1, b2⟩, b3⟩ := ih2 ⟨f5, g5, fun x hx id hid => f3 x (List.mem_append_right _ hx) id (List.mem_append_right _ hid)⟩ ht
      refine ⟨F1' ++ F2', ⟨List.nodup_append.2 ⟨a1, b1, fun x hx y hy e => ?_⟩, fun x hx => ?_⟩, .cons a3 b3⟩
      · subst e
        rcases a2 x hx with h1 | ⟨i1, h1, h1'⟩ <;> rcases b2 x hy with h2 | ⟨i2, h2, h2'⟩
        · exact f6 x h1 x h2 rfl
        · exact f3 x (List.mem_append_left _ h1) i2 (List.mem_append_right _ h2) h2'
        · exact f3 x (List.mem_append_right _ h2) i1 (List.mem_append_left _ h1) h1'
        · exact h.disj i1 i2 (fun e => g6 i1 h1 i2 h2 e) x h1' h2'
      · rcases List.mem_append.1 hx with hx | hx
        · rcases a2 x hx with h1 | ⟨i1, h1, h1'⟩
          · exact .inl (List.mem_append_left _ h1)
          · exact .inr ⟨i1, List.mem_append_left _ h1, h1'⟩
        · rcases b2 x hx with h1 | ⟨i1, h1, h1'⟩
          · exact .inl (List.mem_append_right _ h1)
          · exact .inr ⟨i1, List.mem_append_right _ h1, h1'⟩
theorem Pk.result {w1 : World} (h : RelW Y w1 [] live d m Fs w) {x y : AV} {ids : List Nat} {v : Value} (hp : Pk live x y ids) (hids : ids.Nodup) (hv : R Y w m d Fs x v) :
    ∃ F, F.Nodup ∧ (∀ b ∈ F, w1.heap.size ≤ b ∧ b < w.heap.size) ∧ RelV w m0 d0 (fun b => Y b ∨ b ∈ F) y v F ∧ Evo (fun _ => False) w1 w := by
  have hp' : PkL live [x] [y] (ids ++ []) := .cons hp .nil
  obtain ⟨F, ⟨h1, h2⟩, h3⟩ := hp'.sound h (v := [v]) (F := []) ⟨List.nodup_nil, by simpa using hids, fun _ h => by cases h⟩ (RelL.single hv)
  have hown : ∀ b ∈ F, OwnOf m Fs b := fun b hb => by
    rcases h2 b hb with h4 | ⟨id, _, h4⟩
    · cases h4
    · exact ⟨id, h4⟩
  refine ⟨F, h1, fun b hb => ?_, ?_, h.evo.mono (fun b hb => by cases hb)⟩
  · obtain ⟨e1, e2⟩ := h.own b (hown b hb)
    rcases e2 with e2 | e2
    · cases e2
    · exact ⟨e2, e1⟩
  · refine (RelL.head (RelL.carry (w' := w) (m' := m0) (d' := d0) { cells := fun b c ty fr hc => ⟨c, hc, rfl⟩, size := Nat.le_refl _, ro := fun b _ hx => ⟨fun h' => hx ?_, rfl⟩, ids := fun id q hq => .inl hq, dead := fun _ h => h } h3 (fun _ _ => rfl)))
    rcases h' with h' | h'
    · exact .inl h'
    · exact .inr (hown b h')
end
end Go.Abs
namespace Go.Abs
open Go Go.RowKit
structure St where
  env : List (Nat × AV)
  mem : Mem
def lookA : List (Nat × AV) → Nat → AV
  | [], _ => .undef
  | (k, v) :: r, t => if k = t then v else lookA r t
def St.get (s : St) (t : Nat) : AV := lookA s.env t
def St.put (s : St) (dst : Option Nat) (v : AV) (mem : Mem) : St := ⟨match dst with | some k => (k, v) :: s.env | none => s.env, mem⟩
inductive Item where
  | op (k : K) (os : List Opd)
  | pcall (g : Opd) (os : List Opd)
  | scall (g : Opd) (os : List Opd)
structure AOp where
  item : Item
  dst : Option Nat
  guard : Option (Nat × Bool)
  solo : Bool
inductive AC where
  | skip
  | region (l : List AOp) (draw : Bool)
  | regL (l : List AOp) (js is : List Nat)
  | seq (a b : AC)
  | cond (c : Opd) (a b : AC)
  | block (id : Nat) (a : AC)
  | loop (a : AC)
  | exit (id : Nat)
  | ret
inductive AX where
  | normal | exit (id : Nat) | ret
def PCall (P : Program) (g : AV) (args : List AV) (mem : Mem) (Q : AV → Mem → Prop) : Prop :=
  ∃ f caps args' res, g = .fn f caps ∧ Lend (liveOf mem) (args ++ caps) args' res ∧ ACall P f args' res ∧ unpOk res = true ∧ Q (unp mem.length res).1 (mem ++ (unp mem.length res).2)
def SCallW (P : Program) (g : AV) (args : List AV) (mem : Mem) (Q : AV → Mem → Prop) : Prop :=
  ∃ f caps res mem', g = .fn f caps ∧ SCall P f (args ++ caps) mem res mem' ∧ Q res mem'
def QCall (P : Program) (f : FuncId) (args : List AV) (mem : Mem) (res : AV) : Prop :=
  ∀ (Y : Nat → Prop) (w0 : World) (F0 : List Nat) (live : Live) (d : Nat → Prop) (m : IdMap) (Fs : Nat → List Nat) (w : World) (vs : List Value), Ext (liveOf mem) live → RelW Y w0 F0 live d m Fs w → RelL w m d (XOf Y m Fs) args vs [] →
    CallOk P f vs w (fun v w' => Evo (fun _ => False) w w' ∧ R Y w' m d Fs res v)
def QCallW (P : Program) (g : AV) (args : List AV) (mem : Mem) (Q : AV → Mem → Prop) : Prop :=
  ∃ f caps res, g = .fn f caps ∧ QCall P f (args ++ caps) mem res ∧ Q res mem
def itemWp (P : Program) (s : St) (solo : Bool) : Item → (AV → Mem → Prop) → Prop
  | .op k os, Q => weff (liveOf s.mem) k (os.map (getOpd s.get)) (fun e => (e.quiet || solo) = true ∧ Q (effVal s.mem.length e) (effMem s.mem e))
  | .pcall g os, Q => PCall P (getOpd s.get g) (os.map (getOpd s.get)) s.mem Q
  | .scall g os, Q => (solo = true ∧ SCallW P (getOpd s.get g) (os.map (getOpd s.get)) s.mem Q) ∨ QCallW P (getOpd s.get g) (os.map (getOpd s.get)) s.mem Q
def opWp (P : Program) (s : St) (x : AOp) (Q : St → Prop) : Prop :=
  match x.guard with
  | none => itemWp P s x.solo x.item (fun v mem => Q (s.put x.dst v mem))
  | some (t, want) => match s.get t with
    | .bool b => (b = want → itemWp P s x.solo x.item (fun v mem => Q (s.put x.dst v mem))) ∧ (¬ b = want → Q (s.put x.dst (.tup []) s.mem))
    | .tup [] => Q (s.put x.dst (.tup []) s.mem)
    | _ => False
def regWp (P : Program) : List AOp → St → (St → Prop) → Prop
  | [], s, Q => Q s
  | x :: xs, s, Q => opWp P s x (fun s => regWp P xs s Q)
def RelS (B : Start) (Y : Nat → Prop) (w0 : World) (F0 : List Nat) (N : Nat) (s : St) (a : Act) (w : World) : Prop :=
  ∃ d m Fs, RelW Y w0 F0 (liveOf s.mem) d m Fs w ∧ (∀ t, s.mem.length ≤ t → m t = none ∧ ¬ d t) ∧ (∀ t, R Y w m d Fs (s.get t) (a.tmps.getD t Go.undef)) ∧ a.defers = [] ∧ a.tmps.size = N ∧ B.Car Y d m Fs w
def View (s s' : St) : Prop := ∀ (B : Start) (Y : Nat → Prop) (w0 : World) (F0 : List Nat) (N : Nat) (a : Act) (w : World), RelS B Y w0 F0 N s a w → RelS B Y w0 F0 N s' a w
def lkI (id : Nat) : AV → Bool
  | .ptr id' _ _ => !(id' == id)
  | _ => false
def lkJ (n : Nat) (is : List AV) : AV → Bool
  | .ptr id _ _ => decide (id < n) && is.all (lkI id)
  | _ => false
def lkOk (n : Nat) (js is : List Nat) (s : St) : Bool := (js.map s.get).all (lkJ n (is.map s.get))
def wpc (P : Program) : AC → (AX → St → Prop) → St → Prop
  | .skip, Q, s => Q .normal s
  | .region l _, Q, s => regWp P l s (Q .normal)
  | .regL l js is, Q, s => regWp P l s (fun s' => lkOk s.mem.length js is s' = true ∧ Q .normal s')
  | .seq x y, Q, s => wpc P x (fun e s => match e with | .normal => wpc P y Q s | e => Q e s) s
  | .cond c x y, Q, s => match getOpd s.get c with
    | .bool b => (b = true → wpc P x Q s) ∧ (b = false → wpc P y Q s)
    | _ => False
  | .block id x, Q, s => wpc P x (fun e s => match e with | .exit i => if i = id then Q .normal s else Q (.exit i) s | e => Q e s) s
  | .loop x, Q, s => ∃ (I : St → Prop) (μ : St → Nat), (∃ s', View s s' ∧ I s') ∧
      ∀ s, I s → wpc P x (fun e s1 => match e with | .normal => ∃ s2, View s1 s2 ∧ I s2 ∧ μ s2 < μ s | e => Q e s1) s
  | .exit id, Q, s => Q (.exit id) s
  | .ret, Q, s => Q .ret s
def Item.blind : Item → Bool
  | .op k _ => k.blind
  | _ => false
def Item.rd : Item → List Nat
  | .op _ os => tmpsOf os
  | .pcall g os => tmpsOf (g :: os)
  | .scall g os => tmpsOf (g :: os)
def isPure (pures : List FuncId) : Opd → Bool
  | .const (.fn f _) => pures.contains f
  | _ => true
def compileItem (P : Program) (TT : Types) (pures : List FuncId) (o : Op) : Option Item :=
  match compileOp P TT o with
  | some (k, os) => some (.op k os)
  | none => match o with
    | .call c => match c.callee with
      | .value g0 => match opd g0, opds c.args.toList with
        | some g, some os => some (if isPure pures g then .pcall g os else .scall g os)
        | _, _ => none
      | _ => none
    | _ => none
def compileGuard (ops : Array Oper) : Option (Nat × Bool) → Option (Option (Nat × Bool))
  | none => some none
  | some (g, want) => match (ops[g]?).bind (·.dst) with
    | some t => some (some (t, want))
    | none => none
def compileOper (P : Program) (TT : Types) (pures : List FuncId) (ops : Array Oper) (solo : Bool) (o : Oper) : Option AOp :=
  match compileItem P TT pures o.op, compileGuard ops o.guard with
  | some it, some g => some ⟨it, o.dst, g, solo⟩
  | _, _ => none
def befs : List Oper → List (List Nat) → List (List Nat)
  | [], acc => acc
  | o :: os, acc => befs os (acc ++ [(o.after.toList.filter (Region.binds .any)).flatMap fun e => e.on :: acc.getD e.on []])
def allOpers (P : Program) (TT : Types) (pures : List FuncId) (ops : Array Oper) (solo : Nat → Bool) : Nat → List Oper → Option (List AOp)
  | _, [] => some []
  | j, o :: os => match compileOper P TT pures ops (solo j) o, allOpers P TT pures ops solo (j + 1) os with
    | some x, some xs => some (x :: xs)
    | _, _ => none
def nodupNat : List Nat → Bool
  | [] => true
  | x :: xs => !xs.contains x && nodupNat xs
def drawOk (N : Nat) (ops : List Oper) (bef : List (List Nat)) (l : List AOp) : Bool :=
  let n := ops.length
  ((List.range n).all fun j => ((ops[j]?).map fun o => o.after.toList.all fun e => !Region.binds .any e || decide (e.on < j)).getD false) &&
  nodupNat (l.filterMap (·.dst)) &&
  ((List.range n).all fun j => match l[j]? with
    | some x => (List.range n).all fun i => match (l[i]?).bind (·.dst) with
      | some t => !(x.item.rd.contains t) || (bef.getD j []).contains i || (bef.getD i []).contains j
      | none => true
    | none => false) &&
  ((List.range n).all fun j => match (ops[j]?).bind (·.guard) with
    | some (g, _) => (bef.getD j []).contains g
    | none => true)
def soloOf (n : Nat) (bef : List (List Nat)) (blind : Nat → Bool) (j : Nat) : Bool :=
  (List.range n).all fun i => i == j || blind i || (bef.getD j []).contains i || (bef.getD i []).contains j
def compileReg (P : Program) (TT : Types) (pures : List FuncId) (N : Nat) (ops : Array Oper) (draw : Bool) : Option (List AOp) :=
  match allOpers P TT pures ops (fun _ => true) 0 ops.toList with
  | none => none
  | some l =>
    if l.all (fun x => match x.dst with | some t => decide (t < N) | none => true) then
      if draw then
        let bef := befs ops.toList []
        match allOpers P TT pures ops (soloOf ops.size bef (fun i => ((l[i]?).map (·.item.blind)).getD false)) 0 ops.toList with
        | some l' => if drawOk N ops.toList bef l' then some l' else none
        | none => none
      else some l
    else none
def lookT : Item → Option Nat
  | .op .load1 [.tmp t] => some t
  | .op (.loadN _) [.tmp t] => some t
  | .op (.faddr _) [.tmp t] => some t
  | _ => none
def storeT : Item → Option (Option Nat)
  | .op .store1 (.tmp t :: _) => some (some t)
  | .op (.storeN _) (.tmp t :: _) => some (some t)
  | .op .store1 _ => some none
  | .op (.storeN _) _ => some none
  | .op (.append ..) _ => some none
  | .op (.clear ..) _ => some none
  | .op .copy _ => some none
  | .scall .. => some none
  | _ => none
def strictReads (n : Nat) (bef : List (List Nat)) (l : List AOp) : Bool :=
  (List.range n).all fun j => match l[j]? with
    | some x => (List.range n).all fun i => match (l[i]?).bind (·.dst) with
      | some t => !(x.item.rd.contains t) || (bef.getD j []).contains i
      | none => true
    | none => false
def lkOf (n : Nat) (bef : List (List Nat)) (l : List AOp) (j : Nat) : Bool := match l[j]? with
  | some x => (lookT x.item).isSome && (List.range n).any fun i => match l[i]? with
    | some y => (storeT y.item).isSome && !((bef.getD j []).contains i || (bef.getD i []).contains j)
    | none => false
  | none => false
def jsOf (n : Nat) (lk : Nat → Bool) (l : List AOp) : List Nat := (List.range n).filterMap fun j => if lk j then (l[j]?).bind fun x => lookT x.item else none
def isOf (l : List AOp) : List Nat := l.filterMap fun x => match storeT x.item with
  | some (some t) => some t
  | _ => none
def compileRegL (P : Program) (TT : Types) (pures : List FuncId) (N : Nat) (ops : Array Oper) : Option (List AOp × List Nat × List Nat) :=
  match allOpers P TT pures ops (fun _ => true) 0 ops.toList with
  | none => none
  | some l =>
    if l.all (fun x => match x.dst with | some t => decide (t < N) | none => true) then
      if (List.range ops.size).any (lkOf ops.size (befs ops.toList []) l) = true then
        match allOpers P TT pures ops (soloOf ops.size (befs ops.toList []) (fun i => ((l[i]?).map (·.item.blind)).getD false || lkOf ops.size (befs ops.toList []) l i)) 0 ops.toList with
        | some l' =>
          if drawOk N ops.toList (befs ops.toList []) l' = true then
            if (strictReads ops.size (befs ops.toList []) l' && (List.range ops.size).all (fun j => !lkOf ops.size (befs ops.toList []) l j || ((l'[j]?).bind fun x => lookT x.item).isSome) && l'.all (fun x => storeT x.item != some none)) = true then
              some (l', jsOf ops.size (lkOf ops.size (befs ops.toList []) l) l', isOf l') else none
          else none
        | none => none
      else none
    else none
def compileC (P : Program) (TT : Types) (pures : List FuncId) (N : Nat) : Code → Option AC
  | .skip => some .skip
  | .region _ ops draw => match (if draw = true then compileRegL P TT pures N ops else none) with
    | some (l, js, is) => some (.regL l js is)
    | none => (compileReg P TT pures N ops draw).map fun l => .region l draw
  | .seq x y => match compileC P TT pures N x, compileC P TT pures N y with
    | some x, some y => some (.seq x y)
    | _, _ => none
  | .cond c x y => match opd c, compileC P TT pures N x, compileC P TT pures N y with
    | some c, some x, some y => some (.cond c x y)
    | _, _, _ => none
  | .block id x => (compileC P TT pures N x).map (.block id)
  | .loop x => (compileC P TT pures N x).map .loop
  | .exit id => some (.exit id)
  | .ret => some .ret
  | _ => none
inductive RV where
  | tmp (t : Nat)
  | cell (a : Nat) (k : K)
structure AF where
  body : AC
  results : List RV
  ntmps : Nat
def compileRes (TT : Types) : ResultVar → Option RV
  | .tmp t => some (.tmp t)
  | .cell a t => match TT.get t with
    | some T => if single T then some (.cell a .load1) else match T.desc with
      | .struct _ => some (.cell a (.loadN T.size))
      | _ => none
    | none => none
def compileF (P : Program) (TT : Types) (pures : List FuncId) (fn : Func) : Option AF :=
  match fn.body, fn.results.toList.mapM (compileRes TT) with
  | some c, some rs => if fn.name == "runtime.NumGoroutine" then none else (compileC P TT pures fn.ntmps c).map fun b => ⟨b, rs, fn.ntmps⟩
  | _, _ => none
def resWp (s : St) : List RV → (List AV → Prop) → Prop
  | [], Q => Q []
  | .tmp t :: r, Q => resWp s r (fun vs => Q (s.get t :: vs))
  | .cell a k :: r, Q => weff (liveOf s.mem) k [s.get a] (fun e => match e with | .val v => resWp s r (fun vs => Q (v :: vs)) | _ => False)
def oneRes : List AV → AV
  | [v] => v
  | vs => .tup vs
end Go.Abs
namespace Go.Abs
open Go Go.RowKit
theorem call_look {P : Program} {o : Oper} {E : Nat → AV} {os : List Opd} {mem : Mem} {c : Call} {g0 : Operand} {g : Opd} (ho : o.op = .call c) (hc : c.callee = .value g0) (hg : opd g0 = some g) (ha : opds c.args.toList = some os) {f : FuncId} {caps : List AV} (hf : getOpd E g = .fn f caps)
    {res : AV} (hA : QCall P f (os.map (getOpd E) ++ caps) mem res) {rd : List Nat} (hrd : ∀ t ∈ tmpsOf (g :: os), t ∈ rd) : Quiet P o E rd mem res mem := by
  refine ⟨⟨[], (List.append_nil mem).symm⟩, ?_⟩
  intro Y w0 F0 live d m Fs w a hx hnew h hfr hr next QQ hn
  obtain ⟨vs, e1, hargs⟩ := call_values (c := c) hg ha hf hrd hr
  rw [Oper.wp, exec_call ho hc e1]
  refine hA Y w0 F0 live d m Fs w _ hx h hargs o a next QQ (fun v w' hres => ?_)
  obtain ⟨he, hv⟩ := hres
  obtain ⟨k1, k2⟩ := h.aside he
  exact hn v w' m Fs k1 (fun _ _ => rfl) k2 hv
inductive Acts (P : Program) (s : St) (solo : Bool) : Item → AV → Mem → Prop
  | op {k : K} {os : List Opd} {e : Eff} (h : weff (liveOf s.mem) k (os.map (getOpd s.get)) (· = e)) (hs : (e.quiet || solo) = true) : Acts P s solo (.op k os) (effVal s.mem.length e) (effMem s.mem e)
  | pcall {g : Opd} {os : List Opd} {f : FuncId} {caps args' : List AV} {res : AV} (hg : getOpd s.get g = .fn f caps) (hl : Lend (liveOf s.mem) (os.map (getOpd s.get) ++ caps) args' res) (hA : ACall P f args' res) (hu : unpOk res = true) :
      Acts P s solo (.pcall g os) (unp s.mem.length res).1 (s.mem ++ (unp s.mem.length res).2)
  | scall {g : Opd} {os : List Opd} {f : FuncId} {caps : List AV} {res : AV} {mem' : Mem} (hs : solo = true) (hg : getOpd s.get g = .fn f caps) (hA : SCall P f (os.map (getOpd s.get) ++ caps) s.mem res mem') :
      Acts P s solo (.scall g os) res mem'
  | qcall {g : Opd} {os : List Opd} {f : FuncId} {caps : List AV} {res : AV} (hg : getOpd s.get g = .fn f caps) (hA : QCall P f (os.map (getOpd s.get) ++ caps) s.mem res) : Acts P s solo (.scall g os) res s.mem
theorem itemWp_acts {P : Program} {s : St} {solo : Bool} {it : Item} {Q : AV → Mem → Prop} (h : itemWp P s solo it Q) : ∃ v mem', Acts P s solo it v mem' ∧ Q v mem' := by
  cases it with
  | op k os =>
    have h' : weff (liveOf s.mem) k (os.map (getOpd s.get)) (fun e => (e.quiet || solo) = true ∧ Q (effVal s.mem.length e) (effMem s.mem e)) := h
    obtain ⟨e, ⟨h1, h2⟩, h3⟩ := weff_det h'
    exact ⟨_, _, .op h3 h1, h2⟩
  | pcall g os =>
    obtain ⟨f, caps, args', res, h1, h2, h3, h4, h5⟩ := h
    exact ⟨_, _, .pcall h1 h2 h3 h4, h5⟩
  | scall g os =>
    rcases h with ⟨hs, f, caps, res, mem', h1, h2, h3⟩ | ⟨f, caps, res, h1, h2, h3⟩
    · exact ⟨_, _, .scall hs h1 h2, h3⟩
    · exact ⟨_, _, .qcall h1 h2, h3⟩
def GuardOk (s : St) : Option (Nat × Bool) → Bool → Prop
  | none, runs => runs = true
  | some (t, want), runs => (∃ b, s.get t = .bool b ∧ (runs = true ↔ b = want)) ∨ (s.get t = .tup [] ∧ runs = false)
theorem opWp_acts {P : Program} {s : St} {x : AOp} {Q : St → Prop} (h : opWp P s x Q) :
    ∃ v mem' runs, GuardOk s x.guard runs ∧ (runs = true → Acts P s x.solo x.item v mem') ∧ (runs = false → v = .tup [] ∧ mem' = s.mem) ∧ Q (s.put x.dst v mem') := by
  unfold opWp at h
  cases hg : x.guard with
  | none =>
    rw [hg] at h
    obtain ⟨v, mem', h1, h2⟩ := itemWp_acts h
    exact ⟨v, mem', true, rfl, fun _ => h1, fun h => (by cases h), h2⟩
  | some gw =>
    obtain ⟨t, want⟩ := gw
    rw [hg] at h
    simp only at h
    split at h
    · rename_i b hb
      by_cases hbw : b = want
      · obtain ⟨v, mem', h1, h2⟩ := itemWp_acts (h.1 hbw)
        exact ⟨v, mem', true, .inl ⟨b, hb, by simp [hbw]⟩, fun _ => h1, fun h => (by cases h), h2⟩
      · exact ⟨.tup [], s.mem, false, .inl ⟨b, hb, by simp [hbw]⟩, fun h => (by cases h), fun _ => ⟨rfl, rfl⟩, h.2 hbw⟩
    · rename_i hb
      exact ⟨.tup [], s.mem, false, .inr ⟨hb, rfl⟩, fun h => (by cases h), fun _ => ⟨rfl, rfl⟩, h⟩
    · exact h.elim
structure OperRel (P : Program) (TT : Types) (ops : Array Oper) (o : Oper) (x : AOp) : Prop where
  dst : x.dst = o.dst
  guard : (o.guard = none ∧ x.guard = none) ∨ ∃ g want og t, o.guard = some (g, want) ∧ ops[g]? = some og ∧ og.dst = some t ∧ x.guard = some (t, want)
  item : (∃ k os, x.item = .op k os ∧ compileOp P TT o.op = some (k, os)) ∨
    (∃ c g0 g os, o.op = .call c ∧ c.callee = .value g0 ∧ opd g0 = some g ∧ opds c.args.toList = some os ∧ (x.item = .pcall g os ∨ x.item = .scall g os))
section
variable {P : Program} {TT : Types} {pures : List FuncId} {ops : Array Oper} {o : Oper} {x : AOp} {s : St} {v : AV} {mem' : Mem}
theorem compileItem_spec {op : Op} {it : Item} (h : compileItem P TT pures op = some it) : (∃ k os, it = .op k os ∧ compileOp P TT op = some (k, os)) ∨
    (∃ c g0 g os, op = .call c ∧ c.callee = .value g0 ∧ opd g0 = some g ∧ opds c.args.toList = some os ∧ (it = .pcall g os ∨ it = .scall g os)) := by
  unfold compileItem at h
  split at h
  · rename_i k os hk
    cases h; exact .inl ⟨k, os, rfl, hk⟩
  · split at h
    · rename_i c _
      split at h
      · rename_i g0 hc
        split at h
        · rename_i g os hg ho
          cases h
          refine .inr ⟨c, g0, g, os, rfl, hc, hg, ho, ?_⟩
          by_cases hp : isPure pures g = true
          · rw [if_pos hp]; exact .inl rfl
          · rw [if_neg hp]; exact .inr rfl
        · cases h
      · cases h
    · cases h
theorem compileOper_spec {solo : Bool} (h : compileOper P TT pures ops solo o = some x) : OperRel P TT ops o x ∧ x.solo = solo ∧ compileItem P TT pures o.op = some x.item := by
  unfold compileOper at h
  split at h
  · rename_i it g hi hg
    cases h
    refine ⟨⟨rfl, ?_, compileItem_spec hi⟩, rfl, hi⟩
    unfold compileGuard at hg
    split at hg
    · rename_i h0
      cases hg; exact .inl ⟨h0, rfl⟩
    · rename_i g want h0
      split at hg
      · rename_i t ht
        cases hg
        cases hog : ops[g]? with
        | none => rw [hog] at ht; cases ht
        | some og => rw [hog] at ht; exact .inr ⟨g, want, og, t, h0, hog, ht, rfl⟩
      · cases hg
  · cases h
theorem allOpers_spec {solo : Nat → Bool} : ∀ {l : List Oper} {k : Nat} {xs : List AOp}, allOpers P TT pures ops solo k l = some xs → xs.length = l.length ∧ ∀ (j : Nat) (x : AOp), xs[j]? = some x →
    ∃ o, l[j]? = some o ∧ OperRel P TT ops o x ∧ x.solo = solo (k + j) ∧ compileItem P TT pures o.op = some x.item := by
  intro l
  induction l with
  | nil => intro k xs h; simp [allOpers] at h; subst h; exact ⟨rfl, fun j x hj => by simp at hj⟩
  | cons o l ih =>
    intro k xs h
    simp only [allOpers] at h
    split at h
    · rename_i x xs' hx hxs
      cases h
      obtain ⟨h1, h2⟩ := ih hxs
      refine ⟨by simp [h1], fun j y hj => ?_⟩
      cases j with
      | zero =>
        simp at hj; subst hj
        obtain ⟨h3, h4, h5⟩ := compileOper_spec hx
        exact ⟨o, rfl, h3, h4, h5⟩
      | succ j =>
        obtain ⟨o', h3, h4, h5, h6⟩ := h2 j y (by simpa using hj)
        exact ⟨o', by simpa using h3, h4, by rw [h5]; congr 1; omega, h6⟩
    · cases h
theorem Quiet.solid {E : Nat → AV} {rd : List Nat} {mem : Mem} (h : Quiet P o E rd mem v mem') : Solid P o E rd mem v mem' := by
  obtain ⟨⟨new, hnew⟩, hg⟩ := h
  have hlen : mem.length ≤ mem'.length := by rw [hnew]; simp
  refine ⟨hlen, ?_⟩
  intro Y w0 F0 d m Fs w a hfr hrel hr next Q hn
  have hpre : ∀ t, t < mem.length → liveOf mem' t = liveOf mem t := fun t ht => by rw [hnew]; exact liveOf_append ht
  have hrel' : RelW Y w0 F0 (liveOf mem') d m Fs w := hrel.relive (fun t ht => hpre t (by
    rcases Nat.lt_or_ge t mem.length with h | h
    · exact h
    · exact absurd (hfr t h).1 ht)) (fun t ht => by
    rcases Nat.lt_or_ge t mem.length with h | h
    · rw [hpre t h]; exact hrel.ddom t ht
    · exact absurd ht (hfr t h).2)
  refine hg Y w0 F0 (liveOf mem') d m Fs w a (fun id x hx => by rw [hpre id (liveOf_lt hx)]; exact hx) (fun t h1 h2 => ⟨rfl, hfr t h1⟩) hrel'
    ⟨mem'.length, (hfr _ hlen).1, (hfr _ hlen).2, liveOf_ge (Nat.le_refl _)⟩ hr next Q (fun v' w' m' Fs' h1 h2 h3 h4 => hn v' w' d m' Fs' h1 (fun t ht => ⟨?_, (hfr t (by omega)).2⟩) h3 h4)
  rw [h2 t (.inr ht)]; exact (hfr t (by omega)).1
theorem acts_blind (hTT : ∀ t T, TT.get t = some T → tyOf P t = some T) (hr : OperRel P TT ops o x) (hb : x.item.blind = true) (h : Acts P s x.solo x.item v mem') : Blind P o s.get x.item.rd v ∧ mem' = s.mem := by
  rcases hr.item with ⟨k, os, hi, hc⟩ | ⟨c, g0, g, os, _, _, _, _, hi | hi⟩
  · rw [hi] at h hb ⊢
    cases h with
    | op hw hs =>
      obtain ⟨v, rfl⟩ := weff_blind_val hb hw
      exact ⟨op_blind hTT hc hb (fun t ht => ht) hw, rfl⟩
  · rw [hi] at hb; cases hb
  · rw [hi] at hb; cases hb
theorem acts_other (hTT : ∀ t T, TT.get t = some T → tyOf P t = some T) (hr : OperRel P TT ops o x) (h : Acts P s x.solo x.item v mem') :
    Quiet P o s.get x.item.rd s.mem v mem' ∨ (x.solo = true ∧ Solid P o s.get x.item.rd s.mem v mem') := by
  rcases hr.item with ⟨k, os, hi, hc⟩ | ⟨c, g0, g, os, h1, h2, h3, h4, hi | hi⟩
  · rw [hi] at h ⊢
    cases h with
    | op hw hs =>
      rename_i e
      cases hq : e.quiet with
      | true => exact .inl (op_quiet hTT hc hq (fun t ht => ht) hw)
      | false => rw [hq] at hs; exact .inr ⟨by simpa using hs, op_solid hTT hc (fun t ht => ht) hw⟩
  · rw [hi] at h ⊢
    cases h with
    | pcall hg hl hA hu => exact .inl (call_quiet h1 h2 h3 h4 hg hl hA hu (fun t ht => ht))
  · rw [hi] at h ⊢
    cases h with
    | scall hs hg hA => exact .inr ⟨hs, call_solid h1 h2 h3 h4 hg hA (fun t ht => ht)⟩
    | qcall hg hA => exact .inl (call_look h1 h2 h3 h4 hg hA (fun t ht => ht))
def effKind (k : K) (args : List AV) : Eff → Prop
  | .upd id _ _ => ((k = .store1 ∨ ∃ n, k = .storeN n) ∧ ∃ a b r, args = .ptr id a b :: r) ∨ ∃ s z, k = .clear s z
  | .updv _ _ _ _ => k = .copy
  | .app _ _ _ => ∃ s b, k = .append s b
  | _ => True
theorem weff_kind {live : Live} {k : K} {args : List AV} {e : Eff} (h : weff live k args (· = e)) : effKind k args e := by
  have h3 : weff live k args (fun e' => e' = e ∧ effKind k args e') := by
    unfold weff at *
    split at h
    all_goals repeat' first
      | exact False.elim h
      | exact ⟨h, trivial⟩
      | exact ⟨h, .inl ⟨.inl rfl, _, _, _, rfl⟩⟩
      | exact ⟨h, .inl ⟨.inr ⟨_, rfl⟩, _, _, _, rfl⟩⟩
      | exact ⟨h, .inr ⟨_, _, rfl⟩⟩
      | exact ⟨h, _, _, rfl⟩
      | exact ⟨h, rfl⟩
      | (obtain ⟨c, h⟩ := h; refine ⟨c, ?_⟩)
      | (unfold weffAppend at *)
      | (split at h <;> first | (rename_i hl; simp only [hl]) | skip)
  obtain ⟨e', ⟨rfl, h4⟩, _⟩ := weff_det' h3
  exact h4
def isLk (k : K) : Prop := k = .load1 ∨ (∃ n, k = .loadN n) ∨ ∃ n, k = .faddr n
theorem weff_look {live live' : Live} {k : K} {id a b : Nat} {e : Eff} (hk : isLk k) (h : weff live k [.ptr id a b] (· = e)) (hl : live' id = live id) : ∃ v, e = .val v ∧ weff live' k [.ptr id a b] (· = .val v) := by
  rcases hk with rfl | ⟨n, rfl⟩ | ⟨n, rfl⟩
  case inr.inr =>
    obtain ⟨h1, h2⟩ := (show (live id).isSome = true ∧ _ from h)
    exact ⟨_, h2.symm, (show (live' id).isSome = true ∧ _ from ⟨by rw [hl]; exact h1, rfl⟩)⟩
  · simp only [weff] at h
    cases hx : live id with
    | none => rw [hx] at h; exact h.elim
    | some sx =>
      rw [hx] at h
      obtain ⟨h1, h2, h3, h4⟩ := h
      subst h4
      refine ⟨_, rfl, ?_⟩
      simp only [weff, hl, hx]
      exact ⟨h1, h2, h3, trivial⟩
  · simp only [weff] at h
    cases hx : live id with
    | none => rw [hx] at h; exact h.elim
    | some sx =>
      rw [hx] at h
      obtain ⟨h1, h2, h3, h4⟩ := h
      subst h4
      refine ⟨_, rfl, ?_⟩
      simp only [weff, hl, hx]
      exact ⟨h1, h2, h3, trivial⟩
theorem acts_keep {solo : Bool} {it : Item} {id : Nat} (h : Acts P s solo it v mem') (hs : storeT it = none ∨ ∃ u, storeT it = some (some u) ∧ ∃ id' a b, s.get u = .ptr id' a b ∧ id' ≠ id) (hid : id < s.mem.length) :
    liveOf mem' id = liveOf s.mem id := by
  cases h with
  | @op k os e hw hq =>
    have hk := weff_kind hw
    cases e with
    | val v => rfl
    | newSl s' xs => exact liveOf_append hid
    | newPtr s' x => exact liveOf_append hid
    | upd id' s' xs =>
      rcases hk with ⟨hk, a, b, r, ha⟩ | ⟨s1, z1, rfl⟩
      case inr =>
        rcases hs with hs | ⟨u, hu, _⟩
        · simp [storeT] at hs
        · simp [storeT] at hu
      have key : id' ≠ id := by
        cases os with
        | nil => cases ha
        | cons o r' =>
          simp only [List.map_cons, List.cons.injEq] at ha
          cases o with
          | const c =>
            rcases hs with hs | ⟨u, hu, _⟩
            · rcases hk with rfl | ⟨n, rfl⟩ <;> simp [storeT] at hs
            · rcases hk with rfl | ⟨n, rfl⟩ <;> simp [storeT] at hu
          | tmp t =>
            rcases hs with hs | ⟨u, hu, id2, a2, b2, h2, h3⟩
            · rcases hk with rfl | ⟨n, rfl⟩ <;> simp [storeT] at hs
            · have htu : t = u := by rcases hk with rfl | ⟨n, rfl⟩ <;> simpa [storeT] using hu
              subst htu
              have h4 := ha.1
              rw [show getOpd s.get (.tmp t) = s.get t from rfl, h2] at h4
              cases h4; exact h3
      show liveOf (s.mem.set id' _) id = _
      simp [liveOf, List.getElem?_set_ne key]
    | updv id' s' xs c' =>
      subst hk
      rcases hs with hs | ⟨u, hu, _⟩
      · simp [storeT] at hs
      · simp [storeT] at hu
    | app id' s' xs =>
      obtain ⟨s1, b1, rfl⟩ := hk
      rcases hs with hs | ⟨u, hu, _⟩
      · simp [storeT] at hs
      · simp [storeT] at hu
  | pcall => exact liveOf_append hid
  | scall =>
    rcases hs with hs | ⟨u, hu, _⟩
    · simp [storeT] at hs
    · simp [storeT] at hu
  | qcall => rfl
theorem lookT_spec {it : Item} {t : Nat} (h : lookT it = some t) : ∃ k, it = .op k [.tmp t] ∧ isLk k := by
  unfold lookT at h
  split at h
  · cases h; exact ⟨_, rfl, .inl rfl⟩
  · cases h; exact ⟨_, rfl, .inr (.inl ⟨_, rfl⟩)⟩
  · cases h; exact ⟨_, rfl, .inr (.inr ⟨_, rfl⟩)⟩
  · cases h
theorem weff_mono {live : Live} {k : K} {args : List AV} {Q Q' : Eff → Prop} (h : weff live k args Q) (hq : ∀ e, Q e → Q' e) : weff live k args Q' := by
  obtain ⟨e, h1, h2⟩ := weff_det' h
  exact h2 Q' (hq e h1)
theorem regWp_mono : ∀ {l : List AOp} {s : St} {R R' : St → Prop}, (∀ s, R s → R' s) → regWp P l s R → regWp P l s R' := by
  intro l
  have item : ∀ {s : St} {solo : Bool} {it : Item} {R R' : AV → Mem → Prop}, (∀ v m, R v m → R' v m) → itemWp P s solo it R → itemWp P s solo it R' := by
    intro s solo it R R' hR h
    cases it with
    | op k os =>
      have h : weff (liveOf s.mem) k (os.map (getOpd s.get)) (fun e => (e.quiet || solo) = true ∧ R (effVal s.mem.length e) (effMem s.mem e)) := h
      show weff (liveOf s.mem) k (os.map (getOpd s.get)) (fun e => (e.quiet || solo) = true ∧ R' (effVal s.mem.length e) (effMem s.mem e))
      exact weff_mono h (fun e he => ⟨he.1, hR _ _ he.2⟩)
    | pcall g os => obtain ⟨f, caps, args', res, h1, h2, h3, h4, h5⟩ := h; exact ⟨f, caps, args', res, h1, h2, h3, h4, hR _ _ h5⟩
    | scall g os =>
      rcases h with ⟨hs, f, caps, res, m, h1, h2, h3⟩ | ⟨f, caps, res, h1, h2, h3⟩
      · exact .inl ⟨hs, f, caps, res, m, h1, h2, hR _ _ h3⟩
      · exact .inr ⟨f, caps, res, h1, h2, hR _ _ h3⟩
  induction l with
  | nil => intro s R R' hR h; exact hR _ h
  | cons x l ih =>
    intro s R R' hR h
    have h : opWp P s x (fun s => regWp P l s R) := h
    show opWp P s x (fun s => regWp P l s R')
    unfold opWp at h ⊢
    split at h
    · exact item (fun v m hv => ih hR hv) h
    · split at h
      · exact ⟨fun hb => item (fun v m hv => ih hR hv) (h.1 hb), fun hb => ih hR (h.2 hb)⟩
      · exact ih hR h
      · exact h.elim
theorem acts_solid (hTT : ∀ t T, TT.get t = some T → tyOf P t = some T) (hr : OperRel P TT ops o x) (h : Acts P s x.solo x.item v mem') : Solid P o s.get x.item.rd s.mem v mem' := by
  rcases acts_other hTT hr h with h | ⟨_, h⟩
  · exact h.solid
  · exact h
theorem get_put (s : St) (dst : Option Nat) (v : AV) (mem : Mem) (t : Nat) : (s.put dst v mem).get t = if dst = some t then v else s.get t := by
  cases dst with
  | none => rfl
  | some k =>
    show (if k = t then v else lookA s.env t) = _
    by_cases h : k = t
    · subst h; simp
    · simp [h]; rfl
theorem RelS.put {B : Start} {Y : Nat → Prop} {w0 : World} {F0 : List Nat} {N : Nat} {d d' : Nat → Prop} {m m' : IdMap} {Fs Fs' : Nat → List Nat} {a : Act} {w w' : World} {dst : Option Nat} {v' : Value}
    (he : ∀ t, R Y w m d Fs (s.get t) (a.tmps.getD t Go.undef)) (hd : a.defers = []) (hN : a.tmps.size = N) (hB : B.Car Y d m Fs w) (hdst : ∀ t, dst = some t → t < N)
    (h1 : RelW Y w0 F0 (liveOf mem') d' m' Fs' w') (h2 : ∀ t, mem'.length ≤ t → m' t = none ∧ ¬ d' t) (C : Carry w w' m m' d d' (XOf Y m Fs) (XOf Y m' Fs')) (hv : R Y w' m' d' Fs' v v') :
    RelS B Y w0 F0 N (s.put dst v mem') (a.put dst v') w' := by
  refine ⟨d', m', Fs', h1, h2, fun t => ?_, by rw [put_defers']; exact hd, by rw [put_size]; exact hN, Carry.trans hB C⟩
  rw [get_put, put_getD]
  by_cases h : dst = some t
  · rw [if_pos h, if_pos ⟨h, by rw [hN]; exact hdst t h⟩]; exact hv
  · rw [if_neg h, if_neg (fun hh => h hh.1)]
    exact RelV.carry C (he t) (fun _ h => by cases h)
theorem seq_sound (hTT : ∀ t T, TT.get t = some T → tyOf P t = some T) {B : Start} {Y : Nat → Prop} {w0 : World} {F0 : List Nat} {N : Nat} (dstN : ∀ (i : Nat) (oi : Oper) (t : Nat), ops[i]? = some oi → oi.dst = some t → t < N)
    {Q : St → Prop} {QQ : Exit → Act → World → Prop} (hQ : ∀ s a w, RelS B Y w0 F0 N s a w → Q s → QQ .normal a w) :
    ∀ (l : List AOp) (k : Nat), (∀ (j : Nat) (x : AOp), l[j]? = some x → ∃ o, ops[k + j]? = some o ∧ OperRel P TT ops o x) → ∀ (s : St) (a : Act) (w : World), regWp P l s Q → RelS B Y w0 F0 N s a w →
      wpOps P ops QQ (List.range' k l.length) a w := by
  intro l
  induction l with
  | nil => intro k _ s a w h hr; exact hQ s a w hr h
  | cons x l ih =>
    intro k hl s a w h hr
    obtain ⟨o, ho, hrel⟩ := hl 0 x rfl
    rw [Nat.add_zero] at ho
    obtain ⟨v, mem', runs, hg, hrun, hskip, hnext⟩ := opWp_acts h
    obtain ⟨d, m, Fs, h1, h2, h3, h4, h5, h6⟩ := hr
    rw [List.length_cons, List.range'_succ, wpOps_cons]
    have rest : ∀ s' a' w', regWp P l s' Q → RelS B Y w0 F0 N s' a' w' → wpOps P ops QQ (List.range' (k + 1) l.length) a' w' :=
      ih (k + 1) (fun j y hj => by
        obtain ⟨o', h6, h7⟩ := hl (j + 1) y (by simpa using hj)
        exact ⟨o', by rw [show k + 1 + j = k + (j + 1) by omega]; exact h6, h7⟩)
    have hd : ∀ t, o.dst = some t → t < N := fun t ht => dstN k o t ho ht
    have hwant : Region.wanted o (yielded ops a.tmps) = true ↔ runs = true := by
      rcases hrel.guard with ⟨e1, e2⟩ | ⟨g, want, og, t, e1, e2, e3, e4⟩
      · rw [e2] at hg
        unfold Region.wanted; rw [e1]; simp [show runs = true from hg]
      · rw [e4] at hg
        have htn : t < a.tmps.size := by rw [h5]; exact dstN g og t e2 e3
        rcases hg with ⟨b, hb, hbw⟩ | ⟨hb, hr⟩
        case inr =>
          have hv := h3 t
          rw [hb] at hv
          have hv' : a.tmps.getD t Go.undef = .tuple #[] := by
            generalize a.tmps.getD t Go.undef = x at hv
            cases hv with
            | tup h => cases h; rfl
          have hy : yielded ops a.tmps g = none := by
            have e5 : ((ops[g]?).bind (·.dst)).bind (a.tmps[·]?) = some (.tuple #[]) := by
              rw [e2]; show og.dst.bind _ = _
              rw [e3]; show a.tmps[t]? = _
              rw [← hv']; simp [htn]
            unfold yielded; rw [e5]
          unfold Region.wanted; rw [e1]; simp only [hy]
          simp [hr]
        have hv := h3 t
        rw [hb] at hv
        have hv' : a.tmps.getD t Go.undef = .bool b := by
          generalize a.tmps.getD t Go.undef = x at hv; cases hv; rfl
        have hy : yielded ops a.tmps g = some b := by
          have e5 : ((ops[g]?).bind (·.dst)).bind (a.tmps[·]?) = some (.bool b) := by
            rw [e2]; show og.dst.bind _ = _
            rw [e3]; show a.tmps[t]? = _
            rw [← hv']; simp [htn]
          unfold yielded; rw [e5]
        unfold Region.wanted; rw [e1]; simp only [hy]
        rw [hbw]; simp
    unfold wpOp
    simp only [ho]
    rw [hrel.dst] at hnext
    cases hruns : runs with
    | true =>
      rw [if_pos (hwant.2 hruns)]
      obtain ⟨_, hgo⟩ := acts_solid hTT hrel (hrun hruns)
      exact .inl (hgo Y w0 F0 d m Fs w a h2 h1 (fun t _ => h3 t) _ _ (fun v' w' d' m' Fs' r1 r2 r3 r4 => rest _ _ _ hnext (RelS.put h3 h4 h5 h6 hd r1 r2 r3 r4)))
    | false =>
      rw [if_neg (fun h => by rw [hwant.1 h] at hruns; cases hruns)]
      obtain ⟨rfl, rfl⟩ := hskip hruns
      exact rest _ _ _ hnext (RelS.put h3 h4 h5 h6 hd h1 h2 .refl (.tup .nil))
theorem regWp_trace : ∀ {l : List AOp} {s : St} {Q : St → Prop}, regWp P l s Q → ∃ (S : Nat → St) (V : Nat → AV) (G : Nat → Bool), S 0 = s ∧ (∀ (j : Nat) (x : AOp), l[j]? = some x → ∃ mem', GuardOk (S j) x.guard (G j) ∧
    (G j = true → Acts P (S j) x.solo x.item (V j) mem') ∧ (G j = false → V j = .tup [] ∧ mem' = (S j).mem) ∧ S (j + 1) = (S j).put x.dst (V j) mem') ∧ Q (S l.length) := by
  intro l
  induction l with
  | nil => intro s Q h; exact ⟨fun _ => s, fun _ => .undef, fun _ => true, rfl, fun j x hj => by simp at hj, h⟩
  | cons x l ih =>
    intro s Q h
    obtain ⟨v, mem', runs, hg, hrun, hskip, hnext⟩ := opWp_acts h
    obtain ⟨S, V, G, h0, h1, h2⟩ := ih hnext
    refine ⟨fun j => match j with | 0 => s | j + 1 => S j, fun j => match j with | 0 => v | j + 1 => V j, fun j => match j with | 0 => runs | j + 1 => G j, rfl, fun j y hj => ?_, h2⟩
    cases j with
    | zero => simp at hj; subst hj; exact ⟨mem', hg, hrun, hskip, h0⟩
    | succ j => exact h1 j y (by simpa using hj)
theorem nodupNat_spec : ∀ {l : List Nat}, nodupNat l = true → l.Nodup := by
  intro l
  induction l with
  | nil => intro _; exact List.nodup_nil
  | cons x l ih => intro h; simp [nodupNat] at h; exact List.nodup_cons.2 ⟨h.1, ih h.2⟩
theorem filterMap_unique {f : AOp → Option Nat} : ∀ {l : List AOp}, (l.filterMap f).Nodup → ∀ (i j : Nat) (x y : AOp) (t : Nat), l[i]? = some x → l[j]? = some y → f x = some t → f y = some t → i = j := by
  intro l
  induction l with
  | nil => intro _ i j x y t hi; simp at hi
  | cons z l ih =>
    intro hn i j x y t hi hj hx hy
    have hn' : (l.filterMap f).Nodup := by
      rw [List.filterMap_cons] at hn
      split at hn
      · exact hn
      · exact (List.nodup_cons.1 hn).2
    have key : ∀ (k : Nat) (u : AOp), l[k]? = some u → f u = some t → f z = some t → False := fun k u hk hu hz => by
      rw [List.filterMap_cons, hz] at hn
      exact (List.nodup_cons.1 hn).1 (List.mem_filterMap.2 ⟨u, List.mem_of_getElem? hk, hu⟩)
    cases i with
    | zero =>
      cases j with
      | zero => rfl
      | succ j => simp at hi hj; subst hi; exact (key j y hj hy hx).elim
    | succ i =>
      cases j with
      | zero => simp at hi hj; subst hj; exact (key i x hi hx hy).elim
      | succ j => simp at hi hj; rw [ih hn' i j x y t hi hj hx hy]
theorem befs_spec : ∀ (rest done : List Oper) (acc : List (List Nat)), ops.toList = done ++ rest → acc.length = done.length → (∀ (j i : Nat), i ∈ acc.getD j [] → Bef ops i j) →
    ∀ (j i : Nat), i ∈ (befs rest acc).getD j [] → Bef ops i j := by
  intro rest
  induction rest with
  | nil => intro done acc _ _ h; exact h
  | cons o rest ih =>
    intro done acc he hl h
    have ho : ops[done.length]? = some o := by
      rw [← Array.getElem?_toList, he]; simp
    refine ih (done ++ [o]) _ (by simp [he]) (by simp [hl]) (fun j i hi => ?_)
    rw [List.getD_eq_getElem?_getD, List.getElem?_append] at hi
    by_cases hj : j < acc.length
    · rw [if_pos hj, ← List.getD_eq_getElem?_getD] at hi
      exact h j i hi
    · rw [if_neg hj] at hi
      rcases Nat.eq_or_lt_of_le (Nat.le_of_not_lt hj) with hj' | hj'
      · subst hj'
        simp only [Nat.sub_self, List.getElem?_cons_zero, Option.getD_some, List.mem_flatMap, List.mem_filter] at hi
        obtain ⟨e, ⟨he1, he2⟩, hi⟩ := hi
        have hone : Bef ops e.on acc.length := by rw [hl]; exact .one ho (by simpa using he1) he2
        rcases List.mem_cons.1 hi with rfl | hi
        · exact hone
        · exact .trans (h _ _ hi) hone
      · rw [List.getElem?_eq_none (by simp; omega)] at hi
        cases hi
end
end Go.Abs
namespace Go.Abs
open Go Go.RowKit
theorem ld_exists {mem : Nat → Mem} {n : Nat} (mono1 : ∀ j, j < n → (mem j).length ≤ (mem (j + 1)).length) : ∃ L, LDspec mem n 0 L := by
  have mono : ∀ k i, i + k ≤ n → (mem i).length ≤ (mem (i + k)).length := by
    intro k
    induction k with
    | zero => intro i _; exact Nat.le_refl _
    | succ k ih => intro i h; exact Nat.le_trans (ih i (by omega)) (mono1 (i + k) (by omega))
  have mono' : ∀ i j, i ≤ j → j ≤ n → (mem i).length ≤ (mem j).length := by
    intro i j h1 h2
    have := mono (j - i) i (by omega)
    rwa [Nat.add_sub_cancel' h1] at this
  have uniq : ∀ i j t, i < n → j < n → (mem i).length ≤ t → t < (mem (i + 1)).length → (mem j).length ≤ t → t < (mem (j + 1)).length → i = j := by
    intro i j t hi hj h1 h2 h3 h4
    rcases Nat.lt_trichotomy i j with h | h | h
    · have := mono' (i + 1) j h (by omega); omega
    · exact h
    · have := mono' (j + 1) i h (by omega); omega
  refine ⟨fun t => if t < (mem 0).length then liveOf (mem 0) t else
    @dite _ (∃ j, j < n ∧ (mem j).length ≤ t ∧ t < (mem (j + 1)).length) (Classical.propDecidable _) (fun h => liveOf (mem (h.choose + 1)) t) (fun _ => none), fun t ht => by simp [ht], fun j _ hj t h1 h2 => ?_, fun t ht => ?_⟩
  · have h0 := mono' 0 j (by omega) (by omega)
    show (if _ then _ else _) = _
    rw [if_neg (by omega)]
    have h : ∃ j, j < n ∧ (mem j).length ≤ t ∧ t < (mem (j + 1)).length := ⟨j, hj, h1, h2⟩
    rw [dif_pos h]
    obtain ⟨e1, e2, e3⟩ := h.choose_spec
    rw [uniq _ j t e1 hj e2 e3 h1 h2]
  · have h0 := mono' 0 n (by omega) (Nat.le_refl _)
    show (if _ then _ else _) = _
    rw [if_neg (by omega), dif_neg]
    rintro ⟨j, hj, h1, h2⟩
    have := mono' (j + 1) n hj (Nat.le_refl _)
    omega
section
variable {P : Program} {TT : Types} {pures : List FuncId} {ops : Array Oper}
open Classical in
noncomputable def clsOf (lk : Nat → Bool) (P : Program) (ops : Array Oper) (l : List AOp) (S : Nat → St) (V : Nat → AV) (G : Nat → Bool) (j : Nat) : Cls :=
  match ops[j]?, l[j]? with
  | some o, some x => if G j = false then .skip else if (x.item.blind || lk j) = true then .blind else if Quiet P o (S j).get x.item.rd (S j).mem (V j) (S (j + 1)).mem then .quiet else .solid
  | _, _ => .skip
theorem draw_sound (hm : P.follows .mixedOrders = true) (hTT : ∀ t T, TT.get t = some T → tyOf P t = some T) {N : Nat} {l0 l : List AOp}
    (h0 : allOpers P TT pures ops (fun _ => true) 0 ops.toList = some l0) (hdN : l0.all (fun x => match x.dst with | some t => decide (t < N) | none => true) = true)
    (lk : Nat → Bool) {js is : List Nat}
    (hl : allOpers P TT pures ops (soloOf ops.size (befs ops.toList []) (fun i => ((l0[i]?).map (·.item.blind)).getD false || lk i)) 0 ops.toList = some l) (hok : drawOk N ops.toList (befs ops.toList []) l = true)
    (hlk : ∀ (j : Nat) (x : AOp), l[j]? = some x → lk j = true → ∃ t, lookT x.item = some t ∧ t ∈ js)
    (hst : (∃ j, lk j = true) → strictReads ops.size (befs ops.toList []) l = true ∧ ∀ x ∈ l, storeT x.item = none ∨ ∃ u, storeT x.item = some (some u) ∧ u ∈ is)
    {B : Start} {Y : Nat → Prop} {w0 : World} {F0 : List Nat} {Q : St → Prop} {QQ : Exit → Act → World → Prop} (hQ : ∀ s a w, RelS B Y w0 F0 N s a w → Q s → QQ .normal a w) {id : Nat} {s : St} {a : Act} {w : World}
    (h : regWp P l s (fun s' => lkOk s.mem.length js is s' = true ∧ Q s')) (hr : RelS B Y w0 F0 N s a w) : (Code.region id ops true).wp P QQ a w := by
  obtain ⟨len0, spec0⟩ := allOpers_spec h0
  obtain ⟨len, spec⟩ := allOpers_spec hl
  obtain ⟨S, V, G, hS0, hS, hLk, hQn⟩ := regWp_trace h
  simp only [drawOk, Bool.and_eq_true, List.all_eq_true, List.mem_range] at hok
  obtain ⟨⟨⟨hback, hnd⟩, hreads⟩, hguard⟩ := hok
  have hn : l.length = ops.size := by rw [len]; simp
  have hn0 : l0.length = ops.size := by rw [len0]; simp
  have hsz : ops.toList.length = ops.size := by simp
  have befOk := befs_spec (ops := ops) ops.toList [] [] (by simp) rfl (fun j i hi => by simp at hi)
  have at_ : ∀ (j : Nat) (o : Oper), ops[j]? = some o → ∃ x, l[j]? = some x ∧ OperRel P TT ops o x ∧ x.solo = soloOf ops.size (befs ops.toList []) (fun i => ((l0[i]?).map (·.item.blind)).getD false || lk i) j ∧ compileItem P TT pures o.op = some x.item := by
    intro j o ho
    have hj : j < l.length := by rw [hn]; exact (Array.getElem?_eq_some_iff.1 ho).1
    obtain ⟨o', h1, h2, h3, h4⟩ := spec j l[j] (by simp [hj])
    have : o' = o := by rw [← Array.getElem?_toList] at ho; rw [ho] at h1; cases h1; rfl
    subst this
    rw [Nat.zero_add] at h3
    exact ⟨l[j], by simp [hj], h2, h3, h4⟩
  have back : ∀ (j : Nat) (o : Oper) (e : Edge), ops[j]? = some o → e ∈ o.after → Region.binds .any e = true → e.on < j := by
    intro j o e ho he hb
    have h1 := hback j (by rw [hsz]; exact (Array.getElem?_eq_some_iff.1 ho).1)
    rw [Array.getElem?_toList, ho] at h1
    simp only [Option.map_some, Option.getD_some, List.all_eq_true] at h1
    have := h1 e (by simpa using he)
    simpa [hb] using this
  have dsts : ∀ (i j : Nat) (oi oj : Oper) (t : Nat), ops[i]? = some oi → ops[j]? = some oj → oi.dst = some t → oj.dst = some t → i = j := by
    intro i j oi oj t hi hj h1 h2
    obtain ⟨x, hx, rx, _⟩ := at_ i oi hi
    obtain ⟨y, hy, ry, _⟩ := at_ j oj hj
    exact filterMap_unique (nodupNat_spec hnd) i j x y t hx hy (by rw [rx.dst]; exact h1) (by rw [ry.dst]; exact h2)
  have dstN : ∀ (i : Nat) (oi : Oper) (t : Nat), ops[i]? = some oi → oi.dst = some t → t < N := by
    intro i oi t hi ht
    have hi' : i < l0.length := by rw [hn0]; exact (Array.getElem?_eq_some_iff.1 hi).1
    obtain ⟨o', h1, h2, _, _⟩ := spec0 i l0[i] (by simp [hi'])
    have : o' = oi := by rw [← Array.getElem?_toList] at hi; rw [hi] at h1; cases h1; rfl
    subst this
    have h3 := List.all_eq_true.1 hdN l0[i] (List.getElem_mem hi')
    rw [h2.dst, ht] at h3
    simpa using h3
  have Snext : ∀ (j : Nat) (x : AOp), l[j]? = some x → (S (j + 1)).mem = (S (j + 1)).mem ∧ ∀ t, (S (j + 1)).get t = if x.dst = some t then V j else (S j).get t := by
    intro j x hx
    obtain ⟨mem', _, _, _, h4⟩ := hS j x hx
    exact ⟨rfl, fun t => by rw [h4, get_put]⟩
  have writer : ∀ (t i : Nat) (oi : Oper), ops[i]? = some oi → oi.dst = some t → ∀ j, i < j → j ≤ ops.size → (S j).get t = V i := by
    intro t i oi hoi ht j
    induction j with
    | zero => intro h; omega
    | succ j ih =>
      intro h1 h2
      have hj : ops[j]? = some ops[j] := by simp [show j < ops.size by omega]
      obtain ⟨x, hx, rx, _⟩ := at_ j ops[j] hj
      rw [(Snext j x hx).2 t, rx.dst]
      by_cases hd : (ops[j]).dst = some t
      · rw [if_pos hd, dsts i j oi ops[j] t hoi hj ht hd]
      · rw [if_neg hd]
        refine ih ?_ (by omega)
        rcases Nat.eq_or_lt_of_le (Nat.le_of_lt_succ h1) with e | e
        · subst e; rw [hj] at hoi; cases hoi; exact absurd ht hd
        · exact e
  have unwritten : ∀ t, (∀ (i : Nat) (oi : Oper), ops[i]? = some oi → oi.dst ≠ some t) → ∀ j, j ≤ ops.size → (S j).get t = s.get t := by
    intro t ht j
    induction j with
    | zero => intro _; rw [hS0]
    | succ j ih =>
      intro h
      have hj : ops[j]? = some ops[j] := by simp [show j < ops.size by omega]
      obtain ⟨x, hx, rx, _⟩ := at_ j ops[j] hj
      rw [(Snext j x hx).2 t, rx.dst, if_neg (ht j _ hj)]
      exact ih (by omega)
  have before : ∀ (t i : Nat) (oi : Oper), ops[i]? = some oi → oi.dst = some t → ∀ j, j ≤ i → (S j).get t = s.get t := by
    intro t i oi hoi ht j
    induction j with
    | zero => intro _; rw [hS0]
    | succ j ih =>
      intro h
      have hin : i < ops.size := (Array.getElem?_eq_some_iff.1 hoi).1
      have hj : ops[j]? = some ops[j] := by simp [show j < ops.size by omega]
      obtain ⟨x, hx, rx, _⟩ := at_ j ops[j] hj
      rw [(Snext j x hx).2 t, rx.dst, if_neg (fun e => by have := dsts j i ops[j] oi t hj hoi e ht; omega)]
      exact ih (by omega)
  have stays : (∃ j, lk j = true) → ∀ (j : Nat) (x : AOp) (t : Nat), l[j]? = some x → t ∈ x.item.rd → (S l.length).get t = (S j).get t := by
    intro hex j x t hx ht
    have hs1 := (hst hex).1
    simp only [strictReads, List.all_eq_true, List.mem_range] at hs1
    have hjn : j < ops.size := by rw [← hn]; exact (List.getElem?_eq_some_iff.1 hx).1
    by_cases hw : ∃ (i : Nat) (oi : Oper), ops[i]? = some oi ∧ oi.dst = some t
    · obtain ⟨i, oi, hoi, hd⟩ := hw
      have hin : i < ops.size := (Array.getElem?_eq_some_iff.1 hoi).1
      have h1 := hs1 j hjn
      rw [hx] at h1
      simp only [List.all_eq_true, List.mem_range] at h1
      have h2 := h1 i hin
      obtain ⟨y, hy, ry, _⟩ := at_ i oi hoi
      rw [hy] at h2
      simp only [Option.bind_some, ry.dst, hd] at h2
      have h3 : x.item.rd.contains t = true := by simpa using ht
      rw [h3] at h2
      have hb : Bef ops i j := befOk j i (by simpa using h2)
      rw [writer t i oi hoi hd j (bef_lt back hb) (by omega), writer t i oi hoi hd l.length (by omega) (by omega)]
    · have hw' : ∀ (i : Nat) (oi : Oper), ops[i]? = some oi → oi.dst ≠ some t := fun i oi h1 h2 => hw ⟨i, oi, h1, h2⟩
      rw [unwritten t hw' j (by omega), unwritten t hw' l.length (by omega)]
  have tmpRd : ∀ (it : Item) (t : Nat), storeT it = some (some t) ∨ lookT it = some t → t ∈ it.rd := by
    intro it t h
    rcases h with h | h
    · unfold storeT at h
      split at h <;> first | (cases h; done) | (simp only [Option.some.injEq] at h; subst h; simp [Item.rd, tmpsOf])
    · obtain ⟨k, rfl, _⟩ := lookT_spec h
      simp [Item.rd, tmpsOf]
  have memLen : ∀ j, j < ops.size → ((S j).mem).length ≤ ((S (j + 1)).mem).length := by
    intro j hj
    have ho : ops[j]? = some ops[j] := by simp [hj]
    obtain ⟨x, hx, rx, _⟩ := at_ j ops[j] ho
    obtain ⟨mem', hg, hrun, hskip, hnext⟩ := hS j x hx
    have hmem : (S (j + 1)).mem = mem' := by rw [hnext]; rfl
    rw [hmem]
    cases hG : G j with
    | false => rw [(hskip hG).2]; exact Nat.le_refl _
    | true => exact (acts_solid hTT rx (hrun hG)).1
  have memGe : ∀ j, j ≤ ops.size → s.mem.length ≤ (S j).mem.length := by
    intro j
    induction j with
    | zero => intro _; rw [hS0]; exact Nat.le_refl _
    | succ j ih => intro h; exact Nat.le_trans (ih (by omega)) (memLen j (by omega))
  have look : ∀ (j : Nat) (x : AOp), l[j]? = some x → lk j = true → ∃ t k id a b, x.item = .op k [.tmp t] ∧ isLk k ∧ (S j).get t = .ptr id a b ∧ id < s.mem.length ∧
      ∀ p, p ≤ ops.size → liveOf (S p).mem id = liveOf s.mem id := by
    intro j x hx hj
    obtain ⟨t, ht, hjs⟩ := hlk j x hx hj
    obtain ⟨k, hk, hkk⟩ := lookT_spec ht
    have hst' := stays ⟨j, hj⟩
    have e1 := List.all_eq_true.1 hLk _ (List.mem_map.2 ⟨t, hjs, rfl⟩)
    generalize hp : (S l.length).get t = xt at e1
    cases xt with
    | ptr id a b => ?_
    | _ => cases e1
    simp only [lkJ] at e1
    simp only [Bool.and_eq_true, decide_eq_true_eq, List.all_eq_true] at e1
    refine ⟨t, k, id, a, b, hk, hkk, by rw [← hst' j x t hx (tmpRd _ _ (.inr ht))]; exact hp, e1.1, ?_⟩
    intro p
    induction p with
    | zero => intro _; rw [hS0]
    | succ p ih =>
      intro hp'
      rw [← ih (by omega)]
      have ho : ops[p]? = some ops[p] := by simp [show p < ops.size by omega]
      obtain ⟨y, hy, ry, _⟩ := at_ p ops[p] ho
      obtain ⟨mem', hg, hrun, hskip, hnext⟩ := hS p y hy
      have hmem : (S (p + 1)).mem = mem' := by rw [hnext]; rfl
      rw [hmem]
      cases hG : G p with
      | false => rw [(hskip hG).2]
      | true =>
        refine acts_keep (hrun hG) ?_ (Nat.lt_of_lt_of_le e1.1 (memGe p (by omega)))
        rcases (hst ⟨j, hj⟩).2 y (List.mem_of_getElem? hy) with h1 | ⟨u, h1, h2⟩
        · exact .inl h1
        · refine .inr ⟨u, h1, ?_⟩
          have e2 := e1.2 _ (List.mem_map.2 ⟨u, h2, rfl⟩)
          generalize hp2 : (S l.length).get u = xu at e2
          cases xu with
          | ptr id' a' b' => exact ⟨id', a', b', by rw [← hst' p y u hy (tmpRd _ _ (.inl h1))]; exact hp2, by simpa [lkI] using e2⟩
          | _ => cases e2
  have clsE : ∀ (j : Nat) (o : Oper) (x : AOp), ops[j]? = some o → l[j]? = some x → clsOf lk P ops l S V G j = (open Classical in if G j = false then .skip else if (x.item.blind || lk j) = true then .blind else if Quiet P o (S j).get x.item.rd (S j).mem (V j) (S (j + 1)).mem then .quiet else .solid) := by
    intro j o x h1 h2; simp only [clsOf, h1, h2]
  have step : ∀ (j : Nat) (o : Oper), ops[j]? = some o → Step P ops s.get (fun j => (S j).get) V (fun j => (S j).mem) (fun j => ((l[j]?).map (·.item.rd)).getD []) (clsOf lk P ops l S V G) j o := by
    intro j o ho
    have hjn : j < ops.size := (Array.getElem?_eq_some_iff.1 ho).1
    obtain ⟨x, hx, rx, hsolo, hitem⟩ := at_ j o ho
    obtain ⟨mem', hg, hrun, hskip, hnext⟩ := hS j x hx
    have hmem : (S (j + 1)).mem = mem' := by rw [hnext]; rfl
    have hcls := clsE j o x ho hx
    have hcs : clsOf lk P ops l S V G j = .skip ↔ G j = false := by
      rw [hcls]
      cases G j with
      | false => simp
      | true => simp; split <;> (try split) <;> simp
    refine ⟨fun t ht => ?_, ?_, ?_⟩
    · simp only [hx, Option.map_some, Option.getD_some] at ht
      by_cases hw : ∃ (i : Nat) (oi : Oper), ops[i]? = some oi ∧ oi.dst = some t
      · obtain ⟨i, oi, hoi, hd⟩ := hw
        have hin : i < ops.size := (Array.getElem?_eq_some_iff.1 hoi).1
        have h1 := hreads j (by rw [hsz]; exact hjn)
        rw [hx] at h1
        simp only [List.all_eq_true, List.mem_range] at h1
        have h2 := h1 i (by rw [hsz]; exact hin)
        obtain ⟨y, hy, ry, _⟩ := at_ i oi hoi
        rw [hy] at h2
        simp only [Option.bind_some, ry.dst, hd] at h2
        have h3 : x.item.rd.contains t = true := by simpa using ht
        rw [h3] at h2
        simp only [Bool.not_true, Bool.false_or, Bool.or_eq_true, List.contains_iff_mem] at h2
        rcases h2 with h2 | h2
        · have hb : Bef ops i j := befOk j i h2
          exact .inl ⟨i, oi, hb, hoi, hd, writer t i oi hoi hd j (bef_lt back hb) (by omega)⟩
        · have hb : Bef ops j i := befOk i j h2
          exact .inr ⟨fun i' oi' hoi' hd' => by rw [dsts i' i oi' oi t hoi' hoi hd' hd]; exact hb, before t i oi hoi hd j (Nat.le_of_lt (bef_lt back hb))⟩
      · have hw' : ∀ (i : Nat) (oi : Oper), ops[i]? = some oi → oi.dst ≠ some t := fun i oi h1 h2 => hw ⟨i, oi, h1, h2⟩
        exact .inr ⟨fun i oi h1 h2 => absurd h2 (hw' i oi h1), unwritten t hw' j (by omega)⟩
    · rcases rx.guard with ⟨e1, e2⟩ | ⟨g, want, og, t, e1, e2, e3, e4⟩
      · rw [e2] at hg
        refine .inl ⟨e1, fun hc => ?_⟩
        rw [hcs, show G j = true from hg] at hc; cases hc
      · rw [e4] at hg
        have h1 := hguard j (by rw [hsz]; exact hjn)
        rw [Array.getElem?_toList, ho] at h1
        simp only [Option.bind_some, e1] at h1
        have hbf : Bef ops g j := befOk j g (by simpa using h1)
        rcases hg with ⟨b, hb, hbw⟩ | ⟨hb, hr⟩
        case inr =>
          refine .inr (.inr ⟨g, want, og, t, e1, hbf, e2, e3, ?_, hcs.2 hr⟩)
          rw [← writer t g og e2 e3 j (bef_lt back hbf) (by omega)]; exact hb
        refine .inr (.inl ⟨g, want, og, t, b, e1, hbf, e2, e3, ?_, ?_⟩)
        · rw [← writer t g og e2 e3 j (bef_lt back hbf) (by omega)]; exact hb
        · rw [hcs]
          cases hG : G j with
          | true => rw [hG] at hbw; simp at hbw; simp [hbw]
          | false => rw [hG] at hbw; simp at hbw; simpa using hbw
    · show match clsOf lk P ops l S V G j with
        | .skip => V j = .tup [] ∧ (S (j + 1)).mem = (S j).mem
        | .blind => (∀ p L, p ≤ ops.size → LDspec (fun j => (S j).mem) ops.size p L → BlindAt P o (S j).get (((l[j]?).map (·.item.rd)).getD []) (V j) L) ∧ (S (j + 1)).mem = (S j).mem
        | .quiet => Quiet P o (S j).get (((l[j]?).map (·.item.rd)).getD []) (S j).mem (V j) (S (j + 1)).mem
        | .solid => Solid P o (S j).get (((l[j]?).map (·.item.rd)).getD []) (S j).mem (V j) (S (j + 1)).mem ∧ ∀ i, i < ops.size → i ≠ j → (clsOf lk P ops l S V G i = .quiet ∨ clsOf lk P ops l S V G i = .solid) → Bef ops i j ∨ Bef ops j i
      simp only [hx, Option.map_some, Option.getD_some]
      rw [hcls]
      cases hG : G j with
      | false =>
        obtain ⟨h1, h2⟩ := hskip hG
        simp only [if_true]
        exact ⟨h1, by rw [hmem, h2]⟩
      | true =>
        have hact := hrun hG
        rw [← hmem] at hact
        simp only [Bool.true_eq_false, if_false]
        by_cases hb : (x.item.blind || lk j) = true
        · rw [if_pos hb]
          by_cases hb' : x.item.blind = true
          · obtain ⟨hB1, hB2⟩ := acts_blind hTT rx hb' hact
            exact ⟨fun p L _ _ => hB1 L, hB2⟩
          · have hlj : lk j = true := by simpa [hb'] using hb
            obtain ⟨t, k, id, a', b', hit, hkk, hpt, hid, hrow⟩ := look j x hx hlj
            rcases rx.item with ⟨k2, os2, hi2, hc2⟩ | ⟨c, g0, g, os, _, _, _, _, hi2 | hi2⟩
            · rw [hit] at hi2; cases hi2
              rw [hit] at hact ⊢
              generalize hvj : V j = vj at hact ⊢
              generalize hmj : (S (j + 1)).mem = mj at hact ⊢
              cases hact with
              | op hw hq =>
                rename_i e
                have hargs : [Opd.tmp t].map (getOpd (S j).get) = [.ptr id a' b'] := by simp only [List.map_cons, List.map_nil]; rw [show getOpd (S j).get (.tmp t) = (S j).get t from rfl, hpt]
                rw [hargs] at hw
                obtain ⟨v0, rfl, _⟩ := weff_look hkk hw rfl
                refine ⟨fun p L hp hL => ?_, rfl⟩
                refine op_at hTT hc2 (fun s1 b1 e => by rcases hkk with rfl | ⟨n, rfl⟩ | ⟨n, rfl⟩ <;> cases e) (fun t ht => ht) ?_
                rw [hargs]
                obtain ⟨v1, e1, h1⟩ := weff_look (live' := L) hkk hw (by
                  rw [hL.1 id (Nat.lt_of_lt_of_le hid (memGe p hp)), hrow j (by omega)]; exact hrow p hp)
                cases e1; exact h1
            · rw [hit] at hi2; cases hi2
            · rw [hit] at hi2; cases hi2
        · rw [if_neg hb]
          by_cases hq : Quiet P o (S j).get x.item.rd (S j).mem (V j) (S (j + 1)).mem
          · rw [if_pos hq]; exact hq
          · rw [if_neg hq]
            rcases acts_other hTT rx hact with h1 | ⟨hs, h1⟩
            · exact absurd h1 hq
            · refine ⟨h1, fun i hi hij hci => ?_⟩
              have hoi : ops[i]? = some ops[i] := by simp [hi]
              obtain ⟨y, hy, ry, _, hyi⟩ := at_ i ops[i] hoi
              have hnb : (y.item.blind || lk i) = false := by
                have hc := clsE i ops[i] y hoi hy
                rw [hc] at hci
                cases hyb : (y.item.blind || lk i) with
                | false => rfl
                | true => simp only [hyb, if_true] at hci; split at hci <;> rcases hci with hci | hci <;> cases hci
              rw [hs] at hsolo
              have h2 := List.all_eq_true.1 hsolo.symm i (List.mem_range.2 hi)
              simp only at h2
              rw [Bool.or_eq_false_iff] at hnb
              have h3 : (((l0[i]?).map (·.item.blind)).getD false || lk i) = false := by
                rw [hnb.2, Bool.or_false]
                have hnb := hnb.1
                have hi' : i < l0.length := by rw [hn0]; exact hi
                obtain ⟨o', k1, _, _, k4⟩ := spec0 i l0[i] (by simp [hi'])
                have : o' = ops[i] := by rw [Array.getElem?_toList, hoi] at k1; cases k1; rfl
                subst this
                rw [hyi] at k4
                simp only [Option.some.injEq] at k4
                simp [hi', ← k4, hnb]
              rw [h3] at h2
              simp only [Bool.or_eq_true, beq_iff_eq, hij, false_or, Bool.false_eq_true, List.contains_iff_mem] at h2
              rcases h2 with h2 | h2
              · exact .inl (befOk j i h2)
              · exact .inr (befOk i j h2)
  refine wp_region_any hm ?_
  obtain ⟨d, m, Fs, r1, r2, r3, r4, r5, r6⟩ := hr
  obtain ⟨k1, k2⟩ := r1.aside (evo_drew w)
  have mono1 : ∀ j, j < ops.size → ((S j).mem).length ≤ ((S (j + 1)).mem).length := by
    intro j hj
    have h := (step j ops[j] (by simp [hj])).act
    cases hc : clsOf lk P ops l S V G j with
    | skip => rw [hc] at h; rw [h.2]; exact Nat.le_refl _
    | blind => rw [hc] at h; rw [h.2]; exact Nat.le_refl _
    | quiet => rw [hc] at h; obtain ⟨⟨new, e⟩, _⟩ := h; have e' : (S (j + 1)).mem = (S j).mem ++ new := e; rw [e']; simp
    | solid => rw [hc] at h; exact h.1.1
  obtain ⟨L, hL⟩ := ld_exists (mem := fun j => (S j).mem) mono1
  have hL0 : ∀ t, t < s.mem.length → L t = liveOf s.mem t := fun t ht => by
    have := hL.1 t (by show t < (S 0).mem.length; rw [hS0]; exact ht)
    rw [this]; show liveOf (S 0).mem t = _; rw [hS0]
  have hon : ∀ j, ¬ On (Array.replicate ops.size false) j := fun j hj => by
    unfold On at hj
    rw [Array.getD_eq_getD_getElem?, Array.getElem?_replicate] at hj
    split at hj <;> cases hj
  have stage : Stage B Y w0 F0 ops s.get V (fun j => (S j).mem) (clsOf lk P ops l S V G) N (Array.replicate ops.size false) 0 d m Fs L a w.drew :=
    { size := by simp
      pn := by omega
      closed := fun j o e h => absurd h (hon j)
      sol := fun j _ _ => ⟨fun h => absurd h (hon j), fun h => by omega⟩
      ld := hL
      rel := k1.relive (fun t ht => by
          rcases Nat.lt_or_ge t s.mem.length with h | h
          · exact hL0 t h
          · exact absurd (r2 t h).1 ht) (fun t ht => by
          rcases Nat.lt_or_ge t s.mem.length with h | h
          · rw [hL0 t h]; exact r1.ddom t ht
          · exact absurd ht (r2 t h).2)
      mapped := fun t ht h => by
        have ht' : s.mem.length ≤ t := by rw [← hS0]; exact ht
        rcases h with h | h
        · exact absurd (r2 t ht').1 h
        · exact absurd h (r2 t ht').2
      env1 := fun i oi t _ h => absurd h (hon i)
      env2 := fun t _ => RelV.carry k2 (r3 t) (fun _ h => by cases h)
      defers := r4
      tmps := r5
      car := Carry.trans r6 k2 }
  refine any_sound (Q := QQ) back dsts dstN step (fun a w d m Fs f1 f2 f3 f4 f5 f6 f7 => ?_) ops.size _ 0 d m Fs L a w.drew stage (Nat.le_trans (List.countP_le_length ..) (by simp))
  refine hQ (S ops.size) a w ⟨d, m, Fs, f1, f2, fun t => ?_, f5, f6, f7⟩ (by rw [← hn]; exact hQn)
  by_cases hw : ∃ (i : Nat) (oi : Oper), ops[i]? = some oi ∧ oi.dst = some t
  · obtain ⟨i, oi, hoi, hd⟩ := hw
    rw [writer t i oi hoi hd ops.size (Array.getElem?_eq_some_iff.1 hoi).1 (Nat.le_refl _)]
    exact f3 i oi t hoi hd
  · have hw' : ∀ (i : Nat) (oi : Oper), ops[i]? = some oi → oi.dst ≠ some t := fun i oi h1 h2 => hw ⟨i, oi, h1, h2⟩
    rw [unwritten t hw' ops.size (Nat.le_refl _)]
    exact f4 t hw'
end
end Go.Abs
namespace Go.Abs
open Go Go.RowKit
section
variable {P : Program} {TT : Types} {pures : List FuncId} {N : Nat} {B : Start} {Y : Nat → Prop} {w0 : World} {F0 : List Nat}
def absQ (B : Start) (Y : Nat → Prop) (w0 : World) (F0 : List Nat) (N : Nat) (Q : AX → St → Prop) : Exit → Act → World → Prop
  | .normal, a, w => ∃ s, RelS B Y w0 F0 N s a w ∧ Q .normal s
  | .exit id, a, w => ∃ s, RelS B Y w0 F0 N s a w ∧ Q (.exit id) s
  | .ret, a, w => ∃ s, RelS B Y w0 F0 N s a w ∧ Q .ret s
  | _, _, _ => False
theorem least_exists {p : Nat → Prop} : ∀ n, p n → ∃ n, p n ∧ ∀ k, p k → n ≤ k := by
  intro n
  induction n using Nat.strongRecOn with
  | _ n ih =>
    intro h
    by_cases hk : ∃ k, k < n ∧ p k
    · obtain ⟨k, h1, h2⟩ := hk; exact ih k h1 h2
    · exact ⟨n, h, fun k hp => Nat.le_of_not_lt fun hl => hk ⟨k, hl, hp⟩⟩
open Classical in
noncomputable def leastN (p : Nat → Prop) : Nat := if h : ∃ n, p n ∧ ∀ k, p k → n ≤ k then h.choose else 0
theorem leastN_spec {p : Nat → Prop} {n : Nat} (h : p n) : p (leastN p) ∧ leastN p ≤ n := by
  have hx := least_exists n h
  unfold leastN
  rw [dif_pos hx]
  exact ⟨hx.choose_spec.1, hx.choose_spec.2 n h⟩
theorem loop_sound {c : Code} {QQ : Exit → Act → World → Prop} (I : St → Prop) (μ : St → Nat)
    (round : ∀ s, I s → ∀ a w, RelS B Y w0 F0 N s a w → c.wp P (Exit.then (fun a w => ∃ s2, RelS B Y w0 F0 N s2 a w ∧ I s2 ∧ μ s2 < μ s) QQ) a w)
    {s : St} {a : Act} {w : World} (hs : I s) (hr : RelS B Y w0 F0 N s a w) : (Code.loop c).wp P QQ a w := by
  refine wp_loop (I := fun a w => ∃ s, RelS B Y w0 F0 N s a w ∧ I s) (μ := fun a w => leastN fun n => ∃ s, RelS B Y w0 F0 N s a w ∧ I s ∧ μ s = n) ⟨s, hr, hs⟩ ?_
  rintro a w ⟨s1, hr1, hs1⟩
  obtain ⟨⟨s, hr, hs, hm⟩, _⟩ := leastN_spec (p := fun n => ∃ s, RelS B Y w0 F0 N s a w ∧ I s ∧ μ s = n) ⟨s1, hr1, hs1, rfl⟩
  refine wp_mono (round s hs a w hr) (fun e a' w' he => ?_)
  cases e with
  | normal =>
    obtain ⟨s2, hr2, hs2, hlt⟩ := he
    refine ⟨⟨s2, hr2, hs2⟩, ?_⟩
    have := (leastN_spec (p := fun n => ∃ s, RelS B Y w0 F0 N s a' w' ∧ I s ∧ μ s = n) ⟨s2, hr2, hs2, rfl⟩).2
    omega
  | _ => exact he
theorem wpc_sound (hm : P.follows .mixedOrders = true) (hTT : ∀ t T, TT.get t = some T → tyOf P t = some T) : ∀ (c : Code) {ac : AC}, compileC P TT pures N c = some ac →
    ∀ {Q : AX → St → Prop} {s : St} {a : Act} {w : World}, wpc P ac Q s → RelS B Y w0 F0 N s a w → c.wp P (absQ B Y w0 F0 N Q) a w := by
  intro c
  induction c with
  | skip => intro ac hc Q s a w h hr; simp only [compileC] at hc; cases hc; exact wp_skip ⟨s, hr, h⟩
  | exit id => intro ac hc Q s a w h hr; simp only [compileC] at hc; cases hc; exact wp_exit ⟨s, hr, h⟩
  | ret => intro ac hc Q s a w h hr; simp only [compileC] at hc; cases hc; exact wp_ret ⟨s, hr, h⟩
  | region id ops draw =>
    intro ac hc Q s a w h hr
    simp only [compileC] at hc
    have hQ : ∀ s a w, RelS B Y w0 F0 N s a w → Q .normal s → absQ B Y w0 F0 N Q .normal a w := fun s a w h1 h2 => ⟨s, h1, h2⟩
    split at hc
    · rename_i l js is hlk
      cases hc
      split at hlk
      case isFalse => cases hlk
      rename_i hdr
      subst hdr
      unfold compileRegL at hlk
      split at hlk
      · cases hlk
      · rename_i l0 h0
        split at hlk
        case isFalse => cases hlk
        rename_i hdN
        split at hlk
        case isFalse => cases hlk
        split at hlk
        case h_2 => cases hlk
        rename_i l' hl'
        split at hlk
        case isFalse => cases hlk
        rename_i hok
        split at hlk
        case isFalse => cases hlk
        rename_i hst
        simp only [Option.some.injEq, Prod.mk.injEq] at hlk
        obtain ⟨rfl, rfl, rfl⟩ := hlk
        simp only [Bool.and_eq_true] at hst
        obtain ⟨⟨hs1, hs2⟩, hs3⟩ := hst
        have hlen : l'.length = ops.size := by rw [(allOpers_spec hl').1]; simp
        refine draw_sound hm hTT h0 hdN (lkOf ops.size (befs ops.toList []) l0) hl' hok (fun j x hx hj => ?_) (fun _ => ⟨hs1, fun x hx => ?_⟩) hQ h hr
        · have hjn : j < ops.size := by rw [← hlen]; exact (List.getElem?_eq_some_iff.1 hx).1
          have h1 := List.all_eq_true.1 hs2 j (List.mem_range.2 hjn)
          rw [hj, hx] at h1
          simp only [Bool.not_true, Bool.false_or, Option.bind_some] at h1
          obtain ⟨t, ht⟩ := Option.isSome_iff_exists.1 h1
          exact ⟨t, ht, List.mem_filterMap.2 ⟨j, List.mem_range.2 hjn, by rw [if_pos hj, hx]; exact ht⟩⟩
        · have h1 := List.all_eq_true.1 hs3 x hx
          cases hsx : storeT x.item with
          | none => exact .inl rfl
          | some o =>
            cases o with
            | none => rw [hsx] at h1; simp at h1
            | some u => exact .inr ⟨u, rfl, List.mem_filterMap.2 ⟨x, hx, by rw [hsx]⟩⟩
    simp only [Option.map_eq_some_iff] at hc
    obtain ⟨l, hl, rfl⟩ := hc
    have h : regWp P l s (Q .normal) := h
    unfold compileReg at hl
    split at hl
    · cases hl
    · rename_i l0 h0
      split at hl
      · rename_i hdN
        cases draw with
        | true =>
          simp only [if_true] at hl
          split at hl
          · rename_i l' hl'
            split at hl
            · rename_i hok
              cases hl
              exact draw_sound hm hTT h0 hdN (fun _ => false) (js := []) (is := []) (by simpa only [Bool.or_false] using hl') hok (fun j x _ h => by cases h) (fun ⟨_, h⟩ => by cases h) hQ (regWp_mono (fun s' hs' => ⟨rfl, hs'⟩) h) hr
            · cases hl
          · cases hl
        | false =>
          simp only [Bool.false_eq_true, if_false] at hl
          cases hl
          obtain ⟨hlen, spec⟩ := allOpers_spec h0
          have dstN : ∀ (i : Nat) (oi : Oper) (t : Nat), ops[i]? = some oi → oi.dst = some t → t < N := by
            intro i oi t hi ht
            have hi' : i < l.length := by rw [hlen]; simp; exact (Array.getElem?_eq_some_iff.1 hi).1
            obtain ⟨o', h1, h2, _, _⟩ := spec i l[i] (by simp [hi'])
            have : o' = oi := by rw [← Array.getElem?_toList] at hi; rw [hi] at h1; cases h1; rfl
            subst this
            have h3 := List.all_eq_true.1 hdN l[i] (List.getElem_mem hi')
            rw [h2.dst, ht] at h3
            simpa using h3
          have := seq_sound hTT dstN hQ l 0 (fun j x hx => by
            obtain ⟨o, h1, h2, _, _⟩ := spec j x hx
            exact ⟨o, by rw [Nat.zero_add, ← Array.getElem?_toList]; exact h1, h2⟩) s a w h hr
          refine wp_region ?_
          rw [List.range_eq_range', show ops.size = l.length by rw [hlen]; simp]
          exact this
      · cases hl
  | seq x y ihx ihy =>
    intro ac hc Q s a w h hr
    simp only [compileC] at hc
    split at hc
    · rename_i x' y' hx hy
      cases hc
      refine wp_seq (wp_mono (ihx hx h hr) (fun e a w he => ?_))
      cases e with
      | normal => obtain ⟨s, h1, h2⟩ := he; exact ihy hy h2 h1
      | exit id => obtain ⟨s, h1, h2⟩ := he; exact ⟨s, h1, h2⟩
      | ret => obtain ⟨s, h1, h2⟩ := he; exact ⟨s, h1, h2⟩
      | _ => exact he.elim
    · cases hc
  | cond c x y ihx ihy =>
    intro ac hc Q s a w h hr
    simp only [compileC] at hc
    split at hc
    · rename_i c' x' y' hcc hx hy
      cases hc
      simp only [wpc] at h
      split at h
      · rename_i b hb
        have hev : a.eval c = .bool b := by
          obtain ⟨d, m, Fs, h1, h2, h3, h4, h5, h6⟩ := hr
          have := opd_rel h3 hcc
          rw [hb] at this
          generalize a.eval c = v at this; cases this; rfl
        refine wp_cond hev ?_
        cases b with
        | true => exact ihx hx (h.1 rfl) hr
        | false => exact ihy hy (h.2 rfl) hr
      · exact h.elim
    · cases hc
  | block id x ihx =>
    intro ac hc Q s a w h hr
    simp only [compileC, Option.map_eq_some_iff] at hc
    obtain ⟨x', hx, rfl⟩ := hc
    refine wp_block (wp_mono (ihx hx h hr) (fun e a w he => ?_))
    cases e with
    | normal => exact he
    | exit i =>
      obtain ⟨s, h1, h2⟩ := he
      show if i = id then _ else _
      by_cases hi : i = id
      · rw [if_pos hi]; simp only [hi, if_true] at h2; exact ⟨s, h1, h2⟩
      · rw [if_neg hi]; simp only [hi, if_false] at h2; exact ⟨s, h1, h2⟩
    | ret => exact he
    | _ => exact he.elim
  | loop x ihx =>
    intro ac hc Q s a w h hr
    simp only [compileC, Option.map_eq_some_iff] at hc
    obtain ⟨x', hx, rfl⟩ := hc
    obtain ⟨I, μ, ⟨s', hv, hI⟩, round⟩ := h
    refine loop_sound I μ (fun s hs a w hr => wp_mono (ihx hx (round s hs) hr) (fun e a w he => ?_)) hI (hv B Y w0 F0 N a w hr)
    cases e with
    | normal =>
      obtain ⟨s1, h1, s2, h2, h3, h4⟩ := he
      exact ⟨s2, h2 B Y w0 F0 N a w h1, h3, h4⟩
    | exit id => exact he
    | ret => exact he
    | _ => exact he.elim
  | _ => intro ac hc; simp [compileC] at hc
theorem load_cell {t : TypeId} {v u : Value} {w w' : World} (h : (Instr.loadAt t v).run P w = .ok u w') : ((do loadVar t (← asAddr v) : Sem Value)).run P w = .ok u w' := by
  cases v with
  | pointer A =>
    cases A with
    | some A => simpa [Instr.loadAt, Instr.sureAddr, asAddr] using h
    | none => simp [Instr.loadAt, Instr.sureAddr] at h
  | _ => simp [Instr.loadAt, Instr.sureAddr] at h
def resOne (tmps : Array Value) : ResultVar → Sem Value
  | .tmp t => pure (tmps.getD t Go.undef)
  | .cell b t => do loadVar t (← asAddr (tmps.getD b Go.undef))
theorem s_load1' {live : Live} {d : Nat → Prop} {m : IdMap} {Fs : Nat → List Nat} {w : World} {i : Nat} {Q : Eff → Prop} (h : RelW Y w0 F0 live d m Fs w) {t : TypeId} {D : TypeDesc} (hu : P.underlying t = some D) (hs : (descOf D).single = true) {x : AV} {v : Value}
    (hx : R Y w m d Fs x v) (hw : weff live .load1 [x] Q) : ∃ e v' w', Q e ∧ (Instr.loadAt t v).run P w = .ok v' w' ∧ EffRes Y w0 F0 live d m Fs w i e v' w' ∧ w' = w ∧ R Y w m d Fs (effVal i e) v' := by
  have val : ∀ {u : AV} {u' : Value}, Q (.val u) → (Instr.loadAt t v).run P w = .ok u' w → R Y w m d Fs u u' → ∃ e v' w', Q e ∧ (Instr.loadAt t v).run P w = .ok v' w' ∧ EffRes Y w0 F0 live d m Fs w i e v' w' ∧ w' = w ∧ R Y w m d Fs (effVal i e) v' :=
    fun hq hr hv => ⟨_, _, _, hq, hr, res_val h hv, rfl, hv⟩
  cases x with
  | ptr id a j =>
    simp only [weff] at hw
    split at hw
    · rename_i s xs hl
      obtain ⟨h1, h2, h3, h4⟩ := hw
      obtain ⟨b, o, u, G, rfl, hc, hr⟩ := ptr_cell h hx hl h1 h2
      have := hr.noOwnC h3
      subst this
      exact val h4 (run_load1 hu hs hc) hr
    · exact hw.elim
  | rop cs =>
    simp only [weff] at hw
    obtain ⟨b, o, u, rfl, hc, hr⟩ := rop_head hx hw.1
    exact val hw.2 (run_load1 hu hs hc) hr
  | _ => simp [weff] at hw
theorem s_loadN' {live : Live} {d : Nat → Prop} {m : IdMap} {Fs : Nat → List Nat} {w : World} {i : Nat} {Q : Eff → Prop} (h : RelW Y w0 F0 live d m Fs w) {t : TypeId} {D : TypeDesc} {ti : TypeInfo} (hu : P.underlying t = some D) {fs : List (Nat × TypeId)} (hs : descOf D = .struct fs)
    (hi : P.info? t = some ti) {x : AV} {v : Value} (hx : R Y w m d Fs x v) (hw : weff live (.loadN ti.size) [x] Q) :
    ∃ e v' w', Q e ∧ (Instr.loadAt t v).run P w = .ok v' w' ∧ EffRes Y w0 F0 live d m Fs w i e v' w' ∧ w' = w ∧ R Y w m d Fs (effVal i e) v' := by
  have val : ∀ {u : AV} {u' : Value}, Q (.val u) → (Instr.loadAt t v).run P w = .ok u' w → R Y w m d Fs u u' → ∃ e v' w', Q e ∧ (Instr.loadAt t v).run P w = .ok v' w' ∧ EffRes Y w0 F0 live d m Fs w i e v' w' ∧ w' = w ∧ R Y w m d Fs (effVal i e) v' :=
    fun hq hr hv => ⟨_, _, _, hq, hr, res_val h hv, rfl, hv⟩
  cases x with
  | ptr id a j =>
    simp only [weff] at hw
    split at hw
    · rename_i s xs hl
      obtain ⟨h1, h2, h3, h4⟩ := hw
      obtain ⟨b, o, us, G, rfl, hc, hn, hr⟩ := ptr_cells h hx hl h1 h2
      have := hr.noOwnC h3
      subst this
      exact val h4 (run_loadN hu hs hi hn hc) (.agg hr)
    · exact hw.elim
  | rop cs =>
    simp only [weff] at hw
    obtain ⟨hn, hq⟩ := hw
    cases hx with
    | rop hX hb hc hcl hr =>
      rename_i vs b o
      obtain ⟨F1, F2, hF, h1, _⟩ := hr.take ti.size
      have hF1 : F1 = [] := by cases F1 with | nil => rfl | cons _ _ => cases hF
      subst hF1
      have hlen : (vs.take ti.size).length = ti.size := by rw [← h1.length, List.length_take]; omega
      exact val hq (run_loadN hu hs hi hlen hc.take) (.agg h1)
  | _ => simp [weff] at hw
theorem res_sound (hTT : ∀ t T, TT.get t = some T → tyOf P t = some T) {d : Nat → Prop} {m : IdMap} {Fs : Nat → List Nat} {s : St} {a : Act} {w : World} (h : RelW Y w0 F0 (liveOf s.mem) d m Fs w)
    (he : ∀ t, R Y w m d Fs (s.get t) (a.tmps.getD t Go.undef)) : ∀ {rs : List ResultVar} {rv : List RV} {Q : List AV → Prop}, rs.mapM (compileRes TT) = some rv → resWp s rv Q →
      ∃ vs as, (rs.mapM (resOne a.tmps)).run P w = .ok vs w ∧ RelL w m d (XOf Y m Fs) as vs [] ∧ Q as := by
  intro rs
  induction rs with
  | nil => intro rv Q hc hq; simp at hc; subst hc; exact ⟨[], [], by simp, .nil, hq⟩
  | cons r rs ih =>
    intro rv Q hc hq
    simp only [List.mapM_cons, Option.bind_eq_bind, Option.pure_def] at hc
    cases h1 : compileRes TT r with
    | none => simp [h1] at hc
    | some r' =>
      cases h2 : rs.mapM (compileRes TT) with
      | none => simp [h1, h2] at hc
      | some rv' =>
        simp [h1, h2] at hc
        subst hc
        cases r with
        | tmp t =>
          simp [compileRes] at h1; subst h1
          obtain ⟨vs, as, e1, e2, e3⟩ := ih h2 (show resWp s rv' _ from hq)
          have hone : (resOne a.tmps (.tmp t)).run P w = .ok (a.tmps.getD t Go.undef) w := rfl
          exact ⟨_, _, by simp only [List.mapM_cons, Sem.run_bind, hone, Result.andThen_ok, e1, Sem.run_pure], .cons (F := []) (he t) e2, e3⟩
        | cell b t =>
          simp only [compileRes] at h1
          have key : ∀ k, r' = .cell b k → (∀ Q', weff (liveOf s.mem) k [s.get b] Q' → ∃ e v' w', Q' e ∧ (Instr.loadAt t (a.tmps.getD b Go.undef)).run P w = .ok v' w' ∧ EffRes Y w0 F0 (liveOf s.mem) d m Fs w 0 e v' w' ∧ w' = w ∧ R Y w m d Fs (effVal 0 e) v') →
              ∃ vs as, ((.cell b t :: rs).mapM (resOne a.tmps)).run P w = .ok vs w ∧ RelL w m d (XOf Y m Fs) as vs [] ∧ Q as := by
            rintro k rfl hk
            obtain ⟨e, v', w', hq', hrun, _, rfl, hv⟩ := hk _ (show weff (liveOf s.mem) k [s.get b] _ from hq)
            cases e with
            | val v =>
              obtain ⟨vs, as, e1, e2, e3⟩ := ih h2 hq'
              have hone : (resOne a.tmps (.cell b t)).run P w' = .ok v' w' := load_cell hrun
              exact ⟨_, _, by simp only [List.mapM_cons, Sem.run_bind, hone, Result.andThen_ok, e1, Sem.run_pure], .cons (F := []) hv e2, e3⟩
            | _ => exact hq'.elim
          split at h1
          · rename_i T hT
            obtain ⟨D, ti, z, hu, hti, _, _, hdesc, hsz, _⟩ := tyOf_spec (hTT _ _ hT)
            split at h1
            · rename_i hs
              cases h1
              exact key _ rfl (fun Q' hw => by
                have hx := he b
                obtain ⟨e, v', w', q1, q2, q3⟩ := s_load1' h hu (by rw [← hdesc]; exact (single_spec hs).1) hx hw
                exact ⟨e, v', w', q1, q2, q3⟩)
            · split at h1
              · rename_i fs hfs
                cases h1
                exact key _ rfl (fun Q' hw => by
                  have hx := he b
                  rw [hsz] at hw
                  obtain ⟨e, v', w', q1, q2, q3⟩ := s_loadN' h hu (by rw [← hdesc]; exact hfs) hti hx hw
                  exact ⟨e, v', w', q1, q2, q3⟩)
              · cases h1
          · cases h1
end
end Go.Abs
namespace Go.Abs
open Go Go.RowKit
def enumA : Nat → List AV → List (Nat × AV)
  | _, [] => []
  | k, a :: as => (k, a) :: enumA (k + 1) as
theorem lookA_enum : ∀ (as : List AV) (k t : Nat), lookA (enumA k as) t = if k ≤ t ∧ t < k + as.length then as.getD (t - k) .undef else .undef := by
  intro as
  induction as with
  | nil => intro k t; simp [enumA, lookA]
  | cons a as ih =>
    intro k t
    show (if k = t then a else lookA (enumA (k + 1) as) t) = _
    by_cases h : k = t
    · subst h; simp
    · rw [if_neg h, ih]
      by_cases h2 : k + 1 ≤ t ∧ t < k + 1 + as.length
      · rw [if_pos h2, if_pos ⟨by omega, by simp; omega⟩]
        obtain ⟨j, rfl⟩ : ∃ j, t = k + 1 + j := ⟨t - (k + 1), by omega⟩
        rw [show k + 1 + j - (k + 1) = j by omega, show k + 1 + j - k = j + 1 by omega]; simp
      · rw [if_neg h2, if_neg (by simp only [List.length_cons]; omega)]
def endQ (rs : List RV) (Q : St → AV → Prop) : AX → St → Prop
  | .exit _, _ => False
  | _, s => resWp s rs (fun vs => Q s (oneRes vs))
section
variable {P : Program} {TT : Types} {pures : List FuncId} {Y : Nat → Prop} {w0 : World} {F0 : List Nat}
def oneVal : List Value → Value
  | [v] => v
  | vs => .tuple vs.toArray
theorem results_run {fn : Func} {tmps : Array Value} {w : World} {vs : List Value} (h : (fn.results.toList.mapM (resOne tmps)).run P w = .ok vs w) :
    (results fn tmps).run P w = .ok (oneVal vs) w := by
  have e : (results fn tmps) = (do
      let vs ← fn.results.mapM (resOne tmps)
      pure (if h : vs.size = 1 then vs[0] else .tuple vs)) := by
    unfold results
    congr 1
  rw [e, Array.mapM_eq_mapM_toList]
  simp only [map_eq_pure_bind, bind_assoc, pure_bind, Sem.run_bind, h, Result.andThen_ok, Sem.run_pure]
  match vs with
  | [] => rfl
  | [v] => rfl
  | v :: u :: vs => simp [oneVal]
theorem oneRes_rel {w : World} {m : IdMap} {d X : Nat → Prop} {as : List AV} {vs : List Value} (h : RelL w m d X as vs []) : RelV w m d X (oneRes as) (oneVal vs) [] := by
  cases as with
  | nil => cases h; exact .tup .nil
  | cons a as =>
    cases as with
    | nil =>
      have hl := h.length
      match vs, hl with
      | [v], _ => exact h.head
    | cons b as =>
      have hl := h.length
      match vs, hl with
      | v :: u :: vs, _ => exact .tup h
theorem start_rel {args : List AV} {vs : List Value} {n : Nat} {w : World} {m : IdMap} {d : Nat → Prop} {Fs : Nat → List Nat} {mem : Mem} (hl : vs.length ≤ n) (h : RelL w m d (XOf Y m Fs) args vs []) (t : Nat) :
    R Y w m d Fs (St.get ⟨enumA 0 args, mem⟩ t) ((vs.toArray ++ Array.replicate (n - vs.toArray.size) Go.undef).getD t Go.undef) := by
  have hlen := h.length
  show RelV _ _ _ _ (lookA (enumA 0 args) t) _ _
  rw [lookA_enum]
  by_cases ht : t < args.length
  · rw [if_pos ⟨by omega, by omega⟩, Nat.sub_zero]
    have ha : args[t]? = some (args.getD t .undef) := by simp [List.getD, List.getElem?_eq_getElem ht]
    obtain ⟨v, G, h1, h2, h3⟩ := h.get ha
    have hG : G = [] := List.eq_nil_iff_forall_not_mem.2 fun x hx => by cases h3 x hx
    subst hG
    have : (vs.toArray ++ Array.replicate (n - vs.toArray.size) Go.undef).getD t Go.undef = v := by
      rw [Array.getD_eq_getD_getElem?, Array.getElem?_append]
      rw [if_pos (by simp; omega)]
      simp [h1]
    rw [this]; exact h2
  · rw [if_neg (by omega)]; exact .undef _
theorem compileF_spec {fn : Func} {F : AF} (h : compileF P TT pures fn = some F) : ∃ c, fn.body = some c ∧ (fn.name == "runtime.NumGoroutine") = false ∧ compileC P TT pures fn.ntmps c = some F.body ∧
    fn.results.toList.mapM (compileRes TT) = some F.results ∧ F.ntmps = fn.ntmps := by
  unfold compileF at h
  split at h
  · rename_i c rs hb hr
    split at h
    · cases h
    · rename_i hn
      simp only [Option.map_eq_some_iff] at h
      obtain ⟨b, hb', rfl⟩ := h
      exact ⟨c, hb, by simpa using hn, hb', hr, rfl⟩
  · cases h
theorem body_calls (hm : P.follows .mixedOrders = true) (hTT : ∀ t T, TT.get t = some T → tyOf P t = some T) {f : FuncId} {fn : Func} {F : AF} (hf : P.funcs[f]? = some fn) (hc : compileF P TT pures fn = some F)
    {args : List AV} {mem : Mem} (hN : args.length ≤ F.ntmps) {Q : St → AV → Prop} (h : wpc P F.body (endQ F.results Q) ⟨enumA 0 args, mem⟩) {d : Nat → Prop} {m : IdMap} {Fs : Nat → List Nat} {w : World} {vs : List Value}
    (hfr : ∀ t, mem.length ≤ t → m t = none ∧ ¬ d t) (hr : RelW Y w0 F0 (liveOf mem) d m Fs w) (ha : RelL w m d (XOf Y m Fs) args vs []) {Rr : Value → World → Prop}
    (hQ : ∀ s x v d' m' Fs' w', Q s x → RelW Y w0 F0 (liveOf s.mem) d' m' Fs' w' → (∀ t, s.mem.length ≤ t → m' t = none ∧ ¬ d' t) → Carry w w' m m' d d' (XOf Y m Fs) (XOf Y m' Fs') → R Y w' m' d' Fs' x v → Rr v w') :
    Calls P f vs.toArray w fun | .returned v, w' => Rr v w' | _, _ => False := by
  obtain ⟨c, hb, hname, hbody, hres, hnt⟩ := compileF_spec hc
  have hlen := ha.length
  refine calls_of_wp hf hb ?_
  have hrs : RelS ⟨w, m, d, XOf Y m Fs⟩ Y w0 F0 fn.ntmps ⟨enumA 0 args, mem⟩ { tmps := vs.toArray ++ Array.replicate (fn.ntmps - vs.toArray.size) Go.undef, defers := [] } w :=
    ⟨d, m, Fs, hr, hfr, fun t => start_rel (by omega) ha t, rfl, by simp; omega, Carry.refl⟩
  refine wp_mono (wpc_sound (Y := Y) (w0 := w0) (F0 := F0) hm hTT c hbody h hrs) (fun e a w' he => ?_)
  have fin : ∀ s, RelS ⟨w, m, d, XOf Y m Fs⟩ Y w0 F0 fn.ntmps s a w' → resWp s F.results (fun vs => Q s (oneRes vs)) → a.defers = [] ∧ ∃ v, (results fn a.tmps).run P w' = .ok v w' ∧ Rr v w' := by
    rintro s ⟨d', m', Fs', h1, h2, h3, h4, h5, h6⟩ hw
    obtain ⟨vs, as, e1, e2, e3⟩ := res_sound hTT h1 h3 hres hw
    exact ⟨h4, _, results_run e1, hQ s _ _ d' m' Fs' w' e3 h1 h2 h6 (oneRes_rel e2)⟩
  cases e with
  | normal => obtain ⟨s, h1, h2⟩ := he; exact fin s h1 h2
  | ret => obtain ⟨s, h1, h2⟩ := he; exact fin s h1 h2
  | exit id => obtain ⟨s, h1, h2⟩ := he; exact h2.elim
  | _ => exact he.elim
theorem body_sound (hm : P.follows .mixedOrders = true) (hTT : ∀ t T, TT.get t = some T → tyOf P t = some T) {f : FuncId} {fn : Func} {F : AF} (hf : P.funcs[f]? = some fn) (hc : compileF P TT pures fn = some F)
    {args : List AV} {mem : Mem} (hN : args.length ≤ F.ntmps) {Q : St → AV → Prop} (h : wpc P F.body (endQ F.results Q) ⟨enumA 0 args, mem⟩) {d : Nat → Prop} {m : IdMap} {Fs : Nat → List Nat} {w : World} {vs : List Value}
    (hfr : ∀ t, mem.length ≤ t → m t = none ∧ ¬ d t) (hr : RelW Y w0 F0 (liveOf mem) d m Fs w) (ha : RelL w m d (XOf Y m Fs) args vs []) {Rr : Value → World → Prop}
    (hQ : ∀ s x v d' m' Fs' w', Q s x → RelW Y w0 F0 (liveOf s.mem) d' m' Fs' w' → (∀ t, s.mem.length ≤ t → m' t = none ∧ ¬ d' t) → Carry w w' m m' d d' (XOf Y m Fs) (XOf Y m' Fs') → R Y w' m' d' Fs' x v → Rr v w') :
    CallOk P f vs w Rr := by
  obtain ⟨c, hb, hname, _⟩ := compileF_spec hc
  exact .of_calls hf hname hb (body_calls hm hTT hf hc hN h hfr hr ha hQ)
def ACalls (P : Program) (f : FuncId) (args : List AV) (res : AV) : Prop :=
  ∀ (Y : Nat → Prop) (w : World) (vs : List Value), RelL w m0 d0 Y args vs [] →
    Calls P f vs.toArray w fun | .returned v, w' => ∃ F, F.Nodup ∧ (∀ b ∈ F, w.heap.size ≤ b ∧ b < w'.heap.size) ∧ RelV w' m0 d0 (fun b => Y b ∨ b ∈ F) res v F ∧ Evo (fun _ => False) w w' | _, _ => False
theorem ACalls.of (hm : P.follows .mixedOrders = true) (hTT : ∀ t T, TT.get t = some T → tyOf P t = some T) {f : FuncId} {fn : Func} {F : AF} (hf : P.funcs[f]? = some fn) (hc : compileF P TT pures fn = some F)
    {args : List AV} {res : AV} (hN : args.length ≤ F.ntmps) (h : wpc P F.body (endQ F.results fun s x => ∃ ids, Pk (liveOf s.mem) x res ids ∧ ids.Nodup) ⟨enumA 0 args, []⟩) : ACalls P f args res := by
  intro Y w vs ha
  have hX : XOf Y m0 (fun _ => []) = Y := by
    funext x
    have : ¬ OwnOf m0 (fun _ => []) x := by rintro ⟨id, hid⟩; simp [blocksOf, m0] at hid
    simp [XOf, this]
  have hr : RelW Y w [] (liveOf []) d0 m0 (fun _ => []) w :=
    { dom := fun id h => absurd rfl h
      ddom := fun _ h => h.elim
      cells := fun id s xs b o s' hl => by simp [liveOf] at hl
      nodup := fun id => by simp [blocksOf, m0]
      disj := fun id id' _ x hx => by simp [blocksOf, m0] at hx
      own := fun x hx => by obtain ⟨id, hid⟩ := hx; simp [blocksOf, m0] at hid
      evo := .refl _ _ }
  refine body_calls (Y := Y) (w0 := w) (F0 := []) hm hTT hf hc hN h (fun t _ => ⟨rfl, fun h => h⟩) (d := d0) (m := m0) (Fs := fun _ => []) hr (by rw [hX]; exact ha) ?_
  rintro s x v d' m' Fs' w' ⟨ids, hp, hn⟩ h1 h2 _ hv
  exact hp.result h1 hn hv
theorem ACall.of (hm : P.follows .mixedOrders = true) (hTT : ∀ t T, TT.get t = some T → tyOf P t = some T) {f : FuncId} {fn : Func} {F : AF} (hf : P.funcs[f]? = some fn) (hc : compileF P TT pures fn = some F)
    {args : List AV} {res : AV} (hN : args.length ≤ F.ntmps) (h : wpc P F.body (endQ F.results fun s x => ∃ ids, Pk (liveOf s.mem) x res ids ∧ ids.Nodup) ⟨enumA 0 args, []⟩) : ACall P f args res := by
  obtain ⟨c, hb, hname, _⟩ := compileF_spec hc
  exact fun Y w vs ha => .of_calls hf hname hb (ACalls.of hm hTT hf hc hN h Y w vs ha)
theorem SCall.of (hm : P.follows .mixedOrders = true) (hTT : ∀ t T, TT.get t = some T → tyOf P t = some T) {f : FuncId} {fn : Func} {F : AF} (hf : P.funcs[f]? = some fn) (hc : compileF P TT pures fn = some F)
    {args : List AV} {mem : Mem} {res : AV} {mem' : Mem} (hN : args.length ≤ F.ntmps) (hl : mem.length ≤ mem'.length)
    (h : wpc P F.body (endQ F.results fun s x => s.mem = mem' ∧ x = res) ⟨enumA 0 args, mem⟩) : SCall P f args mem res mem' := by
  refine ⟨hl, ?_⟩
  intro Y w0 F0 d m Fs w vs hfr hr ha
  refine body_sound hm hTT hf hc hN h hfr hr ha ?_
  rintro s x v d' m' Fs' w' ⟨rfl, rfl⟩ h1 h2 h3 hv
  exact ⟨d', m', Fs', h1, h2, h3, hv⟩
theorem View.refl (s : St) : View s s := fun _ _ _ _ _ _ _ h => h
theorem View.trans {s s' s'' : St} (h : View s s') (k : View s' s'') : View s s'' := fun B Y w0 F0 N a w hr => k B Y w0 F0 N a w (h B Y w0 F0 N a w hr)
end
theorem Types.ok {P : Program} {TT : Types} (h : TT.map (fun r => tyOf P r.1) = TT.map (fun r => some r.2)) : ∀ t T, TT.get t = some T → tyOf P t = some T := by
  induction TT with
  | nil => intro t T ht; simp [Types.get] at ht
  | cons r TT ih =>
    obtain ⟨u, U⟩ := r
    simp only [List.map_cons, List.cons.injEq] at h
    intro t T ht
    simp only [Types.get] at ht
    split at ht
    · rename_i e
      cases ht; subst e; exact h.1
    · exact ih h.2 t T ht
end Go.Abs
