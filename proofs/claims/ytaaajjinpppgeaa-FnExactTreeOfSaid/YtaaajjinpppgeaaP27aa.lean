/- Part 1 of the texts of a claim, joined by a program of ours (A1). No condition. -/
import Derived.Orders
import Derived.Below
import Derived.Laws.Sem
import Derived.Laws.World
import Derived.Laws.CopyRow
import Derived.Laws.Cells
import Derived.Laws.AppendOwn
import Derived.Laws.MakeOwn
import Derived.Laws.StructEq
import Derived.Laws.BytesArg
import Derived.Great.BuildSlice
set_option linter.unusedVariables false
set_option linter.unusedSimpArgs false
set_option linter.unusedSectionVars false
namespace Go.Abs
open Go Go.RowKit
inductive AV where
  | undef
  | one
  | bool (b : Bool)
  | int (k : IntKind) (n : Int)
  | str (s : ByteArray)
  | agg (cs : List AV)
  | tup (cs : List AV)
  | nil
  | ro (s : Nat) (xs : List AV)
  | own (s : Nat) (xs : List AV)
  | sl (id off n : Nat)
  | ptr (id i j : Nat)
  | rop (cs : List AV)
  | box (x : AV)
  | fn (f : FuncId) (caps : List AV)
  deriving Inhabited
def AV.cells : AV → List AV
  | .agg cs => cs
  | v => [v]
def flat (xs : List AV) : List AV := xs.flatMap AV.cells
def Even (s : Nat) (xs : List AV) : Prop := ∀ x ∈ xs, x.cells.length = s
def closedC : AV → Bool
  | .undef | .one | .bool _ | .int .. | .str _ | .nil | .ro .. | .rop _ | .fn _ [] => true
  | _ => false
def CellsAt (w : World) (b o : Nat) (vs : List Value) : Prop :=
  ∃ c ty fr, w.heap[b]? = some (.cells c ty fr) ∧ ∀ (j : Nat) (v : Value), vs[j]? = some v → c[o + j]? = some v
def Excl (w : World) (b o : Nat) (vs : List Value) (lim : Nat) : Prop :=
  ∃ c ty, w.heap[b]? = some (.cells c ty (0, 0)) ∧ (∀ (j : Nat) (v : Value), vs[j]? = some v → c[o + j]? = some v) ∧ lim ≤ c.size
mutual
inductive RelV (w : World) (m : Nat → Option (Nat × Nat × Nat)) (d : Nat → Prop) (X : Nat → Prop) : AV → Value → List Nat → Prop
  | undef (v : Value) : RelV w m d X .undef v []
  | one (v : Value) (h : v.oneCell' = true) : RelV w m d X .one v []
  | bool (b : Bool) : RelV w m d X (.bool b) (.bool b) []
  | int (k : IntKind) (n : Int) : RelV w m d X (.int k n) (.int k n) []
  | str (s : ByteArray) : RelV w m d X (.str s) (.string s) []
  | agg {cs : List AV} {vs : List Value} {F : List Nat} (h : RelL w m d X cs vs F) : RelV w m d X (.agg cs) (.agg vs.toArray) F
  | tup {cs : List AV} {vs : List Value} {F : List Nat} (h : RelL w m d X cs vs F) : RelV w m d X (.tup cs) (.tuple vs.toArray) F
  | nil (A : Option Addr) : RelV w m d X .nil (.slice A 0 0) []
  | ro {s : Nat} {xs ys : List AV} {vs : List Value} {A : Option Addr} {cap : Nat} (hn : xs.length ≤ cap) (he : Even s xs)
      (hc : vs = [] ∨ ∃ b o, A = some ⟨b, o, none⟩ ∧ ¬ X b ∧ b < w.heap.size ∧ CellsAt w b o vs) (hf : flat xs = ys) (hcl : ys.all closedC = true) (h : RelL w m d X ys vs []) :
      RelV w m d X (.ro s xs) (.slice A xs.length cap) []
  | own {s : Nat} {xs ys : List AV} {vs : List Value} {b o cap : Nat} {F : List Nat} (hn : xs.length ≤ cap) (he : Even s xs)
      (hc : Excl w b o vs (o + cap * s)) (hf : flat xs = ys) (h : RelL w m d X ys vs F) : RelV w m d X (.own s xs) (.slice (some ⟨b, o, none⟩) xs.length cap) (b :: F)
  | own0 {s : Nat} (A : Option Addr) : RelV w m d X (.own s []) (.slice A 0 0) []
  | sl {id off n b o s cap : Nat} (hm : m id = some (b, o, s)) (hn : n ≤ cap) (hc : Excl w b o [] (o + off * s + cap * s)) :
      RelV w m d X (.sl id off n) (.slice (some ⟨b, o + off * s, none⟩) n cap) []
  | sl0 {id off : Nat} (A : Option Addr) : RelV w m d X (.sl id off 0) (.slice A 0 0) []
  | slDead {id off n : Nat} (v : Value) (hd : d id) : RelV w m d X (.sl id off n) v []
  | ptr {id i j b o s : Nat} (hm : m id = some (b, o, s)) : RelV w m d X (.ptr id i j) (.pointer (some ⟨b, o + i * s + j, none⟩)) []
  | ptrDead {id i j : Nat} (v : Value) (hd : d id) : RelV w m d X (.ptr id i j) v []
  | rop {cs : List AV} {vs : List Value} {b o : Nat} (hX : ¬ X b) (hb : b < w.heap.size) (hc : CellsAt w b o vs) (hcl : cs.all closedC = true) (h : RelL w m d X cs vs []) :
      RelV w m d X (.rop cs) (.pointer (some ⟨b, o, none⟩)) []
  | box {x : AV} {ys : List AV} {vs : List Value} {b o : Nat} {F : List Nat} (hc : Excl w b o vs (o + vs.length)) (hf : x.cells = ys) (h : RelL w m d X ys vs F) :
      RelV w m d X (.box x) (.pointer (some ⟨b, o, none⟩)) (b :: F)
  | fn {f : FuncId} {caps : List AV} {vs : List Value} {F : List Nat} (h : RelL w m d X caps vs F) : RelV w m d X (.fn f caps) (.func (.func f) #[] vs.toArray) F
inductive RelL (w : World) (m : Nat → Option (Nat × Nat × Nat)) (d : Nat → Prop) (X : Nat → Prop) : List AV → List Value → List Nat → Prop
  | nil : RelL w m d X [] [] []
  | cons {a : AV} {v : Value} {F : List Nat} {as : List AV} {vs : List Value} {G : List Nat} (h : RelV w m d X a v F) (t : RelL w m d X as vs G) :
      RelL w m d X (a :: as) (v :: vs) (F ++ G)
end
structure Evo (X : Nat → Prop) (w w' : World) : Prop where
  os : w'.os = w.os
  tape : w'.tape = w.tape
  output : w'.output = w.output
  size : w.heap.size ≤ w'.heap.size
  block : ∀ b, b < w.heap.size → ¬ X b → w'.heap[b]? = w.heap[b]?
  cells : ∀ (b : Nat) (c : Array Value) (ty : TypeId) (fr : Nat × Nat), w.heap[b]? = some (.cells c ty fr) →
    ∃ c', w'.heap[b]? = some (.cells c' ty fr) ∧ c'.size = c.size
theorem Evo.refl (X : Nat → Prop) (w : World) : Evo X w w := ⟨rfl, rfl, rfl, Nat.le_refl _, fun _ _ _ => rfl, fun _ c _ _ h => ⟨c, h, rfl⟩⟩
theorem Evo.trans {X Y : Nat → Prop} {w w1 w2 : World} (h : Evo X w w1) (k : Evo Y w1 w2) (hY : ∀ b, b < w.heap.size → Y b → X b) : Evo X w w2 :=
  ⟨k.os.trans h.os, k.tape.trans h.tape, k.output.trans h.output, Nat.le_trans h.size k.size,
    fun b hb hx => (k.block b (Nat.lt_of_lt_of_le hb h.size) (fun hy => hx (hY b hb hy))).trans (h.block b hb hx),
    fun b c ty fr hc => by
      obtain ⟨c1, h1, e1⟩ := h.cells b c ty fr hc
      obtain ⟨c2, h2, e2⟩ := k.cells b c1 ty fr h1
      exact ⟨c2, h2, e2.trans e1⟩⟩
theorem Evo.mono {X Y : Nat → Prop} {w w' : World} (h : Evo X w w') (hY : ∀ b, X b → Y b) : Evo Y w w' :=
  ⟨h.os, h.tape, h.output, h.size, fun b hb hy => h.block b hb (fun hx => hy (hY b hx)), h.cells⟩
theorem Evo.below {w w' : World} (h : Evo (fun _ => False) w w') : Below w.heap.size w w' :=
  ⟨h.os, h.tape, h.output, h.size, fun k hk => h.block k hk id⟩
theorem heap_lt {w : World} {b : Nat} {o : Obj} (h : w.heap[b]? = some o) : b < w.heap.size := by
  rcases Nat.lt_or_ge b w.heap.size with h1 | h1
  · exact h1
  · rw [Array.getElem?_eq_none h1] at h; cases h
theorem Excl.lt {w : World} {b o lim : Nat} {vs : List Value} (h : Excl w b o vs lim) : b < w.heap.size := by
  obtain ⟨c, ty, hb, _⟩ := h; exact heap_lt hb
theorem CellsAt.same {w w' : World} {b o : Nat} {vs : List Value} (h : CellsAt w b o vs) (e : w'.heap[b]? = w.heap[b]?) : CellsAt w' b o vs := by
  obtain ⟨c, ty, fr, hb, hv⟩ := h; exact ⟨c, ty, fr, e.trans hb, hv⟩
theorem Excl.same {w w' : World} {b o lim : Nat} {vs : List Value} (h : Excl w b o vs lim) (e : w'.heap[b]? = w.heap[b]?) : Excl w' b o vs lim := by
  obtain ⟨c, ty, hb, hv⟩ := h; exact ⟨c, ty, e.trans hb, hv⟩
structure Carry (w w' : World) (m m' : Nat → Option (Nat × Nat × Nat)) (d d' : Nat → Prop) (X X' : Nat → Prop) : Prop where
  cells : ∀ (b : Nat) (c : Array Value) (ty : TypeId) (fr : Nat × Nat), w.heap[b]? = some (.cells c ty fr) →
    ∃ c', w'.heap[b]? = some (.cells c' ty fr) ∧ c'.size = c.size
  size : w.heap.size ≤ w'.heap.size
  ro : ∀ b, b < w.heap.size → ¬ X b → ¬ X' b ∧ w'.heap[b]? = w.heap[b]?
  ids : ∀ id q, m id = some q → m' id = some q ∨ d' id
  dead : ∀ id, d id → d' id
theorem Excl.room {w w' : World} {m m' : Nat → Option (Nat × Nat × Nat)} {d d' X X' : Nat → Prop} (k : Carry w w' m m' d d' X X') {b o lim : Nat} (h : Excl w b o [] lim) :
    Excl w' b o [] lim := by
  obtain ⟨c, ty, hb, _, hl⟩ := h
  obtain ⟨c', h', e'⟩ := k.cells b c ty _ hb
  exact ⟨c', ty, h', fun j v hj => by simp at hj, by omega⟩
theorem RelL.carry {w w' : World} {m m' : Nat → Option (Nat × Nat × Nat)} {d d' X X' : Nat → Prop} (k : Carry w w' m m' d d' X X') {a : List AV} {v : List Value} {F : List Nat}
    (h : RelL w m d X a v F) : (∀ b ∈ F, w'.heap[b]? = w.heap[b]?) → RelL w' m' d' X' a v F := by
  refine RelL.rec (motive_1 := fun a v F _ => (∀ b ∈ F, w'.heap[b]? = w.heap[b]?) → RelV w' m' d' X' a v F)
    (motive_2 := fun a v F _ => (∀ b ∈ F, w'.heap[b]? = w.heap[b]?) → RelL w' m' d' X' a v F)
    ?undef ?one ?bool ?int ?str ?agg ?tup ?nil ?ro ?own ?own0 ?sl ?sl0 ?slDead ?ptr ?ptrDead ?rop ?box ?fn ?lnil ?lcons h
  case undef => exact fun v _ => .undef v
  case one => exact fun v h _ => .one v h
  case bool => exact fun b _ => .bool b
  case int => exact fun k n _ => .int k n
  case str => exact fun s _ => .str s
  case agg => exact fun _ ih hF => .agg (ih hF)
  case tup => exact fun _ ih hF => .tup (ih hF)
  case nil => exact fun A _ => .nil A
  case ro =>
    intro s xs ys vs A cap hn he hc hf hcl _ ih _
    refine .ro hn he ?_ hf hcl (ih (fun _ hb => by cases hb))
    rcases hc with hc | ⟨b, o, rfl, hx, hb, hc⟩
    · exact .inl hc
    · obtain ⟨h1, h2⟩ := k.ro b hb hx
      exact .inr ⟨b, o, rfl, h1, Nat.lt_of_lt_of_le hb k.size, hc.same h2⟩
  case own =>
    intro s xs ys vs b o cap F hn he hc hf _ ih hF
    exact .own hn he (hc.same (hF _ (List.mem_cons_self ..))) hf (ih (fun b hb => hF b (List.mem_cons_of_mem _ hb)))
  case sl =>
    intro id off n b o s cap hm hn hc _
    rcases k.ids _ _ hm with h | h
    · exact .sl h hn (hc.room k)
    · exact .slDead _ h
  case own0 => exact fun A _ => .own0 A
  case sl0 => exact fun A _ => .sl0 A
  case slDead => exact fun v hd _ => .slDead v (k.dead _ hd)
  case ptr =>
    intro id i j b o s hm _
    rcases k.ids _ _ hm with h | h
    · exact .ptr h
    · exact .ptrDead _ h
  case ptrDead => exact fun v hd _ => .ptrDead v (k.dead _ hd)
  case rop =>
    intro cs vs b o hx hb hc hcl _ ih _
    obtain ⟨h1, h2⟩ := k.ro _ hb hx
    exact .rop h1 (Nat.lt_of_lt_of_le hb k.size) (hc.same h2) hcl (ih (fun _ hb => by cases hb))
  case box =>
    intro x ys vs b o F hc hf _ ih hF
    exact .box (hc.same (hF _ (List.mem_cons_self ..))) hf (ih (fun b hb => hF b (List.mem_cons_of_mem _ hb)))
  case fn => exact fun _ ih hF => .fn (ih hF)
  case lnil => exact fun _ => .nil
  case lcons =>
    intro a v F as vs G _ _ ih1 ih2 hF
    exact .cons (ih1 (fun b hb => hF b (List.mem_append_left _ hb))) (ih2 (fun b hb => hF b (List.mem_append_right _ hb)))
theorem RelL.single {w : World} {m : Nat → Option (Nat × Nat × Nat)} {d X : Nat → Prop} {a : AV} {v : Value} {F : List Nat} (h : RelV w m d X a v F) :
    RelL w m d X [a] [v] F := by
  have := RelL.cons h .nil
  rwa [List.append_nil] at this
theorem RelL.head {w : World} {m : Nat → Option (Nat × Nat × Nat)} {d X : Nat → Prop} {a : AV} {v : Value} {F : List Nat} (h : RelL w m d X [a] [v] F) :
    RelV w m d X a v F := by
  cases h with | cons h t => cases t; rwa [List.append_nil]
theorem RelV.carry {w w' : World} {m m' : Nat → Option (Nat × Nat × Nat)} {d d' X X' : Nat → Prop} (k : Carry w w' m m' d d' X X') {a : AV} {v : Value} {F : List Nat}
    (h : RelV w m d X a v F) (hF : ∀ b ∈ F, w'.heap[b]? = w.heap[b]?) : RelV w' m' d' X' a v F :=
  (RelL.carry k (RelL.single h) hF).head
theorem RelL.length {w : World} {m : Nat → Option (Nat × Nat × Nat)} {d X : Nat → Prop} {a : List AV} {v : List Value} {F : List Nat} (h : RelL w m d X a v F) : a.length = v.length := by
  induction a generalizing v F with
  | nil => cases h; rfl
  | cons x xs ih => cases h with | cons h t => simp [ih t]
end Go.Abs
namespace Go.Abs
open Go Go.RowKit
abbrev Live := Nat → Option (Nat × List AV)
abbrev IdMap := Nat → Option (Nat × Nat × Nat)
def blocksOf (m : IdMap) (Fs : Nat → List Nat) (id : Nat) : List Nat :=
  match m id with
  | some (b, _, _) => b :: Fs id
  | none => []
def OwnOf (m : IdMap) (Fs : Nat → List Nat) : Nat → Prop := fun x => ∃ id, x ∈ blocksOf m Fs id
def XOf (Y : Nat → Prop) (m : IdMap) (Fs : Nat → List Nat) : Nat → Prop := fun x => Y x ∨ OwnOf m Fs x
theorem blocksOf_some {m : IdMap} {Fs : Nat → List Nat} {id b o s : Nat} (h : m id = some (b, o, s)) : blocksOf m Fs id = b :: Fs id := by
  simp [blocksOf, h]
theorem blocksOf_none {m : IdMap} {Fs : Nat → List Nat} {id : Nat} (h : m id = none) : blocksOf m Fs id = [] := by
  simp [blocksOf, h]
theorem blocksOf_congr {m m' : IdMap} {Fs Fs' : Nat → List Nat} {id : Nat} (h : m' id = m id) (k : Fs' id = Fs id) : blocksOf m' Fs' id = blocksOf m Fs id := by
  simp [blocksOf, h, k]
structure RelW (Y : Nat → Prop) (w0 : World) (F0 : List Nat) (live : Live) (d : Nat → Prop) (m : IdMap) (Fs : Nat → List Nat) (w : World) : Prop where
  dom : ∀ id, m id ≠ none → live id ≠ none
  ddom : ∀ id, d id → live id = none
  cells : ∀ id s xs b o s', live id = some (s, xs) → m id = some (b, o, s') →
    s' = s ∧ Even s xs ∧ ∃ vs, Excl w b o vs (o + vs.length) ∧ RelL w m d (XOf Y m Fs) (flat xs) vs (Fs id)
  nodup : ∀ id, (blocksOf m Fs id).Nodup
  disj : ∀ id id', id ≠ id' → ∀ x ∈ blocksOf m Fs id, x ∉ blocksOf m Fs id'
  own : ∀ x, OwnOf m Fs x → x < w.heap.size ∧ (x ∈ F0 ∨ w0.heap.size ≤ x)
  evo : Evo (· ∈ F0) w0 w
theorem RelW.relive {Y : Nat → Prop} {w0 : World} {F0 : List Nat} {live : Live} {d : Nat → Prop} {m : IdMap} {Fs : Nat → List Nat} {w : World}
    (h : RelW Y w0 F0 live d m Fs w) {live' : Live} (hm : ∀ t, m t ≠ none → live' t = live t) (hd : ∀ t, d t → live' t = none) : RelW Y w0 F0 live' d m Fs w :=
  { dom := fun id hmid => by rw [hm id hmid]; exact h.dom id hmid
    ddom := hd
    cells := fun id s xs b o s' hl hb => h.cells id s xs b o s' (by rw [← hm id (by simp [hb])]; exact hl) hb
    nodup := h.nodup
    disj := h.disj
    own := h.own
    evo := h.evo }
theorem RelW.change {Y : Nat → Prop} {w0 : World} {F0 : List Nat} {live live' : Live} {d d' : Nat → Prop} {m m' : IdMap} {Fs Fs' : Nat → List Nat} {w w' : World}
    (h : RelW Y w0 F0 live d m Fs w) (K N : Nat → Prop)
    (e : Evo (fun b => ∃ k, K k ∧ b ∈ blocksOf m Fs k) w w')
    (keep : ∀ id, ¬ N id → ¬ K id → live' id = live id ∧ m' id = m id ∧ Fs' id = Fs id)
    (kill : ∀ id, K id → ¬ N id → live' id = none ∧ m' id = none ∧ d' id)
    (new : ∀ id, N id → (K id ∧ m' id = m id) ∨ m id = none)
    (nd : ∀ id, N id → ¬ d' id)
    (dd : ∀ id, d id → d' id) (dd' : ∀ id, d' id → d id ∨ (K id ∧ ¬ N id))
    (blk : ∀ id, N id → ∀ x ∈ blocksOf m' Fs' id, x < w'.heap.size ∧ (w.heap.size ≤ x ∨ ∃ k, K k ∧ x ∈ blocksOf m Fs k))
    (nod : ∀ id, N id → (blocksOf m' Fs' id).Nodup)
    (dis : ∀ id id', N id → N id' → id ≠ id' → ∀ x ∈ blocksOf m' Fs' id, x ∉ blocksOf m' Fs' id')
    (cel : Carry w w' m m' d d' (XOf Y m Fs) (XOf Y m' Fs') → ∀ id, N id → ∃ s xs b o, live' id = some (s, xs) ∧ m' id = some (b, o, s) ∧ Even s xs ∧
      ∃ vs, Excl w' b o vs (o + vs.length) ∧ RelL w' m' d' (XOf Y m' Fs') (flat xs) vs (Fs' id)) :
    RelW Y w0 F0 live' d' m' Fs' w' ∧ Carry w w' m m' d d' (XOf Y m Fs) (XOf Y m' Fs') := by
  have hX' : ∀ b, b < w.heap.size → ¬ XOf Y m Fs b → ¬ XOf Y m' Fs' b := by
    intro b hb hx hx'
    rcases hx' with hx' | ⟨id, hid⟩
    · exact hx (.inl hx')
    by_cases hN : N id
    · rcases (blk id hN b hid).2 with h1 | ⟨k, _, hk⟩
      · omega
      · exact hx (.inr ⟨k, hk⟩)
    · by_cases hK : K id
      · rw [blocksOf_none (kill id hK hN).2.1] at hid; cases hid
      · obtain ⟨_, h2, h3⟩ := keep id hN hK
        exact hx (.inr ⟨id, by rwa [blocksOf_congr h2 h3] at hid⟩)
  have hsame : ∀ b, b < w.heap.size → (∀ k, K k → b ∉ blocksOf m Fs k) → w'.heap[b]? = w.heap[b]? := fun b hb hk =>
    e.block b hb (fun ⟨k, h1, h2⟩ => hk k h1 h2)
  have C : Carry w w' m m' d d' (XOf Y m Fs) (XOf Y m' Fs') :=
    { cells := e.cells
      size := e.size
      ro := fun b hb hx => ⟨hX' b hb hx, hsame b hb (fun k _ hk => hx (.inr ⟨k, hk⟩))⟩
      ids := fun id q hq => by
        by_cases hN : N id
        · rcases new id hN with ⟨_, h2⟩ | h1
          · exact .inl (h2.trans hq)
          · rw [h1] at hq; cases hq
        · by_cases hK : K id
          · exact .inr (kill id hK hN).2.2
          · exact .inl ((keep id hN hK).2.1.trans hq)
      dead := dd }
  refine ⟨?_, C⟩
  have hcel := cel C
  refine { dom := ?_, ddom := ?_, cells := ?_, nodup := ?_, disj := ?_, own := ?_, evo := ?_ }
  · intro id hm
    by_cases hN : N id
    · obtain ⟨s, xs, b, o, h1, h2, _⟩ := hcel id hN
      simp [h1]
    · by_cases hK : K id
      · exact absurd (kill id hK hN).2.1 hm
      · obtain ⟨h1, h2, _⟩ := keep id hN hK
        rw [h1]; exact h.dom id (by rw [← h2]; exact hm)
  · intro id hd
    rcases dd' id hd with h1 | ⟨h1, h2⟩
    · by_cases hN : N id
      · exact absurd hd (nd id hN)
      · by_cases hK : K id
        · exact (kill id hK hN).1
        · rw [(keep id hN hK).1]; exact h.ddom id h1
    · exact (kill id h1 h2).1
  · intro id s xs b o s' hl hm
    by_cases hN : N id
    · obtain ⟨s1, xs1, b1, o1, h1, h2, h3⟩ := hcel id hN
      rw [hl] at h1; rw [hm] at h2
      cases h1; cases h2
      exact ⟨rfl, h3⟩
    · by_cases hK : K id
      · rw [(kill id hK hN).1] at hl; cases hl
      · obtain ⟨h1, h2, h3⟩ := keep id hN hK
        rw [h1] at hl; rw [h2] at hm
        obtain ⟨e1, e2, vs, e3, e4⟩ := h.cells id s xs b o s' hl hm
        have hin : ∀ x ∈ blocksOf m Fs id, w'.heap[x]? = w.heap[x]? := fun x hx =>
          hsame x (h.own x ⟨id, hx⟩).1 (fun k hk hxk => h.disj id k (fun hik => hK (hik ▸ hk)) x hx hxk)
        rw [blocksOf_some hm] at hin
        refine ⟨e1, e2, vs, e3.same (hin b (List.mem_cons_self ..)), ?_⟩
        rw [h3]
        exact RelL.carry C e4 (fun x hx => hin x (List.mem_cons_of_mem _ hx))
  · intro id
    by_cases hN : N id
    · exact nod id hN
    · by_cases hK : K id
      · rw [blocksOf_none (kill id hK hN).2.1]; exact List.nodup_nil
      · obtain ⟨_, h2, h3⟩ := keep id hN hK
        rw [blocksOf_congr h2 h3]; exact h.nodup id
  · intro id id' hne x hx hx'
    by_cases hN : N id
    · by_cases hN' : N id'
      · exact dis id id' hN hN' hne x hx hx'
      · by_cases hK' : K id'
        · rw [blocksOf_none (kill id' hK' hN').2.1] at hx'; cases hx'
        · obtain ⟨_, h2, h3⟩ := keep id' hN' hK'
          rw [blocksOf_congr h2 h3] at hx'
          rcases (blk id hN x hx).2 with h1 | ⟨k, hk, hxk⟩
          · have := (h.own x ⟨id', hx'⟩).1; omega
          · exact h.disj k id' (fun e => hK' (e ▸ hk)) x hxk hx'
    · by_cases hK : K id
      · rw [blocksOf_none (kill id hK hN).2.1] at hx; cases hx
      · obtain ⟨_, h2, h3⟩ := keep id hN hK
        rw [blocksOf_congr h2 h3] at hx
        by_cases hN' : N id'
        · rcases (blk id' hN' x hx').2 with h1 | ⟨k, hk, hxk⟩
          · have := (h.own x ⟨id, hx⟩).1; omega
          · exact h.disj id k (fun e => hK (e ▸ hk)) x hx hxk
        · by_cases hK' : K id'
          · rw [blocksOf_none (kill id' hK' hN').2.1] at hx'; cases hx'
          · obtain ⟨_, h2', h3'⟩ := keep id' hN' hK'
            rw [blocksOf_congr h2' h3'] at hx'
            exact h.disj id id' hne x hx hx'
  · intro x ⟨id, hx⟩
    by_cases hN : N id
    · obtain ⟨h1, h2⟩ := blk id hN x hx
      refine ⟨h1, ?_⟩
      rcases h2 with h2 | ⟨k, _, hk⟩
      · exact .inr (Nat.le_trans h.evo.size h2)
      · exact (h.own x ⟨k, hk⟩).2
    · by_cases hK : K id
      · rw [blocksOf_none (kill id hK hN).2.1] at hx; cases hx
      · obtain ⟨_, h2, h3⟩ := keep id hN hK
        rw [blocksOf_congr h2 h3] at hx
        obtain ⟨h4, h5⟩ := h.own x ⟨id, hx⟩
        exact ⟨Nat.lt_of_lt_of_le h4 e.size, h5⟩
  · refine h.evo.trans e (fun b hb ⟨k, _, hk⟩ => ?_)
    rcases (h.own b ⟨k, hk⟩).2 with h1 | h1
    · exact h1
    · omega
end Go.Abs
namespace Go.Abs
open Go Go.RowKit
def upd {α : Type} (f : Nat → α) (i : Nat) (x : α) : Nat → α := fun t => if t = i then x else f t
theorem upd_same {α : Type} (f : Nat → α) (i : Nat) (x : α) : upd f i x i = x := by simp [upd]
theorem upd_ne {α : Type} (f : Nat → α) {i j : Nat} (x : α) (h : j ≠ i) : upd f i x j = f j := by simp [upd, h]
variable {Y : Nat → Prop} {w0 : World} {F0 : List Nat} {live : Live} {d : Nat → Prop} {m : IdMap} {Fs : Nat → List Nat} {w : World}
theorem heap_alloc_ne (w : World) (o : Obj) {b : Nat} (h : b < w.heap.size) : (w.alloc o).heap[b]? = w.heap[b]? := Below.heap_alloc w o b h
theorem heap_alloc_same (w : World) (o : Obj) : (w.alloc o).heap[w.heap.size]? = some o := by
  show (w.heap.push o)[w.heap.size]? = _
  simp
theorem evo_alloc (X : Nat → Prop) (w : World) (o : Obj) : Evo X w (w.alloc o) :=
  ⟨rfl, rfl, rfl, by show _ ≤ (w.heap.push o).size; simp, fun b hb _ => heap_alloc_ne w o hb, fun b c ty fr h => ⟨c, (heap_alloc_ne w o (heap_lt h)).trans h, rfl⟩⟩
theorem RelW.alloc (h : RelW Y w0 F0 live d m Fs w) {i s : Nat} {xs : List AV} {vs : List Value} (hi : m i = none) (hd : ¬ d i) (c : Array Value) (ty : TypeId)
    (hc : ∀ (j : Nat) (v : Value), vs[j]? = some v → c[j]? = some v) (hl : vs.length ≤ c.size) (he : Even s xs) (hr : RelL w m d (XOf Y m Fs) (flat xs) vs []) :
    RelW Y w0 F0 (upd live i (some (s, xs))) d (upd m i (some (w.heap.size, 0, s))) (upd Fs i []) (w.alloc (.cells c ty)) ∧
    Carry w (w.alloc (.cells c ty)) m (upd m i (some (w.heap.size, 0, s))) d d (XOf Y m Fs) (XOf Y (upd m i (some (w.heap.size, 0, s))) (upd Fs i [])) := by
  have hb : blocksOf (upd m i (some (w.heap.size, 0, s))) (upd Fs i []) i = [w.heap.size] := by simp [blocksOf, upd]
  refine h.change (fun _ => False) (· = i) ?_ ?_ ?_ ?_ ?_ ?_ ?_ ?_ ?_ ?_ ?_
  · exact (evo_alloc (fun _ => False) w _).mono (fun _ h => h.elim)
  · intro id hn _; simp [upd, hn]
  · exact fun _ h => h.elim
  · intro id e; subst e; exact .inr hi
  · intro id e; subst e; exact hd
  · exact fun _ h => h
  · exact fun _ h => .inl h
  · intro id e x hx; subst e; rw [hb] at hx
    simp at hx; subst hx
    exact ⟨by show _ < (w.heap.push _).size; simp, .inl (Nat.le_refl _)⟩
  · intro id e; subst e; rw [hb]; simp
  · intro id id' e e' hne; exact absurd (e.trans e'.symm) hne
  · intro C id e; subst e
    refine ⟨s, xs, w.heap.size, 0, by simp [upd], by simp [upd], he, vs, ⟨c, ty, heap_alloc_same w _, fun j v hv => by rw [Nat.zero_add]; exact hc j v hv, by simpa using hl⟩, ?_⟩
    rw [upd_same]
    exact RelL.carry C hr (fun _ hb => by cases hb)
structure Rewrite (b : Nat) (w w' : World) : Prop where
  os : w'.os = w.os
  tape : w'.tape = w.tape
  output : w'.output = w.output
  size : w'.heap.size = w.heap.size
  block : ∀ b', b' ≠ b → w'.heap[b']? = w.heap[b']?
  cells : ∀ (c : Array Value) (ty : TypeId) (fr : Nat × Nat), w.heap[b]? = some (.cells c ty fr) → ∃ c', w'.heap[b]? = some (.cells c' ty fr) ∧ c'.size = c.size
theorem Rewrite.refl (b : Nat) (w : World) : Rewrite b w w := ⟨rfl, rfl, rfl, rfl, fun _ _ => rfl, fun c _ _ h => ⟨c, h, rfl⟩⟩
theorem Rewrite.trans {b : Nat} {w w1 w2 : World} (h : Rewrite b w w1) (k : Rewrite b w1 w2) : Rewrite b w w2 :=
  ⟨k.os.trans h.os, k.tape.trans h.tape, k.output.trans h.output, k.size.trans h.size, fun b' hb => (k.block b' hb).trans (h.block b' hb), fun c ty fr hc => by
    obtain ⟨c1, h1, e1⟩ := h.cells c ty fr hc
    obtain ⟨c2, h2, e2⟩ := k.cells c1 ty fr h1
    exact ⟨c2, h2, e2.trans e1⟩⟩
theorem Rewrite.evo {b : Nat} {w w' : World} {X : Nat → Prop} (h : Rewrite b w w') (hX : X b) : Evo X w w' :=
  ⟨h.os, h.tape, h.output, by rw [h.size]; exact Nat.le_refl _, fun b' _ hx => h.block b' (fun e => hx (e ▸ hX)), fun b' c ty fr hc => by
    by_cases e : b' = b
    · subst e; exact h.cells c ty fr hc
    · exact ⟨c, (h.block b' e).trans hc, rfl⟩⟩
theorem RelW.rewrite (h : RelW Y w0 F0 live d m Fs w) {id s : Nat} {xs : List AV} {b o : Nat} (hl : live id = some (s, xs)) (hm : m id = some (b, o, s)) {w' : World}
    (hw : Rewrite b w w') {xs' : List AV} {vs' : List Value} {F' : List Nat} (he : Even s xs') (hF : ∀ x ∈ F', x ∈ Fs id) (hn : F'.Nodup)
    (hx : Excl w' b o vs' (o + vs'.length)) (hr : Carry w w' m m d d (XOf Y m Fs) (XOf Y m (upd Fs id F')) → RelL w' m d (XOf Y m (upd Fs id F')) (flat xs') vs' F') :
    RelW Y w0 F0 (upd live id (some (s, xs'))) d m (upd Fs id F') w' ∧ Carry w w' m m d d (XOf Y m Fs) (XOf Y m (upd Fs id F')) := by
  have hb : blocksOf m Fs id = b :: Fs id := blocksOf_some hm
  have hb' : blocksOf m (upd Fs id F') id = b :: F' := by rw [blocksOf_some hm, upd_same]
  have hnd := h.nodup id
  rw [hb] at hnd
  refine h.change (· = id) (· = id) ?_ ?_ ?_ ?_ ?_ ?_ ?_ ?_ ?_ ?_ ?_
  · exact hw.evo ⟨id, rfl, by rw [hb]; exact List.mem_cons_self ..⟩
  · intro id' hn' _; simp [upd, hn']
  · intro id' e hn'; exact absurd e hn'
  · intro id' e; subst e; exact .inl ⟨rfl, rfl⟩
  · intro id' e hd; subst e; rw [h.ddom _ hd] at hl; cases hl
  · exact fun _ h => h
  · exact fun _ h => .inl h
  · intro id' e x hx; subst e
    rw [hb'] at hx
    have hxin : x ∈ blocksOf m Fs id' := by
      rw [hb]
      rcases List.mem_cons.1 hx with rfl | hx
      · exact List.mem_cons_self ..
      · exact List.mem_cons_of_mem _ (hF x hx)
    exact ⟨by rw [hw.size]; exact (h.own x ⟨_, hxin⟩).1, .inr ⟨id', rfl, hxin⟩⟩
  · intro id' e; subst e; rw [hb']
    exact List.nodup_cons.2 ⟨fun hbF => (List.nodup_cons.1 hnd).1 (hF b hbF), hn⟩
  · intro id1 id2 e e' hne; exact absurd (e.trans e'.symm) hne
  · intro C id' e; subst e
    refine ⟨s, xs', b, o, by simp [upd], hm, he, vs', hx, ?_⟩
    rw [upd_same]; exact hr C
theorem RelW.regrow (h : RelW Y w0 F0 live d m Fs w) {id i s : Nat} {xs : List AV} {b o : Nat} (hl : live id = some (s, xs)) (hm : m id = some (b, o, s))
    (hi : m i = none) (hd : ¬ d i) {w' : World} (hw : Rewrite b w w') {xs' : List AV} {vs' : List Value} {F' : List Nat} {o' : Nat} (he : Even s xs') (hF : ∀ x ∈ F', x ∈ Fs id) (hn : F'.Nodup)
    (hx : Excl w' b o' vs' (o' + vs'.length))
    (hr : ∀ m' d' X', Carry w w' m m' d d' (XOf Y m Fs) X' → RelL w' m' d' X' (flat xs') vs' F') :
    ∃ m' Fs', RelW Y w0 F0 (upd (upd live id none) i (some (s, xs'))) (fun t => d t ∨ t = id) m' Fs' w' ∧
      Carry w w' m m' d (fun t => d t ∨ t = id) (XOf Y m Fs) (XOf Y m' Fs') ∧ m' i = some (b, o', s) := by
  have hii : i ≠ id := fun e => by rw [e, hm] at hi; cases hi
  have hb : blocksOf m Fs id = b :: Fs id := blocksOf_some hm
  have hnd := h.nodup id
  rw [hb] at hnd
  have hb' : blocksOf (upd (upd m id none) i (some (b, o', s))) (upd Fs i F') i = b :: F' := by simp [blocksOf, upd]
  have key := h.change (live' := upd (upd live id none) i (some (s, xs'))) (d' := fun t => d t ∨ t = id) (m' := upd (upd m id none) i (some (b, o', s))) (Fs' := upd Fs i F') (w' := w')
    (· = id) (· = i) (hw.evo ⟨id, rfl, by rw [hb]; exact List.mem_cons_self ..⟩) ?_ ?_ ?_ ?_ ?_ ?_ ?_ ?_ ?_ ?_
  · exact ⟨_, _, key.1, key.2, by simp [upd]⟩
  · intro id' h1 h2; simp [upd, h1, h2]
  · intro id' e h2; subst e; exact ⟨by simp [upd, h2], by simp [upd, h2], .inr rfl⟩
  · intro id' e; subst e; exact .inr hi
  · intro id' e hdd; subst e
    rcases hdd with hdd | hdd
    · exact hd hdd
    · exact hii hdd
  · exact fun _ h => .inl h
  · intro id' hdd
    rcases hdd with hdd | hdd
    · exact .inl hdd
    · exact .inr ⟨hdd, fun e => hii (e.symm.trans hdd)⟩
  · intro id' e x hx; subst e
    rw [hb'] at hx
    have hxin : x ∈ blocksOf m Fs id := by
      rw [hb]
      rcases List.mem_cons.1 hx with rfl | hx
      · exact List.mem_cons_self ..
      · exact List.mem_cons_of_mem _ (hF x hx)
    exact ⟨by rw [hw.size]; exact (h.own x ⟨_, hxin⟩).1, .inr ⟨id, rfl, hxin⟩⟩
  · intro id' e; subst e; rw [hb']
    exact List.nodup_cons.2 ⟨fun hbF => (List.nodup_cons.1 hnd).1 (hF b hbF), hn⟩
  · intro id1 id2 e e' hne; exact absurd (e.trans e'.symm) hne
  · intro C id' e; subst e
    refine ⟨s, xs', b, o', by simp [upd], by simp [upd], he, vs', hx, ?_⟩
    rw [upd_same]; exact hr _ _ _ C
theorem RelW.kill (h : RelW Y w0 F0 live d m Fs w) {id : Nat} (hl : live id ≠ none) :
    ∃ m' Fs', RelW Y w0 F0 (upd live id none) (fun t => d t ∨ t = id) m' Fs' w ∧ Carry w w m m' d (fun t => d t ∨ t = id) (XOf Y m Fs) (XOf Y m' Fs') := by
  have key := h.change (live' := upd live id none) (d' := fun t => d t ∨ t = id) (m' := upd m id none) (Fs' := Fs) (w' := w) (· = id) (fun _ => False)
    (Evo.refl _ _) ?_ ?_ ?_ ?_ ?_ ?_ ?_ ?_ ?_ ?_
  · exact ⟨_, _, key.1, key.2⟩
  · intro id' _ h2; simp [upd, h2]
  · intro id' e _; subst e; exact ⟨by simp [upd], by simp [upd], .inr rfl⟩
  · exact fun _ h => h.elim
  · exact fun _ h => h.elim
  · exact fun _ h => .inl h
  · intro id' hdd
    rcases hdd with hdd | hdd
    · exact .inl hdd
    · exact .inr ⟨hdd, fun h => h⟩
  · exact fun _ h => h.elim
  · exact fun _ h => h.elim
  · exact fun _ _ h => h.elim
  · exact fun _ _ h => h.elim
theorem RelW.killUn (h : RelW Y w0 F0 live d m Fs w) {id : Nat} (hm : m id = none) (hl : live id ≠ none) :
    RelW Y w0 F0 (upd live id none) (fun t => d t ∨ t = id) m Fs w ∧ Carry w w m m d (fun t => d t ∨ t = id) (XOf Y m Fs) (XOf Y m Fs) := by
  refine h.change (live' := upd live id none) (d' := fun t => d t ∨ t = id) (m' := m) (Fs' := Fs) (w' := w) (· = id) (fun _ => False)
    (Evo.refl _ _) ?_ ?_ ?_ ?_ ?_ ?_ ?_ ?_ ?_ ?_
  · intro id' _ h2; simp [upd, h2]
  · intro id' e _; subst e; exact ⟨by simp [upd], hm, .inr rfl⟩
  · exact fun _ h => h.elim
  · exact fun _ h => h.elim
  · exact fun _ h => .inl h
  · intro id' hdd
    rcases hdd with hdd | hdd
    · exact .inl hdd
    · exact .inr ⟨hdd, fun h => h⟩
  · exact fun _ h => h.elim
  · exact fun _ h => h.elim
  · exact fun _ _ h => h.elim
  · exact fun _ _ h => h.elim
end Go.Abs
namespace Go.Abs
open Go Go.RowKit
variable {w : World} {m : IdMap} {d X : Nat → Prop}
theorem RelL.append {as bs : List AV} {vs us : List Value} {F G : List Nat} (h : RelL w m d X as vs F) (k : RelL w m d X bs us G) :
    RelL w m d X (as ++ bs) (vs ++ us) (F ++ G) := by
  induction as generalizing vs F with
  | nil => cases h; exact k
  | cons a as ih => cases h with | cons h t => rw [List.append_assoc]; exact .cons h (ih t)
theorem RelL.split {as bs : List AV} {vs : List Value} {F : List Nat} (h : RelL w m d X (as ++ bs) vs F) :
    ∃ vs1 vs2 F1 F2, vs = vs1 ++ vs2 ∧ F = F1 ++ F2 ∧ RelL w m d X as vs1 F1 ∧ RelL w m d X bs vs2 F2 := by
  induction as generalizing vs F with
  | nil => exact ⟨[], vs, [], F, rfl, rfl, .nil, h⟩
  | cons a as ih =>
    cases h with
    | cons h t =>
      obtain ⟨vs1, vs2, F1, F2, rfl, rfl, h1, h2⟩ := ih t
      exact ⟨_ :: vs1, vs2, _ ++ F1, F2, rfl, (List.append_assoc ..).symm, .cons h h1, h2⟩
theorem RelL.split_at {as bs : List AV} {vs : List Value} {F : List Nat} (h : RelL w m d X (as ++ bs) vs F) :
    ∃ F1 F2, F = F1 ++ F2 ∧ RelL w m d X as (vs.take as.length) F1 ∧ RelL w m d X bs (vs.drop as.length) F2 := by
  obtain ⟨vs1, vs2, F1, F2, rfl, rfl, h1, h2⟩ := h.split
  refine ⟨F1, F2, rfl, ?_, ?_⟩
  · rw [h1.length, List.take_left]; exact h1
  · rw [h1.length, List.drop_left]; exact h2
theorem RelL.take {as : List AV} {vs : List Value} {F : List Nat} (h : RelL w m d X as vs F) (n : Nat) :
    ∃ F1 F2, F = F1 ++ F2 ∧ RelL w m d X (as.take n) (vs.take n) F1 ∧ RelL w m d X (as.drop n) (vs.drop n) F2 := by
  have h' := h
  rw [← List.take_append_drop n as] at h'
  obtain ⟨F1, F2, hF, h1, h2⟩ := h'.split_at
  refine ⟨F1, F2, hF, ?_, ?_⟩
  · rcases Nat.le_total n as.length with hn | hn
    · rwa [List.length_take, Nat.min_eq_left hn] at h1
    · have e : (as.take n).length = vs.length := by rw [List.take_of_length_le hn]; exact h.length
      rw [e, List.take_length] at h1
      rw [List.take_of_length_le (l := vs) (by have := h.length; omega)]
      exact h1
  · rcases Nat.le_total n as.length with hn | hn
    · rwa [List.length_take, Nat.min_eq_left hn] at h2
    · have e : (as.take n).length = vs.length := by rw [List.take_of_length_le hn]; exact h.length
      rw [e, List.drop_length] at h2
      rw [List.drop_of_length_le (l := vs) (by have := h.length; omega)]
      exact h2
theorem RelL.get {as : List AV} {vs : List Value} {F : List Nat} (h : RelL w m d X as vs F) {k : Nat} {a : AV} (ha : as[k]? = some a) :
    ∃ v G, vs[k]? = some v ∧ RelV w m d X a v G ∧ ∀ x ∈ G, x ∈ F := by
  induction as generalizing vs F k with
  | nil => simp at ha
  | cons b as ih =>
    cases h with
    | cons h t =>
      cases k with
      | zero =>
        simp at ha; subst ha
        exact ⟨_, _, rfl, h, fun x hx => List.mem_append_left _ hx⟩
      | succ k =>
        obtain ⟨v, G, h1, h2, h3⟩ := ih t (by simpa using ha)
        exact ⟨v, G, by simpa using h1, h2, fun x hx => List.mem_append_right _ (h3 x hx)⟩
theorem RelL.set {as : List AV} {vs : List Value} {F : List Nat} (h : RelL w m d X as vs F) {k : Nat} {a : AV} {v : Value} (hv : RelV w m d X a v []) :
    ∃ F', List.Sublist F' F ∧ RelL w m d X (as.set k a) (vs.set k v) F' := by
  induction as generalizing vs F k with
  | nil => cases h; exact ⟨[], .refl _, .nil⟩
  | cons b as ih =>
    cases h with
    | cons h t =>
      cases k with
      | zero => exact ⟨_, List.sublist_append_right _ _, .cons (F := []) hv t⟩
      | succ k =>
        obtain ⟨F', h1, h2⟩ := ih t (k := k)
        exact ⟨_ ++ F', List.Sublist.append (.refl _) h1, .cons h h2⟩
def noOwnC : AV → Bool
  | .own .. | .box .. | .agg .. | .tup .. | .fn _ (_ :: _) => false
  | _ => true
theorem RelV.noOwnC {a : AV} {v : Value} {F : List Nat} (h : RelV w m d X a v F) (hn : noOwnC a = true) : F = [] := by
  cases h <;> first | rfl | (simp [Abs.noOwnC] at hn; done) | skip
  rename_i f caps vs h
  cases caps with
  | nil => cases h; rfl
  | cons a t => simp [Abs.noOwnC] at hn
theorem RelL.noOwnC {as : List AV} {vs : List Value} {F : List Nat} (h : RelL w m d X as vs F) (hn : as.all Abs.noOwnC = true) : F = [] := by
  induction as generalizing vs F with
  | nil => cases h; rfl
  | cons a as ih =>
    cases h with
    | cons h t =>
      simp only [List.all_cons, Bool.and_eq_true] at hn
      rw [h.noOwnC hn.1, ih t hn.2]; rfl
theorem flat_cons (x : AV) (xs : List AV) : flat (x :: xs) = x.cells ++ flat xs := by simp [flat]
theorem flat_append (xs ys : List AV) : flat (xs ++ ys) = flat xs ++ flat ys := by simp [flat]
theorem Even.cons {s : Nat} {x : AV} {xs : List AV} (h : Even s (x :: xs)) : x.cells.length = s ∧ Even s xs :=
  ⟨h x (List.mem_cons_self ..), fun y hy => h y (List.mem_cons_of_mem _ hy)⟩
theorem Even.mk {s : Nat} {x : AV} {xs : List AV} (h : x.cells.length = s) (k : Even s xs) : Even s (x :: xs) := by
  intro y hy
  rcases List.mem_cons.1 hy with rfl | hy
  · exact h
  · exact k y hy
theorem Even.append {s : Nat} {xs ys : List AV} (h : Even s xs) (k : Even s ys) : Even s (xs ++ ys) := fun y hy =>
  (List.mem_append.1 hy).elim (h y) (k y)
theorem Even.take {s : Nat} {xs : List AV} (h : Even s xs) (n : Nat) : Even s (xs.take n) := fun y hy => h y (List.mem_of_mem_take hy)
theorem Even.drop {s : Nat} {xs : List AV} (h : Even s xs) (n : Nat) : Even s (xs.drop n) := fun y hy => h y (List.mem_of_mem_drop hy)
theorem Even.nil (s : Nat) : Even s [] := fun _ h => by cases h
theorem Even.replicate {s n : Nat} {z : AV} (h : z.cells.length = s) : Even s (List.replicate n z) := fun y hy => by rw [List.eq_of_mem_replicate hy]; exact h
theorem Even.set {s : Nat} {xs : List AV} (h : Even s xs) {i : Nat} {x : AV} (hx : x.cells.length = s) : Even s (xs.set i x) := fun y hy => by
  rcases List.mem_or_eq_of_mem_set hy with hy | rfl
  · exact h y hy
  · exact hx
theorem flat_length {s : Nat} {xs : List AV} (h : Even s xs) : (flat xs).length = xs.length * s := by
  induction xs with
  | nil => simp [flat]
  | cons x xs ih =>
    rw [flat_cons, List.length_append, h.cons.1, ih h.cons.2, List.length_cons, Nat.add_mul]
    omega
theorem flat_take {s : Nat} {xs : List AV} (h : Even s xs) (n : Nat) : flat (xs.take n) = (flat xs).take (n * s) := by
  induction xs generalizing n with
  | nil => simp [flat]
  | cons x xs ih =>
    cases n with
    | zero => simp [flat]
    | succ n =>
      rw [List.take_succ_cons, flat_cons, flat_cons, ih h.cons.2, Nat.add_mul, Nat.one_mul, Nat.add_comm, List.take_append, h.cons.1]
      rw [List.take_of_length_le (l := x.cells) (by rw [h.cons.1]; omega)]
      congr 2
      omega
theorem flat_drop {s : Nat} {xs : List AV} (h : Even s xs) (n : Nat) : flat (xs.drop n) = (flat xs).drop (n * s) := by
  induction xs generalizing n with
  | nil => simp [flat]
  | cons x xs ih =>
    cases n with
    | zero => simp
    | succ n =>
      rw [List.drop_succ_cons, flat_cons, ih h.cons.2, Nat.add_mul, Nat.one_mul, Nat.add_comm, List.drop_append, h.cons.1]
      rw [List.drop_of_length_le (l := x.cells) (by rw [h.cons.1]; omega)]
      simp
theorem flat_at {s : Nat} {xs : List AV} (h : Even s xs) {i : Nat} (hi : i < xs.length) : ((flat xs).drop (i * s)).take s = (xs.getD i .undef).cells := by
  rw [← flat_drop h]
  rw [List.drop_eq_getElem_cons hi, flat_cons]
  have e : (xs[i]).cells.length = s := h _ (List.getElem_mem hi)
  rw [List.take_append, e, Nat.sub_self, List.take_zero, List.append_nil, List.take_of_length_le (by omega)]
  simp [List.getD, hi]
theorem getD_mem {xs : List AV} {i : Nat} (hi : i < xs.length) : xs.getD i .undef ∈ xs := by
  simp [List.getD, hi]
theorem flat_set {s : Nat} {xs : List AV} (h : Even s xs) {i : Nat} (hi : i < xs.length) {x : AV} (_hx : x.cells.length = s) :
    flat (xs.set i x) = (flat xs).take (i * s) ++ x.cells ++ (flat xs).drop (i * s + s) := by
  rw [List.set_eq_take_append_cons_drop, if_pos hi, flat_append, flat_cons, flat_take h, flat_drop h, List.append_assoc, Nat.add_mul, Nat.one_mul]
theorem all_take {α : Type} {p : α → Bool} {l : List α} (h : l.all p = true) (n : Nat) : (l.take n).all p = true :=
  List.all_eq_true.2 fun x hx => List.all_eq_true.1 h x (List.mem_of_mem_take hx)
theorem all_drop {α : Type} {p : α → Bool} {l : List α} (h : l.all p = true) (n : Nat) : (l.drop n).all p = true :=
  List.all_eq_true.2 fun x hx => List.all_eq_true.1 h x (List.mem_of_mem_drop hx)
theorem row_cells {s : Nat} {xs : List AV} {vs : List Value} {F : List Nat} (he : Even s xs) (h : RelL w m d X (flat xs) vs F) {i : Nat} (hi : i < xs.length) :
    ∃ G, List.Sublist G F ∧ RelL w m d X (xs.getD i .undef).cells ((vs.drop (i * s)).take s) G := by
  obtain ⟨F1, F2, rfl, _, h2⟩ := h.take (i * s)
  obtain ⟨G1, G2, rfl, h3, _⟩ := h2.take s
  rw [flat_at he hi] at h3
  exact ⟨G1, (List.sublist_append_left _ _).trans (List.sublist_append_right _ _), h3⟩
theorem CellsAt.drop {b o n : Nat} {vs : List Value} (h : CellsAt w b o vs) : CellsAt w b (o + n) (vs.drop n) := by
  obtain ⟨c, ty, fr, hb, hv⟩ := h
  refine ⟨c, ty, fr, hb, fun j v hj => ?_⟩
  rw [List.getElem?_drop] at hj
  rw [Nat.add_assoc]; exact hv _ _ hj
theorem CellsAt.take {b o n : Nat} {vs : List Value} (h : CellsAt w b o vs) : CellsAt w b o (vs.take n) := by
  obtain ⟨c, ty, fr, hb, hv⟩ := h
  refine ⟨c, ty, fr, hb, fun j v hj => ?_⟩
  rw [List.getElem?_take] at hj
  split at hj
  · exact hv _ _ hj
  · cases hj
theorem Excl.at {b o lim : Nat} {vs : List Value} (h : Excl w b o vs lim) : CellsAt w b o vs := by
  obtain ⟨c, ty, hb, hv, _⟩ := h; exact ⟨c, ty, (0, 0), hb, hv⟩
theorem CellsAt.cell {b o : Nat} {vs : List Value} (h : CellsAt w b o vs) {j : Nat} {v : Value} (hj : vs[j]? = some v) : w.cell? ⟨b, o + j, none⟩ = some v := by
  obtain ⟨c, ty, fr, hb, hv⟩ := h
  simp [World.cell?, hb, hv j v hj]
theorem addr_add (b o n : Nat) : (⟨b, o, none⟩ : Addr).add n = ⟨b, o + n, none⟩ := by unfold Addr.add; split <;> simp_all
theorem CellsAt.cells {b o : Nat} {vs : List Value} (h : CellsAt w b o vs) : ∀ j v, vs[j]? = some v → w.cell? ((⟨b, o, none⟩ : Addr).add j) = some v := fun j v hj => by
  rw [addr_add]; exact h.cell hj
end Go.Abs
namespace Go.Abs
open Go Go.RowKit
inductive Desc where
  | bool | int (k : IntKind) | str | slice (e : TypeId) | struct (fs : List (Nat × TypeId)) | ptr | func | other
structure Ty where
  desc : Desc
  size : Nat
  bytes : Nat
  zero : AV
def ofCell : Value → AV
  | .bool b => .bool b
  | .int k n => .int k n
  | .string s => .str s
  | .slice none 0 0 => .nil
  | .func (.func f) ⟨[]⟩ ⟨[]⟩ => .fn f []
  | _ => .undef
def ofVal : Value → AV
  | .agg cs => .agg (cs.toList.map ofCell)
  | v => ofCell v
def descOf : TypeDesc → Desc
  | .bool => .bool
  | .int k => .int k
  | .string => .str
  | .slice e => .slice e
  | .struct fs => .struct (fs.toList.map fun f => (f.offset, f.type))
  | .pointer _ => .ptr
  | .func .. => .func
  | _ => .other
def tyOf (P : Program) (t : TypeId) : Option Ty :=
  match P.underlying t, P.info? t with
  | some D, some i => match i.zero with
    | some z => if z.cells.size = i.size then some { desc := descOf D, size := i.size, bytes := i.bytes, zero := ofVal z } else none
    | none => none
  | _, _ => none
inductive K where
  | mv
  | pick
  | box (s : Nat)
  | alloc (z : AV)
  | build (z : List AV) (parts : List (Nat × Nat))
  | bslice (s n : Nat) (z : AV) (idx : List Nat)
  | load1
  | loadN (n : Nat)
  | store1
  | storeN (n : Nat)
  | faddr (off : Nat)
  | iaddr (s : Nat)
  | field1 (off : Nat)
  | fieldN (off n : Nat)
  | idxStr
  | sliceStr (lo hi : Bool)
  | slice (s : Nat) (lo hi : Bool)
  | len
  | lenStr
  | append (s bytes : Nat)
  | mkslice (s bytes : Nat) (z : AV)
  | bin (op : BinOp)
  | binB (neg : Bool)
  | eqs (neg : Bool) (ks : List Nat)
  | not
  | conv (k : IntKind)
  | mkfn (f : FuncId)
  | ext (i : Nat)
  | b2s
  | nilck
  | clear (s : Nat) (z : AV)
  | copy
  | never
  | max | min
  | neg
inductive Eff where
  | val (v : AV)
  | newSl (s : Nat) (xs : List AV)
  | newPtr (s : Nat) (x : AV)
  | upd (id s : Nat) (xs : List AV)
  | updv (id s : Nat) (xs : List AV) (c : Int)
  | app (id s : Nat) (xs : List AV)
def okV (live : Live) : AV → Bool
  | .undef | .tup _ => false
  | .sl id _ _ => (live id).isSome
  | .ptr id _ _ => (live id).isSome
  | _ => true
def okC (live : Live) : AV → Bool
  | .agg _ => false
  | v => okV live v
def AV.setCell (x : AV) (j : Nat) (v : AV) : AV :=
  match x with
  | .agg cs => .agg (cs.set j v)
  | _ => v
def setCells : List AV → Nat → List AV → List AV
  | cs, _, [] => cs
  | cs, j, v :: vs => setCells (cs.set j v) (j + 1) vs
def AV.setCells (x : AV) (j : Nat) (vs : List AV) : AV :=
  match x with
  | .agg cs => .agg (Abs.setCells cs j vs)
  | y => vs.headD y
def fillA : List AV → List (Nat × Nat × AV) → Option (List AV)
  | cs, [] => some cs
  | cs, (off, n, v) :: r => if v.cells.length = n ∧ off + n ≤ cs.length then fillA (setCells cs off v.cells) r else none
def intBin (op : BinOp) (k : IntKind) (a b : Int) : Option AV :=
  match op with
  | .add => some (.int k (k.wrap (a + b)))
  | .sub => some (.int k (k.wrap (a - b)))
  | .mul => some (.int k (k.wrap (a * b)))
  | .quo => if b = 0 then none else some (.int k (k.wrap (a.tdiv b)))
  | .rem => if b = 0 then none else some (.int k (a.tmod b))
  | .and => some (.int k (k.wrap (BitVec.ofInt k.bits a &&& BitVec.ofInt k.bits b).toNat))
  | .or => some (.int k (k.wrap (BitVec.ofInt k.bits a ||| BitVec.ofInt k.bits b).toNat))
  | .xor => some (.int k (k.wrap (BitVec.ofInt k.bits a ^^^ BitVec.ofInt k.bits b).toNat))
  | .eql => some (.bool (a == b))
  | .neq => some (.bool (a != b))
  | .lss => some (.bool (decide (a < b)))
  | .leq => some (.bool (decide (a ≤ b)))
  | .gtr => some (.bool (decide (a > b)))
  | .geq => some (.bool (decide (a ≥ b)))
  | _ => none
def strBin (op : BinOp) (a b : ByteArray) : Option AV :=
  match op with
  | .add => if ((a.size + b.size : Nat) : Int) > IntKind.i64.max then none else some (.str (a ++ b))
  | .eql => some (.bool (a.toList == b.toList))
  | .neq => some (.bool (!(a.toList == b.toList)))
  | .lss => some (.bool (Op.bytesLess a.toList b.toList))
  | .leq => some (.bool (Op.bytesLess a.toList b.toList || a.toList == b.toList))
  | .gtr => some (.bool (!(Op.bytesLess a.toList b.toList || a.toList == b.toList)))
  | .geq => some (.bool (!Op.bytesLess a.toList b.toList))
  | _ => none
def binV (op : BinOp) : AV → AV → Option AV
  | .int k a, .int k' b =>
    match op with
    | .shl => if b < 0 then none else some (.int k (k.wrap (a * 2 ^ (Nat.min b.toNat k.bits))))
    | .shr => if b < 0 then none else some (.int k (a.fdiv (2 ^ (Nat.min b.toNat k.bits))))
    | _ => if k = k' then intBin op k a b else none
  | .str a, .str b => strBin op a b
  | _, _ => none
def eqCell : Nat → AV → AV → Option Bool
  | 0, .bool a, .bool b => some (a == b)
  | 1, .int k a, .int k' b => if k = k' then some (a == b) else none
  | 2, .str a, .str b => some (a.toList == b.toList)
  | _, _, _ => none
def eqCells : List Nat → List AV → List AV → Option Bool
  | [], [], [] => some true
  | k :: ks, a :: as, b :: bs => match eqCell k a b with
    | some e => match eqCells ks as bs with
      | some r => some (e && r)
      | none => none
    | none => none
  | _, _, _ => none
def elems (live : Live) (s : Nat) : AV → Option (List AV)
  | .nil => some []
  | .ro s' xs => if s' = s then some xs else none
  | .sl id off n => match live id with
    | some (s', xs) => if s' = s ∧ off + n ≤ xs.length ∧ ((xs.drop off).take n).all (fun x => x.cells.all noOwnC) then some ((xs.drop off).take n) else none
    | none => none
  | _ => none
def bytesOf : List AV → Option (List UInt8)
  | [] => some []
  | .int .u8 n :: r => match bytesOf r with
    | some l => some (UInt8.ofNat n.toNat :: l)
    | none => none
  | _ => none
def weffAppend (live : Live) (s bytes : Nat) (base : AV) (es : List AV) (Q : Eff → Prop) : Prop :=
  match base with
  | .nil => match es with
    | [] => Q (.val .nil)
    | _ :: _ => es.length * bytes ≤ 140737488355328 ∧ Q (.newSl s es)
  | .sl id off n => match live id with
    | some (s', xs) => s' = s ∧ off = 0 ∧ n ≤ xs.length ∧ (n + es.length) * bytes ≤ 140737488355328 ∧ es.all (fun x => x.cells.all (okC live)) = true ∧ Q (.app id s (xs.take n ++ es))
    | none => False
  | _ => False
def weff (live : Live) (k : K) (args : List AV) (Q : Eff → Prop) : Prop :=
  match k, args with
  | .mv, [x] => Q (.val x)
  | .pick, [.bool c, a, b] => Q (.val (bif c then a else b))
  | .box s, [x] => x.cells.length = s ∧ okV live x = true ∧ Q (.newPtr s x)
  | .alloc z, [] => Q (.newPtr z.cells.length z)
  | .build z parts, xs => match fillA z (parts.zipWith (fun p x => (p.1, p.2, x)) xs) with
    | some cs => parts.length = xs.length ∧ (∀ x ∈ xs, okV live x = true) ∧ Q (.val (.agg cs))
    | none => False
  | .bslice s n z idx, xs => idx.length = xs.length ∧ (∀ x ∈ xs, x.cells.length = s ∧ okV live x = true) ∧ (∀ i ∈ idx, i < n) ∧ n * s ≤ 16777216 ∧
      match n with
      | 0 => Q (.val .nil)
      | n + 1 => Q (.newSl s ((idx.zip xs).foldl (fun r p => r.set p.1 p.2) (List.replicate (n + 1) z)))
  | .load1, [.ptr id i j] => match live id with
    | some (_, xs) => i < xs.length ∧ j < (xs.getD i .undef).cells.length ∧ noOwnC ((xs.getD i .undef).cells.getD j .undef) = true ∧ Q (.val ((xs.getD i .undef).cells.getD j .undef))
    | none => False
  | .load1, [.rop cs] => 0 < cs.length ∧ Q (.val (cs.getD 0 .undef))
  | .loadN n, [.ptr id i j] => match live id with
    | some (_, xs) => i < xs.length ∧ j + n ≤ (xs.getD i .undef).cells.length ∧ (((xs.getD i .undef).cells.drop j).take n).all noOwnC = true ∧
        Q (.val (.agg (((xs.getD i .undef).cells.drop j).take n)))
    | none => False
  | .loadN n, [.rop cs] => n ≤ cs.length ∧ Q (.val (.agg (cs.take n)))
  | .store1, [.ptr id i j, v] => match live id with
    | some (s, xs) => i < xs.length ∧ j < (xs.getD i .undef).cells.length ∧ okC live v = true ∧ Q (.upd id s (xs.set i ((xs.getD i .undef).setCell j v)))
    | none => False
  | .storeN n, [.ptr id i j, .agg vs] => match live id with
    | some (s, xs) => i < xs.length ∧ vs.length = n ∧ j + n ≤ (xs.getD i .undef).cells.length ∧ (∀ v ∈ vs, okC live v = true) ∧
        Q (.upd id s (xs.set i ((xs.getD i .undef).setCells j vs)))
    | none => False
  | .faddr off, [.ptr id i j] => (live id).isSome = true ∧ Q (.val (.ptr id i (j + off)))
  | .faddr off, [.rop cs] => Q (.val (.rop (cs.drop off)))
  | .iaddr s, [.sl id off n, .int _ i] => match live id with
    | some (s', _) => s' = s ∧ 0 ≤ i ∧ i < (n : Int) ∧ Q (.val (.ptr id (off + i.toNat) 0))
    | none => False
  | .iaddr s, [.ro s' xs, .int _ i] => s' = s ∧ 0 ≤ i ∧ i < (xs.length : Int) ∧ Q (.val (.rop (xs.getD i.toNat .undef).cells))
  | .field1 off, [.agg cs] => off < cs.length ∧ Q (.val (cs.getD off .undef))
  | .fieldN off n, [.agg cs] => off + n ≤ cs.length ∧ Q (.val (.agg ((cs.drop off).take n)))
  | .idxStr, [.str s, .int _ i] => 0 ≤ i ∧ i < (s.size : Int) ∧ Q (.val (.int .u8 ((s.data.toList.getD i.toNat 0).toNat : Nat)))
  | .len, [.nil] => Q (.val (.int .i64 0))
  | .len, [.ro _ xs] => Q (.val (.int .i64 (xs.length : Nat)))
  | .len, [.sl id _ n] => (live id).isSome = true ∧ Q (.val (.int .i64 (n : Nat)))
  | .lenStr, [.str s] => Q (.val (.int .i64 (s.size : Nat)))
  | .append s bytes, [base, x] => match elems live s x with
    | some es => weffAppend live s bytes base es Q
    | none => False
  | .mkslice s bytes z, [.int _ l, .int _ c] => 0 ≤ l ∧ l = c ∧ (bytes : Int) * c ≤ 140737488355328 ∧ l ≤ 9223372036854775807 ∧ Q (.newSl s (List.replicate l.toNat z))
  | .bin op, [x, y] => match binV op x y with
    | some v => Q (.val v)
    | none => False
  | .binB neg, [.bool a, .bool b] => Q (.val (.bool (if neg then !(a == b) else a == b)))
  | .eqs neg ks, [.agg cs, .agg ds] => match eqCells ks cs ds with
    | some e => Q (.val (.bool (if neg then !e else e)))
    | none => False
  | .not, [.bool b] => Q (.val (.bool (!b)))
  | .neg, [.int k n] => Q (.val (.int k (k.wrap (0 - n))))
  | .conv k, [.int _ n] => Q (.val (.int k (k.wrap n)))
  | .mkfn f, xs => Q (.val (.fn f xs))
  | .ext i, [.tup vs] => i < vs.length ∧ Q (.val (vs.getD i .undef))
  | .b2s, [x] => match elems live 1 x with
    | some es => match bytesOf es with
      | some l => Q (.val (.str ⟨l.toArray⟩))
      | none => False
    | none => False
  | .nilck, [.ptr id i j] => (live id).isSome = true ∧ Q (.val (.ptr id i j))
  | .nilck, [.rop cs] => Q (.val (.rop cs))
  | .clear s z, [.sl id off n] => match live id with
    | some (s', xs) => s' = s ∧ off + n ≤ xs.length ∧ z.cells.length = s ∧ z.cells.all (okC live) = true ∧ Q (.upd id s (xs.take off ++ List.replicate n z ++ xs.drop (off + n)))
    | none => False
  | .copy, [.sl id off n, y] => match live id with
    | some (s', xs) => match elems live 1 y with
      | some es => s' = 1 ∧ off + n ≤ xs.length ∧ 0 < n ∧ 0 < es.length ∧ (es.take n).all (okC live) = true ∧ Q (.updv id 1 (xs.take off ++ es.take n ++ xs.drop (off + (es.take n).length)) ((es.take n).length : Nat))
      | none => False
    | none => False
  | .sliceStr lo hi, .str s :: r =>
    match lo, hi, r with
    | true, true, [.int _ l, .int _ h] => 0 ≤ l ∧ l ≤ h ∧ h ≤ (s.size : Int) ∧ Q (.val (.str (s.extract l.toNat h.toNat)))
    | true, false, [.int _ l] => 0 ≤ l ∧ l ≤ (s.size : Int) ∧ Q (.val (.str (s.extract l.toNat s.size)))
    | false, true, [.int _ h] => 0 ≤ h ∧ h ≤ (s.size : Int) ∧ Q (.val (.str (s.extract 0 h.toNat)))
    | _, _, _ => False
  | .slice s lo hi, .ro s' xs :: r => s' = s ∧
    match lo, hi, r with
    | true, true, [.int _ l, .int _ h] => 0 ≤ l ∧ l ≤ h ∧ h ≤ (xs.length : Int) ∧ Q (.val (.ro s ((xs.take h.toNat).drop l.toNat)))
    | true, false, [.int _ l] => 0 ≤ l ∧ l ≤ (xs.length : Int) ∧ Q (.val (.ro s (xs.drop l.toNat)))
    | false, true, [.int _ h] => 0 ≤ h ∧ h ≤ (xs.length : Int) ∧ Q (.val (.ro s (xs.take h.toNat)))
    | _, _, _ => False
  | .slice s lo hi, .sl id off n :: r => match live id with
    | some (s', _) => s' = s ∧
      match lo, hi, r with
      | true, true, [.int _ l, .int _ h] => 0 ≤ l ∧ l ≤ h ∧ h ≤ (n : Int) ∧ Q (.val (.sl id (off + l.toNat) (h.toNat - l.toNat)))
      | true, false, [.int _ l] => 0 ≤ l ∧ l ≤ (n : Int) ∧ Q (.val (.sl id (off + l.toNat) (n - l.toNat)))
      | false, true, [.int _ h] => 0 ≤ h ∧ h ≤ (n : Int) ∧ Q (.val (.sl id off h.toNat))
      | _, _, _ => False
    | none => False
  | .max, [.int k a, .int _ b] => Q (.val (.int k (if b > a then b else a)))
  | .min, [.int k a, .int _ b] => Q (.val (.int k (if b < a then b else a)))
  | _, _ => False
def effVal (i : Nat) : Eff → AV
  | .val v => v
  | .newSl _ xs => .sl i 0 xs.length
  | .newPtr _ _ => .ptr i 0 0
  | .upd .. => .undef
  | .updv _ _ _ c => .int .i64 c
  | .app _ _ xs => .sl i 0 xs.length
def effLive (i : Nat) (live : Live) : Eff → Live
  | .val _ => live
  | .newSl s xs => Abs.upd live i (some (s, xs))
  | .newPtr s x => Abs.upd live i (some (s, [x]))
  | .upd id s xs => Abs.upd live id (some (s, xs))
  | .updv id s xs _ => Abs.upd live id (some (s, xs))
  | .app id s xs => Abs.upd (Abs.upd live id none) i (some (s, xs))
def effDead (d : Nat → Prop) : Eff → Nat → Prop
  | .app id _ _ => fun t => d t ∨ t = id
  | _ => d
def Eff.quiet : Eff → Bool
  | .val _ | .newSl .. | .newPtr .. => true
  | _ => false
def EffRes (Y : Nat → Prop) (w0 : World) (F0 : List Nat) (live : Live) (d : Nat → Prop) (m : IdMap) (Fs : Nat → List Nat) (w : World) (i : Nat) (e : Eff) (v' : Value) (w' : World) : Prop :=
  ∃ m' Fs', RelW Y w0 F0 (effLive i live e) (effDead d e) m' Fs' w' ∧ Carry w w' m m' d (effDead d e) (XOf Y m Fs) (XOf Y m' Fs') ∧
    (e.quiet = true → ∀ t, t ≠ i → m' t = m t) ∧ RelV w' m' (effDead d e) (XOf Y m' Fs') (effVal i e) v' []
end Go.Abs
namespace Go.Abs
open Go Go.RowKit
theorem tyOf_spec {P : Program} {t : TypeId} {T : Ty} (h : tyOf P t = some T) :
    ∃ D i z, P.underlying t = some D ∧ P.info? t = some i ∧ i.zero = some z ∧ z.cells.size = i.size ∧ T.desc = descOf D ∧ T.size = i.size ∧ T.bytes = i.bytes ∧ T.zero = ofVal z := by
  unfold tyOf at h
  split at h
  · rename_i D i hu hi
    split at h
    · rename_i z hz
      split at h
      · rename_i hs
        cases h
        exact ⟨D, i, z, hu, hi, hz, hs, rfl, rfl, rfl, rfl⟩
      · cases h
    · cases h
  · cases h
def Desc.single : Desc → Bool
  | .bool | .int _ | .str | .slice _ | .ptr | .func => true
  | _ => false
theorem run_isAgg_single {P : Program} {t : TypeId} {D : TypeDesc} (hu : P.underlying t = some D) (hs : (descOf D).single = true) (w : World) : (isAgg t).run P w = .ok false w := by
  unfold isAgg
  rw [Sem.run_bind, run_underlying hu]
  cases D <;> simp_all [descOf, Desc.single]
theorem run_isAgg_struct {P : Program} {t : TypeId} {D : TypeDesc} (hu : P.underlying t = some D) {fs : List (Nat × TypeId)} (hs : descOf D = .struct fs) (w : World) : (isAgg t).run P w = .ok true w := by
  unfold isAgg
  rw [Sem.run_bind, run_underlying hu]
  cases D <;> simp_all [descOf]
section
variable {P : Program} {Y : Nat → Prop} {w0 : World} {F0 : List Nat} {live : Live} {d : Nat → Prop} {m : IdMap} {Fs : Nat → List Nat} {w : World} {i : Nat}
theorem Carry.refl {w : World} {m : IdMap} {d X : Nat → Prop} : Carry w w m m d d X X :=
  ⟨fun _ c _ _ h => ⟨c, h, rfl⟩, Nat.le_refl _, fun _ _ h => ⟨h, rfl⟩, fun _ _ h => .inl h, fun _ h => h⟩
theorem Carry.trans {w w1 w2 : World} {m m1 m2 : IdMap} {d d1 d2 X X1 X2 : Nat → Prop} (h : Carry w w1 m m1 d d1 X X1) (k : Carry w1 w2 m1 m2 d1 d2 X1 X2) : Carry w w2 m m2 d d2 X X2 :=
  ⟨fun b c ty fr hc => by
      obtain ⟨c1, h1, e1⟩ := h.cells b c ty fr hc
      obtain ⟨c2, h2, e2⟩ := k.cells b c1 ty fr h1
      exact ⟨c2, h2, e2.trans e1⟩,
    Nat.le_trans h.size k.size,
    fun b hb hx => by
      obtain ⟨h1, h2⟩ := h.ro b hb hx
      obtain ⟨k1, k2⟩ := k.ro b (Nat.lt_of_lt_of_le hb h.size) h1
      exact ⟨k1, k2.trans h2⟩,
    fun id q hq => by
      rcases h.ids id q hq with h1 | h1
      · exact k.ids id q h1
      · exact .inr (k.dead id h1),
    fun id hd => k.dead id (h.dead id hd)⟩
theorem res_val (h : RelW Y w0 F0 live d m Fs w) {v : AV} {v' : Value} (hv : RelV w m d (XOf Y m Fs) v v' []) : EffRes Y w0 F0 live d m Fs w i (.val v) v' w :=
  ⟨m, Fs, h, .refl, fun _ _ _ => rfl, hv⟩
theorem RelW.aside (h : RelW Y w0 F0 live d m Fs w) {w' : World} (e : Evo (fun _ => False) w w') :
    RelW Y w0 F0 live d m Fs w' ∧ Carry w w' m m d d (XOf Y m Fs) (XOf Y m Fs) :=
  h.change (fun _ => False) (fun _ => False) (e.mono (fun _ h => h.elim)) (fun _ _ _ => ⟨rfl, rfl, rfl⟩) (fun _ h => h.elim) (fun _ h => h.elim) (fun _ h => h.elim)
    (fun _ h => h) (fun _ h => .inl h) (fun _ h => h.elim) (fun _ h => h.elim) (fun _ _ h => h.elim) (fun _ _ h => h.elim)
theorem evo_drew (w : World) : Evo (fun _ => False) w w.drew := ⟨rfl, rfl, rfl, Nat.le_refl _, fun _ _ _ => rfl, fun _ c _ _ h => ⟨c, h, rfl⟩⟩
theorem res_alloc (h : RelW Y w0 F0 live d m Fs w) (hi : m i = none) (hd : ¬ d i) {s : Nat} {xs : List AV} {vs : List Value} (c : Array Value) (ty : TypeId)
    (hc : ∀ (j : Nat) (v : Value), vs[j]? = some v → c[j]? = some v) (hl : vs.length ≤ c.size) (he : Even s xs) (hr : RelL w m d (XOf Y m Fs) (flat xs) vs []) :
    ∃ m' Fs', RelW Y w0 F0 (upd live i (some (s, xs))) d m' Fs' (w.alloc (.cells c ty)) ∧
      Carry w (w.alloc (.cells c ty)) m m' d d (XOf Y m Fs) (XOf Y m' Fs') ∧ (∀ t, t ≠ i → m' t = m t) ∧ m' i = some (w.heap.size, 0, s) := by
  have key := h.alloc hi hd c ty hc hl he hr
  exact ⟨_, _, key.1, key.2, fun t ht => upd_ne _ _ ht, upd_same _ _ _⟩
theorem res_newPtr (h : RelW Y w0 F0 live d m Fs w) (hi : m i = none) (hd : ¬ d i) {s : Nat} {x : AV} (c : Array Value) (ty : TypeId)
    (hs : x.cells.length = s) (hr : RelL w m d (XOf Y m Fs) x.cells c.toList []) :
    EffRes Y w0 F0 live d m Fs w i (.newPtr s x) (.pointer (some ⟨w.heap.size, 0, none⟩)) (w.alloc (.cells c ty)) := by
  have hf : flat [x] = x.cells := by simp [flat]
  obtain ⟨m', Fs', h1, h2, hq, h3⟩ := res_alloc h hi hd (s := s) (xs := [x]) (vs := c.toList) c ty (fun j v hj => by simpa using hj) (by simp) (Even.mk hs (Even.nil s)) (by rw [hf]; exact hr)
  refine ⟨m', Fs', h1, h2, fun _ => hq, ?_⟩
  have := RelV.ptr (w := w.alloc (.cells c ty)) (d := d) (X := XOf Y m' Fs') (i := 0) (j := 0) h3
  simp only [Nat.zero_mul, Nat.add_zero] at this
  exact this
theorem res_newSl (h : RelW Y w0 F0 live d m Fs w) (hi : m i = none) (hd : ¬ d i) {s : Nat} {xs : List AV} {vs : List Value} (c : Array Value) (ty : TypeId) (cap : Nat)
    (hc : ∀ (j : Nat) (v : Value), vs[j]? = some v → c[j]? = some v) (hl : vs.length ≤ c.size) (he : Even s xs) (hr : RelL w m d (XOf Y m Fs) (flat xs) vs [])
    (hcap : xs.length ≤ cap) (hcs : cap * s ≤ c.size) :
    EffRes Y w0 F0 live d m Fs w i (.newSl s xs) (.slice (some ⟨w.heap.size, 0, none⟩) xs.length cap) (w.alloc (.cells c ty)) := by
  obtain ⟨m', Fs', h1, h2, hq, h3⟩ := res_alloc h hi hd c ty hc hl he hr
  refine ⟨m', Fs', h1, h2, fun _ => hq, ?_⟩
  have := RelV.sl (w := w.alloc (.cells c ty)) (d := d) (X := XOf Y m' Fs') (off := 0) h3 hcap ⟨c, ty, heap_alloc_same w _, fun j v hj => by simp at hj, by simpa using hcs⟩
  simp only [Nat.zero_mul, Nat.add_zero] at this
  exact this
theorem run_load1 {t : TypeId} {D : TypeDesc} (hu : P.underlying t = some D) (hs : (descOf D).single = true) {b o : Nat} {v : Value} (hc : w.cell? ⟨b, o, none⟩ = some v) :
    (Instr.loadAt t (.pointer (some ⟨b, o, none⟩))).run P w = .ok v w := by
  simp [Instr.loadAt, Instr.sureAddr, loadVar, Sem.run_bind, run_isAgg_single hu hs, hc, load, Sem.run]
theorem run_loadN {t : TypeId} {D : TypeDesc} {ti : TypeInfo} (hu : P.underlying t = some D) {fs : List (Nat × TypeId)} (hs : descOf D = .struct fs) (hi : P.info? t = some ti)
    {b o : Nat} {vs : List Value} (hn : vs.length = ti.size) (hc : CellsAt w b o vs) : (Instr.loadAt t (.pointer (some ⟨b, o, none⟩))).run P w = .ok (.agg vs.toArray) w := by
  have hl := run_loadCells_list (P := P) w ⟨b, o, none⟩ vs hc.cells
  rw [hn] at hl
  simp [Instr.loadAt, Instr.sureAddr, loadVar, Sem.run_bind, run_isAgg_struct hu hs, sizeOf, typeInfo, hi, hl]
theorem rop_head {cs : List AV} {v : Value} (h : RelV w m d (XOf Y m Fs) (.rop cs) v []) (hl : 0 < cs.length) :
    ∃ b o u, v = .pointer (some ⟨b, o, none⟩) ∧ w.cell? ⟨b, o, none⟩ = some u ∧ RelV w m d (XOf Y m Fs) (cs.getD 0 .undef) u [] := by
  cases h with
  | rop hX hb hc hcl h =>
    rename_i vs b o
    cases cs with
    | nil => simp at hl
    | cons c cs =>
      obtain ⟨u, G, h1, h2, h3⟩ := h.get (k := 0) (a := c) rfl
      have hG : G = [] := List.eq_nil_iff_forall_not_mem.2 fun x hx => by cases h3 x hx
      subst hG
      exact ⟨b, o, u, rfl, hc.cell h1, by simpa using h2⟩
theorem getElem?_getD {xs : List AV} {j : Nat} (hj : j < xs.length) : xs[j]? = some (xs.getD j .undef) := by
  simp [List.getD, List.getElem?_eq_getElem hj]
theorem ptr_cell (h : RelW Y w0 F0 live d m Fs w) {id a j : Nat} {v : Value} (hp : RelV w m d (XOf Y m Fs) (.ptr id a j) v []) {s : Nat} {xs : List AV} (hl : live id = some (s, xs))
    (ha : a < xs.length) (hj : j < (xs.getD a .undef).cells.length) :
    ∃ b o u G, v = .pointer (some ⟨b, o, none⟩) ∧ w.cell? ⟨b, o, none⟩ = some u ∧ RelV w m d (XOf Y m Fs) ((xs.getD a .undef).cells.getD j .undef) u G := by
  cases hp with
  | ptrDead _ hd => rw [h.ddom _ hd] at hl; cases hl
  | ptr hm =>
    rename_i b o s'
    obtain ⟨rfl, he, vs, hx, hr⟩ := h.cells _ _ _ _ _ _ hl hm
    obtain ⟨G, _, hc⟩ := row_cells he hr ha
    have hcl : (xs.getD a .undef).cells.length = s' := he _ (getD_mem ha)
    obtain ⟨u, G', h1, h2, _⟩ := hc.get (k := j) (a := (xs.getD a .undef).cells.getD j .undef) (getElem?_getD hj)
    rw [List.getElem?_take, if_pos (by omega), List.getElem?_drop] at h1
    have := hx.at.cell h1
    rw [← Nat.add_assoc] at this
    exact ⟨b, o + a * s' + j, u, G', rfl, this, h2⟩
theorem ptr_cells (h : RelW Y w0 F0 live d m Fs w) {id a j n : Nat} {v : Value} (hp : RelV w m d (XOf Y m Fs) (.ptr id a j) v []) {s : Nat} {xs : List AV} (hl : live id = some (s, xs))
    (ha : a < xs.length) (hj : j + n ≤ (xs.getD a .undef).cells.length) :
    ∃ b o us G, v = .pointer (some ⟨b, o, none⟩) ∧ CellsAt w b o us ∧ us.length = n ∧ RelL w m d (XOf Y m Fs) (((xs.getD a .undef).cells.drop j).take n) us G := by
  cases hp with
  | ptrDead _ hd => rw [h.ddom _ hd] at hl; cases hl
  | ptr hm =>
    rename_i b o s'
    obtain ⟨rfl, he, vs, hx, hr⟩ := h.cells _ _ _ _ _ _ hl hm
    obtain ⟨G, _, hc⟩ := row_cells he hr ha
    have hcl : (xs.getD a .undef).cells.length = s' := he _ (getD_mem ha)
    obtain ⟨_, G2, _, _, h2⟩ := hc.take j
    obtain ⟨G3, _, _, h3, _⟩ := h2.take n
    have hat : CellsAt w b (o + a * s' + j) ((((vs.drop (a * s')).take s').drop j).take n) := by
      have := (((hx.at.drop (n := a * s')).take (n := s')).drop (n := j)).take (n := n)
      exact this
    refine ⟨b, o + a * s' + j, _, G3, rfl, hat, ?_, h3⟩
    have := h3.length
    rw [← this, List.length_take, List.length_drop]
    omega
theorem rel_ofCell {X : Nat → Prop} (v : Value) : RelV w m d X (ofCell v) v [] := by
  unfold ofCell
  split
  · exact .bool _
  · exact .int _ _
  · exact .str _
  · exact .nil _
  · exact .fn (vs := []) .nil
  · exact .undef _
theorem rel_ofCells {X : Nat → Prop} (vs : List Value) : RelL w m d X (vs.map ofCell) vs [] := by
  induction vs with
  | nil => exact .nil
  | cons v vs ih => exact .cons (F := []) (rel_ofCell v) ih
theorem rel_ofVal {X : Nat → Prop} (v : Value) : RelV w m d X (ofVal v) v [] := by
  unfold ofVal
  split
  · rename_i cs
    have := RelV.agg (rel_ofCells (w := w) (m := m) (d := d) (X := X) cs.toList)
    rwa [Array.toArray_toList] at this
  · exact rel_ofCell _
theorem ofCell_noAgg (v : Value) : (ofCell v).cells = [ofCell v] := by
  unfold ofCell
  split <;> rfl
theorem ofVal_cells {v : Value} : (ofVal v).cells = v.cells.toList.map ofCell := by
  cases v <;> first | rfl | exact ofCell_noAgg _
theorem rel_ofVal_cells {X : Nat → Prop} (v : Value) : RelL w m d X (ofVal v).cells v.cells.toList [] := by
  rw [ofVal_cells]; exact rel_ofCells _
theorem okV_cells (h : RelW Y w0 F0 live d m Fs w) {x : AV} {v : Value} {F : List Nat} (hv : RelV w m d (XOf Y m Fs) x v F) (ok : okV live x = true) :
    RelL w m d (XOf Y m Fs) x.cells v.cells.toList F := by
  cases hv with
  | undef => simp [okV] at ok
  | one v h =>
    have : v.cells = #[v] := by cases v <;> first | rfl | (simp [Value.oneCell'] at h)
    rw [this]; exact .single (.one v h)
  | tup => simp [okV] at ok
  | agg h => simpa [AV.cells, Value.cells] using h
  | slDead v hd => simp [okV, h.ddom _ hd] at ok
  | ptrDead v hd => simp [okV, h.ddom _ hd] at ok
  | bool b => exact .single (.bool b)
  | int k n => exact .single (.int k n)
  | str s => exact .single (.str s)
  | nil A => exact .single (.nil A)
  | ro hn he hc hf hcl h => exact .single (.ro hn he hc hf hcl h)
  | own hn he hc hf h => exact .single (.own hn he hc hf h)
  | sl hm hn hc => exact .single (.sl hm hn hc)
  | sl0 A => exact .single (.sl0 A)
  | own0 A => exact .single (.own0 A)
  | ptr hm => exact .single (.ptr hm)
  | rop hX hb hc hcl h => exact .single (.rop hX hb hc hcl h)
  | box hc hf h => exact .single (.box hc hf h)
  | fn h => exact .single (.fn h)
theorem okC_one (h : RelW Y w0 F0 live d m Fs w) {x : AV} {v : Value} {F : List Nat} (hv : RelV w m d (XOf Y m Fs) x v F) (ok : okC live x = true) : v.oneCell' = true := by
  cases hv <;> first | rfl | assumption | (simp [okC, okV] at ok; done) | skip
  all_goals (rename_i hd; simp [okC, okV, h.ddom _ hd] at ok)
theorem okC_cells {x : AV} (ok : okC live x = true) : x.cells = [x] := by
  cases x <;> first | rfl | (simp [okC] at ok)
theorem okC_okV {x : AV} (ok : okC live x = true) : okV live x = true := by
  cases x <;> first | exact ok | (simp [okC] at ok)
end
end Go.Abs
namespace Go.Abs
open Go Go.RowKit
section
variable {P : Program} {Y : Nat → Prop} {w0 : World} {F0 : List Nat} {live : Live} {d : Nat → Prop} {m : IdMap} {Fs : Nat → List Nat} {w : World} {i : Nat} {Q : Eff → Prop}
def ValGoal (P : Program) (Y : Nat → Prop) (w0 : World) (F0 : List Nat) (live : Live) (d : Nat → Prop) (m : IdMap) (Fs : Nat → List Nat) (w : World) (i : Nat) (s : Sem Value) (Q : Eff → Prop) : Prop :=
  ∃ e v' w', Q e ∧ s.run P w = .ok v' w' ∧ EffRes Y w0 F0 live d m Fs w i e v' w'
theorem ValGoal.val (h : RelW Y w0 F0 live d m Fs w) {s : Sem Value} {v : AV} {v' : Value} (hq : Q (.val v)) (hr : s.run P w = .ok v' w) (hv : RelV w m d (XOf Y m Fs) v v' []) :
    ValGoal P Y w0 F0 live d m Fs w i s Q := ⟨_, _, _, hq, hr, res_val h hv⟩
abbrev R (Y : Nat → Prop) (w : World) (m : IdMap) (d : Nat → Prop) (Fs : Nat → List Nat) (a : AV) (v : Value) : Prop := RelV w m d (XOf Y m Fs) a v []
theorem s_load1 (h : RelW Y w0 F0 live d m Fs w) {t : TypeId} {D : TypeDesc} (hu : P.underlying t = some D) (hs : (descOf D).single = true) {x : AV} {v : Value}
    (hx : R Y w m d Fs x v) (hw : weff live .load1 [x] Q) : ValGoal P Y w0 F0 live d m Fs w i (Instr.loadAt t v) Q := by
  cases x with
  | ptr id a j =>
    simp only [weff] at hw
    split at hw
    · rename_i s xs hl
      obtain ⟨h1, h2, h3, h4⟩ := hw
      obtain ⟨b, o, u, G, rfl, hc, hr⟩ := ptr_cell h hx hl h1 h2
      have := hr.noOwnC h3
      subst this
      exact .val h h4 (run_load1 hu hs hc) hr
    · exact hw.elim
  | rop cs =>
    simp only [weff] at hw
    obtain ⟨b, o, u, rfl, hc, hr⟩ := rop_head hx hw.1
    exact .val h hw.2 (run_load1 hu hs hc) hr
  | _ => simp [weff] at hw
theorem s_loadN (h : RelW Y w0 F0 live d m Fs w) {t : TypeId} {D : TypeDesc} {ti : TypeInfo} (hu : P.underlying t = some D) {fs : List (Nat × TypeId)} (hs : descOf D = .struct fs)
    (hi : P.info? t = some ti) {x : AV} {v : Value} (hx : R Y w m d Fs x v) (hw : weff live (.loadN ti.size) [x] Q) : ValGoal P Y w0 F0 live d m Fs w i (Instr.loadAt t v) Q := by
  cases x with
  | ptr id a j =>
    simp only [weff] at hw
    split at hw
    · rename_i s xs hl
      obtain ⟨h1, h2, h3, h4⟩ := hw
      obtain ⟨b, o, us, G, rfl, hc, hn, hr⟩ := ptr_cells h hx hl h1 h2
      have := hr.noOwnC h3
      subst this
      exact .val h h4 (run_loadN hu hs hi hn hc) (.agg hr)
    · exact hw.elim
  | rop cs =>
    simp only [weff] at hw
    obtain ⟨hn, hq⟩ := hw
    cases hx with
    | rop hX hb hc hcl hr =>
      rename_i vs b o
      obtain ⟨F1, F2, hF, h1, _⟩ := hr.take ti.size
      have hF1 : F1 = [] := by cases F1 with | nil => rfl | cons _ _ => cases hF
      subst hF1
      have hlen : (vs.take ti.size).length = ti.size := by rw [← h1.length, List.length_take]; omega
      exact .val h hq (run_loadN hu hs hi hlen hc.take) (.agg h1)
  | _ => simp [weff] at hw
theorem s_box (h : RelW Y w0 F0 live d m Fs w) (hi : m i = none) (hd : ¬ d i) {t : TypeId} {s : Nat} {x : AV} {v : Value} (hx : R Y w m d Fs x v) (hw : weff live (.box s) [x] Q) :
    ValGoal P Y w0 F0 live d m Fs w i (Instr.box t v) Q := by
  simp only [weff] at hw
  obtain ⟨h1, h2, h3⟩ := hw
  exact ⟨_, _, _, h3, rfl, res_newPtr h hi hd v.cells t h1 (okV_cells h hx h2)⟩
theorem s_alloc (h : RelW Y w0 F0 live d m Fs w) (hi : m i = none) (hd : ¬ d i) {t : TypeId} {T : Ty} (hT : tyOf P t = some T) (hw : weff live (.alloc T.zero) [] Q) :
    ValGoal P Y w0 F0 live d m Fs w i (Instr.alloc t true (.tuple #[])) Q := by
  obtain ⟨D, ti, z, hu, hti, hz, hzs, _, _, _, hzero⟩ := tyOf_spec hT
  simp only [weff] at hw
  rw [hzero] at hw
  refine ⟨_, _, _, hw, ?_, res_newPtr h hi hd z.cells t rfl (rel_ofVal_cells z)⟩
  have hzr : (zeroValue t).run P w = .ok z w := by simp [zeroValue, typeInfo, hti, hz]
  simp only [Instr.alloc, Sem.run_bind, hzr, Result.andThen_ok]
  rfl
theorem addr_off (b o n k : Nat) : (⟨b, o + n + k, none⟩ : Addr) = ⟨b, o + (n + k), none⟩ := by rw [Nat.add_assoc]
theorem s_faddr (h : RelW Y w0 F0 live d m Fs w) {t : TypeId} {fs : Array Field} (hu : P.underlying t = some (.struct fs)) {f : Nat} {fd : Field} (hf : fs[f]? = some fd)
    {ti : TypeInfo} (hti : P.info? fd.type = some ti) (hz : ti.size ≠ 0) {x : AV} {v : Value} (hx : R Y w m d Fs x v) (hw : weff live (.faddr fd.offset) [x] Q) :
    ValGoal P Y w0 F0 live d m Fs w i (Instr.fieldAt t v f) Q := by
  have hrun : ∀ b o, (Instr.fieldAt t (.pointer (some ⟨b, o, none⟩)) f).run P w = .ok (.pointer (some ⟨b, o + fd.offset, none⟩)) w := fun b o => by
    simp [Instr.fieldAt, run_underlying hu, hf, Instr.sureAddr, fieldPlace, sizeOf, typeInfo, hti, hz, Sem.run_bind, addr_add]
  cases x with
  | ptr id a j =>
    simp only [weff] at hw
    cases hx with
    | ptr hm => exact .val h hw.2 (hrun _ _) (by rw [addr_off]; exact .ptr hm)
    | ptrDead _ hdd => simp [h.ddom _ hdd] at hw
  | rop cs =>
    simp only [weff] at hw
    cases hx with
    | rop hX hb hc hcl hr =>
      rename_i vs b o
      obtain ⟨F1, F2, hF, _, h2⟩ := hr.take fd.offset
      have hF2 : F2 = [] := by cases F2 with | nil => rfl | cons _ _ => simp at hF
      subst hF2
      exact .val h hw (hrun _ _) (.rop hX hb hc.drop (all_drop hcl _) h2)
  | _ => simp [weff] at hw
end
end Go.Abs
namespace Go.Abs
open Go Go.RowKit
section
variable {P : Program} {Y : Nat → Prop} {w0 : World} {F0 : List Nat} {live : Live} {d : Nat → Prop} {m : IdMap} {Fs : Nat → List Nat} {w : World} {i : Nat} {Q : Eff → Prop}
theorem rel_int {X : Nat → Prop} {k : IntKind} {n : Int} {v : Value} (h : RelV w m d X (.int k n) v []) : v = .int k n := by cases h; rfl
theorem nil_split {F G : List Nat} (h : F ++ G = []) : F = [] ∧ G = [] := List.append_eq_nil_iff.1 h
theorem run_indexAt {t e : TypeId} (hu : P.underlying t = some (.slice e)) {ti : TypeInfo} (hi : P.info? e = some ti) {b o n cap : Nat} {k : IntKind} {j : Int} (h0 : 0 ≤ j) (h1 : j < (n : Int)) :
    (Instr.indexAt t (.slice (some ⟨b, o, none⟩) n cap) (.int k j)).run P w = .ok (.pointer (some ⟨b, o + j.toNat * ti.size, none⟩)) w := by
  simp [Instr.indexAt, asIntOf, run_underlying hu, sizeOf, typeInfo, hi, Sem.run_bind, addr_add, h0, h1]
theorem s_iaddr (h : RelW Y w0 F0 live d m Fs w) {t e : TypeId} (hu : P.underlying t = some (.slice e)) {ti : TypeInfo} (hi : P.info? e = some ti) (hz : ti.size ≠ 0) {x y : AV} {v u : Value}
    (hx : R Y w m d Fs x v) (hy : R Y w m d Fs y u) (hw : weff live (.iaddr ti.size) [x, y] Q) : ValGoal P Y w0 F0 live d m Fs w i (Instr.indexAt t v u) Q := by
  cases y with
  | int k j =>
    obtain rfl := rel_int hy
    cases x with
    | ro s xs =>
      simp only [weff] at hw
      obtain ⟨rfl, h0, h1, hq⟩ := hw
      cases hx with
      | ro hn he hc hf hcl hr =>
        rename_i ys vs A cap
        subst hf
        have hlt : j.toNat < xs.length := by omega
        have hpos : vs ≠ [] := by
          intro e0
          have := hr.length
          rw [e0, flat_length he] at this
          have := Nat.mul_eq_zero.1 this
          omega
        rcases hc with hc | ⟨b, o, rfl, hX, hb, hc⟩
        · exact absurd hc hpos
        · obtain ⟨G, hG, hcs⟩ := row_cells he hr hlt
          obtain rfl := List.sublist_nil.1 hG
          exact .val h hq (run_indexAt hu hi h0 h1) (.rop hX hb (hc.drop.take) (by rw [← flat_at he hlt]; exact all_take (all_drop hcl _) _) hcs)
    | sl id off n =>
      simp only [weff] at hw
      split at hw
      · rename_i s' xs hl
        obtain ⟨rfl, h0, h1, hq⟩ := hw
        cases hx with
        | slDead _ hdd => rw [h.ddom _ hdd] at hl; cases hl
        | sl0 A => simp at h1; omega
        | sl hm hn hc =>
          rename_i b o s' cap
          obtain ⟨rfl, _⟩ := h.cells _ _ _ _ _ _ hl hm
          refine .val h hq (run_indexAt hu hi h0 h1) ?_
          have := RelV.ptr (w := w) (d := d) (X := XOf Y m Fs) (i := off + j.toNat) (j := 0) hm
          rw [Nat.add_zero, Nat.add_mul, ← Nat.add_assoc] at this
          exact this
      · exact hw.elim
    | _ => simp [weff] at hw
  | _ => cases x <;> simp [weff] at hw
theorem s_idxStr (h : RelW Y w0 F0 live d m Fs w) {t : TypeId} (hu : P.underlying t = some .string) {x y : AV} {v u : Value}
    (hx : R Y w m d Fs x v) (hy : R Y w m d Fs y u) (hw : weff live .idxStr [x, y] Q) : ValGoal P Y w0 F0 live d m Fs w i (Instr.index t v u) Q := by
  cases y with
  | int k j =>
    obtain rfl := rel_int hy
    cases x with
    | str s =>
      simp only [weff] at hw
      obtain ⟨h0, h1, hq⟩ := hw
      cases hx
      have hlt : j.toNat < s.size := by omega
      have hrun : (Instr.index t (.string s) (.int k j)).run P w = .ok (.int .u8 ((s.data.toList.getD j.toNat 0).toNat : Nat)) w := by
        have e : s[j.toNat]? = some s[j.toNat] := by simp [hlt]
        simp only [Instr.index, asIntOf, Sem.run_bind, Sem.run_pure, Result.andThen_ok, run_underlying hu, if_pos h0, e]
        have e2 : s.data.toList.getD j.toNat 0 = s[j.toNat] := by
          have hlt' : j.toNat < s.data.toList.length := by simpa using hlt
          simp [List.getD, List.getElem?_eq_getElem hlt']
          rfl
        rw [e2]
      exact .val h hq hrun (.int _ _)
    | _ => simp [weff] at hw
  | _ => cases x <;> simp [weff] at hw
theorem s_len (h : RelW Y w0 F0 live d m Fs w) {t ty e : TypeId} (hu : P.underlying t = some (.slice e)) {x : AV} {v : Value}
    (hx : R Y w m d Fs x v) (hw : weff live .len [x] Q) : ValGoal P Y w0 F0 live d m Fs w i (Builtin.len_ #[t] ty #[v]) Q := by
  have hslice : ∀ A n cap, (Builtin.len_ #[t] ty #[.slice A n cap]).run P w = .ok (.int .i64 (n : Nat)) w := fun A n cap => by
    simp [Builtin.len_, run_underlying hu, Sem.run_bind, goInt]
  cases x with
  | nil =>
    simp only [weff] at hw
    cases hx
    exact .val h hw (hslice _ _ _) (.int _ _)
  | ro s xs =>
    simp only [weff] at hw
    cases hx
    exact .val h hw (hslice _ _ _) (.int _ _)
  | sl id off n =>
    simp only [weff] at hw
    cases hx with
    | slDead _ hdd => simp [h.ddom _ hdd] at hw
    | sl0 A => exact .val h hw.2 (hslice _ _ _) (.int _ _)
    | sl hm hn hc => exact .val h hw.2 (hslice _ _ _) (.int _ _)
  | _ => simp [weff] at hw
theorem s_lenStr (h : RelW Y w0 F0 live d m Fs w) {t ty : TypeId} (hu : P.underlying t = some .string) {x : AV} {v : Value}
    (hx : R Y w m d Fs x v) (hw : weff live .lenStr [x] Q) : ValGoal P Y w0 F0 live d m Fs w i (Builtin.len_ #[t] ty #[v]) Q := by
  cases x with
  | str s =>
    simp only [weff] at hw
    cases hx
    exact .val h hw (by simp [Builtin.len_, run_underlying hu, Sem.run_bind, goInt]) (.int _ _)
  | _ => simp [weff] at hw
theorem run_sliceBound {k : IntKind} {j : Int} {y : Nat} {c : BoundsCode} (h0 : 0 ≤ j) (h1 : j ≤ (y : Int)) : (Instr.sliceBound (.int k j) y c).run P w = .ok j.toNat w := by
  simp [Instr.sliceBound, asIntOf, Sem.run_bind, h0, h1]
theorem run_bounds_lh {k k' : IntKind} {l h : Int} {b : Bool} {len cap : Nat} (h0 : 0 ≤ l) (h1 : l ≤ h) (h2 : h ≤ (cap : Int)) :
    (Instr.sliceBounds b len cap (some (.int k l)) (some (.int k' h)) none).run P w = .ok (l.toNat, h.toNat, cap) w := by
  have e : (Instr.sliceBound (.int k' h) cap (if b then .sliceAcap else .sliceAlen)).run P w = .ok h.toNat w := run_sliceBound (by omega) h2
  have e2 : (Instr.sliceBound (.int k l) h.toNat .sliceB).run P w = .ok l.toNat w := run_sliceBound h0 (by omega)
  simp only [Instr.sliceBounds, Sem.run_bind, Sem.run_pure, Result.andThen_ok, e, Option.isSome_none, Bool.false_eq_true, if_false, e2]
theorem run_bounds_l {k : IntKind} {l : Int} {b : Bool} {len cap : Nat} (h0 : 0 ≤ l) (h1 : l ≤ (len : Int)) :
    (Instr.sliceBounds b len cap (some (.int k l)) none none).run P w = .ok (l.toNat, len, cap) w := by
  have e2 : (Instr.sliceBound (.int k l) len .sliceB).run P w = .ok l.toNat w := run_sliceBound h0 (by omega)
  simp only [Instr.sliceBounds, Sem.run_bind, Sem.run_pure, Result.andThen_ok, Option.isSome_none, Bool.false_eq_true, if_false, e2]
theorem run_bounds_h {k' : IntKind} {h : Int} {b : Bool} {len cap : Nat} (h0 : 0 ≤ h) (h2 : h ≤ (cap : Int)) :
    (Instr.sliceBounds b len cap none (some (.int k' h)) none).run P w = .ok (0, h.toNat, cap) w := by
  have e : (Instr.sliceBound (.int k' h) cap (if b then .sliceAcap else .sliceAlen)).run P w = .ok h.toNat w := run_sliceBound (by omega) h2
  simp only [Instr.sliceBounds, Sem.run_bind, Sem.run_pure, Result.andThen_ok, e]
def Cut (P : Program) (w : World) (b : Bool) (len cap : Nat) (lo hi : Option Value) (l h : Nat) : Prop :=
  (Instr.sliceBounds b len cap lo hi none).run P w = .ok (l, h, cap) w
theorem ro_cut (h : RelW Y w0 F0 live d m Fs w) {t e : TypeId} (hu : P.underlying t = some (.slice e)) {ti : TypeInfo} (hi : P.info? e = some ti) {xs : List AV} {A : Option Addr} {n cap : Nat} {lo hi' : Option Value} {l hh : Nat}
    (hx : R Y w m d Fs (.ro ti.size xs) (.slice A n cap)) (hc : Cut P w true n cap lo hi' l hh) (h1 : l ≤ hh) (h2 : hh ≤ xs.length) :
    ∃ v', (Instr.sliceAt t (.slice A n cap) lo hi' none).run P w = .ok v' w ∧ R Y w m d Fs (.ro ti.size ((xs.take hh).drop l)) v' := by
  have hrun : (Instr.sliceAt t (.slice A n cap) lo hi' none).run P w = .ok (.slice (if cap = l then A else A.map (·.add (l * ti.size))) (hh - l) (cap - l)) w := by
    unfold Cut at hc
    simp [Instr.sliceAt, run_underlying hu, Instr.slice, Sem.run_bind, hc, sizeOf, typeInfo, hi]
  refine ⟨_, hrun, ?_⟩
  cases hx with
  | ro hn he hcc hf hcl hr =>
    rename_i ys vs
    subst hf
    obtain ⟨F1, F2, hF, ha, _⟩ := hr.take (hh * ti.size)
    obtain ⟨rfl, rfl⟩ := nil_split hF.symm
    obtain ⟨G1, G2, hG, _, hb⟩ := ha.take (l * ti.size)
    obtain ⟨rfl, rfl⟩ := nil_split hG.symm
    have hlen : ((xs.take hh).drop l).length = hh - l := by rw [List.length_drop, List.length_take, Nat.min_eq_left h2]
    have hfl : flat ((xs.take hh).drop l) = ((flat xs).take (hh * ti.size)).drop (l * ti.size) := by rw [flat_drop (he.take hh), flat_take he]
    have := RelV.ro (w := w) (m := m) (d := d) (X := XOf Y m Fs) (s := ti.size) (xs := (xs.take hh).drop l) (ys := ((flat xs).take (hh * ti.size)).drop (l * ti.size))
      (vs := (vs.take (hh * ti.size)).drop (l * ti.size)) (A := if cap = l then A else A.map (·.add (l * ti.size))) (cap := cap - l) (by rw [hlen]; omega) ((he.take hh).drop l) ?_ hfl (all_drop (all_take hcl _) _) hb
    · rw [hlen] at this; exact this
    · by_cases hcl : cap = l
      · left
        have : hh = l := by omega
        rw [this]
        apply List.drop_eq_nil_of_le
        rw [List.length_take]; exact Nat.min_le_left _ _
      · rcases hcc with hcc | ⟨b, o, rfl, hX, hbb, hcc⟩
        · left; simp [hcc]
        · right
          refine ⟨b, o + l * ti.size, by simp [hcl, addr_add], hX, hbb, ?_⟩
          exact (hcc.take (n := hh * ti.size)).drop
theorem sl_cut (h : RelW Y w0 F0 live d m Fs w) {t e : TypeId} (hu : P.underlying t = some (.slice e)) {ti : TypeInfo} (hi : P.info? e = some ti) {id off n s : Nat} {xs : List AV} (hl : live id = some (s, xs)) (hs : s = ti.size)
    {A : Option Addr} {cap : Nat} {lo hi' : Option Value} {l hh : Nat}
    (hx : R Y w m d Fs (.sl id off n) (.slice A n cap)) (hc : Cut P w true n cap lo hi' l hh) (h1 : l ≤ hh) (h2 : hh ≤ n) (hnc : n ≤ cap) :
    ∃ v', (Instr.sliceAt t (.slice A n cap) lo hi' none).run P w = .ok v' w ∧ R Y w m d Fs (.sl id (off + l) (hh - l)) v' := by
  have hrun : (Instr.sliceAt t (.slice A n cap) lo hi' none).run P w = .ok (.slice (if cap = l then A else A.map (·.add (l * ti.size))) (hh - l) (cap - l)) w := by
    unfold Cut at hc
    simp [Instr.sliceAt, run_underlying hu, Instr.slice, Sem.run_bind, hc, sizeOf, typeInfo, hi]
  refine ⟨_, hrun, ?_⟩
  by_cases hcl : cap = l
  · have e1 : hh - l = 0 := by omega
    have e2 : cap - l = 0 := by omega
    rw [e1, e2]
    cases hx with
    | slDead _ hdd => rw [h.ddom _ hdd] at hl; cases hl
    | sl0 A => exact .sl0 _
    | sl hm hn hcx => exact .sl0 _
  · cases hx with
    | slDead _ hdd => rw [h.ddom _ hdd] at hl; cases hl
    | sl0 A => omega
    | sl hm hn hcx =>
      rename_i b o s'
      obtain ⟨rfl, _⟩ := h.cells _ _ _ _ _ _ hl hm
      subst hs
      have := RelV.sl (w := w) (m := m) (d := d) (X := XOf Y m Fs) (id := id) (off := off + l) (n := hh - l) (cap := cap - l) hm (by omega) ?_
      · simp only [hcl, if_false, Option.map_some, addr_add]
        rw [Nat.add_mul, ← Nat.add_assoc] at this
        exact this
      · obtain ⟨c, ty, hb, hv, hlim⟩ := hcx
        refine ⟨c, ty, hb, fun j v hj => by simp at hj, ?_⟩
        have e : (off + l) * ti.size + (cap - l) * ti.size = off * ti.size + cap * ti.size := by
          rw [← Nat.add_mul, ← Nat.add_mul]; congr 1; omega
        omega
theorem slice_form {X : Nat → Prop} {s : Nat} {xs : List AV} {v : Value} (hx : RelV w m d X (.ro s xs) v []) : ∃ A cap, v = .slice A xs.length cap ∧ xs.length ≤ cap := by
  cases hx with
  | ro hn _ _ _ _ _ => exact ⟨_, _, rfl, hn⟩
theorem sl_form (h : RelW Y w0 F0 live d m Fs w) {id off n s : Nat} {xs : List AV} (hl : live id = some (s, xs)) {v : Value} (hx : R Y w m d Fs (.sl id off n) v) : ∃ A cap, v = .slice A n cap ∧ n ≤ cap := by
  cases hx with
  | slDead _ hdd => rw [h.ddom _ hdd] at hl; cases hl
  | sl0 A => exact ⟨_, _, rfl, Nat.le_refl _⟩
  | sl hm hn hc => exact ⟨_, _, rfl, hn⟩
theorem s_slice_lh (h : RelW Y w0 F0 live d m Fs w) {t e : TypeId} (hu : P.underlying t = some (.slice e)) {ti : TypeInfo} (hi : P.info? e = some ti) {x y z : AV} {v u r : Value}
    (hx : R Y w m d Fs x v) (hy : R Y w m d Fs y u) (hz : R Y w m d Fs z r) (hw : weff live (.slice ti.size true true) [x, y, z] Q) : ValGoal P Y w0 F0 live d m Fs w i (Instr.sliceAt t v (some u) (some r) none) Q := by
  cases x with
  | ro s xs =>
    simp only [weff] at hw
    obtain ⟨rfl, hw⟩ := hw
    cases y <;> cases z <;> simp at hw
    obtain ⟨h0, h1, h2, hq⟩ := hw
    obtain rfl := rel_int hy
    obtain rfl := rel_int hz
    obtain ⟨A, cap, rfl, hn⟩ := slice_form hx
    obtain ⟨v', hr, hv⟩ := ro_cut h hu hi hx (run_bounds_lh (P := P) (w := w) (b := true) (len := xs.length) h0 h1 (by omega)) (by omega) (by omega)
    exact .val h hq hr hv
  | sl id off n =>
    simp only [weff] at hw
    split at hw
    · rename_i s xs hl
      obtain ⟨rfl, hw⟩ := hw
      cases y <;> cases z <;> simp at hw
      obtain ⟨h0, h1, h2, hq⟩ := hw
      obtain rfl := rel_int hy
      obtain rfl := rel_int hz
      obtain ⟨A, cap, rfl, hn⟩ := sl_form h hl hx
      obtain ⟨v', hr, hv⟩ := sl_cut h hu hi hl rfl hx (run_bounds_lh (P := P) (w := w) (b := true) (len := n) h0 h1 (by omega)) (by omega) (by omega) hn
      exact .val h hq hr hv
    · exact hw.elim
  | _ => simp [weff] at hw
theorem s_slice_l (h : RelW Y w0 F0 live d m Fs w) {t e : TypeId} (hu : P.underlying t = some (.slice e)) {ti : TypeInfo} (hi : P.info? e = some ti) {x y : AV} {v u : Value}
    (hx : R Y w m d Fs x v) (hy : R Y w m d Fs y u) (hw : weff live (.slice ti.size true false) [x, y] Q) : ValGoal P Y w0 F0 live d m Fs w i (Instr.sliceAt t v (some u) none none) Q := by
  cases x with
  | ro s xs =>
    simp only [weff] at hw
    obtain ⟨rfl, hw⟩ := hw
    cases y <;> simp at hw
    obtain ⟨h0, h1, hq⟩ := hw
    obtain rfl := rel_int hy
    obtain ⟨A, cap, rfl, hn⟩ := slice_form hx
    obtain ⟨v', hr, hv⟩ := ro_cut h hu hi hx (run_bounds_l (P := P) (w := w) (b := true) h0 h1) (by omega) (Nat.le_refl _)
    rw [List.take_length] at hv
    exact .val h hq hr hv
  | sl id off n =>
    simp only [weff] at hw
    split at hw
    · rename_i s xs hl
      obtain ⟨rfl, hw⟩ := hw
      cases y <;> simp at hw
      obtain ⟨h0, h1, hq⟩ := hw
      obtain rfl := rel_int hy
      obtain ⟨A, cap, rfl, hn⟩ := sl_form h hl hx
      obtain ⟨v', hr, hv⟩ := sl_cut h hu hi hl rfl hx (run_bounds_l (P := P) (w := w) (b := true) h0 h1) (by omega) (Nat.le_refl _) hn
      exact .val h hq hr hv
    · exact hw.elim
  | _ => simp [weff] at hw
theorem s_slice_h (h : RelW Y w0 F0 live d m Fs w) {t e : TypeId} (hu : P.underlying t = some (.slice e)) {ti : TypeInfo} (hi : P.info? e = some ti) {x z : AV} {v r : Value}
    (hx : R Y w m d Fs x v) (hz : R Y w m d Fs z r) (hw : weff live (.slice ti.size false true) [x, z] Q) : ValGoal P Y w0 F0 live d m Fs w i (Instr.sliceAt t v none (some r) none) Q := by
  cases x with
  | ro s xs =>
    simp only [weff] at hw
    obtain ⟨rfl, hw⟩ := hw
    cases z <;> simp at hw
    obtain ⟨h0, h1, hq⟩ := hw
    obtain rfl := rel_int hz
    obtain ⟨A, cap, rfl, hn⟩ := slice_form hx
    obtain ⟨v', hr, hv⟩ := ro_cut h hu hi hx (run_bounds_h (P := P) (w := w) (b := true) (len := xs.length) h0 (by omega)) (Nat.zero_le _) (by omega)
    rw [List.drop_zero] at hv
    exact .val h hq hr hv
  | sl id off n =>
    simp only [weff] at hw
    split at hw
    · rename_i s xs hl
      obtain ⟨rfl, hw⟩ := hw
      cases z <;> simp at hw
      obtain ⟨h0, h1, hq⟩ := hw
      obtain rfl := rel_int hz
      obtain ⟨A, cap, rfl, hn⟩ := sl_form h hl hx
      obtain ⟨v', hr, hv⟩ := sl_cut h hu hi hl rfl hx (run_bounds_h (P := P) (w := w) (b := true) (len := n) h0 (by omega)) (Nat.zero_le _) (by omega) hn
      exact .val h hq hr hv
    · exact hw.elim
  | _ => simp [weff] at hw
end
end Go.Abs
namespace Go.Abs
open Go Go.RowKit
section
variable {P : Program} {Y : Nat → Prop} {w0 : World} {F0 : List Nat} {live : Live} {d : Nat → Prop} {m : IdMap} {Fs : Nat → List Nat} {w : World} {i : Nat} {Q : Eff → Prop}
theorem toNat_map_size (z : Array Value) (n : Nat) : (Builtin.zeroCells z n).size = n * z.size := by simp [Builtin.zeroCells]
theorem elems_read (h : RelW Y w0 F0 live d m Fs w) {s : Nat} {x : AV} {v : Value} {es : List AV} (hx : R Y w m d Fs x v) (he : elems live s x = some es) :
    ∃ A cap vs, v = .slice A es.length cap ∧ Even s es ∧ RelL w m d (XOf Y m Fs) (flat es) vs [] ∧ (vs = [] ∨ ∃ b o, A = some ⟨b, o, none⟩ ∧ CellsAt w b o vs) := by
  cases x with
  | nil =>
    simp [elems] at he; subst he
    cases hx
    exact ⟨_, _, [], rfl, Even.nil s, .nil, .inl rfl⟩
  | ro s' xs =>
    simp only [elems] at he
    split at he
    · rename_i hs; subst hs; cases he
      cases hx with
      | ro hn hev hc hf hcl hr =>
        subst hf
        exact ⟨_, _, _, rfl, hev, hr, hc.imp id (fun ⟨b, o, h1, _, _, h2⟩ => ⟨b, o, h1, h2⟩)⟩
    · cases he
  | sl id off n =>
    simp only [elems] at he
    split at he
    · rename_i s' xs hl
      split at he
      · rename_i hc
        obtain ⟨rfl, hlen, hall⟩ := hc
        cases he
        have hel : ((xs.drop off).take n).length = n := by rw [List.length_take, List.length_drop]; omega
        cases hx with
        | slDead _ hdd => rw [h.ddom _ hdd] at hl; cases hl
        | sl0 A =>
          refine ⟨A, 0, [], by simp, fun y hy => by simp at hy, ?_, .inl rfl⟩
          simp [flat]; exact .nil
        | sl hm hn hcx =>
          rename_i b o s'' cap
          obtain ⟨rfl, hev, vs, hex, hr⟩ := h.cells _ _ _ _ _ _ hl hm
          obtain ⟨F1, F2, hF, _, h2⟩ := hr.take (off * s'')
          obtain ⟨G1, G2, hG, h3, _⟩ := h2.take (n * s'')
          have hfl : flat ((xs.drop off).take n) = ((flat xs).drop (off * s'')).take (n * s'') := by rw [flat_take (hev.drop off), flat_drop hev]
          rw [← hfl] at h3
          have hno : (flat ((xs.drop off).take n)).all noOwnC = true := by
            rw [List.all_eq_true] at hall ⊢
            intro c hc
            obtain ⟨y, hy, hcy⟩ := List.mem_flatMap.1 hc
            exact List.all_eq_true.1 (hall y hy) c hcy
          obtain rfl := h3.noOwnC hno
          refine ⟨_, cap, _, by rw [hel], (hev.drop off).take n, h3, .inr ⟨b, _, rfl, ?_⟩⟩
          exact (hex.at.drop (n := off * s'')).take (n := n * s'')
      · cases he
    · cases he
  | _ => simp [elems] at he
theorem run_first {A : Option Addr} {n cap size : Nat} {vs : List Value} (hl : vs.length = n * size) (hc : vs = [] ∨ ∃ b o, A = some ⟨b, o, none⟩ ∧ CellsAt w b o vs) :
    (Builtin.firstCells size n (.slice A n cap)).run P w = .ok vs.toArray w := by
  rcases hc with rfl | ⟨b, o, rfl, hc⟩
  · cases A with
    | none => simp [Builtin.firstCells]
    | some a =>
      have : n * size = 0 := hl.symm
      simp [Builtin.firstCells, this, loadCells, loadCellsFrom]
  · exact run_firstCells_some w size n _ n cap vs hl hc.cells
theorem run_append_grows {t ty e : TypeId} (ht : P.underlying t = some (.slice e)) {ti : TypeInfo} (hi : P.info? e = some ti) {z : Value} (hz : ti.zero = some z)
    {A B : Option Addr} {sLen sCap n c : Nat} {olds news : List Value} (hlo : olds.length = sLen * ti.size) (hco : olds = [] ∨ ∃ b o, A = some ⟨b, o, none⟩ ∧ CellsAt w b o olds)
    (hln : news.length = n * ti.size) (hcn : news = [] ∨ ∃ b o, B = some ⟨b, o, none⟩ ∧ CellsAt w b o news)
    (hg : sCap < sLen + n) (hb : 0 < ti.bytes) (hfit : (sLen + n) * ti.bytes ≤ 140737488355328) :
    (Builtin.append_ #[t, t] ty #[.slice A sLen sCap, .slice B n c]).run P w =
      .ok (.slice (some ⟨w.heap.size, 0, none⟩) (sLen + n) (grownCap w (sLen + n) sCap e))
        (w.drew.alloc (.cells (olds.toArray ++ news.toArray ++ Builtin.zeroCells z.cells (grownCap w (sLen + n) sCap e - (sLen + n))) e)) := by
  have hn : ¬ (sLen + n ≤ sCap) := by omega
  have h48 := growslice_fits hg hfit
  have h48' : ¬ (281474976710656 < Builtin.nextslicecap (sLen + n) sCap * ti.bytes) := by omega
  have hb0 : ti.bytes ≠ 0 := by omega
  have hsame : ∀ {b o vs}, CellsAt w b o vs → CellsAt w.drew b o vs := fun h => h
  have hf : (Builtin.firstCells ti.size n (.slice B n c)).run P w.drew = .ok news.toArray w.drew := run_first hln hcn
  have hfo : (Builtin.firstCells ti.size sLen (.slice A sLen sCap)).run P w.drew = .ok olds.toArray w.drew := run_first hlo hco
  simp [Builtin.append_, run_underlying ht, sizeOf, typeInfo, zeroValue, hi, hz, Builtin.lenOf, hn, h48', hb0, Question.forced, hf, hfo, newRow, grownCap]
  congr 2
  apply Array.ext'
  simp [List.append_assoc]
theorem run_append_fits {t ty e : TypeId} (ht : P.underlying t = some (.slice e)) {ti : TypeInfo} (hi : P.info? e = some ti)
    {B : Option Addr} {g o sLen sCap n c : Nat} {cur : Array Value} {ety : TypeId} (hgc : w.heap[g]? = some (.cells cur ety (0, 0))) {news : List Value}
    (hln : news.length = n * ti.size) (hcn : news = [] ∨ ∃ b o, B = some ⟨b, o, none⟩ ∧ CellsAt w b o news) (h1 : ∀ u ∈ news, u.oneCell' = true)
    (hroom : sLen + n ≤ sCap) (hfit : o + sLen * ti.size + news.length ≤ cur.size) :
    (Builtin.append_ #[t, t] ty #[.slice (some ⟨g, o, none⟩) sLen sCap, .slice B n c]).run P w =
      .ok (.slice (some ⟨g, o, none⟩) (sLen + n) sCap) (w.setRow g (cur.toList.take (o + sLen * ti.size) ++ news ++ cur.toList.drop (o + sLen * ti.size + news.length)).toArray) := by
  have hf : (Builtin.firstCells ti.size n (.slice B n c)).run P w = .ok news.toArray w := run_first hln hcn
  have hst := run_storeCells_at P g (o + sLen * ti.size) ety news 0 cur w hgc (by simpa using hfit) h1
  simp only [Nat.add_zero] at hst
  simp [Builtin.append_, run_underlying ht, sizeOf, typeInfo, hi, Builtin.lenOf, hroom, hf, addr_add, hst]
theorem rewrite_setRow {g : Nat} {cur cs : Array Value} {ety : TypeId} (hg : w.heap[g]? = some (.cells cur ety (0, 0))) (hs : cs.size = cur.size) : Rewrite g w (w.setRow g cs) :=
  ⟨rfl, rfl, rfl, by simp, fun b' hb => setRow_other w g b' cs hb, fun c ty fr hc => by
    rw [hg] at hc
    cases hc
    exact ⟨cs, setRow_heap w g cur cs ety (0, 0) hg, hs⟩⟩
theorem drew_carry (h : RelW Y w0 F0 live d m Fs w) : RelW Y w0 F0 live d m Fs w.drew ∧ Carry w w.drew m m d d (XOf Y m Fs) (XOf Y m Fs) := h.aside (evo_drew w)
theorem drew_rel {X : Nat → Prop} {as : List AV} {vs : List Value} {F : List Nat} (hr : RelL w m d X as vs F) : RelL w.drew m d X as vs F :=
  have C : Carry w w.drew m m d d X X := ⟨fun _ c _ _ h => ⟨c, h, rfl⟩, Nat.le_refl _, fun _ _ h => ⟨h, rfl⟩, fun _ _ h => .inl h, fun _ h => h⟩
  RelL.carry C hr (fun _ _ => rfl)
theorem res_fresh (h : RelW Y w0 F0 live d m Fs w) (hi : m i = none) (hd : ¬ d i) {s : Nat} {xs : List AV} {vs : List Value} (c : Array Value) (ty : TypeId) (cap : Nat)
    (hc : ∀ (j : Nat) (v : Value), vs[j]? = some v → c[j]? = some v) (hl : vs.length ≤ c.size) (he : Even s xs) (hr : RelL w m d (XOf Y m Fs) (flat xs) vs [])
    (hcap : xs.length ≤ cap) (hcs : cap * s ≤ c.size) :
    EffRes Y w0 F0 live d m Fs w i (.newSl s xs) (.slice (some ⟨w.heap.size, 0, none⟩) xs.length cap) (w.drew.alloc (.cells c ty)) := by
  obtain ⟨h1, c1⟩ := drew_carry h
  obtain ⟨m', Fs', h2, c2, hq, h3⟩ := res_newSl h1 hi hd c ty cap hc hl he (drew_rel hr) hcap hcs
  exact ⟨m', Fs', h2, c1.trans c2, hq, h3⟩
theorem prefix_get {a b : List Value} {c : Array Value} {j : Nat} {v : Value} (hj : (a ++ b)[j]? = some v) : (a.toArray ++ b.toArray ++ c)[j]? = some v := by
  have : j < (a ++ b).length := by
    rcases Nat.lt_or_ge j (a ++ b).length with h | h
    · exact h
    · rw [List.getElem?_eq_none h] at hj; cases hj
  rw [Array.getElem?_append_left (by simpa using this)]
  simpa using hj
theorem Even.all_okC {es : List AV} (h : es.all (fun x => x.cells.all (okC live)) = true) : (flat es).all (okC live) = true := by
  rw [List.all_eq_true] at h ⊢
  intro c hc
  obtain ⟨y, hy, hcy⟩ := List.mem_flatMap.1 hc
  exact List.all_eq_true.1 (h y hy) c hcy
theorem okC_all (h : RelW Y w0 F0 live d m Fs w) {as : List AV} {vs : List Value} {F : List Nat} (hr : RelL w m d (XOf Y m Fs) as vs F) (ok : as.all (okC live) = true) : ∀ u ∈ vs, u.oneCell' = true := by
  induction as generalizing vs F with
  | nil => cases hr; exact fun _ h => by cases h
  | cons a as ih =>
    cases hr with
    | cons h1 t =>
      simp only [List.all_cons, Bool.and_eq_true] at ok
      intro u hu
      rcases List.mem_cons.1 hu with rfl | hu
      · exact okC_one h h1 ok.1
      · exact ih t ok.2 u hu
theorem RelW.regrow_new (h : RelW Y w0 F0 live d m Fs w) {id i s : Nat} {xs : List AV} {b o : Nat} (hl : live id = some (s, xs)) (hm : m id = some (b, o, s))
    (hi : m i = none) (hd : ¬ d i) (c : Array Value) (ty : TypeId) {xs' : List AV} {vs' : List Value} {F' : List Nat} (he : Even s xs') (hF : ∀ x ∈ F', x ∈ Fs id) (hn : F'.Nodup)
    (hc : ∀ (j : Nat) (v : Value), vs'[j]? = some v → c[j]? = some v) (hlen : vs'.length ≤ c.size) (hr : RelL w m d (XOf Y m Fs) (flat xs') vs' F') :
    ∃ m' Fs', RelW Y w0 F0 (upd (upd live id none) i (some (s, xs'))) (fun t => d t ∨ t = id) m' Fs' (w.alloc (.cells c ty)) ∧
      Carry w (w.alloc (.cells c ty)) m m' d (fun t => d t ∨ t = id) (XOf Y m Fs) (XOf Y m' Fs') ∧ m' i = some (w.heap.size, 0, s) := by
  have hii : i ≠ id := fun e => by rw [e, hm] at hi; cases hi
  have hb : blocksOf m Fs id = b :: Fs id := blocksOf_some hm
  have hb' : blocksOf (upd (upd m id none) i (some (w.heap.size, 0, s))) (upd Fs i F') i = w.heap.size :: F' := by simp [blocksOf, upd]
  have hFlt : ∀ x ∈ F', x < w.heap.size := fun x hx => (h.own x ⟨id, by rw [hb]; exact List.mem_cons_of_mem _ (hF x hx)⟩).1
  have key := h.change (live' := upd (upd live id none) i (some (s, xs'))) (d' := fun t => d t ∨ t = id) (m' := upd (upd m id none) i (some (w.heap.size, 0, s))) (Fs' := upd Fs i F')
    (w' := w.alloc (.cells c ty)) (· = id) (· = i) ((evo_alloc (fun _ => False) w _).mono (fun _ h => h.elim)) ?_ ?_ ?_ ?_ ?_ ?_ ?_ ?_ ?_ ?_
  · exact ⟨_, _, key.1, key.2, by simp [upd]⟩
  · intro id' h1 h2; simp [upd, h1, h2]
  · intro id' e h2; subst e; exact ⟨by simp [upd, h2], by simp [upd, h2], .inr rfl⟩
  · intro id' e; subst e; exact .inr hi
  · intro id' e hdd; subst e
    rcases hdd with hdd | hdd
    · exact hd hdd
    · exact hii hdd
  · exact fun _ h => .inl h
  · intro id' hdd
    rcases hdd with hdd | hdd
    · exact .inl hdd
    · exact .inr ⟨hdd, fun e => hii (e.symm.trans hdd)⟩
  · intro id' e x hx; subst e
    rw [hb'] at hx
    rcases List.mem_cons.1 hx with rfl | hx
    · exact ⟨by show _ < (w.heap.push _).size; simp, .inl (Nat.le_refl _)⟩
    · have hxin : x ∈ blocksOf m Fs id := by rw [hb]; exact List.mem_cons_of_mem _ (hF x hx)
      exact ⟨Nat.lt_of_lt_of_le (hFlt x hx) (by show _ ≤ (w.heap.push _).size; simp), .inr ⟨id, rfl, hxin⟩⟩
  · intro id' e; subst e; rw [hb']
    exact List.nodup_cons.2 ⟨fun hbF => Nat.lt_irrefl _ (hFlt _ hbF), hn⟩
  · intro id1 id2 e e' hne; exact absurd (e.trans e'.symm) hne
  · intro C id' e; subst e
    refine ⟨s, xs', w.heap.size, 0, by simp [upd], by simp [upd], he, vs', ⟨c, ty, heap_alloc_same w _, fun j v hv => by rw [Nat.zero_add]; exact hc j v hv, by simpa using hlen⟩, ?_⟩
    rw [upd_same]
    exact RelL.carry C hr (fun x hx => heap_alloc_ne w _ (hFlt x hx))
theorem s_append (h : RelW Y w0 F0 live d m Fs w) (hi : m i = none) (hd : ¬ d i) {t ty e : TypeId} (ht : P.underlying t = some (.slice e)) {ti : TypeInfo} (hti : P.info? e = some ti)
    {z : Value} (hz : ti.zero = some z) (hzs : z.cells.size = ti.size) (hb : 0 < ti.bytes) {x y : AV} {v u : Value} (hfi : ∀ off n, x ≠ .sl i off n)
    (hx : R Y w m d Fs x v) (hy : R Y w m d Fs y u) (hw : weff live (.append ti.size ti.bytes) [x, y] Q) : ValGoal P Y w0 F0 live d m Fs w i (Builtin.append_ #[t, t] ty #[v, u]) Q := by
  simp only [weff] at hw
  split at hw
  case h_2 => exact hw.elim
  rename_i es hes
  obtain ⟨B, c, news, rfl, heve, hrn, hcn⟩ := elems_read h hy hes
  have hln : news.length = es.length * ti.size := by rw [← hrn.length, flat_length heve]
  have hcap : ∀ need old, old < need → need * ti.bytes ≤ 140737488355328 → need ≤ grownCap w need old e := fun need old _ _ => grownCap_ge w need old e
  cases x with
  | nil =>
    cases hx with
    | nil A =>
      simp only [weffAppend] at hw
      cases es with
      | nil =>
        simp only at hw
        have hnews : news = [] := List.eq_nil_of_length_eq_zero (by simpa using hln)
        subst hnews
        refine .val h hw ?_ (.nil A)
        have hf : (Builtin.firstCells ti.size 0 (.slice B 0 c)).run P w = .ok #[] w := run_first (vs := []) (by simp) (.inl rfl)
        cases A with
        | none => simp [Builtin.append_, run_underlying ht, sizeOf, typeInfo, hti, Builtin.lenOf, hf]
        | some a => simp [Builtin.append_, run_underlying ht, sizeOf, typeInfo, hti, Builtin.lenOf, hf, storeCells]
      | cons e1 es1 =>
        simp only at hw
        obtain ⟨hbd, hq⟩ := hw
        have hr := run_append_grows (P := P) (w := w) (ty := ty) ht hti hz (A := A) (B := B) (sLen := 0) (sCap := 0) (n := (e1 :: es1).length) (c := c) (olds := []) (news := news)
          (by simp) (.inl rfl) hln hcn (by simp) hb (by rw [Nat.zero_add]; exact hbd)
        rw [Nat.zero_add] at hr
        have hge := hcap (e1 :: es1).length 0 (by simp) hbd
        refine ⟨_, _, _, hq, hr, res_fresh h hi hd _ e _ (vs := news) ?_ ?_ heve hrn hge ?_⟩
        · intro j v hj
          exact prefix_get (a := []) (b := news) (by simpa using hj)
        · simp
        · simp [hln, toNat_map_size, hzs]
          rw [← Nat.add_mul]
          apply Nat.mul_le_mul_right
          simp at hge
          omega
  | sl id off n =>
    simp only [weffAppend] at hw
    split at hw
    case h_2 => exact hw.elim
    rename_i s' xs hl
    obtain ⟨rfl, rfl, hn, hbd, hok, hq⟩ := hw
    have hoks := okC_all h hrn (Even.all_okC hok)
    cases hmu : m id with
    | none =>
      have hx0 : n = 0 ∧ ∃ A, v = .slice A 0 0 := by
        cases hx with
        | slDead _ hdd => rw [h.ddom _ hdd] at hl; cases hl
        | sl0 A => exact ⟨rfl, A, rfl⟩
        | sl hm _ _ => rw [hmu] at hm; cases hm
      obtain ⟨rfl, A, rfl⟩ := hx0
      have hii : i ≠ id := fun e => hfi 0 0 (by rw [e])
      obtain ⟨hk, ck⟩ := h.killUn hmu (by rw [hl]; simp)
      by_cases h0 : es.length = 0
      · have hes0 : es = [] := List.eq_nil_of_length_eq_zero h0
        subst hes0
        have hnews : news = [] := List.eq_nil_of_length_eq_zero (by simpa using hln)
        subst hnews
        have hf : (Builtin.firstCells ti.size 0 (.slice B 0 c)).run P w = .ok #[] w := run_first (vs := []) (by simp) (.inl rfl)
        have hr : (Builtin.append_ #[t, t] ty #[.slice A 0 0, .slice B ([] : List AV).length c]).run P w = .ok (.slice A 0 0) w := by
          cases A with
          | none => simp [Builtin.append_, run_underlying ht, sizeOf, typeInfo, hti, Builtin.lenOf, hf]
          | some a => simp [Builtin.append_, run_underlying ht, sizeOf, typeInfo, hti, Builtin.lenOf, hf, storeCells]
        refine ⟨_, _, _, hq, hr, m, Fs, hk.relive (fun t ht => ?_) (fun t ht => ?_), ck, fun h => (Bool.false_ne_true h).elim, .sl0 A⟩
        · show upd (upd live id none) i _ t = _
          rw [upd_ne _ _ (fun e : t = i => ht (by rw [e]; exact hi))]
        · show upd (upd live id none) i _ t = _
          rw [upd_ne _ _ (fun e : t = i => ht.elim (fun h => hd (by rw [← e]; exact h)) (fun h => hii (e.symm.trans h)))]
          exact hk.ddom t ht
      · have hr := run_append_grows (P := P) (w := w) (ty := ty) ht hti hz (A := A) (B := B) (sLen := 0) (sCap := 0) (n := es.length) (c := c) (olds := []) (news := news)
          (by simp) (.inl rfl) hln hcn (by omega) hb (by exact hbd)
        rw [Nat.zero_add] at hr
        have hge := grownCap_ge w es.length 0 e
        have hrn2 : RelL w m (fun t => d t ∨ t = id) (XOf Y m Fs) (flat es) news [] := RelL.carry ck hrn (fun _ hb => by cases hb)
        obtain ⟨m', Fs', h1, c1, _, h3⟩ := res_fresh hk hi (fun h => h.elim hd hii) (s := ti.size) (xs := es) (vs := news) (([] : List Value).toArray ++ news.toArray ++ Builtin.zeroCells z.cells (grownCap w es.length 0 e - es.length)) e
          (grownCap w es.length 0 e) (fun j v hj => prefix_get (a := []) (b := news) (by simpa using hj)) (by simp) heve hrn2 hge (by simp [hln, toNat_map_size, hzs]; rw [← Nat.add_mul]; apply Nat.mul_le_mul_right; omega)
        have e1 : xs.take 0 ++ es = es := by simp
        rw [e1] at hq
        exact ⟨_, _, _, hq, hr, m', Fs', h1, ck.trans c1, fun h => (Bool.false_ne_true h).elim, h3⟩
    | some q0 =>
    have hown : ∃ b o, m id = some (b, o, ti.size) := by
      obtain ⟨b, o, s''⟩ := q0
      have hmi := hmu
      obtain ⟨rfl, _⟩ := h.cells _ _ _ _ _ _ hl hmi
      exact ⟨b, o, hmi⟩
    obtain ⟨b, o, hmi⟩ := hown
    obtain ⟨_, hev, vs, hex, hrv⟩ := h.cells _ _ _ _ _ _ hl hmi
    obtain ⟨F1, F2, hF, hr1, _⟩ := hrv.take (n * ti.size)
    rw [← flat_take hev] at hr1
    have hF1 : ∀ y ∈ F1, y ∈ Fs id := fun y hy => by rw [hF]; exact List.mem_append_left _ hy
    have hnd1 : F1.Nodup := by
      have := h.nodup id
      rw [blocksOf_some hmi, hF] at this
      exact (List.nodup_append.1 (List.nodup_cons.1 this).2).1
    have hev' : Even ti.size (xs.take n ++ es) := (hev.take n).append heve
    have hlen' : (vs.take (n * ti.size)).length = n * ti.size := by
      have := hr1.length
      rw [flat_length (hev.take n), List.length_take, Nat.min_eq_left hn] at this
      exact this.symm
    have hrn' : RelL w m d (XOf Y m Fs) (flat (xs.take n ++ es)) (vs.take (n * ti.size) ++ news) F1 := by
      rw [flat_append]
      have := hr1.append hrn
      rwa [List.append_nil] at this
    have htk : (xs.take n ++ es).length = n + es.length := by rw [List.length_append, List.length_take, Nat.min_eq_left hn]
    have grows : ∀ A sCap, sCap < n + es.length → (vs.take (n * ti.size) = [] ∨ ∃ b o, A = some ⟨b, o, none⟩ ∧ CellsAt w b o (vs.take (n * ti.size))) →
        ValGoal P Y w0 F0 live d m Fs w i (Builtin.append_ #[t, t] ty #[.slice A n sCap, .slice B es.length c]) Q := by
      intro A sCap hg hco
      have hr := run_append_grows (P := P) (w := w) (ty := ty) ht hti hz (A := A) (B := B) (sLen := n) (sCap := sCap) (n := es.length) (c := c) hlen' hco hln hcn hg hb hbd
      have hge := grownCap_ge w (n + es.length) sCap e
      obtain ⟨hd1, cd⟩ := drew_carry h
      obtain ⟨m', Fs', h1, h2, h3⟩ := hd1.regrow_new hl hmi hi hd
        ((vs.take (n * ti.size)).toArray ++ news.toArray ++ Builtin.zeroCells z.cells (grownCap w (n + es.length) sCap e - (n + es.length))) e (vs' := vs.take (n * ti.size) ++ news) hev' hF1 hnd1
        (fun j v hj => prefix_get hj) (by simp) (drew_rel hrn')
      refine ⟨_, _, _, hq, hr, m', Fs', h1, cd.trans h2, fun h => (Bool.false_ne_true h).elim, ?_⟩
      have := RelV.sl (w := w.drew.alloc (.cells ((vs.take (n * ti.size)).toArray ++ news.toArray ++ Builtin.zeroCells z.cells (grownCap w (n + es.length) sCap e - (n + es.length))) e)) (d := fun t => d t ∨ t = id)
        (X := XOf Y m' Fs') (off := 0) (n := n + es.length) (cap := grownCap w (n + es.length) sCap e) h3 hge
        ⟨_, e, heap_alloc_same w.drew _, fun j v hj => by simp at hj, by
          simp [hlen', hln, toNat_map_size, hzs]
          rw [← Nat.add_mul, ← Nat.add_mul]
          apply Nat.mul_le_mul_right
          omega⟩
      simp only [Nat.zero_mul, Nat.add_zero] at this
      show RelV _ m' _ _ (.sl i 0 (xs.take n ++ es).length) _ []
      rw [htk]; exact this
    cases hx with
    | slDead _ hdd => rw [h.ddom _ hdd] at hl; cases hl
    | sl0 A =>
      by_cases h0 : es.length = 0
      · -- nothing is added to an empty slice without room: it stays
        have hes0 : es = [] := List.eq_nil_of_length_eq_zero h0
        subst hes0
        have hnews : news = [] := List.eq_nil_of_length_eq_zero (by simpa using hln)
        subst hnews
        have hf : (Builtin.firstCells ti.size 0 (.slice B 0 c)).run P w = .ok #[] w := run_first (vs := []) (by simp) (.inl rfl)
        have hr : (Builtin.append_ #[t, t] ty #[.slice A 0 0, .slice B ([] : List AV).length c]).run P w = .ok (.slice A 0 0) w := by
          cases A with
          | none => simp [Builtin.append_, run_underlying ht, sizeOf, typeInfo, hti, Builtin.lenOf, hf]
          | some a => simp [Builtin.append_, run_underlying ht, sizeOf, typeInfo, hti, Builtin.lenOf, hf, storeCells]
        obtain ⟨m', Fs', h1, h2, h3⟩ := h.regrow hl hmi hi hd (Rewrite.refl b w) (xs' := xs.take 0 ++ []) (vs' := []) (F' := []) (o' := o) (by simpa using Even.nil _) (by simp) List.nodup_nil
          (by obtain ⟨c1, ty1, hb1, _, hl1⟩ := hex; exact ⟨c1, ty1, hb1, fun j v hj => by simp at hj, by simp; omega⟩) (fun _ _ _ _ => by simp [flat]; exact .nil)
        exact ⟨_, _, _, hq, hr, m', Fs', h1, h2, fun h => (Bool.false_ne_true h).elim, .sl0 A⟩
      · exact grows A 0 (by omega) (.inl (by simp))
    | sl hm hnc hcx =>
      rename_i b1 o1 s1 cap
      rw [hmi] at hm
      cases hm
      rw [Nat.zero_mul, Nat.add_zero] at hcx
      rw [Nat.zero_mul, Nat.add_zero]
      by_cases hroom : n + es.length ≤ cap
      · -- in place
        obtain ⟨cur, ety, hcur, _, hlim⟩ := hcx
        obtain ⟨cur2, ety2, hcur2, hat, hsz⟩ := hex
        rw [hcur] at hcur2
        cases hcur2
        have hfit : o + n * ti.size + news.length ≤ cur.size := by
          rw [hln, Nat.add_assoc, ← Nat.add_mul]
          have := Nat.mul_le_mul_right ti.size hroom
          omega
        have hr := run_append_fits (P := P) (w := w) (ty := ty) ht hti (B := B) (g := b) (o := o) (sLen := n) (sCap := cap) (n := es.length) (c := c) hcur hln hcn hoks hroom hfit
        have hcs : (cur.toList.take (o + n * ti.size) ++ news ++ cur.toList.drop (o + n * ti.size + news.length)).toArray.size = cur.size := by simp; omega
        have hrw := rewrite_setRow (w := w) (cs := (cur.toList.take (o + n * ti.size) ++ news ++ cur.toList.drop (o + n * ti.size + news.length)).toArray) hcur hcs
        have hnewc := setRow_heap w b cur (cur.toList.take (o + n * ti.size) ++ news ++ cur.toList.drop (o + n * ti.size + news.length)).toArray ety (0, 0) hcur
        have hnotb : ∀ y ∈ F1, y ≠ b := fun y hy e => by
          have := h.nodup id
          rw [blocksOf_some hmi] at this
          exact (List.nodup_cons.1 this).1 (e ▸ hF1 y hy)
        obtain ⟨m', Fs', h1, h2, h3⟩ := h.regrow hl hmi hi hd hrw (xs' := xs.take n ++ es) (vs' := vs.take (n * ti.size) ++ news) (F' := F1) (o' := o) hev' hF1 hnd1
          ⟨_, ety, hnewc, fun j v hj => by
              rw [List.getElem?_append] at hj
              simp only [List.getElem?_toArray]
              rw [List.append_assoc, List.getElem?_append]
              split at hj
              · rename_i hjl
                rw [hlen'] at hjl
                rw [if_pos (by rw [List.length_take]; simp; omega), List.getElem?_take, if_pos (by omega)]
                have := hat j v (by rw [List.getElem?_take, if_pos hjl] at hj; exact hj)
                simpa using this
              · rename_i hjl
                rw [hlen'] at hjl hj
                have hjn : j - n * ti.size < news.length := by
                  rcases Nat.lt_or_ge (j - n * ti.size) news.length with h' | h'
                  · exact h'
                  · rw [List.getElem?_eq_none h'] at hj; cases hj
                have ht' : (cur.toList.take (o + n * ti.size)).length = o + n * ti.size := by rw [List.length_take]; simp; omega
                rw [if_neg (by rw [ht']; omega), ht', List.getElem?_append, if_pos (by omega)]
                rw [show o + j - (o + n * ti.size) = j - n * ti.size by omega]; exact hj,
            by rw [List.length_append, hlen']; rw [hcs]; omega⟩
          (fun m2 d2 X2 C => RelL.carry C hrn' (fun y hy => hrw.block y (hnotb y hy)))
        refine ⟨_, _, _, hq, hr, m', Fs', h1, h2, fun h => (Bool.false_ne_true h).elim, ?_⟩
        have := RelV.sl (w := w.setRow b (cur.toList.take (o + n * ti.size) ++ news ++ cur.toList.drop (o + n * ti.size + news.length)).toArray) (d := fun t => d t ∨ t = id)
          (X := XOf Y m' Fs') (off := 0) (n := n + es.length) (cap := cap) h3 hroom ⟨_, ety, hnewc, fun j v hj => by simp at hj, by rw [hcs, Nat.zero_mul, Nat.add_zero]; exact hlim⟩
        simp only [Nat.zero_mul, Nat.add_zero] at this
        show RelV _ m' _ _ (.sl i 0 (xs.take n ++ es).length) _ []
        rw [htk]; exact this
      · refine grows _ cap (by omega) (.inr ⟨b, o, rfl, ?_⟩)
        exact hex.at.take
  | _ => simp [weffAppend] at hw
end
end Go.Abs
namespace Go.Abs
open Go Go.RowKit
section
variable {P : Program} {Y : Nat → Prop} {w0 : World} {F0 : List Nat} {live : Live} {d : Nat → Prop} {m : IdMap} {Fs : Nat → List Nat} {w : World} {i : Nat} {Q : Eff → Prop}
theorem guard_int {op : BinOp} {t : TypeId} {x y : Operand} {k k' : IntKind} {a b : Int} : (eqGuard op t x y (.int k a) (.int k' b)).run P w = .ok () w := by
  cases op <;> simp [eqGuard]
theorem guard_str {op : BinOp} {t : TypeId} {x y : Operand} {a b : ByteArray} : (eqGuard op t x y (.string a) (.string b)).run P w = .ok () w := by
  cases op <;> simp [eqGuard]
theorem guard_bool {op : BinOp} {t : TypeId} {x y : Operand} {a b : Bool} : (eqGuard op t x y (.bool a) (.bool b)).run P w = .ok () w := by
  cases op <;> simp [eqGuard]
theorem s_bin (h : RelW Y w0 F0 live d m Fs w) {op : BinOp} {t : TypeId} {ox oy : Operand} {x y : AV} {v u : Value} 
    (hx : R Y w m d Fs x v) (hy : R Y w m d Fs y u) (hw : weff live (.bin op) [x, y] Q) :
    ValGoal P Y w0 F0 live d m Fs w i (do eqGuard op t ox oy v u; binOp op t v u) Q := by
  simp only [weff] at hw
  split at hw
  case h_2 => exact hw.elim
  rename_i r hr
  cases x with
  | int k a =>
    cases y with
    | int k' b =>
      cases hx; cases hy
      have hg : (eqGuard op t ox oy (.int k a) (.int k' b)).run P w = .ok () w := guard_int
      have key : ∀ z, R Y w m d Fs r z → (binOp op t (.int k a) (.int k' b)).run P w = .ok z w → ValGoal P Y w0 F0 live d m Fs w i (do eqGuard op t ox oy (.int k a) (.int k' b); binOp op t (.int k a) (.int k' b)) Q :=
        fun z hz hrun => .val h hw (by simp only [Sem.run_bind, hg, Result.andThen_ok, hrun]) hz
      by_cases hkk : k = k'
      · subst hkk
        cases op <;> simp [binV, intBin] at hr
        case quo =>
          obtain ⟨hb0, rfl⟩ := hr
          exact key _ (.int _ _) (by simp [binOp, Op.intDiv, hb0])
        case rem =>
          obtain ⟨hb0, rfl⟩ := hr
          exact key _ (.int _ _) (by simp [binOp, Op.intDiv, hb0])
        case shl =>
          obtain ⟨hb0, rfl⟩ := hr
          exact key _ (.int _ _) (by simp [binOp, Op.shift, Int.not_lt.2 hb0])
        case shr =>
          obtain ⟨hb0, rfl⟩ := hr
          exact key _ (.int _ _) (by simp [binOp, Op.shift, Int.not_lt.2 hb0])
        all_goals
          subst hr
          first
            | exact key _ (.int _ _) (by simp [binOp, Op.intArith, Op.intBits])
            | exact key _ (.bool _) (by simp [binOp, Op.intCmp])
      · cases op <;> simp [binV, hkk] at hr
        case shl =>
          obtain ⟨hb0, rfl⟩ := hr
          exact key _ (.int _ _) (by simp [binOp, Op.shift, Int.not_lt.2 hb0])
        case shr =>
          obtain ⟨hb0, rfl⟩ := hr
          exact key _ (.int _ _) (by simp [binOp, Op.shift, Int.not_lt.2 hb0])
    | _ => simp [binV] at hr
  | str a =>
    cases y with
    | str b =>
      cases hx; cases hy
      have hg : (eqGuard op t ox oy (.string a) (.string b)).run P w = .ok () w := guard_str
      have key : ∀ z, R Y w m d Fs r z → (binOp op t (.string a) (.string b)).run P w = .ok z w → ValGoal P Y w0 F0 live d m Fs w i (do eqGuard op t ox oy (.string a) (.string b); binOp op t (.string a) (.string b)) Q :=
        fun z hz hrun => .val h hw (by simp only [Sem.run_bind, hg, Result.andThen_ok, hrun]) hz
      cases op <;> simp [binV, strBin] at hr
      case add =>
        obtain ⟨h1, rfl⟩ := hr
        exact key _ (.str _) (by simp [binOp, Op.stringOp, Int.not_lt.2 h1])
      all_goals
        subst hr
        exact key _ (.bool _) (by simp [binOp, Op.stringOp])
    | _ => simp [binV] at hr
  | _ => cases y <;> simp [binV] at hr
theorem s_binB (h : RelW Y w0 F0 live d m Fs w) {op : BinOp} {neg : Bool} (hop : (op = .eql ∧ neg = false) ∨ (op = .neq ∧ neg = true)) {t : TypeId} (hu : P.underlying t = some .bool) {ox oy : Operand} {x y : AV} {v u : Value}
    (hx : R Y w m d Fs x v) (hy : R Y w m d Fs y u) (hw : weff live (.binB neg) [x, y] Q) :
    ValGoal P Y w0 F0 live d m Fs w i (do eqGuard op t ox oy v u; binOp op t v u) Q := by
  cases x <;> cases y <;> simp [weff] at hw
  rename_i a b
  cases hx; cases hy
  have he : (Op.equal t (.bool a) (.bool b)).run P w = .ok (a == b) w := run_equalIn_bool' w _ t a b hu
  rcases hop with ⟨rfl, rfl⟩ | ⟨rfl, rfl⟩
  · exact .val h hw (by simp only [binOp, Sem.run_bind, guard_bool, he, Result.andThen_ok, Sem.run_pure]; rfl) (.bool _)
  · exact .val h hw (by simp only [binOp, Sem.run_bind, guard_bool, he, Result.andThen_ok, Sem.run_pure]; rfl) (.bool _)
def plainFields (P : Program) : Nat → List Field → Option (List Nat)
  | _, [] => some []
  | j, f :: fs => if f.offset = j ∧ f.name ≠ "_" then
      match P.underlying f.type, plainFields P (j + 1) fs with
      | some .bool, some ks => some (0 :: ks)
      | some (.int _), some ks => some (1 :: ks)
      | some .string, some ks => some (2 :: ks)
      | _, _ => none
    else none
theorem run_eqFields {fs : List Field} : ∀ {j : Nat} {ks : List Nat} {as bs : List AV} {vs us : List Value} {e : Bool}, plainFields P j fs = some ks → RelL w m d (XOf Y m Fs) as vs [] → RelL w m d (XOf Y m Fs) bs us [] →
    eqCells ks (as.drop j) (bs.drop j) = some e → (Op.eqFields 9999 vs.toArray us.toArray fs).run P w = .ok e w := by
  induction fs with
  | nil =>
    intro j ks as bs vs us e hp ha hb he
    simp [plainFields] at hp
    subst hp
    cases h1 : as.drop j with
    | nil => cases h2 : bs.drop j with
      | nil => rw [h1, h2] at he; simp [eqCells] at he; subst he; simp [Op.eqFields]
      | cons b bs => rw [h1, h2] at he; simp [eqCells] at he
    | cons a as => rw [h1] at he; simp [eqCells] at he
  | cons f fs ih =>
    intro j ks as bs vs us e hp ha hb he
    simp only [plainFields] at hp
    split at hp
    case isFalse => cases hp
    rename_i hfn
    obtain ⟨ho, hn⟩ := hfn
    have main : ∀ k ks', plainFields P (j + 1) fs = some ks' → (∀ a b e1 v u, as[j]? = some a → bs[j]? = some b → eqCell k a b = some e1 → R Y w m d Fs a v → R Y w m d Fs b u → (Op.equalIn 9999 f.type v u).run P w = .ok e1 w) →
        (isAgg f.type).run P w = .ok false w → eqCells (k :: ks') (as.drop j) (bs.drop j) = some e → (Op.eqFields 9999 vs.toArray us.toArray (f :: fs)).run P w = .ok e w := by
      intro k ks' hks heq hag he
      cases h1 : as.drop j with
      | nil => rw [h1] at he; simp [eqCells] at he
      | cons a as' =>
        cases h2 : bs.drop j with
        | nil => rw [h1, h2] at he; simp [eqCells] at he
        | cons b bs' =>
          rw [h1, h2] at he
          simp only [eqCells] at he
          split at he
          case h_2 => cases he
          rename_i e1 he1
          split at he
          case h_2 => cases he
          rename_i e2 he2
          cases he
          have ga : as[j]? = some a := by have := congrArg (·[0]?) h1; simpa using this
          have gb : bs[j]? = some b := by have := congrArg (·[0]?) h2; simpa using this
          obtain ⟨v0, G1, hv, hra, hG1⟩ := ha.get ga
          obtain ⟨u0, G2, hu, hrb, hG2⟩ := hb.get gb
          obtain rfl : G1 = [] := List.eq_nil_iff_forall_not_mem.2 fun x hx => by cases hG1 x hx
          obtain rfl : G2 = [] := List.eq_nil_iff_forall_not_mem.2 fun x hx => by cases hG2 x hx
          have hpart : ∀ (xs : List Value) (x0 : Value), xs[j]? = some x0 → (part f.type xs.toArray f.offset).run P w = .ok x0 w := by
            intro xs x0 hx0
            simp [part, Sem.run_bind, hag, ho, hx0]
          have he' := heq a b e1 v0 u0 ga gb he1 hra hrb
          have hrest := ih (j := j + 1) hks ha hb (e := e2) (by rw [← List.tail_drop, h1, ← List.tail_drop, h2]; exact he2)
          simp only [Op.eqFields, if_pos hn, Sem.run_bind, hpart vs v0 hv, hpart us u0 hu, Result.andThen_ok, he']
          cases e1
          · simp
          · simpa using hrest
    split at hp
    · rename_i ks' hD hks; cases hp
      refine main 0 ks' hks ?_ ?_ he
      · intro a b e1 v u _ _ h1 h2 h3
        cases a <;> cases b <;> simp [eqCell] at h1
        cases h2; cases h3; subst h1
        exact run_equalIn_bool' w _ _ _ _ hD
      · exact run_isAgg_single hD rfl w
    · rename_i k0 ks' hD hks; cases hp
      refine main 1 ks' hks ?_ ?_ he
      · intro a b e1 v u _ _ h1 h2 h3
        cases a <;> cases b <;> simp [eqCell] at h1
        obtain ⟨rfl, rfl⟩ := h1
        cases h2; cases h3
        exact run_equalIn_int w _ _ _ _ _ _ hD
      · exact run_isAgg_single hD rfl w
    · rename_i ks' hD hks; cases hp
      refine main 2 ks' hks ?_ ?_ he
      · intro a b e1 v u _ _ h1 h2 h3
        cases a <;> cases b <;> simp [eqCell] at h1
        cases h2; cases h3; subst h1
        exact run_equalIn_string w _ _ _ _ hD
      · exact run_isAgg_single hD rfl w
    · cases hp
theorem s_eqs (h : RelW Y w0 F0 live d m Fs w) {op : BinOp} {neg : Bool} (hop : (op = .eql ∧ neg = false) ∨ (op = .neq ∧ neg = true)) {t : TypeId} {fs : Array Field} (ht : P.underlying t = some (.struct fs)) (hp : P.stoodInHeld t = false)
    (hg : P.eqGuardType P.depth t = false) {ks : List Nat} (hks : plainFields P 0 fs.toList = some ks) {ox oy : Operand} {x y : AV} {v u : Value}
    (hx : R Y w m d Fs x v) (hy : R Y w m d Fs y u) (hw : weff live (.eqs neg ks) [x, y] Q) :
    ValGoal P Y w0 F0 live d m Fs w i (do eqGuard op t ox oy v u; binOp op t v u) Q := by
  cases x with
  | agg cs =>
    cases y with
    | agg ds =>
      simp only [weff] at hw
      split at hw
      case h_2 => exact hw.elim
      rename_i e he
      cases hx with
      | agg hx =>
        rename_i vs
        cases hy with
        | agg hy =>
          rename_i us
          have hf : P.fieldsOf t = fs := by simp [Program.fieldsOf, ht]
          have he' : (Op.equalIn 10000 t (.agg vs.toArray) (.agg us.toArray)).run P w = .ok e w := by
            rw [run_equalIn_struct w 9999 t _ _ (by rw [hf]; exact ht) hp, hf]
            exact run_eqFields hks hx hy he
          have hgd := run_eqGuard_agg (P := P) w op t ox oy vs.toArray us.toArray hg
          rcases hop with ⟨rfl, rfl⟩ | ⟨rfl, rfl⟩
          · exact .val h hw (by simp only [Sem.run_bind, hgd, Result.andThen_ok, run_eql_struct, he']; rfl) (.bool _)
          · exact .val h hw (by simp only [Sem.run_bind, hgd, Result.andThen_ok, run_neq_struct, he']; rfl) (.bool _)
    | _ => simp [weff] at hw
  | _ => simp [weff] at hw
end
end Go.Abs
namespace Go.Abs
open Go Go.RowKit
section
variable {P : Program} {Y : Nat → Prop} {w0 : World} {F0 : List Nat} {live : Live} {d : Nat → Prop} {m : IdMap} {Fs : Nat → List Nat} {w : World} {i : Nat} {Q : Eff → Prop}
theorem setCells_eq : ∀ (us cs : List AV) (j : Nat), j + us.length ≤ cs.length → setCells cs j us = cs.take j ++ us ++ cs.drop (j + us.length) := by
  intro us
  induction us with
  | nil => intro cs j _; simp [setCells]
  | cons u us ih =>
    intro cs j hj
    simp only [List.length_cons] at hj
    simp only [setCells]
    rw [ih _ _ (by simp; omega)]
    have e1 : (cs.set j u).take (j + 1) = cs.take j ++ [u] := by
      rw [List.set_eq_take_append_cons_drop, if_pos (by omega), List.take_append, List.length_take, Nat.min_eq_left (by omega)]
      rw [List.take_take, Nat.min_eq_right (by omega), show j + 1 - j = 1 by omega]
      rfl
    have e2 : (cs.set j u).drop (j + 1 + us.length) = cs.drop (j + 1 + us.length) := by
      rw [List.drop_set_of_lt (by omega)]
    rw [e1, e2]
    simp [Nat.add_assoc, Nat.add_comm 1]
theorem elem_setCells {x : AV} {j : Nat} {us : List AV} (hj : j + us.length ≤ x.cells.length) (ok : ∀ u ∈ us, okC live u = true) :
    (x.setCells j us).cells = x.cells.take j ++ us ++ x.cells.drop (j + us.length) := by
  cases x with
  | agg cs => simp only [AV.setCells, AV.cells]; exact setCells_eq us cs j hj
  | _ =>
    have hj' : j + us.length ≤ 1 := hj
    cases us with
    | nil =>
      rw [List.length_nil, Nat.add_zero, List.append_nil, List.take_append_drop]
      rfl
    | cons u us =>
      have hl : us = [] := List.eq_nil_of_length_eq_zero (by simp at hj'; omega)
      subst hl
      have hj0 : j = 0 := by simp at hj'; omega
      subst hj0
      exact okC_cells (ok u (by simp))
theorem setCell_setCells {x : AV} {j : Nat} (v : AV) (hj : j < x.cells.length) : x.setCell j v = x.setCells j [v] := by
  cases x <;> rfl
theorem seg_set {l us : List AV} {k j n s : Nat} (hk : k + s ≤ l.length) (hj : j + us.length ≤ s) :
    l.take k ++ (((l.drop k).take s).take j ++ us ++ ((l.drop k).take s).drop (j + us.length)) ++ l.drop (k + s) = l.take (k + j) ++ us ++ l.drop (k + j + us.length) := by
  have e1 : ((l.drop k).take s).take j = (l.drop k).take j := by rw [List.take_take, Nat.min_eq_left (by omega)]
  have e2 : l.take k ++ (l.drop k).take j = l.take (k + j) := by rw [List.take_add]
  have e3 : ((l.drop k).take s).drop (j + us.length) ++ l.drop (k + s) = l.drop (k + j + us.length) := by
    have h1 : ((l.drop k).take s).drop (j + us.length) = (l.drop (k + j + us.length)).take (s - (j + us.length)) := by
      rw [List.drop_take, List.drop_drop]; congr 2; omega
    have h2 : l.drop (k + s) = (l.drop (k + j + us.length)).drop (s - (j + us.length)) := by rw [List.drop_drop]; congr 1; omega
    rw [h1, h2, List.take_append_drop]
  rw [e1, List.append_assoc, List.append_assoc, List.append_assoc, e3, ← List.append_assoc, e2, List.append_assoc]
theorem s_store (h : RelW Y w0 F0 live d m Fs w) {t : TypeId} {ti : TypeInfo} (hti : P.info? t = some ti) {x : AV} {p u : Value} {id a j s : Nat} {xs us : List AV} (hx : x = .ptr id a j) (hp : R Y w m d Fs x p) (hl : live id = some (s, xs))
    (ha : a < xs.length) (hj : j + us.length ≤ (xs.getD a .undef).cells.length) (hok : ∀ y ∈ us, okC live y = true) (hu : RelL w m d (XOf Y m Fs) us u.cells.toList []) (hsz : us.length = ti.size) :
    ∃ w', (Instr.storeAt t p u).run P w = .ok () w' ∧ EffRes Y w0 F0 live d m Fs w i (.upd id s (xs.set a ((xs.getD a .undef).setCells j us))) Go.undef w' := by
  subst hx
  cases hp with
  | ptrDead _ hdd => rw [h.ddom _ hdd] at hl; cases hl
  | ptr hm =>
    rename_i b o s'
    obtain ⟨rfl, hev, vs, hex, hr⟩ := h.cells _ _ _ _ _ _ hl hm
    have hcl : (xs.getD a .undef).cells.length = s' := hev _ (getD_mem ha)
    have hfl := flat_length hev
    have hvl : vs.length = xs.length * s' := by rw [← hr.length, hfl]
    have hk : a * s' + s' ≤ xs.length * s' := by rw [← Nat.succ_mul]; exact Nat.mul_le_mul_right _ ha
    obtain ⟨cur, ety, hcur, hat, hlim⟩ := hex
    have hul : u.cells.toList.length = us.length := hu.length.symm
    have h1c : ∀ v ∈ u.cells.toList, v.oneCell' = true := okC_all h hu (List.all_eq_true.2 hok)
    have hst := run_storeCells_at P b (o + a * s' + j) ety u.cells.toList 0 cur w hcur (by rw [hul]; omega) h1c
    simp only [Nat.add_zero] at hst
    have hrun : (Instr.storeAt t (.pointer (some ⟨b, o + a * s' + j, none⟩)) u).run P w = .ok () (w.setRow b (cur.toList.take (o + a * s' + j) ++ u.cells.toList ++ cur.toList.drop (o + a * s' + j + u.cells.toList.length)).toArray) := by
      have hsz' : u.cells.size = ti.size := by rw [← hsz, ← hul]; simp
      simp only [Instr.storeAt, Instr.sureAddr, storeVar, sizeOf, typeInfo, Sem.run_bind, Sem.run_pure, run_program, Result.andThen_ok, hti]
      simp [hsz', hst]
    have hcs : (cur.toList.take (o + a * s' + j) ++ u.cells.toList ++ cur.toList.drop (o + a * s' + j + u.cells.toList.length)).toArray.size = cur.size := by simp; simp at hul; omega
    have hrw := rewrite_setRow (w := w) (cs := (cur.toList.take (o + a * s' + j) ++ u.cells.toList ++ cur.toList.drop (o + a * s' + j + u.cells.toList.length)).toArray) hcur hcs
    have hnewc := setRow_heap w b cur (cur.toList.take (o + a * s' + j) ++ u.cells.toList ++ cur.toList.drop (o + a * s' + j + u.cells.toList.length)).toArray ety (0, 0) hcur
    have hecl : ((xs.getD a .undef).setCells j us).cells.length = s' := by
      rw [elem_setCells hj hok, List.length_append, List.length_append, List.length_take, List.length_drop]; omega
    have hflat : flat (xs.set a ((xs.getD a .undef).setCells j us)) = (flat xs).take (a * s' + j) ++ us ++ (flat xs).drop (a * s' + j + us.length) := by
      rw [flat_set hev ha hecl, elem_setCells hj hok, ← flat_at hev ha, seg_set (n := 0) (by omega) (by omega)]
    obtain ⟨F1, F2, hF, hr1, hr2⟩ := hr.take (a * s' + j)
    obtain ⟨G1, G2, hG, hr3, hr4⟩ := hr2.take us.length
    rw [List.drop_drop] at hr4
    rw [List.drop_drop] at hr4
    have hnew : RelL w m d (XOf Y m Fs) (flat (xs.set a ((xs.getD a .undef).setCells j us))) (vs.take (a * s' + j) ++ u.cells.toList ++ vs.drop (a * s' + j + us.length)) (F1 ++ G2) := by
      rw [hflat]
      have := (hr1.append hu).append hr4
      rwa [List.append_nil] at this
    have hsub : List.Sublist (F1 ++ G2) (Fs id) := by
      rw [hF, hG]
      exact List.Sublist.append (.refl _) (List.sublist_append_right _ _)
    have hndF : (Fs id).Nodup := by
      have := h.nodup id
      rw [blocksOf_some hm] at this
      exact (List.nodup_cons.1 this).2
    have hnotb : ∀ y ∈ F1 ++ G2, y ≠ b := fun y hy e => by
      have := h.nodup id
      rw [blocksOf_some hm] at this
      exact (List.nodup_cons.1 this).1 (e ▸ hsub.subset hy)
    have hXsub : ∀ y, XOf Y m (upd Fs id (F1 ++ G2)) y → XOf Y m Fs y := by
      intro y hy0
      rcases hy0 with hy0 | ⟨id', hy⟩
      · exact .inl hy0
      by_cases e : id' = id
      · subst e
        rw [blocksOf_some hm, upd_same] at hy
        refine .inr ⟨id', ?_⟩
        rw [blocksOf_some hm]
        rcases List.mem_cons.1 hy with rfl | hy
        · exact List.mem_cons_self ..
        · exact List.mem_cons_of_mem _ (hsub.subset hy)
      · exact .inr ⟨id', by rwa [blocksOf_congr (m := m) (m' := m) (Fs := Fs) rfl (upd_ne _ _ e)] at hy⟩
    have key := h.rewrite hl hm hrw (xs' := xs.set a ((xs.getD a .undef).setCells j us)) (vs' := vs.take (a * s' + j) ++ u.cells.toList ++ vs.drop (a * s' + j + us.length)) (F' := F1 ++ G2)
      (hev.set hecl) (fun y hy => hsub.subset hy) (hndF.sublist hsub)
      ⟨_, ety, hnewc, fun k v hk' => by
          simp only [List.getElem?_toArray]
          have e1 : (vs.take (a * s' + j)).length = a * s' + j := by rw [List.length_take]; omega
          have e2 : (cur.toList.take (o + a * s' + j)).length = o + a * s' + j := by rw [List.length_take]; simp; omega
          rw [List.append_assoc, List.getElem?_append] at hk'
          rw [List.append_assoc, List.getElem?_append]
          split at hk'
          · rename_i hlt
            rw [e1] at hlt
            rw [if_pos (by rw [e2]; omega), List.getElem?_take, if_pos (by omega)]
            rw [List.getElem?_take, if_pos hlt] at hk'
            simpa using hat k v hk'
          · rename_i hge
            rw [e1] at hge hk'
            rw [if_neg (by rw [e2]; omega), e2, show o + k - (o + a * s' + j) = k - (a * s' + j) by omega]
            rw [List.getElem?_append] at hk'
            rw [List.getElem?_append]
            split at hk'
            · rename_i hlt2
              rw [if_pos hlt2]; exact hk'
            · rename_i hge2
              rw [if_neg hge2]
              rw [List.getElem?_drop] at hk'
              rw [List.getElem?_drop, hul]
              rw [hul] at hk' hge2
              have := hat _ v hk'
              rw [show o + a * s' + j + us.length + (k - (a * s' + j) - us.length) = o + (a * s' + j + us.length + (k - (a * s' + j) - us.length)) by omega]
              simpa using this,
        by rw [hcs]; simp only [List.length_append, List.length_take, List.length_drop, hul]; omega⟩
      (fun C => RelL.carry C hnew (fun y hy => hrw.block y (hnotb y hy)))
    exact ⟨_, hrun, _, _, key.1, key.2, fun h => (Bool.false_ne_true h).elim, .undef _⟩
theorem s_store1 (h : RelW Y w0 F0 live d m Fs w) {t : TypeId} {ti : TypeInfo} (hti : P.info? t = some ti) (h1 : ti.size = 1) {x y : AV} {p u : Value} (hx : R Y w m d Fs x p) (hy : R Y w m d Fs y u)
    (hw : weff live .store1 [x, y] Q) : ∃ e w', Q e ∧ (Instr.storeAt t p u).run P w = .ok () w' ∧ EffRes Y w0 F0 live d m Fs w i e Go.undef w' := by
  cases x with
  | ptr id a j =>
    simp only [weff] at hw
    split at hw
    case h_2 => exact hw.elim
    rename_i s xs hl
    obtain ⟨h2, h3, h4, hq⟩ := hw
    have hu : RelL w m d (XOf Y m Fs) [y] u.cells.toList [] := by
      have := okV_cells h hy (okC_okV h4)
      rwa [okC_cells h4] at this
    obtain ⟨w', hr, he⟩ := s_store (i := i) h hti rfl hx hl h2 (us := [y]) h3 (by simpa using h4) hu (by rw [h1]; rfl)
    exact ⟨_, w', hq, hr, by rw [setCell_setCells _ h3]; exact he⟩
  | _ => simp [weff] at hw
theorem s_storeN (h : RelW Y w0 F0 live d m Fs w) {t : TypeId} {ti : TypeInfo} (hti : P.info? t = some ti) {x y : AV} {p u : Value} (hx : R Y w m d Fs x p) (hy : R Y w m d Fs y u)
    (hw : weff live (.storeN ti.size) [x, y] Q) : ∃ e w', Q e ∧ (Instr.storeAt t p u).run P w = .ok () w' ∧ EffRes Y w0 F0 live d m Fs w i e Go.undef w' := by
  cases x with
  | ptr id a j =>
    cases y with
    | agg us =>
      simp only [weff] at hw
      split at hw
      case h_2 => exact hw.elim
      rename_i s xs hl
      obtain ⟨h2, h3, h4, h5, hq⟩ := hw
      obtain ⟨w', hr, he⟩ := s_store (i := i) h hti rfl hx hl h2 (us := us) (by omega) h5 (okV_cells h hy rfl) h3
      exact ⟨_, w', hq, hr, he⟩
    | _ => simp [weff] at hw
  | _ => simp [weff] at hw
theorem zipIdx_fold (us : List AV) : ∀ (vs : List Value) (F : List Nat) (cs : List AV) (ws : List Value) (off k : Nat), RelL w m d (XOf Y m Fs) us vs F → F = [] → RelL w m d (XOf Y m Fs) cs ws [] →
    ∃ ws', (vs.toArray.zipIdx k).foldl (fun c (x : Value × Nat) => c.setIfInBounds (off + x.2) x.1) ws.toArray = ws'.toArray ∧ RelL w m d (XOf Y m Fs) (setCells cs (off + k) us) ws' [] := by
  intro vs F cs ws off k hu hF hc
  have key : ∀ (us : List AV) (vs : List Value) (F : List Nat) (cs : List AV) (ws : List Value) (k : Nat), RelL w m d (XOf Y m Fs) us vs F → F = [] → RelL w m d (XOf Y m Fs) cs ws [] →
      ∃ ws', (vs.zipIdx k).foldl (fun c (x : Value × Nat) => c.setIfInBounds (off + x.2) x.1) ws.toArray = ws'.toArray ∧ RelL w m d (XOf Y m Fs) (setCells cs (off + k) us) ws' [] := by
    intro us
    induction us with
    | nil => intro vs F cs ws k hu hF hc; cases hu; exact ⟨ws, rfl, hc⟩
    | cons u us ih =>
      intro vs F cs ws k hu hF hc
      cases hu with
      | cons h1 h2 =>
        obtain ⟨rfl, rfl⟩ := nil_split hF
        obtain ⟨F', hs, hc'⟩ := hc.set (k := off + k) h1
        obtain rfl := List.sublist_nil.1 hs
        obtain ⟨ws', e, r⟩ := ih _ _ (cs.set (off + k) u) (ws.set (off + k) _) (k + 1) h2 rfl hc'
        refine ⟨ws', ?_, by simpa [setCells, Nat.add_assoc] using r⟩
        rw [List.zipIdx_cons, List.foldl_cons]
        rw [← e]
        congr 1
        simp
  obtain ⟨ws', e, r⟩ := key us vs F cs ws k hu hF hc
  refine ⟨ws', ?_, r⟩
  rw [← e]
  rw [← Array.foldl_toList]
  simp
theorem rel_fill (h : RelW Y w0 F0 live d m Fs w) (place : Nat → Option (Nat × Nat)) : ∀ (xs : List AV) (idx : List Nat) (vs : List Value) (F : List Nat) (cs : List AV) (ws : List Value) (offs : List (Nat × Nat)) (r : List AV),
    idx.length = xs.length → idx.map place = offs.map some → RelL w m d (XOf Y m Fs) xs vs F → F = [] → (∀ x ∈ xs, okV live x = true) → RelL w m d (XOf Y m Fs) cs ws [] →
    fillA cs (offs.zipWith (fun p x => (p.1, p.2, x)) xs) = some r →
    ∃ ws', Instr.fill place ws.toArray (idx.zip vs) = some ws'.toArray ∧ RelL w m d (XOf Y m Fs) r ws' [] := by
  intro xs
  induction xs with
  | nil =>
    intro idx vs F cs ws offs r hl hp hx hF ok hc hf
    cases hx
    have : idx = [] := List.eq_nil_of_length_eq_zero (by simpa using hl)
    subst this
    simp [fillA] at hf
    subst hf
    exact ⟨ws, by simp [Instr.fill], hc⟩
  | cons x xs ih =>
    intro idx vs F cs ws offs r hl hp hx hF ok hc hf
    cases idx with
    | nil => simp at hl
    | cons k idx =>
      cases offs with
      | nil => simp at hp
      | cons o offs =>
        obtain ⟨off, n⟩ := o
        simp only [List.map_cons, List.cons.injEq] at hp
        obtain ⟨hpl, hp⟩ := hp
        cases hx with
        | cons h1 h2 =>
          rename_i v F1 vs G1
          obtain ⟨rfl, rfl⟩ := nil_split hF
          simp only [List.zipWith_cons_cons, fillA] at hf
          split at hf
          case isFalse => cases hf
          rename_i hcond
          obtain ⟨hn, hfit⟩ := hcond
          have hcells := okV_cells h h1 (ok x (by simp))
          have hcl : v.cells.size = x.cells.length := by have := hcells.length; simpa using this.symm
          have hwl : ws.toArray.size = cs.length := by have := hc.length; simpa using this.symm
          obtain ⟨ws1, e1, r1⟩ := zipIdx_fold x.cells v.cells.toList [] cs ws off 0 hcells rfl hc
          obtain ⟨ws2, e2, r2⟩ := ih idx vs [] (setCells cs off x.cells) ws1 offs r (by simpa using hl) hp h2 rfl (fun y hy => ok y (by simp [hy])) (by simpa using r1) hf
          refine ⟨ws2, ?_, r2⟩
          simp only [List.zip_cons_cons, Instr.fill, hpl]
          rw [if_neg (by simp [hcl, hn, hwl]; omega)]
          rw [Array.toArray_toList] at e1
          have e1' : (v.cells.zipIdx).foldl (fun cs (x : Value × Nat) => match x with | (c, j) => cs.setIfInBounds (off + j) c) ws.toArray = ws1.toArray := e1
          rw [e1']; exact e2
end
end Go.Abs
namespace Go.Abs
open Go Go.RowKit
section
variable {P : Program} {Y : Nat → Prop} {w0 : World} {F0 : List Nat} {live : Live} {d : Nat → Prop} {m : IdMap} {Fs : Nat → List Nat} {w : World} {i : Nat} {Q : Eff → Prop}
theorem s_build (h : RelW Y w0 F0 live d m Fs w) {t : TypeId} {fs : Array Field} (ht : P.underlying t = some (.struct fs)) {T : Ty} (hT : tyOf P t = some T) {places : List (Nat × Nat)}
    (hpl : fs.toList.mapM (fun f => (P.info? f.type).map fun i => (f.offset, i.size)) = some places) {idx : List Nat} {offs : List (Nat × Nat)} (ho : idx.map (places.toArray[·]?) = offs.map some) {xs : List AV} {vs : List Value}
    (hx : RelL w m d (XOf Y m Fs) xs vs []) (hl : idx.length = xs.length) (hw : weff live (.build T.zero.cells offs) xs Q) : ValGoal P Y w0 F0 live d m Fs w i (Instr.build t (idx.zip vs).toArray) Q := by
  obtain ⟨D, ti, z, hu, hti, hz, hzs, _, _, _, hzero⟩ := tyOf_spec hT
  simp only [weff] at hw
  split at hw
  case h_2 => exact hw.elim
  rename_i r hr
  obtain ⟨_, hok, hq⟩ := hw
  have hzr : RelL w m d (XOf Y m Fs) T.zero.cells z.cells.toList [] := by rw [hzero]; exact rel_ofVal_cells z
  obtain ⟨ws, e, rr⟩ := rel_fill h (places.toArray[·]?) xs idx vs [] T.zero.cells z.cells.toList offs r hl ho hx rfl hok hzr hr
  rw [Array.toArray_toList] at e
  refine .val h hq (run_build w t _ ws.toArray ?_) (.agg rr)
  unfold Program.built
  rw [hti, ht]
  simp only [hz, hpl]
  exact e
theorem flat_replicate {z : AV} {n : Nat} : flat (List.replicate n z) = (List.replicate n z.cells).flatten := by
  induction n with
  | zero => rfl
  | succ n ih => rw [List.replicate_succ, flat_cons, ih, List.replicate_succ, List.flatten_cons]
theorem made_flatten (z : Array Value) : ∀ n : Nat, (madeCells z (n * z.size)).toList = (List.replicate n z.toList).flatten := by
  intro n
  induction n with
  | zero => simp [madeCells]
  | succ n ih =>
    rw [List.replicate_succ', List.flatten_append, ← ih]
    simp only [madeCells, Array.toList_map, Array.toList_range, Nat.add_mul, Nat.one_mul, List.range_add, List.map_append, List.map_map, List.flatten_cons, List.flatten_nil, List.append_nil]
    congr 1
    apply List.ext_getElem?
    intro j
    rcases Nat.lt_or_ge j z.size with hj | hj
    · have hm : (n * z.size + j) % z.size = j := by rw [Nat.add_comm, Nat.add_mul_mod_self_right, Nat.mod_eq_of_lt hj]
      have e1 : ((List.range z.size).map ((fun k => z[k % z.size]!) ∘ fun k => n * z.size + k))[j]? = some (z[j]) := by
        rw [List.getElem?_map, List.getElem?_range hj]
        simp only [Option.map_some, Function.comp, hm]
        rw [getElem!_pos z j hj]
      rw [e1]
      simp [hj]
    · simp [hj]
theorem rel_made {X : Nat → Prop} (z : Value) (n : Nat) : RelL w m d X (flat (List.replicate n (ofVal z))) (madeCells z.cells (n * z.cells.size)).toList [] := by
  rw [made_flatten, flat_replicate]
  induction n with
  | zero => exact .nil
  | succ n ih =>
    rw [List.replicate_succ, List.flatten_cons, List.replicate_succ, List.flatten_cons]
    have := (rel_ofVal_cells (w := w) (m := m) (d := d) (X := X) z).append ih
    rwa [List.append_nil] at this
theorem s_mkslice (h : RelW Y w0 F0 live d m Fs w) (hi : m i = none) (hd : ¬ d i) {t e : TypeId} (ht : P.underlying t = some (.slice e)) {T : Ty} (hT : tyOf P e = some T) (hb : 0 < T.bytes) {x y : AV} {v u : Value}
    (hx : R Y w m d Fs x v) (hy : R Y w m d Fs y u) (hw : weff live (.mkslice T.size T.bytes T.zero) [x, y] Q) : ValGoal P Y w0 F0 live d m Fs w i (Instr.makeSlice t v u) Q := by
  obtain ⟨D, ti, z, hu, hti, hz, hzs, _, hsz, hby, hzero⟩ := tyOf_spec hT
  cases x with
  | int k l =>
    cases y with
    | int k' c =>
      cases hx; cases hy
      simp only [weff] at hw
      obtain ⟨h0, rfl, hbd, h63, hq⟩ := hw
      have hr := run_make (P := P) w t e ti z ht hti hz k k' l l h0 (Int.le_refl _) (by rw [← hby]; omega) h63
      have hzl : T.zero.cells.length = T.size := by rw [hzero, ofVal_cells, List.length_map, hsz, ← hzs]; simp
      refine ⟨_, _, _, hq, hr, ?_⟩
      have := res_newSl h hi hd (s := T.size) (xs := List.replicate l.toNat T.zero) (vs := (madeCells z.cells (l.toNat * ti.size)).toList) (madeCells z.cells (l.toNat * ti.size)) e l.toNat (fun j v hj => by simpa using hj) (by simp)
        (Even.replicate hzl) (by rw [hzero, ← hzs]; exact rel_made z _) (by simp) (by rw [size_madeCells, hsz]; exact Nat.le_refl _)
      simpa using this
    | _ => simp [weff] at hw
  | _ => simp [weff] at hw
theorem s_clear (h : RelW Y w0 F0 live d m Fs w) {t e ty : TypeId} (ht : P.underlying t = some (.slice e)) {T : Ty} (hT : tyOf P e = some T) {x : AV} {v : Value}
    (hx : R Y w m d Fs x v) (hw : weff live (.clear T.size T.zero) [x] Q) : ValGoal P Y w0 F0 live d m Fs w i (Builtin.clear_ #[t] ty #[v]) Q := by
  obtain ⟨D, ti, z, hu, hti, hz, hzs, _, hsz, hby, hzero⟩ := tyOf_spec hT
  cases x with
  | sl id off n =>
    simp only [weff] at hw
    split at hw
    case h_2 => exact hw.elim
    rename_i s0 xs hl
    obtain ⟨hs0, hlen, hzl, hok, hq⟩ := hw
    have hflz : ∀ k, flat (List.replicate k T.zero) = (List.replicate k T.zero.cells).flatten := fun k => flat_replicate
    have hul0 : (flat (List.replicate n T.zero)).length = n * T.size := by rw [flat_length (Even.replicate hzl)]; simp
    cases hx with
    | slDead _ hdd => rw [h.ddom _ hdd] at hl; cases hl
    | sl0 A =>
      have hrun : (Builtin.clear_ #[t] ty #[.slice A 0 0]).run P w = .ok (.tuple #[]) w := by
        cases A <;> simp [Builtin.clear_, run_underlying ht]
      have hxs : xs.take off ++ List.replicate 0 T.zero ++ xs.drop (off + 0) = xs := by simp
      rw [hxs] at hq
      refine ⟨_, _, _, hq, hrun, m, Fs, ?_, .refl, fun h => (Bool.false_ne_true h).elim, .undef _⟩
      show RelW Y w0 F0 (upd live id (some (T.size, xs))) d m Fs w
      have : upd live id (some (T.size, xs)) = live := by
        funext k
        by_cases hk : k = id
        · subst hk; rw [upd_same, hl, hs0]
        · rw [upd_ne _ _ hk]
      rw [this]; exact h
    | sl hm hn hcx =>
      rename_i b o s' cap
      obtain ⟨rfl, hev, vs, hex, hr⟩ := h.cells _ _ _ _ _ _ hl hm
      subst hs0
      have hfl := flat_length hev
      have hvl : vs.length = xs.length * T.size := by rw [← hr.length, hfl]
      have hk : off * T.size + n * T.size ≤ xs.length * T.size := by rw [← Nat.add_mul]; exact Nat.mul_le_mul_right _ hlen
      obtain ⟨cur, ety, hcur, hat, hlim⟩ := hex
      generalize hus : flat (List.replicate n T.zero) = us at hul0
      have hu : RelL w m d (XOf Y m Fs) us (Builtin.zeroCells z.cells n).toList [] := by
        rw [← hus, hzero]; exact rel_made z n
      generalize hucs : (Builtin.zeroCells z.cells n).toList = ucs at hu
      have hul : ucs.length = us.length := hu.length.symm
      have hokU : us.all (okC live) = true := by
        rw [← hus]
        refine Even.all_okC ?_
        rw [List.all_eq_true]
        intro y hy
        rw [List.eq_of_mem_replicate hy]; exact hok
      have h1c : ∀ v ∈ ucs, v.oneCell' = true := okC_all h hu hokU
      have hst := run_storeCells_at P b (o + off * T.size) ety ucs 0 cur w hcur (by rw [hul]; omega) h1c
      simp only [Nat.add_zero] at hst
      generalize hcs' : (cur.toList.take (o + off * T.size) ++ ucs ++ cur.toList.drop (o + off * T.size + ucs.length)).toArray = cs' at hst
      have hrun : (Builtin.clear_ #[t] ty #[.slice (some ⟨b, o + off * T.size, none⟩) n cap]).run P w = .ok (.tuple #[]) (w.setRow b cs') := by
        have hzv : (zeroValue e).run P w = .ok z w := by simp [zeroValue, typeInfo, hti, hz]
        cases n with
        | zero =>
          have : ucs = [] := List.eq_nil_of_length_eq_zero (by rw [hul, hul0]; simp)
          subst this
          have hself : w.setRow b cs' = w := by
            rw [← hcs']; simp
            exact setRow_self w b cur ety (0, 0) hcur
          rw [hself]
          simp [Builtin.clear_, run_underlying ht]
        | succ n =>
          simp [Builtin.clear_, run_underlying ht, hzv, hucs, hst]
      have hcs : cs'.size = cur.size := by rw [← hcs']; simp; omega
      have hrw := rewrite_setRow (w := w) (cs := cs') hcur hcs
      have hnewc := setRow_heap w b cur cs' ety (0, 0) hcur
      have hflat : flat (xs.take off ++ List.replicate n T.zero ++ xs.drop (off + n)) = (flat xs).take (off * T.size) ++ us ++ (flat xs).drop (off * T.size + us.length) := by
        rw [flat_append, flat_append, hus, flat_take hev, flat_drop hev, hul0, Nat.add_mul]
      have hev' : Even T.size (xs.take off ++ List.replicate n T.zero ++ xs.drop (off + n)) := by
        intro y hy
        rcases List.mem_append.1 hy with hy | hy
        · rcases List.mem_append.1 hy with hy | hy
          · exact hev y (List.mem_of_mem_take hy)
          · rw [List.eq_of_mem_replicate hy]; exact hzl
        · exact hev y (List.mem_of_mem_drop hy)
      obtain ⟨F1, F2, hF, hr1, hr2⟩ := hr.take (off * T.size)
      obtain ⟨G1, G2, hG, hr3, hr4⟩ := hr2.take us.length
      rw [List.drop_drop, List.drop_drop] at hr4
      have hnew : RelL w m d (XOf Y m Fs) (flat (xs.take off ++ List.replicate n T.zero ++ xs.drop (off + n))) (vs.take (off * T.size) ++ ucs ++ vs.drop (off * T.size + us.length)) (F1 ++ G2) := by
        rw [hflat]
        have := (hr1.append hu).append hr4
        rwa [List.append_nil] at this
      have hsub : List.Sublist (F1 ++ G2) (Fs id) := by
        rw [hF, hG]
        exact List.Sublist.append (.refl _) (List.sublist_append_right _ _)
      have hnd := h.nodup id
      rw [blocksOf_some hm] at hnd
      have hnotb : ∀ y ∈ F1 ++ G2, y ≠ b := fun y hy e => (List.nodup_cons.1 hnd).1 (e ▸ hsub.subset hy)
      have key := h.rewrite hl hm hrw (xs' := xs.take off ++ List.replicate n T.zero ++ xs.drop (off + n)) (vs' := vs.take (off * T.size) ++ ucs ++ vs.drop (off * T.size + us.length)) (F' := F1 ++ G2)
        hev' (fun y hy => hsub.subset hy) ((List.nodup_cons.1 hnd).2.sublist hsub)
        ⟨_, ety, hnewc, fun k v hk' => by
            rw [← hcs']
            simp only [List.getElem?_toArray]
            have e1 : (vs.take (off * T.size)).length = off * T.size := by rw [List.length_take]; omega
            have e2 : (cur.toList.take (o + off * T.size)).length = o + off * T.size := by rw [List.length_take]; simp; omega
            rw [List.append_assoc, List.getElem?_append] at hk'
            rw [List.append_assoc, List.getElem?_append]
            split at hk'
            · rename_i hlt
              rw [e1] at hlt
              rw [if_pos (by rw [e2]; omega), List.getElem?_take, if_pos (by omega)]
              rw [List.getElem?_take, if_pos hlt] at hk'
              simpa using hat k v hk'
            · rename_i hge
              rw [e1] at hge hk'
              rw [if_neg (by rw [e2]; omega), e2, show o + k - (o + off * T.size) = k - off * T.size by omega]
              rw [List.getElem?_append] at hk'
              rw [List.getElem?_append]
              split at hk'
              · rename_i hlt2
                rw [if_pos hlt2]; exact hk'
              · rename_i hge2
                rw [if_neg hge2]
                rw [List.getElem?_drop] at hk'
                rw [List.getElem?_drop, hul]
                rw [hul] at hk' hge2
                have := hat _ v hk'
                rw [show o + off * T.size + us.length + (k - off * T.size - us.length) = o + (off * T.size + us.length + (k - off * T.size - us.length)) by omega]
                simpa using this,
          by rw [hcs]; simp only [List.length_append, List.length_take, List.length_drop, hul]; omega⟩
        (fun C => RelL.carry C hnew (fun y hy => hrw.block y (hnotb y hy)))
      exact ⟨_, _, _, hq, hrun, _, _, key.1, key.2, fun h => (Bool.false_ne_true h).elim, .undef _⟩
  | _ => simp [weff] at hw
theorem s_copy (h : RelW Y w0 F0 live d m Fs w) {t e ty : TypeId} (ht : P.underlying t = some (.slice e)) {T : Ty} (hT : tyOf P e = some T) (hT1 : T.size = 1) {x y : AV} {v u : Value}
    (hx : R Y w m d Fs x v) (hy : R Y w m d Fs y u) (hw : weff live .copy [x, y] Q) : ValGoal P Y w0 F0 live d m Fs w i (Builtin.copy_ #[t, t] ty #[v, u]) Q := by
  obtain ⟨D, ti, z, hu, hti, hz, hzs, _, hsz, hby, hzero⟩ := tyOf_spec hT
  cases x with
  | sl id off n =>
    simp only [weff] at hw
    split at hw
    case h_2 => exact hw.elim
    rename_i s0 xs hl
    split at hw
    case h_2 => exact hw.elim
    rename_i es hes
    obtain ⟨hs0, hlen, hn0, he0, hok, hq⟩ := hw
    subst hs0
    cases hx with
    | slDead _ hdd => rw [h.ddom _ hdd] at hl; cases hl
    | sl0 A => omega
    | sl hm hn hcx =>
      rename_i b o s' cap
      obtain ⟨B, cc, news, rfl, heve, hrn, hcn⟩ := elems_read h hy hes
      obtain ⟨hs1, hev, vs, hex, hr⟩ := h.cells _ _ _ _ _ _ hl hm
      subst hs1
      have hfl := flat_length hev
      have hfe := flat_length heve
      have hvl : vs.length = xs.length := by rw [← hr.length, hfl]; omega
      have hnl : news.length = es.length := by rw [← hrn.length, hfe]; omega
      have hb2 : ∃ b2 o2, B = some ⟨b2, o2, none⟩ ∧ CellsAt w b2 o2 news := by
        rcases hcn with hc | hc
        · rw [hc] at hnl; simp at hnl; omega
        · exact hc
      obtain ⟨b2, o2, rfl, hca⟩ := hb2
      obtain ⟨cur, ety, hcur, hat, hlim⟩ := hex
      generalize hus : es.take n = us at hok hq
      have hevu : Even 1 us := by rw [← hus]; exact fun y hy => heve y (List.mem_of_mem_take hy)
      have hfu : flat us = (flat es).take n := by rw [← hus, flat_take heve, Nat.mul_one]
      have hul : us.length = min n es.length := by rw [← hus, List.length_take]
      have hflu : (flat us).length = us.length := by rw [flat_length hevu]; omega
      obtain ⟨E1, E2, hE, hru, _⟩ := hrn.take n
      have hE1 : E1 = [] := (List.append_eq_nil_iff.1 hE.symm).1
      subst hE1
      generalize hucs : news.take n = ucs at hru
      rw [← hfu] at hru
      have hucl : ucs.length = us.length := by rw [← hru.length, hflu]
      have hokf : (flat us).all (okC live) = true := by
        have : ∀ l : List AV, l.all (okC live) = true → (flat l).all (okC live) = true := by
          intro l
          induction l with
          | nil => intro _; rfl
          | cons a l ih =>
            intro hh
            simp only [List.all_cons, Bool.and_eq_true] at hh
            show (AV.cells a ++ flat l).all _ = true
            rw [List.all_append, ih hh.2, Bool.and_true]
            cases a <;> first | (simp [okC] at hh; done) | simp [AV.cells, hh.1]
        exact this us hok
      have h1c : ∀ v ∈ ucs, v.oneCell' = true := okC_all h hru hokf
      generalize hcs' : (cur.toList.take (o + off * 1) ++ ucs ++ cur.toList.drop (o + off * 1 + ucs.length)).toArray = cs'
      have hrun : (Builtin.copy_ #[t, t] ty #[.slice (some ⟨b, o + off * 1, none⟩) n cap, .slice (some ⟨b2, o2, none⟩) es.length cc]).run P w = .ok (goInt ucs.length) (w.setRow b cs') := by
        have := run_copy_row P w t t ty e b (o + off * 1) n cap ⟨b2, o2, none⟩ es.length cc cur ety ucs ht (by rw [hti]; simp [← hsz, hT1]) hcur
          (by rw [hucl, hul]; show min n es.length = min es.length n; omega)
          (fun j v hj => by
            have hj2 : news[j]? = some v := by
              rw [← hucs, List.getElem?_take] at hj
              split at hj
              · exact hj
              · cases hj
            exact hca.cells j v hj2)
          (by rw [hucl, hul]; omega) h1c
        rw [hcs'] at this
        exact this
      have hcs : cs'.size = cur.size := by rw [← hcs']; simp; omega
      have hrw := rewrite_setRow (w := w) (cs := cs') hcur hcs
      have hnewc := setRow_heap w b cur cs' ety (0, 0) hcur
      have hflat : flat (xs.take off ++ us ++ xs.drop (off + us.length)) = (flat xs).take (off * 1) ++ flat us ++ (flat xs).drop (off * 1 + (flat us).length) := by
        rw [flat_append, flat_append, flat_take hev, flat_drop hev, hflu]; simp
      have hev' : Even 1 (xs.take off ++ us ++ xs.drop (off + us.length)) := by
        intro y hy
        rcases List.mem_append.1 hy with hy | hy
        · rcases List.mem_append.1 hy with hy | hy
          · exact hev y (List.mem_of_mem_take hy)
          · exact hevu y hy
        · exact hev y (List.mem_of_mem_drop hy)
      obtain ⟨F1, F2, hF, hr1, hr2⟩ := hr.take (off * 1)
      obtain ⟨G1, G2, hG, hr3, hr4⟩ := hr2.take (flat us).length
      rw [List.drop_drop, List.drop_drop] at hr4
      have hnew : RelL w m d (XOf Y m Fs) (flat (xs.take off ++ us ++ xs.drop (off + us.length))) (vs.take (off * 1) ++ ucs ++ vs.drop (off * 1 + (flat us).length)) (F1 ++ G2) := by
        rw [hflat]
        have := (hr1.append hru).append hr4
        rwa [List.append_nil] at this
      have hsub : List.Sublist (F1 ++ G2) (Fs id) := by
        rw [hF, hG]
        exact List.Sublist.append (.refl _) (List.sublist_append_right _ _)
      have hnd := h.nodup id
      rw [blocksOf_some hm] at hnd
      have hnotb : ∀ y ∈ F1 ++ G2, y ≠ b := fun y hy e => (List.nodup_cons.1 hnd).1 (e ▸ hsub.subset hy)
      have hk : off * 1 + (flat us).length ≤ xs.length := by rw [hflu, hul]; omega
      have hucf : ucs.length = (flat us).length := by rw [hflu]; exact hucl
      have key := h.rewrite hl hm hrw (xs' := xs.take off ++ us ++ xs.drop (off + us.length)) (vs' := vs.take (off * 1) ++ ucs ++ vs.drop (off * 1 + (flat us).length)) (F' := F1 ++ G2)
        hev' (fun y hy => hsub.subset hy) ((List.nodup_cons.1 hnd).2.sublist hsub)
        ⟨_, ety, hnewc, fun k v hk' => by
            rw [← hcs']
            simp only [List.getElem?_toArray]
            have e1 : (vs.take (off * 1)).length = off * 1 := by rw [List.length_take]; omega
            have e2 : (cur.toList.take (o + off * 1)).length = o + off * 1 := by rw [List.length_take]; simp; omega
            rw [List.append_assoc, List.getElem?_append] at hk'
            rw [List.append_assoc, List.getElem?_append]
            split at hk'
            · rename_i hlt
              rw [e1] at hlt
              rw [if_pos (by rw [e2]; omega), List.getElem?_take, if_pos (by omega)]
              rw [List.getElem?_take, if_pos hlt] at hk'
              simpa using hat k v hk'
            · rename_i hge
              rw [e1] at hge hk'
              rw [if_neg (by rw [e2]; omega), e2, show o + k - (o + off * 1) = k - off * 1 by omega]
              rw [List.getElem?_append] at hk'
              rw [List.getElem?_append]
              split at hk'
              · rename_i hlt2
                rw [if_pos hlt2]; exact hk'
              · rename_i hge2
                rw [if_neg hge2]
                rw [List.getElem?_drop] at hk'
                rw [List.getElem?_drop, hucf]
                rw [hucf] at hk' hge2
                have := hat _ v hk'
                rw [show o + off * 1 + (flat us).length + (k - off * 1 - (flat us).length) = o + (off * 1 + (flat us).length + (k - off * 1 - (flat us).length)) by omega]
                simpa using this,
          by rw [hcs]; simp only [List.length_append, List.length_take, List.length_drop, hucf]; omega⟩
        (fun C => RelL.carry C hnew (fun y hy => hrw.block y (hnotb y hy)))
      exact ⟨_, _, _, hq, hrun, _, _, key.1, key.2, fun h => (Bool.false_ne_true h).elim, by rw [hucl]; exact .int _ _⟩
  | _ => simp [weff] at hw
theorem s_not (h : RelW Y w0 F0 live d m Fs w) {x : AV} {v : Value} (hx : R Y w m d Fs x v) (hw : weff live .not [x] Q) : ValGoal P Y w0 F0 live d m Fs w i (Op.unary .not v) Q := by
  cases x with
  | bool b => cases hx; simp only [weff] at hw; exact .val h hw rfl (.bool _)
  | _ => simp [weff] at hw
theorem s_neg (h : RelW Y w0 F0 live d m Fs w) {x : AV} {v : Value} (hx : R Y w m d Fs x v) (hw : weff live .neg [x] Q) : ValGoal P Y w0 F0 live d m Fs w i (Op.unary .neg v) Q := by
  cases x with
  | int k n => cases hx; simp only [weff] at hw; exact .val h hw rfl (.int _ _)
  | _ => simp [weff] at hw
theorem s_conv (h : RelW Y w0 F0 live d m Fs w) {src dst : TypeId} {D : TypeDesc} (hs : P.underlying src = some D) {k : IntKind} (hd : P.underlying dst = some (.int k)) {x : AV} {v : Value} (hx : R Y w m d Fs x v)
    (hw : weff live (.conv k) [x] Q) : ValGoal P Y w0 F0 live d m Fs w i (convert src dst v) Q := by
  cases x with
  | int k' n =>
    cases hx
    simp only [weff] at hw
    refine .val h hw ?_ (.int _ _)
    simp only [convert, Sem.run_bind, run_underlying hs, run_underlying hd, Result.andThen_ok]
    rfl
  | _ => simp [weff] at hw
theorem s_mkfn (h : RelW Y w0 F0 live d m Fs w) {f : FuncId} {xs : List AV} {vs : List Value} (hx : RelL w m d (XOf Y m Fs) xs vs []) (hw : weff live (.mkfn f) xs Q) :
    ValGoal P Y w0 F0 live d m Fs w i (Instr.makeFunc (.func f) #[] vs.toArray) Q := by
  have hq : Q (.val (.fn f xs)) := by cases xs <;> simpa [weff] using hw
  exact .val h hq rfl (.fn hx)
theorem s_ext (h : RelW Y w0 F0 live d m Fs w) {k : Nat} {x : AV} {v : Value} (hx : R Y w m d Fs x v) (hw : weff live (.ext k) [x] Q) : ValGoal P Y w0 F0 live d m Fs w i (Instr.extract v k) Q := by
  cases x with
  | tup vs =>
    simp only [weff] at hw
    cases hx with
    | tup hx =>
      rename_i us
      obtain ⟨u, G, h1, h2, h3⟩ := hx.get (getElem?_getD hw.1)
      obtain rfl : G = [] := List.eq_nil_iff_forall_not_mem.2 fun x hx => by cases h3 x hx
      exact .val h hw.2 (by simp [Instr.extract, h1]) h2
  | _ => simp [weff] at hw
theorem s_max (h : RelW Y w0 F0 live d m Fs w) {ts : Array TypeId} {ty : TypeId} {x y : AV} {v u : Value} (hx : R Y w m d Fs x v) (hy : R Y w m d Fs y u) (hw : weff live .max [x, y] Q) :
    ValGoal P Y w0 F0 live d m Fs w i (Builtin.max_ ts ty #[v, u]) Q := by
  cases x <;> cases y <;> simp [weff] at hw
  cases hx; cases hy
  exact .val h hw (by simp [Builtin.max_, Builtin.max2]) (.int _ _)
theorem s_min (h : RelW Y w0 F0 live d m Fs w) {ts : Array TypeId} {ty : TypeId} {x y : AV} {v u : Value} (hx : R Y w m d Fs x v) (hy : R Y w m d Fs y u) (hw : weff live .min [x, y] Q) :
    ValGoal P Y w0 F0 live d m Fs w i (Builtin.min_ ts ty #[v, u]) Q := by
  cases x <;> cases y <;> simp [weff] at hw
  cases hx; cases hy
  exact .val h hw (by simp [Builtin.min_, Builtin.min2]) (.int _ _)
theorem bytes_rel {es : List AV} : ∀ {l : List UInt8} {vs : List Value} {F : List Nat}, bytesOf es = some l → RelL w m d (XOf Y m Fs) (flat es) vs F →
    ∃ ns : List Int, vs = ns.map (Value.int .u8) ∧ l = ns.map fun n => UInt8.ofNat n.toNat := by
  induction es with
  | nil => intro l vs F hb hr; simp [bytesOf] at hb; subst hb; cases hr; exact ⟨[], rfl, rfl⟩
  | cons e es ih =>
    intro l vs F hb hr
    cases e with
    | int k n =>
      cases k <;> simp [bytesOf] at hb
      split at hb
      · rename_i l' hl'
        simp at hb; subst hb
        cases hr with
        | cons h1 h2 =>
          cases h1
          obtain ⟨ns, rfl, rfl⟩ := ih hl' h2
          exact ⟨n :: ns, rfl, rfl⟩
      · cases hb
    | _ => simp [bytesOf] at hb
theorem s_b2s (h : RelW Y w0 F0 live d m Fs w) {src dst e : TypeId} (hs : P.underlying src = some (.slice e)) (he : P.underlying e = some (.int .u8)) (hd : P.underlying dst = some .string) {x : AV} {v : Value}
    (hx : R Y w m d Fs x v) (hw : weff live .b2s [x] Q) : ValGoal P Y w0 F0 live d m Fs w i (convert src dst v) Q := by
  simp only [weff] at hw
  split at hw
  case h_2 => exact hw.elim
  rename_i es hes
  split at hw
  case h_2 => exact hw.elim
  rename_i l hl
  obtain ⟨A, cap, vs, rfl, hev, hr, hc⟩ := elems_read h hx hes
  obtain ⟨ns, rfl, rfl⟩ := bytes_rel hl hr
  have hlen : ns.length = es.length := by have := hr.length; rw [flat_length hev] at this; simp at this; exact this.symm
  refine .val h hw ?_ (.str _)
  rw [run_convert_bytes_string w src dst e _ _ cap hs he hd]
  have hfold : ∀ s : ByteArray, s = ByteArray.empty → ns.foldl (fun r n => r.push (UInt8.ofNat n.toNat)) s = ⟨(ns.map fun n => UInt8.ofNat n.toNat).toArray⟩ := by
    intro s hs; rw [foldl_push_bytes, hs]; simp [ByteArray.empty, ByteArray.emptyWithCapacity]; rfl
  rcases hc with hc | ⟨b, o, rfl, hc⟩
  · have hns : ns = [] := by simpa using hc
    subst hns
    cases A with
    | none => simp [Conv.bytesToString]; rfl
    | some a =>
      rw [run_bytesToString w a es.length cap [] (by rw [← hlen]; simp [loadCells, loadCellsFrom])]
      rfl
  · have hld : (loadCells ⟨b, o, none⟩ es.length).run P w = .ok (ns.map (Value.int .u8)).toArray w := by
      have := run_loadCells_list (P := P) w ⟨b, o, none⟩ _ hc.cells
      rwa [List.length_map, hlen] at this
    rw [run_bytesToString w _ es.length cap ns hld, hfold _ rfl]
theorem s_sliceStr_lh (h : RelW Y w0 F0 live d m Fs w) {t : TypeId} (hu : P.underlying t = some .string) {x y z : AV} {v u r : Value}
    (hx : R Y w m d Fs x v) (hy : R Y w m d Fs y u) (hz : R Y w m d Fs z r) (hw : weff live (.sliceStr true true) [x, y, z] Q) : ValGoal P Y w0 F0 live d m Fs w i (Instr.sliceAt t v (some u) (some r) none) Q := by
  cases x with
  | str s =>
    cases y <;> cases z <;> simp [weff] at hw
    cases hx; cases hy; cases hz
    obtain ⟨h0, h1, h2, hq⟩ := hw
    exact .val h hq (by simp [Instr.sliceAt, run_underlying hu, Instr.slice, Sem.run_bind, run_bounds_lh (P := P) (w := w) (b := false) (len := s.size) h0 h1 h2]) (.str _)
  | _ => simp [weff] at hw
theorem s_sliceStr_l (h : RelW Y w0 F0 live d m Fs w) {t : TypeId} (hu : P.underlying t = some .string) {x y : AV} {v u : Value}
    (hx : R Y w m d Fs x v) (hy : R Y w m d Fs y u) (hw : weff live (.sliceStr true false) [x, y] Q) : ValGoal P Y w0 F0 live d m Fs w i (Instr.sliceAt t v (some u) none none) Q := by
  cases x with
  | str s =>
    cases y <;> simp [weff] at hw
    cases hx; cases hy
    obtain ⟨h0, h1, hq⟩ := hw
    exact .val h hq (by simp [Instr.sliceAt, run_underlying hu, Instr.slice, Sem.run_bind, run_bounds_l (P := P) (w := w) (b := false) (len := s.size) (cap := s.size) h0 h1]) (.str _)
  | _ => simp [weff] at hw
theorem s_sliceStr_h (h : RelW Y w0 F0 live d m Fs w) {t : TypeId} (hu : P.underlying t = some .string) {x z : AV} {v r : Value}
    (hx : R Y w m d Fs x v) (hz : R Y w m d Fs z r) (hw : weff live (.sliceStr false true) [x, z] Q) : ValGoal P Y w0 F0 live d m Fs w i (Instr.sliceAt t v none (some r) none) Q := by
  cases x with
  | str s =>
    cases z <;> simp [weff] at hw
    cases hx; cases hz
    obtain ⟨h0, h1, hq⟩ := hw
    exact .val h hq (by simp [Instr.sliceAt, run_underlying hu, Instr.slice, Sem.run_bind, run_bounds_h (P := P) (w := w) (b := false) (len := s.size) (cap := s.size) h0 h1]) (.str _)
  | _ => simp [weff] at hw
theorem s_field1 (h : RelW Y w0 F0 live d m Fs w) {t : TypeId} {fs : Array Field} (hu : P.underlying t = some (.struct fs)) {f : Nat} {fd : Field} (hf : fs[f]? = some fd) {D : TypeDesc} (hD : P.underlying fd.type = some D) (hs : (descOf D).single = true)
    {x : AV} {v : Value} (hx : R Y w m d Fs x v) (hw : weff live (.field1 fd.offset) [x] Q) : ValGoal P Y w0 F0 live d m Fs w i (Instr.field t v f) Q := by
  cases x with
  | agg cs =>
    simp only [weff] at hw
    cases hx with
    | agg hx =>
      rename_i us
      obtain ⟨u, G, h1, h2, h3⟩ := hx.get (getElem?_getD hw.1)
      obtain rfl : G = [] := List.eq_nil_iff_forall_not_mem.2 fun x hx => by cases h3 x hx
      exact .val h hw.2 (by simp [Instr.field, run_underlying hu, Sem.run_bind, hf, asAgg, part, run_isAgg_single hD hs, h1]) h2
  | _ => simp [weff] at hw
theorem s_nilck (h : RelW Y w0 F0 live d m Fs w) {o : Oper} {a : Act} {ox : Operand} (ho : o.op = .nilCheck ox) {x : AV} (hx : R Y w m d Fs x (a.eval ox)) (hw : weff live .nilck [x] Q) :
    ∃ e v', Q e ∧ (execOp a.eval o).run P w = .ok (.value v') w ∧ EffRes Y w0 F0 live d m Fs w i e v' w := by
  cases x with
  | ptr id b j =>
    simp only [weff] at hw
    generalize hv : a.eval ox = v at hx
    cases hx with
    | ptrDead _ hdd => simp [h.ddom _ hdd] at hw
    | ptr hm =>
      refine ⟨_, _, hw.2, ?_, res_val h (.ptr hm)⟩
      simp [execOp, ho, hv]
  | rop cs =>
    simp only [weff] at hw
    generalize hv : a.eval ox = v at hx
    cases hx with
    | rop hX hb hc hcl hr =>
      refine ⟨_, _, hw, ?_, res_val h (.rop hX hb hc hcl hr)⟩
      simp [execOp, ho, hv]
  | _ => simp [weff] at hw
end
end Go.Abs
namespace Go.Abs
open Go Go.RowKit
section
variable {P : Program} {Y : Nat → Prop} {w0 : World} {F0 : List Nat} {live : Live} {d : Nat → Prop} {m : IdMap} {Fs : Nat → List Nat} {w : World} {i : Nat} {Q : Eff → Prop}
theorem fill_rows {s n : Nat} : ∀ (idx : List Nat) (xs rs : List AV), idx.length = xs.length → (∀ x ∈ xs, x.cells.length = s) → (∀ i ∈ idx, i < n) → Even s rs → rs.length = n →
    fillA (flat rs) ((idx.map fun i => (i * s, s)).zipWith (fun p x => (p.1, p.2, x)) xs) = some (flat ((idx.zip xs).foldl (fun r p => r.set p.1 p.2) rs)) ∧
      Even s ((idx.zip xs).foldl (fun r p => r.set p.1 p.2) rs) ∧ ((idx.zip xs).foldl (fun r p => r.set p.1 p.2) rs).length = n := by
  intro idx
  induction idx with
  | nil =>
    intro xs rs hl hx hi he hr
    have : xs = [] := List.eq_nil_of_length_eq_zero (by simpa using hl.symm)
    subst this
    simp [fillA, he, hr]
  | cons k idx ih =>
    intro xs rs hl hx hi he hr
    cases xs with
    | nil => simp at hl
    | cons x xs =>
      have hxs := hx x (by simp)
      have hk : k < rs.length := by rw [hr]; exact hi k (by simp)
      have hks : k * s + s ≤ rs.length * s := by rw [← Nat.succ_mul]; exact Nat.mul_le_mul_right _ hk
      have e1 : setCells (flat rs) (k * s) x.cells = flat (rs.set k x) := by
        rw [setCells_eq _ _ _ (by rw [flat_length he, hxs]; exact hks), flat_set he hk hxs, hxs]
      have := ih xs (rs.set k x) (by simpa using hl) (fun y hy => hx y (by simp [hy])) (fun y hy => hi y (by simp [hy])) (he.set hxs) (by simpa using hr)
      simp only [List.map_cons, List.zipWith_cons_cons, List.zip_cons_cons, List.foldl_cons, fillA]
      rw [if_pos ⟨hxs, by rw [flat_length he]; exact hks⟩, e1]
      exact this
theorem s_bslice (h : RelW Y w0 F0 live d m Fs w) (hi : m i = none) (hd : ¬ d i) {t e : TypeId} (ht : P.underlying t = some (.slice e)) {T : Ty} (hT : tyOf P e = some T) (hs0 : T.size ≠ 0) {n : Nat} {idx : List Nat} {xs : List AV} {vs : List Value}
    (hx : RelL w m d (XOf Y m Fs) xs vs []) (hw : weff live (.bslice T.size n T.zero idx) xs Q) : ValGoal P Y w0 F0 live d m Fs w i (Instr.buildSlice t n (idx.zip vs).toArray) Q := by
  obtain ⟨D, ti, z, hu, hti, hz, hzs, _, hsz, hby, hzero⟩ := tyOf_spec hT
  simp only [weff] at hw
  obtain ⟨hl, hxs, hidx, hsm, hw⟩ := hw
  cases n with
  | zero =>
    simp only at hw
    have hi0 : idx = [] := by
      cases idx with
      | nil => rfl
      | cons k _ => exact absurd (hidx k (by simp)) (by omega)
    subst hi0
    obtain ⟨h1, c1⟩ := h.aside (evo_alloc (fun _ => False) w (.cells #[] e))
    refine ⟨_, .slice (some ⟨w.heap.size, 0, none⟩) 0 0, w.alloc (.cells #[] e), hw, ?_, m, Fs, h1, c1, fun _ _ _ => rfl, .nil _⟩
    simp [Instr.buildSlice, run_underlying ht, sizeOf, typeInfo, hti, Instr.fill, newRow, Array.range_zero']
  | succ n =>
    simp only at hw
    have hzl : T.zero.cells.length = T.size := by rw [hzero, ofVal_cells, List.length_map, hsz, ← hzs]; simp
    obtain ⟨hf, hev, hlen⟩ := fill_rows (s := T.size) (n := n + 1) idx xs (List.replicate (n + 1) T.zero) hl (fun x hx => (hxs x hx).1) hidx (Even.replicate hzl) (by simp)
    have hmade : RelL w m d (XOf Y m Fs) (flat (List.replicate (n + 1) T.zero)) (madeCells z.cells ((n + 1) * z.cells.size)).toList [] := by rw [hzero]; exact rel_made z _
    obtain ⟨ws, e1, r1⟩ := rel_fill h (fun i => some (i * T.size, T.size)) xs idx vs [] _ _ (idx.map fun i => (i * T.size, T.size)) _ hl (by simp) hx rfl (fun x hx => (hxs x hx).2) hmade hf
    rw [Array.toArray_toList] at e1
    have hr := run_buildSlice (P := P) w t e (n + 1) (idx.zip vs).toArray ws.toArray ti z ht hti hz (by rw [← hsz]; omega) (by rw [← hsz]; intro h0; rcases Nat.mul_eq_zero.1 h0 with h0 | h0 <;> omega)
      (by rw [← hsz]; have e2 := e1; rw [hzs, ← hsz] at e2; unfold madeCells at e2; simpa using e2)
    refine ⟨_, _, _, hw, hr, ?_⟩
    have hwl : ws.length = (n + 1) * T.size := by rw [← r1.length, flat_length hev, hlen]
    have := res_newSl h hi hd (s := T.size) (xs := (idx.zip xs).foldl (fun r p => r.set p.1 p.2) (List.replicate (n + 1) T.zero)) (vs := ws) ws.toArray e (n + 1) (fun j v hj => by simpa using hj) (by simp)
      hev r1 (by omega) (by simp [hwl])
    rw [hlen] at this
    exact this
end
inductive Opd where
  | tmp (t : Nat)
  | const (v : AV)
abbrev Types := List (TypeId × Ty)
def Types.get : Types → TypeId → Option Ty
  | [], _ => none
  | (t, T) :: r, u => if t = u then some T else Types.get r u
def opd : Operand → Option Opd
  | .tmp t => some (.tmp t)
  | .const v => some (.const (ofVal v))
  | .func f => some (.const (.fn f []))
  | .global _ => none
def opds (xs : List Operand) : Option (List Opd) := xs.mapM opd
def single (T : Ty) : Bool := T.desc.single && T.size == 1
def pair2 (k : Option K) (xs : List Operand) : Option (K × List Opd) :=
  match k, opds xs with
  | some k, some l => some (k, l)
  | _, _ => none
def eqKinds (P : Program) (t : TypeId) : Option (List Nat) :=
  match P.underlying t with
  | some (.struct fs) => if P.stoodInHeld t = false ∧ P.eqGuardType P.depth t = false then plainFields P 0 fs.toList else none
  | _ => none
def fieldAt? (TT : Types) (t : TypeId) (f : Nat) : Option (Nat × TypeId × Ty) :=
  match TT.get t with
  | some { desc := .struct fs, .. } => match fs[f]? with
    | some (off, u) => match TT.get u with
      | some U => some (off, u, U)
      | none => none
    | none => none
  | _ => none
def elemTy (TT : Types) (t : TypeId) : Option Ty :=
  match TT.get t with
  | some { desc := .slice e, .. } => match TT.get e with
    | some E => if E.size ≠ 0 ∧ 0 < E.bytes then some E else none
    | none => none
  | _ => none
def isStr (TT : Types) (t : TypeId) : Bool :=
  match TT.get t with
  | some { desc := .str, .. } => true
  | _ => false
def isBytes (TT : Types) (t : TypeId) : Bool :=
  match TT.get t with
  | some { desc := .slice e, .. } => match TT.get e with
    | some { desc := .int .u8, .. } => true
    | _ => false
  | _ => false
def placeOf? (TT : Types) (t : TypeId) (f : Nat) : Option (Nat × Nat) :=
  match fieldAt? TT t f with
  | some (off, _, U) => some (off, U.size)
  | none => none
def places (TT : Types) (t : TypeId) (idx : List Nat) : Option (List (Nat × Nat)) := idx.mapM (placeOf? TT t)
def compileCall (TT : Types) (c : Call) : Option (K × List Opd) :=
  match c.callee with
  | .builtin .len => match c.args.toList, c.argTypes.toList with
    | [x], [t] => if isStr TT t then pair2 (some .lenStr) [x] else pair2 ((elemTy TT t).map fun _ => .len) [x]
    | _, _ => none
  | .builtin .append => match c.args.toList, c.argTypes.toList with
    | [x, y], [t, u] => if t = u then pair2 ((elemTy TT t).map fun E => .append E.size E.bytes) [x, y] else none
    | _, _ => none
  | .builtin .copy => match c.args.toList, c.argTypes.toList with
    | [x, y], [t, u] => if t = u then pair2 ((elemTy TT t).bind fun E => if E.size = 1 then some .copy else none) [x, y] else none
    | _, _ => none
  | .builtin .clear => match c.args.toList, c.argTypes.toList with
    | [x], [t] => pair2 ((elemTy TT t).map fun E => .clear E.size E.zero) [x]
    | _, _ => none
  | .builtin .max => match c.args.toList with
    | [x, y] => pair2 (some .max) [x, y]
    | _ => none
  | .builtin .min => match c.args.toList with
    | [x, y] => pair2 (some .min) [x, y]
    | _ => none
  | _ => none
def compileOp (P : Program) (TT : Types) : Op → Option (K × List Opd)
  | .move x | .assign x => pair2 (some .mv) [x]
  | .pick c a b => pair2 (some .pick) [c, a, b]
  | .box t x => pair2 ((TT.get t).map fun T => .box T.size) [x]
  | .alloc t => pair2 ((TT.get t).map fun T => .alloc T.zero) []
  | .build t parts => match TT.get t, places TT t (parts.toList.map (·.1)) with
    | some T, some ps => match T.desc with
      | .struct fs => if fs.all (fun q => (TT.get q.2).isSome) then pair2 (some (.build T.zero.cells ps)) (parts.toList.map (·.2)) else none
      | _ => none
    | _, _ => none
  | .buildSlice t n parts => pair2 ((elemTy TT t).map fun E => .bslice E.size n E.zero (parts.toList.map (·.1))) (parts.toList.map (·.2))
  | .load t a => match TT.get t with
    | some T => if single T then pair2 (some .load1) [a] else match T.desc with
      | .struct _ => pair2 (some (.loadN T.size)) [a]
      | _ => none
    | none => none
  | .store t a x => match TT.get t with
    | some T => if single T then pair2 (some .store1) [a, x] else match T.desc with
      | .struct _ => pair2 (some (.storeN T.size)) [a, x]
      | _ => none
    | none => none
  | .binOp op t x y _ => match TT.get t with
    | some { desc := .struct _, .. } => match op, eqKinds P t with
      | .eql, some ks => pair2 (some (.eqs false ks)) [x, y]
      | .neq, some ks => pair2 (some (.eqs true ks)) [x, y]
      | _, _ => none
    | some { desc := .bool, .. } => match op with
      | .eql => pair2 (some (.binB false)) [x, y]
      | .neq => pair2 (some (.binB true)) [x, y]
      | _ => none
    | some { desc := .int _, .. } | some { desc := .str, .. } => pair2 (some (.bin op)) [x, y]
    | _ => none
  | .unOp .not _ x => pair2 (some .not) [x]
  | .unOp .neg _ x => pair2 (some .neg) [x]
  | .convert s t x => match TT.get s, TT.get t with
    | some _, some { desc := .int k, .. } => pair2 (some (.conv k)) [x]
    | some _, some { desc := .str, .. } => if isBytes TT s then pair2 (some .b2s) [x] else none
    | _, _ => none
  | .makeFunc (.func f) first caps => if first.toList = [] then pair2 (some (.mkfn f)) caps.toList else none
  | .makeSlice t l c => pair2 ((elemTy TT t).map fun E => .mkslice E.size E.bytes E.zero) [l, c]
  | .slice t x lo hi none =>
    let r := x :: (lo.toList ++ hi.toList)
    if lo.isNone && hi.isNone then none else
    if isStr TT t then pair2 (some (.sliceStr lo.isSome hi.isSome)) r
    else pair2 ((elemTy TT t).map fun E => .slice E.size lo.isSome hi.isSome) r
  | .fieldAddr t x f => match fieldAt? TT t f with
    | some (off, _, U) => if U.size ≠ 0 then pair2 (some (.faddr off)) [x] else none
    | none => none
  | .field t x f => match fieldAt? TT t f with
    | some (off, _, U) => if single U then pair2 (some (.field1 off)) [x] else none
    | none => none
  | .indexAddr t x ix => pair2 ((elemTy TT t).map fun E => .iaddr E.size) [x, ix]
  | .index t x ix => if isStr TT t then pair2 (some .idxStr) [x, ix] else none
  | .extract x k => pair2 (some (.ext k)) [x]
  | .nilCheck x => pair2 (some .nilck) [x]
  | .makeInterface _ _ | .panic _ => some (.never, [])
  | .call c => compileCall TT c
  | _ => none
end Go.Abs
namespace Go.Abs
open Go Go.RowKit
def getOpd (env : Nat → AV) : Opd → AV
  | .tmp t => env t
  | .const v => v
section
variable {P : Program} {TT : Types} {Y : Nat → Prop} {w0 : World} {F0 : List Nat} {live : Live} {d : Nat → Prop} {m : IdMap} {Fs : Nat → List Nat} {w : World} {i : Nat} {Q : Eff → Prop} {env : Nat → AV} {a : Act}
theorem opd_rel (he : ∀ t, R Y w m d Fs (env t) (a.tmps.getD t Go.undef)) {x : Operand} {y : Opd} (hx : opd x = some y) : R Y w m d Fs (getOpd env y) (a.eval x) := by
  cases x with
  | tmp t => simp [opd] at hx; subst hx; exact he t
  | const v => simp [opd] at hx; subst hx; exact rel_ofVal v
  | global g => simp [opd] at hx
  | func f => simp [opd] at hx; subst hx; exact .fn (vs := []) .nil
theorem opds_rel (he : ∀ t, R Y w m d Fs (env t) (a.tmps.getD t Go.undef)) : ∀ {xs : List Operand} {ys : List Opd}, opds xs = some ys → RelL w m d (XOf Y m Fs) (ys.map (getOpd env)) (xs.map a.eval) [] := by
  intro xs
  induction xs with
  | nil => intro ys h; simp [opds] at h; subst h; exact .nil
  | cons x xs ih =>
    intro ys h
    simp only [opds, List.mapM_cons, Option.bind_eq_bind, Option.pure_def] at h
    cases h1 : opd x with
    | none => simp [h1] at h
    | some y =>
      cases h2 : xs.mapM opd with
      | none => simp [h1, h2] at h
      | some ys' =>
        simp [h1, h2] at h
        subst h
        exact .cons (F := []) (opd_rel he h1) (ih h2)
theorem pair2_some {k : Option K} {xs : List Operand} {k' : K} {os : List Opd} (h : pair2 k xs = some (k', os)) : k = some k' ∧ opds xs = some os := by
  unfold pair2 at h
  split at h
  · rename_i k0 l h1 h2; cases h; exact ⟨rfl, h2⟩
  · cases h
theorem opds1 {x : Operand} {os : List Opd} (h : opds [x] = some os) : ∃ y, os = [y] ∧ opd x = some y := by
  cases h1 : opd x with
  | none => simp [opds, h1] at h
  | some y => simp [opds, h1] at h; exact ⟨y, h.symm, rfl⟩
theorem opds_cons {x : Operand} {xs : List Operand} {os : List Opd} (h : opds (x :: xs) = some os) : ∃ y ys, os = y :: ys ∧ opd x = some y ∧ opds xs = some ys := by
  simp only [opds, List.mapM_cons, Option.bind_eq_bind, Option.pure_def] at h
  cases h1 : opd x with
  | none => simp [h1] at h
  | some y =>
    cases h2 : xs.mapM opd with
    | none => simp [h1, h2] at h
    | some ys' => simp [h1, h2] at h; exact ⟨y, ys', h.symm, rfl, h2⟩
theorem opds_nil {os : List Opd} (h : opds [] = some os) : os = [] := by simpa [opds] using h.symm
theorem single_spec {T : Ty} (h : single T = true) : T.desc.single = true ∧ T.size = 1 := by
  simpa [single] using h
theorem fieldAt_spec (hTT : ∀ t T, TT.get t = some T → tyOf P t = some T) {t : TypeId} {f : Nat} {off : Nat} {u : TypeId} {U : Ty} (h : fieldAt? TT t f = some (off, u, U)) :
    ∃ fs fd, P.underlying t = some (.struct fs) ∧ fs[f]? = some fd ∧ fd.offset = off ∧ fd.type = u ∧ tyOf P u = some U := by
  unfold fieldAt? at h
  split at h
  case h_2 => cases h
  rename_i fs0 sz by0 z0 ht
  split at h
  case h_2 => cases h
  rename_i off' u' hf
  split at h
  case h_2 => cases h
  rename_i U' hU
  cases h
  obtain ⟨D, ti, z, hu, _, _, _, hd, _⟩ := tyOf_spec (hTT _ _ ht)
  cases D <;> simp [descOf] at hd
  rename_i fs
  subst hd
  simp at hf
  obtain ⟨fd, h1, h2, h3⟩ := hf
  exact ⟨fs, fd, hu, h1, h2, h3, hTT _ _ hU⟩
theorem elemTy_spec (hTT : ∀ t T, TT.get t = some T → tyOf P t = some T) {t : TypeId} {E : Ty} (h : elemTy TT t = some E) :
    ∃ e, P.underlying t = some (.slice e) ∧ tyOf P e = some E ∧ E.size ≠ 0 ∧ 0 < E.bytes := by
  unfold elemTy at h
  split at h
  case h_2 => cases h
  rename_i e sz by0 z0 ht
  split at h
  case h_2 => cases h
  rename_i E' hE
  split at h
  case isFalse => cases h
  rename_i hc
  cases h
  obtain ⟨D, ti, z, hu, _, _, _, hd, _⟩ := tyOf_spec (hTT _ _ ht)
  cases D <;> simp [descOf] at hd
  subst hd
  exact ⟨_, hu, hTT _ _ hE, hc.1, hc.2⟩
theorem isStr_spec (hTT : ∀ t T, TT.get t = some T → tyOf P t = some T) {t : TypeId} (h : isStr TT t = true) : P.underlying t = some .string := by
  unfold isStr at h
  split at h
  case h_2 => cases h
  rename_i sz by0 z0 ht
  obtain ⟨D, ti, z, hu, _, _, _, hd, _⟩ := tyOf_spec (hTT _ _ ht)
  cases D <;> simp [descOf] at hd
  exact hu
theorem isBytes_spec (hTT : ∀ t T, TT.get t = some T → tyOf P t = some T) {t : TypeId} (h : isBytes TT t = true) : ∃ e, P.underlying t = some (.slice e) ∧ P.underlying e = some (.int .u8) := by
  unfold isBytes at h
  split at h
  case h_2 => cases h
  rename_i e sz by0 z0 ht
  split at h
  case h_2 => cases h
  rename_i sz1 by1 z1 he
  obtain ⟨D, ti, z, hu, _, _, _, hd, _⟩ := tyOf_spec (hTT _ _ ht)
  obtain ⟨D2, ti2, z2, hu2, _, _, _, hd2, _⟩ := tyOf_spec (hTT _ _ he)
  cases D <;> simp [descOf] at hd
  cases D2 <;> simp [descOf] at hd2
  subst hd; subst hd2
  exact ⟨_, hu, hu2⟩
theorem struct_spec (hTT : ∀ t T, TT.get t = some T → tyOf P t = some T) {t : TypeId} {T : Ty} {fs : List (Nat × TypeId)} (h : TT.get t = some T) (hd : T.desc = .struct fs) :
    ∃ fa : Array Field, P.underlying t = some (.struct fa) ∧ fs = fa.toList.map fun f => (f.offset, f.type) := by
  obtain ⟨D, ti, z, hu, _, _, _, hd', _⟩ := tyOf_spec (hTT _ _ h)
  rw [hd] at hd'
  cases D <;> simp [descOf] at hd'
  exact ⟨_, hu, hd'⟩
def OpGoal (P : Program) (Y : Nat → Prop) (w0 : World) (F0 : List Nat) (live : Live) (d : Nat → Prop) (m : IdMap) (Fs : Nat → List Nat) (w : World) (i : Nat) (s : Sem Next) (Q : Eff → Prop) : Prop :=
  ∃ e v' w', Q e ∧ (s.run P w = .ok (.value v') w' ∨ (s.run P w = .ok .skip w' ∧ v' = Go.undef)) ∧ EffRes Y w0 F0 live d m Fs w i e v' w'
theorem OpGoal.of_val {s : Sem Next} {s' : Sem Value} (hs : s.run P w = (do pure (Next.value (← s')) : Sem Next).run P w) (h : ValGoal P Y w0 F0 live d m Fs w i s' Q) : OpGoal P Y w0 F0 live d m Fs w i s Q := by
  obtain ⟨e, v', w', hq, hr, he⟩ := h
  exact ⟨e, v', w', hq, .inl (by rw [hs]; simp only [Sem.run_bind, hr, Result.andThen_ok, Sem.run_pure]), he⟩
theorem OpGoal.of_unit {s : Sem Next} {s' : Sem Unit} (hs : s.run P w = (do s'; pure Next.skip : Sem Next).run P w)
    (h : ∃ e w', Q e ∧ s'.run P w = .ok () w' ∧ EffRes Y w0 F0 live d m Fs w i e Go.undef w') : OpGoal P Y w0 F0 live d m Fs w i s Q := by
  obtain ⟨e, w', hq, hr, he⟩ := h
  exact ⟨e, _, w', hq, .inr ⟨by rw [hs]; simp only [Sem.run_bind, hr, Result.andThen_ok, Sem.run_pure], rfl⟩, he⟩
theorem call_run {c : Call} {ty : TypeId} {b : Builtin} (hc : c.callee = .builtin b) {s : Sem Value} (hb : builtin b c.argTypes ty (c.args.map fun | .const _ => true | _ => false) (c.args.map a.eval) = (do pure (Next.value (← s)) : Sem Next))
    {o : Oper} (ho : o.op = .call c) (hty : o.type = ty) : (execOp a.eval o).run P w = (do pure (Next.value (← s)) : Sem Next).run P w := by
  subst hty
  rw [← hb]
  simp only [execOp, ho, resolve, hc, Sem.run_bind, Sem.run_pure, Result.andThen_ok, invoke]
  rfl
theorem places_spec (hTT : ∀ t T, TT.get t = some T → tyOf P t = some T) {t : TypeId} {fa : Array Field} (hu : P.underlying t = some (.struct fa)) {pl : List (Nat × Nat)}
    (hpl : fa.toList.mapM (fun f : Field => (P.info? f.type).map fun i => (f.offset, i.size)) = some pl) : ∀ {idx : List Nat} {ps : List (Nat × Nat)}, places TT t idx = some ps → idx.map (pl.toArray[·]?) = ps.map some := by
  have hat : ∀ (l : List Field) (pl : List (Nat × Nat)), l.mapM (fun f : Field => (P.info? f.type).map fun i => (f.offset, i.size)) = some pl →
      ∀ (k : Nat) (f : Field) (ti : TypeInfo), l[k]? = some f → P.info? f.type = some ti → pl[k]? = some (f.offset, ti.size) := by
    intro l
    induction l with
    | nil => intro pl _ k f ti hk; simp at hk
    | cons g l ih =>
      intro pl hpl k f ti hk hti
      simp only [List.mapM_cons, Option.bind_eq_bind, Option.pure_def] at hpl
      cases h1 : P.info? g.type with
      | none => simp [h1] at hpl
      | some gi =>
        cases h2 : l.mapM (fun f : Field => (P.info? f.type).map fun i => (f.offset, i.size)) with
        | none => simp [h1, h2] at hpl
        | some pl' =>
          simp [h1, h2] at hpl
          subst hpl
          cases k with
          | zero => simp at hk; subst hk; rw [h1] at hti; cases hti; rfl
          | succ k => simpa using ih pl' h2 k f ti (by simpa using hk) hti
  intro idx
  induction idx with
  | nil => intro ps h; simp [places] at h; subst h; rfl
  | cons k idx ih =>
    intro ps h
    simp only [places, List.mapM_cons, Option.bind_eq_bind, Option.pure_def] at h
    cases h1 : fieldAt? TT t k with
    | none => simp [placeOf?, h1] at h
    | some q =>
      obtain ⟨off, u, U⟩ := q
      have h1' : placeOf? TT t k = some (off, U.size) := by simp [placeOf?, h1]
      cases h2 : idx.mapM (placeOf? TT t) with
      | none => simp [h1', h2] at h
      | some ps' =>
        simp [h1', h2] at h
        subst h
        obtain ⟨fs, fd, hu', hf, rfl, rfl, hU⟩ := fieldAt_spec hTT h1
        rw [hu] at hu'
        cases hu'
        obtain ⟨D, ti, z, _, hti, _, _, _, hsz, _⟩ := tyOf_spec hU
        simp only [List.map_cons]
        rw [ih h2]
        congr 1
        have := hat _ _ hpl k fd ti (by simpa using hf) hti
        simpa [hsz] using this
theorem mapM_places (hTT : ∀ t T, TT.get t = some T → tyOf P t = some T) {t : TypeId} {fa : Array Field} {T : Ty} (hT : TT.get t = some T) (hu : P.underlying t = some (.struct fa))
    (hall : ∀ f ∈ fa.toList, ∃ U, tyOf P f.type = some U) : ∃ pl, fa.toList.mapM (fun f : Field => (P.info? f.type).map fun i => (f.offset, i.size)) = some pl := by
  generalize fa.toList = l at hall
  clear hu hT
  induction l with
  | nil => exact ⟨[], rfl⟩
  | cons f l ih =>
    obtain ⟨pl, h⟩ := ih (fun g hg => hall g (List.mem_cons_of_mem _ hg))
    obtain ⟨U, hU⟩ := hall f (List.mem_cons_self ..)
    obtain ⟨D, ti, z, _, hti, _⟩ := tyOf_spec hU
    refine ⟨(f.offset, ti.size) :: pl, ?_⟩
    simp only [List.mapM_cons, Option.bind_eq_bind, Option.pure_def, hti, h, Option.map_some, Option.bind_some]
theorem eqKinds_spec {t : TypeId} {ks : List Nat} (h : eqKinds P t = some ks) : ∃ fs, P.underlying t = some (.struct fs) ∧ P.stoodInHeld t = false ∧ P.eqGuardType P.depth t = false ∧ plainFields P 0 fs.toList = some ks := by
  unfold eqKinds at h
  split at h
  case h_2 => cases h
  rename_i fs hu
  split at h
  case isFalse => cases h
  rename_i hc
  exact ⟨fs, hu, hc.1, hc.2, h⟩
theorem op_sound (hTT : ∀ t T, TT.get t = some T → tyOf P t = some T) (h : RelW Y w0 F0 live d m Fs w) (hi : m i = none) (hd : ¬ d i) (he : ∀ t, R Y w m d Fs (env t) (a.tmps.getD t Go.undef))
    {o : Oper} {k : K} {os : List Opd} (hc : compileOp P TT o.op = some (k, os)) (hfi : ∀ s by' off n r, k = .append s by' → os.map (getOpd env) = .sl i off n :: r → False) (hw : weff live k (os.map (getOpd env)) Q) : OpGoal P Y w0 F0 live d m Fs w i (execOp a.eval o) Q := by
  cases hop : o.op <;> rw [hop] at hc <;> simp only [compileOp] at hc
  case move x =>
    obtain ⟨hk, hos⟩ := pair2_some hc; cases hk
    obtain ⟨y, rfl, hy⟩ := opds1 hos
    simp only [List.map_cons, List.map_nil, weff] at hw
    exact .of_val (s' := pure (a.eval x)) (by simp [execOp, hop]) (.val h hw rfl (opd_rel he hy))
  case assign x =>
    obtain ⟨hk, hos⟩ := pair2_some hc; cases hk
    obtain ⟨y, rfl, hy⟩ := opds1 hos
    simp only [List.map_cons, List.map_nil, weff] at hw
    exact .of_val (s' := pure (a.eval x)) (by simp [execOp, hop]) (.val h hw rfl (opd_rel he hy))
  case pick c x y =>
    obtain ⟨hk, hos⟩ := pair2_some hc; cases hk
    obtain ⟨c', r, rfl, hc', hos⟩ := opds_cons hos
    obtain ⟨x', r, rfl, hx', hos⟩ := opds_cons hos
    obtain ⟨y', rfl, hy'⟩ := opds1 hos
    have rc := opd_rel (w := w) (m := m) (d := d) (Fs := Fs) he hc'
    have rx := opd_rel (w := w) (m := m) (d := d) (Fs := Fs) he hx'
    have ry := opd_rel (w := w) (m := m) (d := d) (Fs := Fs) he hy'
    simp only [List.map_cons, List.map_nil] at hw
    generalize hg : getOpd env c' = g at hw rc
    cases g with
    | bool b =>
      simp only [weff] at hw
      generalize hv : a.eval c = v at rc
      cases rc
      refine .of_val (s' := pure (if b then a.eval x else a.eval y)) (by simp [execOp, hop, hv, asBool]) (.val h hw rfl ?_)
      cases b
      · exact ry
      · exact rx
    | _ => simp [weff] at hw
  case alloc t =>
    obtain ⟨hk, hos⟩ := pair2_some hc
    cases hT : TT.get t with
    | none => simp [hT] at hk
    | some T =>
      simp [hT] at hk; subst hk
      obtain rfl := opds_nil hos
      exact .of_val (by simp only [execOp, hop]) (s_alloc h hi hd (hTT _ _ hT) hw)
  case box t x =>
    obtain ⟨hk, hos⟩ := pair2_some hc
    cases hT : TT.get t with
    | none => simp [hT] at hk
    | some T =>
      simp [hT] at hk; subst hk
      obtain ⟨y, rfl, hy⟩ := opds1 hos
      exact .of_val (by simp only [execOp, hop]) (s_box (t := t) h hi hd (opd_rel he hy) hw)
  case build t parts =>
    split at hc
    case h_2 => cases hc
    rename_i T ps hT hps
    split at hc
    case h_2 => cases hc
    rename_i fs hdesc
    split at hc
    case isFalse => cases hc
    rename_i hall
    obtain ⟨hk, hos⟩ := pair2_some hc; cases hk
    obtain ⟨fa, hu, hfs⟩ := struct_spec hTT hT hdesc
    obtain ⟨pl, hpl⟩ := mapM_places hTT hT hu (fun f hf => by
      rw [List.all_eq_true] at hall
      have := hall (f.offset, f.type) (by rw [hfs]; exact List.mem_map.2 ⟨f, hf, rfl⟩)
      obtain ⟨U, hU⟩ := Option.isSome_iff_exists.1 this
      exact ⟨U, hTT _ _ hU⟩)
    have hoffs := places_spec hTT hu hpl hps
    have hrel := opds_rel (w := w) (m := m) (d := d) (Fs := Fs) he hos
    have hzip : ((parts.toList.map (·.1)).zip ((parts.toList.map (·.2)).map a.eval)).toArray = parts.map fun (i, x) => (i, a.eval x) := by
      apply Array.ext'
      simp only [Array.toList_map]
      rw [List.map_map, List.zip_map']
      rfl
    have hlen : (parts.toList.map (·.1)).length = (os.map (getOpd env)).length := by have := hrel.length; simpa using this.symm
    have := s_build (i := i) h hu (hTT _ _ hT) hpl hoffs hrel hlen hw
    rw [hzip] at this
    exact .of_val (by simp only [execOp, hop]) this
  case buildSlice t n parts =>
    obtain ⟨hk, hos⟩ := pair2_some hc
    cases hE : elemTy TT t with
    | none => simp [hE] at hk
    | some E =>
      simp [hE] at hk; subst hk
      obtain ⟨e, hu, hEt, hs0, _⟩ := elemTy_spec hTT hE
      have hrel := opds_rel (w := w) (m := m) (d := d) (Fs := Fs) he hos
      have hzip : ((parts.toList.map (·.1)).zip ((parts.toList.map (·.2)).map a.eval)).toArray = parts.map fun (i, x) => (i, a.eval x) := by
        apply Array.ext'
        simp only [Array.toList_map]
        rw [List.map_map, List.zip_map']
        rfl
      have hw' : weff live (.bslice E.size n E.zero (parts.toList.map (·.1))) (os.map (getOpd env)) Q := by simpa using hw
      have := s_bslice h hi hd hu hEt hs0 hrel hw'
      rw [hzip] at this
      exact .of_val (by simp only [execOp, hop]) this
  case load t x =>
    split at hc
    case h_2 => cases hc
    rename_i T hT
    obtain ⟨D, ti, z, hu, hti, hz, hzs, hdesc, hsz, _⟩ := tyOf_spec (hTT _ _ hT)
    split at hc
    · rename_i hs
      obtain ⟨hk, hos⟩ := pair2_some hc; cases hk
      obtain ⟨y, rfl, hy⟩ := opds1 hos
      exact .of_val (by simp only [execOp, hop]) (s_load1 h hu (by rw [← hdesc]; exact (single_spec hs).1) (opd_rel he hy) hw)
    · split at hc
      case h_2 => cases hc
      rename_i fs hd'
      obtain ⟨hk, hos⟩ := pair2_some hc; cases hk
      obtain ⟨y, rfl, hy⟩ := opds1 hos
      rw [hsz] at hw
      exact .of_val (by simp only [execOp, hop]) (s_loadN h hu (by rw [← hdesc]; exact hd') hti (opd_rel he hy) hw)
  case store t x y =>
    split at hc
    case h_2 => cases hc
    rename_i T hT
    obtain ⟨D, ti, z, hu, hti, hz, hzs, hdesc, hsz, _⟩ := tyOf_spec (hTT _ _ hT)
    split at hc
    · rename_i hs
      obtain ⟨hk, hos⟩ := pair2_some hc; cases hk
      obtain ⟨x', r, rfl, hx', hos⟩ := opds_cons hos
      obtain ⟨y', rfl, hy'⟩ := opds1 hos
      exact .of_unit (by simp only [execOp, hop]) (s_store1 h hti (by rw [← hsz]; exact (single_spec hs).2) (opd_rel he hx') (opd_rel he hy') hw)
    · split at hc
      case h_2 => cases hc
      rename_i fs hd'
      obtain ⟨hk, hos⟩ := pair2_some hc; cases hk
      obtain ⟨x', r, rfl, hx', hos⟩ := opds_cons hos
      obtain ⟨y', rfl, hy'⟩ := opds1 hos
      rw [hsz] at hw
      exact .of_unit (by simp only [execOp, hop]) (s_storeN h hti (opd_rel he hx') (opd_rel he hy') hw)
  case makeInterface => cases hc; simp [weff] at hw
  case panic => cases hc; simp [weff] at hw
  case nilCheck x =>
    obtain ⟨hk, hos⟩ := pair2_some hc; cases hk
    obtain ⟨y, rfl, hy⟩ := opds1 hos
    obtain ⟨e, v', hq, hr, hres⟩ := s_nilck (i := i) h hop (opd_rel he hy) hw
    exact ⟨e, v', w, hq, .inl hr, hres⟩
  case binOp op t x y yt =>
    split at hc
    · rename_i fs sz by0 z0 hT
      split at hc
      · rename_i ks hks
        obtain ⟨hk, hos⟩ := pair2_some hc; cases hk
        obtain ⟨x', r, rfl, hx', hos⟩ := opds_cons hos
        obtain ⟨y', rfl, hy'⟩ := opds1 hos
        obtain ⟨fa, hu, h1, h2, h3⟩ := eqKinds_spec hks
        exact .of_val (by simp only [execOp, hop]) (s_eqs (ox := x) (oy := y) h (.inl ⟨rfl, rfl⟩) hu h1 h2 h3 (opd_rel he hx') (opd_rel he hy') hw)
      · rename_i ks hks
        obtain ⟨hk, hos⟩ := pair2_some hc; cases hk
        obtain ⟨x', r, rfl, hx', hos⟩ := opds_cons hos
        obtain ⟨y', rfl, hy'⟩ := opds1 hos
        obtain ⟨fa, hu, h1, h2, h3⟩ := eqKinds_spec hks
        exact .of_val (by simp only [execOp, hop]) (s_eqs (ox := x) (oy := y) h (.inr ⟨rfl, rfl⟩) hu h1 h2 h3 (opd_rel he hx') (opd_rel he hy') hw)
      · cases hc
    · rename_i sz by0 z0 hT
      obtain ⟨D, ti, z, hu, _, _, _, hdesc, _⟩ := tyOf_spec (hTT _ _ hT)
      have hub : P.underlying t = some .bool := by
        cases D <;> simp [descOf] at hdesc
        exact hu
      split at hc
      · obtain ⟨hk, hos⟩ := pair2_some hc; cases hk
        obtain ⟨x', r, rfl, hx', hos⟩ := opds_cons hos
        obtain ⟨y', rfl, hy'⟩ := opds1 hos
        exact .of_val (by simp only [execOp, hop]) (s_binB (ox := x) (oy := y) h (.inl ⟨rfl, rfl⟩) hub (opd_rel he hx') (opd_rel he hy') hw)
      · obtain ⟨hk, hos⟩ := pair2_some hc; cases hk
        obtain ⟨x', r, rfl, hx', hos⟩ := opds_cons hos
        obtain ⟨y', rfl, hy'⟩ := opds1 hos
        exact .of_val (by simp only [execOp, hop]) (s_binB (ox := x) (oy := y) h (.inr ⟨rfl, rfl⟩) hub (opd_rel he hx') (opd_rel he hy') hw)
      · cases hc
    · obtain ⟨hk, hos⟩ := pair2_some hc; cases hk
      obtain ⟨x', r, rfl, hx', hos⟩ := opds_cons hos
      obtain ⟨y', rfl, hy'⟩ := opds1 hos
      exact .of_val (by simp only [execOp, hop]) (s_bin (t := t) (ox := x) (oy := y) h (opd_rel he hx') (opd_rel he hy') hw)
    · obtain ⟨hk, hos⟩ := pair2_some hc; cases hk
      obtain ⟨x', r, rfl, hx', hos⟩ := opds_cons hos
      obtain ⟨y', rfl, hy'⟩ := opds1 hos
      exact .of_val (by simp only [execOp, hop]) (s_bin (t := t) (ox := x) (oy := y) h (opd_rel he hx') (opd_rel he hy') hw)
    · cases hc
  case unOp op t x =>
    cases op <;> simp only [compileOp] at hc
    case not =>
      obtain ⟨hk, hos⟩ := pair2_some hc; cases hk
      obtain ⟨y, rfl, hy⟩ := opds1 hos
      exact .of_val (by simp only [execOp, hop]) (s_not h (opd_rel he hy) hw)
    case neg =>
      obtain ⟨hk, hos⟩ := pair2_some hc; cases hk
      obtain ⟨y, rfl, hy⟩ := opds1 hos
      exact .of_val (by simp only [execOp, hop]) (s_neg h (opd_rel he hy) hw)
    all_goals cases hc
  case convert s t x =>
    split at hc
    · rename_i S k0 sz by0 z0 hS hT
      obtain ⟨D, ti, z, hu, _, _, _, hdesc, _⟩ := tyOf_spec (hTT _ _ hT)
      obtain ⟨D', _, _, hu', _⟩ := tyOf_spec (hTT _ _ hS)
      cases D <;> simp [descOf] at hdesc
      subst hdesc
      obtain ⟨hk, hos⟩ := pair2_some hc; cases hk
      obtain ⟨y, rfl, hy⟩ := opds1 hos
      exact .of_val (by simp only [execOp, hop]) (s_conv h hu' hu (opd_rel he hy) hw)
    · rename_i S sz by0 z0 hS hT
      obtain ⟨D, ti, z, hu, _, _, _, hdesc, _⟩ := tyOf_spec (hTT _ _ hT)
      cases D <;> simp [descOf] at hdesc
      split at hc
      case isFalse => cases hc
      rename_i hb
      obtain ⟨e, h1, h2⟩ := isBytes_spec hTT hb
      obtain ⟨hk, hos⟩ := pair2_some hc; cases hk
      obtain ⟨y, rfl, hy⟩ := opds1 hos
      exact .of_val (by simp only [execOp, hop]) (s_b2s h h1 h2 hu (opd_rel he hy) hw)
    · cases hc
  case makeFunc fn first caps =>
    cases fn <;> simp only [compileOp] at hc
    case func f =>
      split at hc
      case isFalse => cases hc
      rename_i hf
      have hfirst : first = #[] := by cases first; simp_all
      subst hfirst
      obtain ⟨hk, hos⟩ := pair2_some hc; cases hk
      have hrel := opds_rel (w := w) (m := m) (d := d) (Fs := Fs) he hos
      have := s_mkfn (P := P) (i := i) h hrel hw
      have hcaps : (caps.toList.map a.eval).toArray = caps.map a.eval := by apply Array.ext'; simp
      rw [hcaps] at this
      exact .of_val (by simp only [execOp, hop, List.map_toArray, List.map_nil]) this
    all_goals cases hc
  case makeSlice t x y =>
    obtain ⟨hk, hos⟩ := pair2_some hc
    cases hE : elemTy TT t with
    | none => simp [hE] at hk
    | some E =>
      simp [hE] at hk; subst hk
      obtain ⟨e, hu, hEt, hs0, hb⟩ := elemTy_spec hTT hE
      obtain ⟨x', r, rfl, hx', hos⟩ := opds_cons hos
      obtain ⟨y', rfl, hy'⟩ := opds1 hos
      exact .of_val (by simp only [execOp, hop]) (s_mkslice h hi hd hu hEt hb (opd_rel he hx') (opd_rel he hy') hw)
  case slice t x lo hi' mx =>
    cases mx with
    | some _ => simp only [compileOp] at hc; cases hc
    | none =>
      simp only [compileOp] at hc
      split at hc
      case isTrue => cases hc
      split at hc
      · rename_i hs
        have hu := isStr_spec hTT hs
        obtain ⟨hk, hos⟩ := pair2_some hc; cases hk
        cases lo with
        | none =>
          cases hi' with
          | none => simp at *
          | some hi' =>
            obtain ⟨x', r, rfl, hx', hos⟩ := opds_cons hos
            obtain ⟨y', rfl, hy'⟩ := opds1 hos
            exact .of_val (by simp only [execOp, hop]; rfl) (s_sliceStr_h h hu (opd_rel he hx') (opd_rel he hy') hw)
        | some lo =>
          cases hi' with
          | none =>
            obtain ⟨x', r, rfl, hx', hos⟩ := opds_cons hos
            obtain ⟨y', rfl, hy'⟩ := opds1 hos
            exact .of_val (by simp only [execOp, hop]; rfl) (s_sliceStr_l h hu (opd_rel he hx') (opd_rel he hy') hw)
          | some hi' =>
            obtain ⟨x', r, rfl, hx', hos⟩ := opds_cons hos
            obtain ⟨z', r, rfl, hz', hos⟩ := opds_cons hos
            obtain ⟨y', rfl, hy'⟩ := opds1 hos
            exact .of_val (by simp only [execOp, hop]; rfl) (s_sliceStr_lh h hu (opd_rel he hx') (opd_rel he hz') (opd_rel he hy') hw)
      · obtain ⟨hk, hos⟩ := pair2_some hc
        cases hE : elemTy TT t with
        | none => simp [hE] at hk
        | some E =>
          simp [hE] at hk; subst hk
          obtain ⟨e, hu, hEt, hs0, hb⟩ := elemTy_spec hTT hE
          obtain ⟨D, ti, z, _, hti, _, _, _, hsz, _⟩ := tyOf_spec hEt
          rw [hsz] at hw
          cases lo with
          | none =>
            cases hi' with
            | none => simp at *
            | some hi' =>
              obtain ⟨x', r, rfl, hx', hos⟩ := opds_cons hos
              obtain ⟨y', rfl, hy'⟩ := opds1 hos
              exact .of_val (by simp only [execOp, hop]; rfl) (s_slice_h h hu hti (opd_rel he hx') (opd_rel he hy') hw)
          | some lo =>
            cases hi' with
            | none =>
              obtain ⟨x', r, rfl, hx', hos⟩ := opds_cons hos
              obtain ⟨y', rfl, hy'⟩ := opds1 hos
              exact .of_val (by simp only [execOp, hop]; rfl) (s_slice_l h hu hti (opd_rel he hx') (opd_rel he hy') hw)
            | some hi' =>
              obtain ⟨x', r, rfl, hx', hos⟩ := opds_cons hos
              obtain ⟨z', r, rfl, hz', hos⟩ := opds_cons hos
              obtain ⟨y', rfl, hy'⟩ := opds1 hos
              exact .of_val (by simp only [execOp, hop]; rfl) (s_slice_lh h hu hti (opd_rel he hx') (opd_rel he hz') (opd_rel he hy') hw)
  case fieldAddr t x f =>
    split at hc
    case h_2 => cases hc
    rename_i off u U hf
    split at hc
    case isFalse => cases hc
    rename_i hz
    obtain ⟨fs, fd, hu, hfd, rfl, rfl, hU⟩ := fieldAt_spec hTT hf
    obtain ⟨D, ti, z, _, hti, _, _, _, hsz, _⟩ := tyOf_spec hU
    obtain ⟨hk, hos⟩ := pair2_some hc; cases hk
    obtain ⟨y, rfl, hy⟩ := opds1 hos
    exact .of_val (by simp only [execOp, hop]) (s_faddr h hu hfd hti (by rw [← hsz]; exact hz) (opd_rel he hy) hw)
  case field t x f =>
    split at hc
    case h_2 => cases hc
    rename_i off u U hf
    split at hc
    case isFalse => cases hc
    rename_i hz
    obtain ⟨fs, fd, hu, hfd, rfl, rfl, hU⟩ := fieldAt_spec hTT hf
    obtain ⟨D, ti, z, hD, hti, _, _, hdesc, hsz, _⟩ := tyOf_spec hU
    obtain ⟨hk, hos⟩ := pair2_some hc; cases hk
    obtain ⟨y, rfl, hy⟩ := opds1 hos
    exact .of_val (by simp only [execOp, hop]) (s_field1 h hu hfd hD (by rw [← hdesc]; exact (single_spec hz).1) (opd_rel he hy) hw)
  case indexAddr t x y =>
    obtain ⟨hk, hos⟩ := pair2_some hc
    cases hE : elemTy TT t with
    | none => simp [hE] at hk
    | some E =>
      simp [hE] at hk; subst hk
      obtain ⟨e, hu, hEt, hs0, hb⟩ := elemTy_spec hTT hE
      obtain ⟨D, ti, z, _, hti, _, _, _, hsz, _⟩ := tyOf_spec hEt
      rw [hsz] at hw hs0
      obtain ⟨x', r, rfl, hx', hos⟩ := opds_cons hos
      obtain ⟨y', rfl, hy'⟩ := opds1 hos
      exact .of_val (by simp only [execOp, hop]) (s_iaddr h hu hti hs0 (opd_rel he hx') (opd_rel he hy') hw)
  case index t x y =>
    split at hc
    case isFalse => cases hc
    rename_i hs
    obtain ⟨hk, hos⟩ := pair2_some hc; cases hk
    obtain ⟨x', r, rfl, hx', hos⟩ := opds_cons hos
    obtain ⟨y', rfl, hy'⟩ := opds1 hos
    exact .of_val (by simp only [execOp, hop]) (s_idxStr h (isStr_spec hTT hs) (opd_rel he hx') (opd_rel he hy') hw)
  case extract x k0 =>
    obtain ⟨hk, hos⟩ := pair2_some hc; cases hk
    obtain ⟨y, rfl, hy⟩ := opds1 hos
    exact .of_val (by simp only [execOp, hop]) (s_ext h (opd_rel he hy) hw)
  case call c =>
    obtain ⟨callee, ⟨args⟩, ⟨ats⟩⟩ := c
    cases callee with
    | value f => simp [compileCall] at hc
    | invoke r nm => simp [compileCall] at hc
    | builtin b =>
      cases b <;> simp only [compileCall] at hc
      case len =>
        split at hc
        case h_2 => cases hc
        rename_i x t
        split at hc
        · rename_i hs
          obtain ⟨hk, hos⟩ := pair2_some hc; cases hk
          obtain ⟨y, rfl, hy⟩ := opds1 hos
          exact .of_val (s' := Builtin.len_ #[t] o.type #[a.eval x]) (call_run rfl (by simp only [builtin, List.map_toArray, List.map_cons, List.map_nil]) hop rfl) (s_lenStr h (isStr_spec hTT hs) (opd_rel he hy) hw)
        · obtain ⟨hk, hos⟩ := pair2_some hc
          cases hE : elemTy TT t with
          | none => simp [hE] at hk
          | some E =>
            simp [hE] at hk; subst hk
            obtain ⟨e, hu, _⟩ := elemTy_spec hTT hE
            obtain ⟨y, rfl, hy⟩ := opds1 hos
            exact .of_val (s' := Builtin.len_ #[t] o.type #[a.eval x]) (call_run rfl (by simp only [builtin, List.map_toArray, List.map_cons, List.map_nil]) hop rfl) (s_len h hu (opd_rel he hy) hw)
      case append =>
        split at hc
        case h_2 => cases hc
        rename_i x y t u
        split at hc
        case isFalse => cases hc
        rename_i htu
        subst htu
        obtain ⟨hk, hos⟩ := pair2_some hc
        cases hE : elemTy TT t with
        | none => simp [hE] at hk
        | some E =>
          simp [hE] at hk; subst hk
          obtain ⟨e, hu, hEt, hs0, hb⟩ := elemTy_spec hTT hE
          obtain ⟨D, ti, z, _, hti, hz, hzs, _, hsz, hby, _⟩ := tyOf_spec hEt
          obtain ⟨x', r, rfl, hx', hos⟩ := opds_cons hos
          obtain ⟨y', rfl, hy'⟩ := opds1 hos
          rw [hsz, hby] at hw
          rw [hby] at hb
          exact .of_val (s' := Builtin.append_ #[t, t] o.type #[a.eval x, a.eval y]) (call_run rfl (by simp only [builtin, List.map_toArray, List.map_cons, List.map_nil]) hop rfl) (s_append (hfi := fun off n e => hfi _ _ off n _ rfl (by rw [List.map_cons, e])) h hi hd hu hti hz hzs hb (opd_rel he hx') (opd_rel he hy') hw)
      case copy =>
        split at hc
        case h_2 => cases hc
        rename_i x y t u
        split at hc
        case isFalse => cases hc
        rename_i htu
        subst htu
        obtain ⟨hk, hos⟩ := pair2_some hc
        cases hE : elemTy TT t with
        | none => simp [hE] at hk
        | some E =>
          simp only [hE, Option.bind_some] at hk
          split at hk
          case isFalse => cases hk
          rename_i h1
          cases hk
          obtain ⟨e, hu, hEt, _⟩ := elemTy_spec hTT hE
          obtain ⟨x', r, rfl, hx', hos⟩ := opds_cons hos
          obtain ⟨y', rfl, hy'⟩ := opds1 hos
          exact .of_val (s' := Builtin.copy_ #[t, t] o.type #[a.eval x, a.eval y]) (call_run rfl (by simp only [builtin, List.map_toArray, List.map_cons, List.map_nil]) hop rfl) (s_copy h hu hEt h1 (opd_rel he hx') (opd_rel he hy') hw)
      case clear =>
        split at hc
        case h_2 => cases hc
        rename_i x t
        obtain ⟨hk, hos⟩ := pair2_some hc
        cases hE : elemTy TT t with
        | none => simp [hE] at hk
        | some E =>
          simp [hE] at hk; subst hk
          obtain ⟨e, hu, hEt, _⟩ := elemTy_spec hTT hE
          obtain ⟨y, rfl, hy⟩ := opds1 hos
          exact .of_val (s' := Builtin.clear_ #[t] o.type #[a.eval x]) (call_run rfl (by simp only [builtin, List.map_toArray, List.map_cons, List.map_nil]) hop rfl) (s_clear h hu hEt (opd_rel he hy) hw)
      case max =>
        split at hc
        case h_2 => cases hc
        rename_i x y
        obtain ⟨hk, hos⟩ := pair2_some hc; cases hk
        obtain ⟨x', r, rfl, hx', hos⟩ := opds_cons hos
        obtain ⟨y', rfl, hy'⟩ := opds1 hos
        exact .of_val (s' := Builtin.max_ ats.toArray o.type #[a.eval x, a.eval y]) (call_run rfl (by simp only [builtin, List.map_toArray, List.map_cons, List.map_nil]) hop rfl) (s_max h (opd_rel he hx') (opd_rel he hy') hw)
      case min =>
        split at hc
        case h_2 => cases hc
        rename_i x y
        obtain ⟨hk, hos⟩ := pair2_some hc; cases hk
        obtain ⟨x', r, rfl, hx', hos⟩ := opds_cons hos
        obtain ⟨y', rfl, hy'⟩ := opds1 hos
        exact .of_val (s' := Builtin.min_ ats.toArray o.type #[a.eval x, a.eval y]) (call_run rfl (by simp only [builtin, List.map_toArray, List.map_cons, List.map_nil]) hop rfl) (s_min h (opd_rel he hx') (opd_rel he hy') hw)
      all_goals cases hc
  all_goals cases hc
end
end Go.Abs
