/- The compact semantics of the programs functions and its evaluator, part 5. Own work; no condition. -/
import Derived.Test.YtaaajjinpppgeaaA4
import Derived.Shelf.Sort.Plain
import Derived.Shelf.Slices.In.SortNone
set_option linter.unusedVariables false
set_option linter.unusedSimpArgs false
set_option linter.unusedSectionVars false
/- A row of whole numbers that is sorted by the library: known from elsewhere. Own work; no condition. -/
namespace Go.Abs
open Go Go.RowKit Go.Sort
set_option linter.unusedVariables false
set_option linter.unusedSimpArgs false

def intsOf : List AV → Option (List Int)
  | [] => some []
  | .int .i64 z :: r => (intsOf r).map (z :: ·)
  | _ => none
theorem intsOf_eq : ∀ {xs : List AV} {zs : List Int}, intsOf xs = some zs → xs = zs.map (AV.int .i64) := by
  intro xs
  induction xs with
  | nil => intro zs h; simp only [intsOf] at h; cases h; rfl
  | cons x xs ih =>
    intro zs h
    cases x with
    | int k z =>
      cases k with
      | i64 =>
        simp only [intsOf, Option.map_eq_some_iff] at h
        obtain ⟨ys, h1, rfl⟩ := h
        rw [ih h1]; rfl
      | _ => simp [intsOf] at h
    | _ => simp [intsOf] at h
theorem intsOf_map (zs : List Int) : intsOf (zs.map (AV.int .i64)) = some zs := by
  induction zs with
  | nil => rfl
  | cons z zs ih => rw [List.map_cons]; unfold intsOf; rw [ih]; rfl
def sortI (zs : List Int) : List Int := zs.mergeSort fun x y => decide (x ≤ y)
def sortO (args : List AV) (mem : Mem) : Option (AV × Mem) := match args, mem with
  | [.sl 0 0 n], [some (1, xs)] => match intsOf xs with
    | some zs => if n = zs.length ∧ zs.length < 4611686018427387904 then some (.tup [], [some (1, (sortI zs).map (AV.int .i64))]) else none
    | none => none
  | _, _ => none
theorem sortI_len (zs : List Int) : (sortI zs).length = zs.length := List.length_mergeSort zs
theorem rel_ints {w : World} {m : IdMap} {d X : Nat → Prop} : ∀ {zs : List Int} {us : List Value} {F : List Nat}, RelL w m d X (zs.map (AV.int .i64)) us F → us = zs.map (Value.int .i64) ∧ F = [] := by
  intro zs
  induction zs with
  | nil => intro us F h; cases h; exact ⟨rfl, rfl⟩
  | cons z zs ih =>
    intro us F h
    cases h with
    | cons h t =>
      cases h
      obtain ⟨h1, h2⟩ := ih t
      subst h1; subst h2
      exact ⟨rfl, rfl⟩
theorem ints_rel {w : World} {m : IdMap} {d X : Nat → Prop} (zs : List Int) : RelL w m d X (zs.map (AV.int .i64)) (zs.map (Value.int .i64)) [] := by
  induction zs with
  | nil => exact .nil
  | cons z zs ih => exact .cons (F := []) (.int .i64 z) ih
theorem flat_ints (zs : List Int) : flat (zs.map (AV.int .i64)) = zs.map (AV.int .i64) := by
  induction zs with
  | nil => rfl
  | cons z zs ih => show AV.cells (.int .i64 z) ++ flat (zs.map _) = _; rw [ih]; rfl
theorem even_ints (zs : List Int) : Even 1 (zs.map (AV.int .i64)) := by
  intro x hx
  obtain ⟨z, _, rfl⟩ := List.mem_map.1 hx
  rfl
theorem putCells_at (off : Nat) (ts : List Int) (c : Array Value) (h : off + ts.length ≤ c.size) : ∀ (j : Nat) (v : Value), (ts.map (Value.int .i64))[j]? = some v → (putCells (Value.int .i64) off ts.toArray c)[off + j]? = some v := by
  intro j v hv
  have hj : j < ts.length := by
    have := (List.getElem?_eq_some_iff.1 hv).1
    simpa using this
  have e : v = Value.int .i64 ts[j] := by
    rw [List.getElem?_map, List.getElem?_eq_getElem hj] at hv
    simpa using hv.symm
  subst e
  unfold putCells
  rw [Array.getElem?_mapIdx, Array.getElem?_eq_getElem (by omega)]
  simp only [Option.map_some]
  rw [if_pos ⟨by omega, by simp; omega⟩]
  congr 1
  have : off + j - off = j := by omega
  simp [this, hj]
theorem sort_wr {P : Program} {f : FuncId} {fn : Func} {c : Code} (hf : P.funcs[f]? = some fn) (hname : (fn.name == "runtime.NumGoroutine") = false) (hb : fn.body = some c)
    (hs : ∀ (blk off cap : Nat) (zs : List Int) (w : World), Holds (Value.int .i64) w blk off zs.toArray → blk < w.heap.size → zs.length < 4611686018427387904 →
      Calls P f #[.slice (some ⟨blk, off, none⟩) zs.length cap] w fun e w' => e = .returned (.tuple #[]) ∧ ∃ n os, w' = grow (putRow (Value.int .i64) (Sort.ahead w n) blk off (zs.mergeSort fun x y => decide (x ≤ y)).toArray) os)
    (hn : ∀ (p : Option Addr) (cap : Nat) (w : World), Calls P f #[.slice p 0 cap] w fun e w' => e = .returned (.tuple #[]) ∧ w' = w) :
    OrcOk P f sortO where
  fn := ⟨fn, c, hf, hname, hb⟩
  pure := by
    intro args res h
    unfold sortO at h
    split at h
    · rename_i e; cases e
    · cases h
  qt := by
    intro args mem res h
    unfold sortO at h
    split at h
    · rename_i e; cases e
    · cases h
  wr := by
    intro args mem res mem' h _ _
    unfold sortO at h
    split at h
    case h_2 => cases h
    rename_i n xs
    split at h
    case h_2 => cases h
    rename_i zs hz
    split at h
    case isFalse => cases h
    rename_i hlen
    cases h
    have hx := intsOf_eq hz
    subst hx
    obtain ⟨rfl, hlen⟩ := hlen
    intro Y w0 F0 d m Fs w vs hfr hr ha
    obtain ⟨v, rfl⟩ : ∃ v, vs = [v] := by
      have := ha.length
      match vs, this with
      | [v], _ => exact ⟨v, rfl⟩
    have hv := RelL.head ha
    obtain ⟨n0, hg⟩ : ∃ n0, n0 = zs.length := ⟨_, rfl⟩
    rw [← hg] at hv
    refine .of_calls hf hname hb ?_
    have hl0 : liveOf [some (1, zs.map (AV.int .i64))] 0 = some (1, zs.map (AV.int .i64)) := rfl
    cases hv with
    | sl hm hcap hc =>
      rename_i b o s cap
      subst hg
      obtain ⟨e1, he, us, hex, hrl⟩ := hr.cells 0 1 _ b o s hl0 hm
      subst e1
      rw [flat_ints] at hrl
      obtain ⟨e2, e3⟩ := rel_ints hrl
      subst e2
      have hbl := hex.lt
      obtain ⟨cc, ty, hh, hcc, hsz⟩ := hex
      have hold : Holds (Value.int .i64) w b (o + 0 * 1) zs.toArray := by
        intro j hj
        have hj' : j < zs.length := by simpa using hj
        have hv : (zs.map (Value.int .i64))[j]? = some (Value.int .i64 zs[j]) := by simp [hj']
        have h2 := hcc j _ hv
        refine ⟨?_, by simp [World.frozen?, hh]⟩
        simp only [World.cell?, hh, Option.isSome_none, Bool.false_eq_true, if_false]
        rw [show o + 0 * 1 + j = o + j by omega, h2]
        simp [hj']
      refine Calls.mono (hs b (o + 0 * 1) cap zs w hold hbl hlen) ?_
      rintro e w' ⟨rfl, n, os, rfl⟩
      have o0 : o + 0 * 1 = o := by omega
      rw [o0]
      rw [List.length_map] at hsz
      have hts : (sortI zs).length = zs.length := sortI_len zs
      -- the block written
      have hW1 : (putRow (Value.int .i64) (Sort.ahead w n) b o (sortI zs).toArray).heap = w.heap.modify b (onCells (putCells (Value.int .i64) o (sortI zs).toArray)) := rfl
      have hR : Rewrite b w (putRow (Value.int .i64) (Sort.ahead w n) b o (sortI zs).toArray) :=
        { os := rfl, tape := rfl, output := rfl
          size := by rw [hW1]; simp
          block := fun b' hb' => by rw [hW1, Array.getElem?_modify, if_neg (fun e => hb' e.symm)]
          cells := fun c1 ty1 fr hc1 => by
            rw [hh] at hc1; cases hc1
            exact ⟨_, by rw [hW1, Array.getElem?_modify, if_pos rfl, hh]; rfl, by simp [putCells]⟩ }
      have hx2 : Excl (putRow (Value.int .i64) (Sort.ahead w n) b o (sortI zs).toArray) b o ((sortI zs).map (Value.int .i64)) (o + ((sortI zs).map (Value.int .i64)).length) :=
        ⟨putCells (Value.int .i64) o (sortI zs).toArray cc, ty, by rw [hW1, Array.getElem?_modify, if_pos rfl, hh]; rfl, putCells_at o (sortI zs) cc (by rw [hts]; omega), by rw [List.length_map, hts]; simp [putCells]; omega⟩
      obtain ⟨r1, c1⟩ := hr.rewrite hl0 hm hR (xs' := (sortI zs).map (AV.int .i64)) (vs' := (sortI zs).map (Value.int .i64)) (F' := []) (even_ints _) (fun x hx => by cases hx) List.nodup_nil hx2
        (fun _ => by rw [flat_ints]; exact ints_rel _)
      have hE : Evo (fun _ => False) (putRow (Value.int .i64) (Sort.ahead w n) b o (sortI zs).toArray) (grow (putRow (Value.int .i64) (Sort.ahead w n) b o (sortI zs).toArray) os) :=
        ⟨rfl, rfl, rfl, by simp [grow], fun k hk _ => by simp only [grow]; rw [Array.getElem?_append_left hk], fun k c2 ty2 fr hc2 => ⟨c2, by
          have hk := heap_lt hc2
          simp only [grow]; rw [Array.getElem?_append_left hk]; exact hc2, rfl⟩⟩
      obtain ⟨r2, c2⟩ := r1.aside hE
      refine ⟨d, m, _, r2.relive (fun t ht => ?_) (fun t ht => ?_), fun t ht => hfr t (by simpa using ht), c1.trans c2, .tup .nil⟩
      · by_cases h0 : t = 0
        · subst h0; simp [upd, liveOf]
        · have : liveOf [some (1, zs.map (AV.int .i64))] t ≠ none := hr.dom t ht
          exfalso; apply this
          cases t with
          | zero => exact absurd rfl h0
          | succ t => simp [liveOf]
      · have := r2.ddom t ht
        by_cases h0 : t = 0
        · subst h0; simp [upd] at this
        · cases t with
          | zero => exact absurd rfl h0
          | succ t => simp [liveOf]
    | sl0 A =>
      have : zs = [] := List.eq_nil_of_length_eq_zero hg.symm
      subst this
      refine Calls.mono (hn A 0 w) ?_
      rintro e w' ⟨rfl, rfl⟩
      have e : sortI [] = [] := List.eq_nil_of_length_eq_zero (sortI_len [])
      rw [e]
      exact ⟨d, m, Fs, hr, fun t ht => hfr t ht, .refl, .tup .nil⟩
    | slDead v hd => have := hr.ddom 0 hd; rw [hl0] at this; cases this
end Go.Abs
