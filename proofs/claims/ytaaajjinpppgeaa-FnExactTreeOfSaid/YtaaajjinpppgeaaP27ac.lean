/- Part 3 of the texts of a claim, joined by a program of ours (A3). No condition. -/
import Derived.Test.YtaaajjinpppgeaaP27ab
import Derived.ChangeArms
import Derived.DataReads
set_option linter.unusedVariables false
set_option linter.unusedSimpArgs false
set_option linter.unusedSectionVars false
namespace Go.Abs
open Go Go.RowKit
def pk (c : Bool) (x y : AV) : AV := bif c then x else y
def effOf (live : Live) (k : K) (args : List AV) : Eff :=
  match k, args with
  | .mv, [x] => .val x
  | .pick, [.bool c, a, b] => .val (pk c a b)
  | .box s, [x] => .newPtr s x
  | .alloc z, [] => .newPtr z.cells.length z
  | .build z parts, xs => .val (.agg ((fillA z (parts.zipWith (fun p x => (p.1, p.2, x)) xs)).getD []))
  | .bslice _ 0 _ _, _ => .val .nil
  | .bslice s (n + 1) z idx, xs => .newSl s ((idx.zip xs).foldl (fun r p => r.set p.1 p.2) (List.replicate (n + 1) z))
  | .load1, [.ptr id i j] => .val ((((live id).getD (0, [])).2.getD i .undef).cells.getD j .undef)
  | .load1, [.rop cs] => .val (cs.getD 0 .undef)
  | .loadN n, [.ptr id i j] => .val (.agg ((((((live id).getD (0, [])).2.getD i .undef).cells).drop j).take n))
  | .loadN n, [.rop cs] => .val (.agg (cs.take n))
  | .store1, [.ptr id i j, v] => .upd id ((live id).getD (0, [])).1 (((live id).getD (0, [])).2.set i ((((live id).getD (0, [])).2.getD i .undef).setCell j v))
  | .storeN n, [.ptr id i j, .agg vs] => .upd id ((live id).getD (0, [])).1 (((live id).getD (0, [])).2.set i ((((live id).getD (0, [])).2.getD i .undef).setCells j vs))
  | .faddr off, [.ptr id i j] => .val (.ptr id i (j + off))
  | .faddr off, [.rop cs] => .val (.rop (cs.drop off))
  | .iaddr s, [.sl id off n, .int _ i] => .val (.ptr id (off + i.toNat) 0)
  | .iaddr s, [.ro s' xs, .int _ i] => .val (.rop (xs.getD i.toNat .undef).cells)
  | .field1 off, [.agg cs] => .val (cs.getD off .undef)
  | .fieldN off n, [.agg cs] => .val (.agg ((cs.drop off).take n))
  | .idxStr, [.str s, .int _ i] => .val (.int .u8 ((s.data.toList.getD i.toNat 0).toNat : Nat))
  | .len, [.nil] => .val (.int .i64 0)
  | .len, [.ro _ xs] => .val (.int .i64 (xs.length : Nat))
  | .len, [.sl id _ n] => .val (.int .i64 (n : Nat))
  | .lenStr, [.str s] => .val (.int .i64 (s.size : Nat))
  | .append s bytes, [.nil, x] => match (elems live s x).getD [] with
    | [] => .val .nil
    | y :: ys => .newSl s (y :: ys)
  | .append s bytes, [.sl id off n, x] => .app id s (((live id).getD (0, [])).2.take n ++ (elems live s x).getD [])
  | .mkslice s bytes z, [.int _ l, .int _ c] => .newSl s (List.replicate l.toNat z)
  | .bin op, [x, y] => .val ((binV op x y).getD (.tup []))
  | .binB neg, [.bool a, .bool b] => .val (.bool (if neg then !(a == b) else a == b))
  | .eqs neg ks, [.agg cs, .agg ds] => .val (.bool (if neg then !((eqCells ks cs ds).getD true) else (eqCells ks cs ds).getD true))
  | .not, [.bool b] => .val (.bool (!b))
  | .neg, [.int k n] => .val (.int k (k.wrap (0 - n)))
  | .conv k, [.int _ n] => .val (.int k (k.wrap n))
  | .mkfn f, xs => .val (.fn f xs)
  | .ext i, [.tup vs] => .val (vs.getD i .undef)
  | .b2s, [x] => .val (.str ⟨((bytesOf ((elems live 1 x).getD [])).getD []).toArray⟩)
  | .nilck, [.ptr id i j] => .val (.ptr id i j)
  | .nilck, [.rop cs] => .val (.rop cs)
  | .copy, [.sl id off n, y] => .updv id 1 (((live id).getD (0, [])).2.take off ++ ((elems live 1 y).getD []).take n ++ ((live id).getD (0, [])).2.drop (off + (((elems live 1 y).getD []).take n).length)) ((((elems live 1 y).getD []).take n).length : Nat)
  | .clear s z, [.sl id off n] => .upd id s (((live id).getD (0, [])).2.take off ++ List.replicate n z ++ ((live id).getD (0, [])).2.drop (off + n))
  | .sliceStr true true, [.str s, .int _ l, .int _ h] => .val (.str (s.extract l.toNat h.toNat))
  | .sliceStr true false, [.str s, .int _ l] => .val (.str (s.extract l.toNat s.size))
  | .sliceStr false true, [.str s, .int _ h] => .val (.str (s.extract 0 h.toNat))
  | .slice s true true, [.ro _ xs, .int _ l, .int _ h] => .val (.ro s ((xs.take h.toNat).drop l.toNat))
  | .slice s true false, [.ro _ xs, .int _ l] => .val (.ro s (xs.drop l.toNat))
  | .slice s false true, [.ro _ xs, .int _ h] => .val (.ro s (xs.take h.toNat))
  | .slice s true true, [.sl id off n, .int _ l, .int _ h] => .val (.sl id (off + l.toNat) (h.toNat - l.toNat))
  | .slice s true false, [.sl id off n, .int _ l] => .val (.sl id (off + l.toNat) (n - l.toNat))
  | .slice s false true, [.sl id off n, .int _ h] => .val (.sl id off h.toNat)
  | .max, [.int k a, .int _ b] => .val (.int k (if b > a then b else a))
  | .min, [.int k a, .int _ b] => .val (.int k (if b < a then b else a))
  | _, _ => .val (.tup [])
section
variable {P : Program} {Q Q' : AX → St → Prop} {s : St}
end
end Go.Abs
namespace Go.Abs
open Go Go.RowKit
inductive Shp where
  | bool | int (k : IntKind) | str
  | slice (s : Nat) (e : Shp)
  | struct (fs : List Shp)
def Shp.elem : Shp → List AV → AV
  | .struct _, cs => .agg cs
  | _, cs => cs.headD .undef
mutual
inductive Is : Shp → List AV → Prop
  | bool (b : Bool) : Is .bool [.bool b]
  | int {k : IntKind} {n : Int} (h : (Lit.int k n).wf = true) : Is (.int k) [.int k n]
  | str {s : ByteArray} (h : s.size ≤ maxLen) : Is .str [.str s]
  | slice {s : Nat} {e : Shp} {css : List (List AV)} (h : ∀ cs ∈ css, Is e cs) (hl : css.length ≤ maxLen) : Is (.slice s e) [.ro s (css.map e.elem)]
  | struct {fs : List Shp} {parts : List (List AV)} (h : IsL fs parts) : Is (.struct fs) parts.flatten
inductive IsL : List Shp → List (List AV) → Prop
  | nil : IsL [] []
  | cons {f : Shp} {fs : List Shp} {cs : List AV} {parts : List (List AV)} (h : Is f cs) (t : IsL fs parts) : IsL (f :: fs) (cs :: parts)
end
def shpOf (P : Program) : Nat → TypeId → Option Shp
  | 0, _ => none
  | n + 1, t => match P.underlying t with
    | some .bool => if P.cellsOf t = 1 then some .bool else none
    | some (.int k) => if P.cellsOf t = 1 then some (.int k) else none
    | some .string => if P.cellsOf t = 1 then some .str else none
    | some (.slice e) => if P.cellsOf t = 1 ∧ P.cellsOf e ≠ 0 then (shpOf P n e).map (.slice (P.cellsOf e)) else none
    | some (.struct fs) => if rowOk P 0 (P.cellsOf t) fs.toList then (fs.toList.mapM fun f => shpOf P n f.type).map .struct else none
    | _ => none
where rowOk (P : Program) : Nat → Nat → List Field → Bool
  | o, total, [] => o == total
  | o, total, f :: fs => f.offset == o && rowOk P (o + P.cellsOf f.type) total fs
section
variable {H : Type} {enc : TypeId × Value → H} {P : Program} {w : World} {spare : Nat → Bool} {held : Bool}
theorem Is.elem_cells {e : Shp} {cs : List AV} (h : Is e cs) : (e.elem cs).cells = cs := by
  cases h <;> rfl
theorem flat_elems {e : Shp} {css : List (List AV)} (h : ∀ cs ∈ css, Is e cs) : flat (css.map e.elem) = css.flatten := by
  induction css with
  | nil => rfl
  | cons cs css ih =>
    rw [List.map_cons, flat_cons, (h cs (List.mem_cons_self ..)).elem_cells, ih (fun c hc => h c (List.mem_cons_of_mem _ hc)), List.flatten_cons]
def Reads (P : Program) (w : World) (t : TypeId) (shp : Shp) (cs : List Value) : Prop :=
  ∃ avs, Is shp avs ∧ avs.all closedC = true ∧ RelL w m0 d0 (fun _ => False) avs cs [] ∧ avs.length = P.cellsOf t
theorem read_row {n : Nat} {cs : List Value} : ∀ (fs : List Field) (shps : List Shp) (o total : Nat), shpOf.rowOk P o total fs = true → cs.length = total →
    fs.mapM (fun f => shpOf P n f.type) = some shps → (∀ f ∈ fs, ∀ shp, shpOf P n f.type = some shp → Reads P w f.type shp ((cs.drop f.offset).take (P.cellsOf f.type))) →
    ∃ parts, IsL shps parts ∧ parts.flatten.all closedC = true ∧ RelL w m0 d0 (fun _ => False) parts.flatten (cs.drop o) [] ∧ parts.flatten.length + o = total := by
  intro fs
  induction fs with
  | nil =>
    intro shps o total ho hl hm _
    simp [shpOf.rowOk] at ho
    simp at hm
    subst hm; subst ho
    refine ⟨[], .nil, rfl, ?_, by simp⟩
    rw [List.drop_of_length_le (by omega)]; exact .nil
  | cons f fs ih =>
    intro shps o total ho hl hm hr
    simp [shpOf.rowOk] at ho
    obtain ⟨hfo, ho⟩ := ho
    simp only [List.mapM_cons, Option.bind_eq_bind, Option.pure_def] at hm
    cases h1 : shpOf P n f.type with
    | none => simp [h1] at hm
    | some shp =>
      cases h2 : fs.mapM (fun f => shpOf P n f.type) with
      | none => simp [h1, h2] at hm
      | some shps' =>
        simp [h1, h2] at hm
        subst hm
        obtain ⟨avs, e1, e2, e3, e4⟩ := hr f (List.mem_cons_self ..) shp h1
        obtain ⟨parts, p1, p2, p3, p4⟩ := ih shps' (o + P.cellsOf f.type) total ho hl h2 (fun g hg => hr g (List.mem_cons_of_mem _ hg))
        refine ⟨avs :: parts, .cons e1 p1, by rw [List.flatten_cons, List.all_append, e2, p2]; rfl, ?_, by rw [List.flatten_cons, List.length_append]; omega⟩
        rw [List.flatten_cons]
        have := e3.append p3
        rw [hfo] at this
        rw [← List.drop_drop, List.take_append_drop] at this
        exact this
end
section
variable {H : Type} {enc : TypeId × Value → H} {P : Program} {w : World} {spare : Nat → Bool} {held : Bool}
theorem elems_exist {t : TypeId} {e : Shp} {len : Nat} {f : Nat → List Value} (h : ∀ i, i < len → Reads P w t e (f i)) :
    ∃ css : List (List AV), css.length = len ∧ (∀ cs ∈ css, Is e cs ∧ cs.length = P.cellsOf t) ∧ css.flatten.all closedC = true ∧ RelL w m0 d0 (fun _ => False) css.flatten ((List.range len).map f).flatten [] := by
  induction len with
  | zero => exact ⟨[], rfl, fun _ h => (by cases h), rfl, RelL.nil⟩
  | succ len ih =>
    obtain ⟨css, h1, h2, h3, h4⟩ := ih (fun i hi => h i (by omega))
    obtain ⟨avs, e1, e2, e3, e4⟩ := h len (by omega)
    refine ⟨css ++ [avs], by simp [h1], fun cs hcs => ?_, by rw [List.flatten_append, List.all_append, h3]; simp [e2], ?_⟩
    · rcases List.mem_append.1 hcs with hcs | hcs
      · exact h2 cs hcs
      · simp at hcs; subst hcs; exact ⟨e1, e4⟩
    · rw [List.flatten_append, List.range_succ, List.map_append, List.flatten_append]
      have := h4.append (show RelL w m0 d0 (fun _ => False) [avs].flatten (([len].map f).flatten) [] by simpa using e3)
      exact this
theorem read_sound : ∀ (n : Nat) {t : TypeId} {shp : Shp} {fuel : Nat} {cs : List Value} {d : DataW H × List MemPlace}, shpOf P n t = some shp → DataW.trod enc P w 0 spare held fuel t cs = some d → Reads P w t shp cs := by
  intro n
  induction n with
  | zero => intro t shp fuel cs d h; simp [shpOf] at h
  | succ n ih =>
    intro t shp fuel cs d h hd
    unfold shpOf at h
    split at h
    · rename_i ht
      split at h
      · rename_i hc
        cases h
        obtain ⟨b, rfl, _⟩ := DataW.trod_bool ht hd
        exact ⟨[.bool b], .bool b, rfl, .single (.bool b), by simp [hc]⟩
      · cases h
    · rename_i k ht
      split at h
      · rename_i hc
        cases h
        obtain ⟨m, rfl, _, hwf⟩ := DataW.trod_int ht hd
        exact ⟨[.int k m], .int hwf, rfl, .single (.int k m), by simp [hc]⟩
      · cases h
    · rename_i ht
      split at h
      · rename_i hc
        cases h
        obtain ⟨s, rfl, _, hs⟩ := DataW.trod_string ht hd
        exact ⟨[.str s], .str hs, rfl, .single (.str s), by simp [hc]⟩
      · cases h
    · rename_i e ht
      split at h
      · rename_i hc
        simp only [Option.map_eq_some_iff] at h
        obtain ⟨se, hse, rfl⟩ := h
        rcases DataW.trod_slice ht hd with ⟨rfl, _⟩ | ⟨a, len, cap, elems, rest, fuel', _, rfl, _, _, hlc, hcm, hel, hget, _⟩
        · refine ⟨[.ro (P.cellsOf e) ([].map se.elem)], .slice (fun _ h => by cases h) (by simp), rfl, .single ?_, by simp [hc.1]⟩
          exact .ro (xs := []) (ys := []) (vs := []) (Nat.le_refl _) (Even.nil _) (.inl rfl) rfl rfl .nil
        · have hcell : ∀ i, i < len → ∃ cs, w.cells? 0 (a.add (i * P.cellsOf e)) (P.cellsOf e) = some cs ∧ Reads P w e se cs := by
            intro i hi
            have := hget i hi
            rw [List.getElem?_eq_getElem (by omega)] at this
            cases hcs : w.cells? 0 (a.add (i * P.cellsOf e)) (P.cellsOf e) with
            | none => rw [hcs] at this; cases this
            | some cs => rw [hcs] at this; exact ⟨cs, rfl, ih hse this⟩
          have hf : ∀ i, i < len → Reads P w e se ((w.cells? 0 (a.add (i * P.cellsOf e)) (P.cellsOf e)).getD []) := by
            intro i hi
            obtain ⟨cs, h1, h2⟩ := hcell i hi
            rw [h1]; exact h2
          obtain ⟨css, h1, h2, h3, h4⟩ := elems_exist hf
          have hfl := flat_elems (e := se) (css := css) (fun cs hcs => (h2 cs hcs).1)
          refine ⟨[.ro (P.cellsOf e) (css.map se.elem)], .slice (fun cs hcs => (h2 cs hcs).1) (by omega), rfl, .single ?_, by simp [hc.1]⟩
          have hev : Even (P.cellsOf e) (css.map se.elem) := by
            intro x hx
            obtain ⟨cs, hcs, rfl⟩ := List.mem_map.1 hx
            rw [(h2 cs hcs).1.elem_cells]; exact (h2 cs hcs).2
          have hlen : (css.map se.elem).length = len := by simp [h1]
          rw [← hlen]
          refine .ro (by omega) hev ?_ hfl h3 h4
          by_cases h0 : len = 0
          · left; subst h0; rfl
          · right
            obtain ⟨cs0, hc0, _⟩ := hcell 0 (by omega)
            obtain ⟨_, hl0, hg0⟩ := World.cells?_some hc0
            have hsz : 0 < P.cellsOf e := by omega
            obtain ⟨v0, hv0⟩ : ∃ v0, cs0[0]? = some v0 := ⟨cs0[0], by simp [show 0 < cs0.length by omega]⟩
            have hc00 := hg0 0 hsz
            rw [hv0] at hc00
            obtain ⟨b, o, sp⟩ := a
            unfold World.cell? at hc00
            split at hc00
            case h_2 => cases hc00
            rename_i c ty fr hb
            split at hc00
            · cases hc00
            · rename_i hsp
              have hsp' : sp = none := by
                cases sp with
                | none => rfl
                | some q => exfalso; revert hsp; simp [Addr.add]
              subst hsp'
              simp only [addr_add] at hb
              refine ⟨b, o, rfl, fun h => h, heap_lt hb, c, ty, fr, hb, ?_⟩
              have key : ∀ k, k ≤ len → ∀ (j : Nat) (v : Value), (((List.range k).map fun i => (w.cells? 0 ((⟨b, o, none⟩ : Addr).add (i * P.cellsOf e)) (P.cellsOf e)).getD []).flatten)[j]? = some v → c[o + j]? = some v := by
                intro k
                induction k with
                | zero => intro _ j v hj; simp at hj
                | succ k ihk =>
                  intro hk j v hj
                  have hkl : ((List.range k).map fun i => (w.cells? 0 ((⟨b, o, none⟩ : Addr).add (i * P.cellsOf e)) (P.cellsOf e)).getD []).flatten.length = k * P.cellsOf e := by
                    rw [List.length_flatten, List.map_map]
                    have : ∀ i ∈ List.range k, (List.length ∘ fun i => (w.cells? 0 ((⟨b, o, none⟩ : Addr).add (i * P.cellsOf e)) (P.cellsOf e)).getD []) i = P.cellsOf e := by
                      intro i hi
                      obtain ⟨cs, q1, _⟩ := hcell i (by have := List.mem_range.1 hi; omega)
                      simp only [Function.comp, q1, Option.getD_some]
                      exact (World.cells?_some q1).2.1
                    rw [List.map_congr_left this, List.map_const', List.length_range, List.sum_replicate_nat]
                  rw [List.range_succ, List.map_append, List.flatten_append, List.getElem?_append] at hj
                  split at hj
                  · exact ihk (by omega) j v hj
                  · rename_i hge
                    rw [hkl] at hge hj
                    obtain ⟨cs, q1, _⟩ := hcell k (by omega)
                    obtain ⟨_, q2, q3⟩ := World.cells?_some q1
                    simp only [List.map_cons, List.map_nil, List.flatten_cons, List.flatten_nil, List.append_nil, q1, Option.getD_some] at hj
                    have hjl : j - k * P.cellsOf e < P.cellsOf e := by
                      have := (List.getElem?_eq_some_iff.1 hj).1
                      omega
                    have q4 := q3 (j - k * P.cellsOf e) hjl
                    rw [hj] at q4
                    unfold World.cell? at q4
                    simp only [addr_add, hb] at q4
                    rw [show o + j = o + k * P.cellsOf e + (j - k * P.cellsOf e) by omega]
                    simpa using q4
              exact key len (Nat.le_refl _)
      · cases h
    · rename_i fs ht
      split at h
      · rename_i hrow
        simp only [Option.map_eq_some_iff] at h
        obtain ⟨shps, hm, rfl⟩ := h
        obtain ⟨xs, fuel', _, _, hl, hxl, hget⟩ := DataW.trod_struct ht hd
        obtain ⟨parts, p1, p2, p3, p4⟩ := read_row (n := n) (cs := cs) fs.toList shps 0 _ hrow hl hm (fun f hf shp hshp => by
          obtain ⟨i, hi, rfl⟩ := List.getElem_of_mem hf
          have hi' : i < fs.size := by simpa using hi
          have := hget i fs[i] (by simp [hi'])
          rw [List.getElem?_eq_getElem (by omega)] at this
          exact ih hshp (by simpa using this))
        exact ⟨parts.flatten, .struct p1, p2, by simpa using p3, by omega⟩
      · cases h
    · cases h
end
end Go.Abs
namespace Go.Abs
open Go Go.RowKit
mutual
def mapId (g : Bool → Nat → Nat → Nat → AV) : AV → AV
  | .sl id off n => g true id off n
  | .ptr id i j => g false id i j
  | .agg cs => .agg (mapIdL g cs)
  | .tup cs => .tup (mapIdL g cs)
  | .own s xs => .own s (mapIdL g xs)
  | .box x => .box (mapId g x)
  | .fn f cs => .fn f (mapIdL g cs)
  | .undef => .undef
  | .one => .one
  | .bool b => .bool b
  | .int k n => .int k n
  | .str s => .str s
  | .nil => .nil
  | .ro s xs => .ro s xs
  | .rop cs => .rop cs
def mapIdL (g : Bool → Nat → Nat → Nat → AV) : List AV → List AV
  | [] => []
  | x :: xs => mapId g x :: mapIdL g xs
end
mutual
def idsV (u : Bool → Nat → Nat → Nat → List Nat) : AV → List Nat
  | .sl id off n => u true id off n
  | .ptr id i j => u false id i j
  | .agg cs => idsL u cs
  | .tup cs => idsL u cs
  | .own _ xs => idsL u xs
  | .box x => idsV u x
  | .fn _ cs => idsL u cs
  | .undef => []
  | .one => []
  | .bool _ => []
  | .int _ _ => []
  | .str _ => []
  | .nil => []
  | .ro _ _ => []
  | .rop _ => []
def idsL (u : Bool → Nat → Nat → Nat → List Nat) : List AV → List Nat
  | [] => []
  | x :: xs => idsV u x ++ idsL u xs
end
def isAgg : AV → Bool
  | .agg _ => true
  | _ => false
theorem mapIdL_map (g : Bool → Nat → Nat → Nat → AV) (xs : List AV) : mapIdL g xs = xs.map (mapId g) := by
  induction xs with
  | nil => simp [mapIdL]
  | cons x xs ih => simp [mapIdL, ih]
theorem idsL_map (u : Bool → Nat → Nat → Nat → List Nat) (xs : List AV) : idsL u xs = xs.flatMap (idsV u) := by
  induction xs with
  | nil => simp [idsL]
  | cons x xs ih => simp [idsL, ih]
theorem cells_mapId {g : Bool → Nat → Nat → Nat → AV} (hg : ∀ b id i j, isAgg (g b id i j) = false) (x : AV) : (mapId g x).cells = mapIdL g x.cells := by
  have key : ∀ y : AV, isAgg y = false → y.cells = [y] := fun y hy => by cases y <;> first | rfl | cases hy
  cases x <;> simp only [mapId, AV.cells, mapIdL]
  · exact key _ (hg ..)
  · exact key _ (hg ..)
theorem flat_mapId {g : Bool → Nat → Nat → Nat → AV} (hg : ∀ b id i j, isAgg (g b id i j) = false) (xs : List AV) : flat (mapIdL g xs) = mapIdL g (flat xs) := by
  induction xs with
  | nil => rfl
  | cons x xs ih =>
    show flat (mapId g x :: mapIdL g xs) = _
    rw [flat_cons, flat_cons, ih, cells_mapId hg, mapIdL_map, mapIdL_map, mapIdL_map, List.map_append]
theorem even_mapId {g : Bool → Nat → Nat → Nat → AV} (hg : ∀ b id i j, isAgg (g b id i j) = false) {s : Nat} {xs : List AV} (h : Even s xs) : Even s (mapIdL g xs) := by
  intro x hx
  rw [mapIdL_map] at hx
  obtain ⟨y, hy, rfl⟩ := List.mem_map.1 hx
  rw [cells_mapId hg, mapIdL_map, List.length_map]
  exact h y hy
theorem ids_cells (u : Bool → Nat → Nat → Nat → List Nat) (x : AV) : idsL u x.cells = idsV u x := by
  cases x <;> simp [AV.cells, idsL, idsV]
theorem ids_flat (u : Bool → Nat → Nat → Nat → List Nat) (xs : List AV) : idsL u (flat xs) = idsL u xs := by
  induction xs with
  | nil => rfl
  | cons x xs ih => rw [flat_cons, idsL_map, List.flatMap_append, ← idsL_map, ← idsL_map, ih, ids_cells]; rfl
def gp (ρ : Nat → Option Nat) (live : Live) : Nat → Bool → Nat → Nat → Nat → AV
  | 0 => fun b id i j => match ρ id with
    | some k => if b then .sl k i j else .ptr k i j
    | none => .undef
  | D + 1 => fun b id i j => match ρ id with
    | some k => if b then .sl k i j else .ptr k i j
    | none => match live id with
      | none => .undef
      | some (s, xs) => if b then (if i = 0 ∧ j ≤ xs.length then .own s (mapIdL (gp ρ live D) (xs.take j)) else .undef)
        else match xs with
          | [x] => if i = 0 ∧ j = 0 then .box (mapId (gp ρ live D) x) else .undef
          | _ => .undef
def up (ρ : Nat → Option Nat) (live : Live) : Nat → Bool → Nat → Nat → Nat → List Nat
  | 0 => fun _ _ _ _ => []
  | D + 1 => fun b id i j => match ρ id with
    | some _ => []
    | none => match live id with
      | none => []
      | some (_, xs) => if b then (if i = 0 ∧ j ≤ xs.length then id :: idsL (up ρ live D) (xs.take j) else [])
        else match xs with
          | [x] => if i = 0 ∧ j = 0 then id :: idsV (up ρ live D) x else []
          | _ => []
theorem gp_agg (ρ : Nat → Option Nat) (live : Live) : ∀ (D : Nat) (b : Bool) (id i j : Nat), isAgg (gp ρ live D b id i j) = false := by
  intro D b id i j
  cases D with
  | zero => unfold gp; split <;> (try split) <;> rfl
  | succ D => unfold gp; (repeat' split) <;> rfl
theorem ups_none (ρ : Nat → Option Nat) (live : Live) (D : Nat) (ih : ∀ (b : Bool) (id i j : Nat), ∀ t ∈ up ρ live D b id i j, ρ t = none) : ∀ xs : List AV, ∀ t ∈ idsL (up ρ live D) xs, ρ t = none := by
  have hV : ∀ x : AV, ∀ t ∈ idsV (up ρ live D) x, ρ t = none := by
    intro x
    refine AV.rec (motive_1 := fun x => ∀ t ∈ idsV (up ρ live D) x, ρ t = none) (motive_2 := fun xs => ∀ t ∈ idsL (up ρ live D) xs, ρ t = none)
      ?_ ?_ ?_ ?_ ?_ ?_ ?_ ?_ ?_ ?_ ?_ ?_ ?_ ?_ ?_ ?_ ?_ x
    all_goals first
      | (intros; rename_i h; simp [idsV] at h; done)
      | (intro t h; simp [idsV] at h; done)
      | (intro t h; simp [idsL] at h; done)
      | skip
    · intro cs h; simpa [idsV] using h
    · intro cs h; simpa [idsV] using h
    · intro s xs h; simpa [idsV] using h
    · intro id off n; simpa [idsV] using ih true id off n
    · intro id i j; simpa [idsV] using ih false id i j
    · intro x h; simpa [idsV] using h
    · intro f cs h; simpa [idsV] using h
    · intro x xs h1 h2 t ht
      simp only [idsL, List.mem_append] at ht
      rcases ht with ht | ht
      · exact h1 t ht
      · exact h2 t ht
  intro xs t ht
  rw [idsL_map] at ht
  obtain ⟨x, _, hx⟩ := List.mem_flatMap.1 ht
  exact hV x t hx
theorem up_none (ρ : Nat → Option Nat) (live : Live) : ∀ (D : Nat) (b : Bool) (id i j : Nat), ∀ t ∈ up ρ live D b id i j, ρ t = none := by
  intro D
  induction D with
  | zero => intro b id i j t ht; simp [up] at ht
  | succ D ih =>
    intro b id i j t ht
    have hL : ∀ xs : List AV, ∀ t ∈ idsL (up ρ live D) xs, ρ t = none := fun xs => ups_none ρ live D ih xs
    unfold up at ht
    cases hρ : ρ id with
    | some k => rw [hρ] at ht; cases ht
    | none =>
      rw [hρ] at ht
      simp only at ht
      split at ht
      · cases ht
      · split at ht
        · split at ht
          · rcases List.mem_cons.1 ht with rfl | ht
            · exact hρ
            · exact hL _ t ht
          · cases ht
        · split at ht
          · rename_i x _
            split at ht
            · rcases List.mem_cons.1 ht with rfl | ht
              · exact hρ
              · exact hL [x] t (by simpa [idsL] using ht)
            · cases ht
          · cases ht
end Go.Abs
namespace Go.Abs
open Go Go.RowKit
section
variable {Y : Nat → Prop} {w0 : World} {F0 : List Nat} {live : Live} {d : Nat → Prop} {m : IdMap} {Fs : Nat → List Nat} {w : World}
theorem pack_core (h : RelW Y w0 F0 live d m Fs w) {g : Bool → Nat → Nat → Nat → AV} {u : Bool → Nat → Nat → Nat → List Nat} (hg : ∀ b id i j, isAgg (g b id i j) = false) {m' : IdMap} {d' X' : Nat → Prop}
    (hX : ∀ b, X' b → XOf Y m Fs b)
    (hsl : ∀ id off n v, RelV w m d (XOf Y m Fs) (.sl id off n) v [] → (u true id off n).Nodup → ∃ F', Used m Fs [] F' (u true id off n) ∧ RelV w m' d' X' (g true id off n) v F')
    (hptr : ∀ id i j v, RelV w m d (XOf Y m Fs) (.ptr id i j) v [] → (u false id i j).Nodup → ∃ F', Used m Fs [] F' (u false id i j) ∧ RelV w m' d' X' (g false id i j) v F')
    {a : List AV} {v : List Value} {F : List Nat} (hr : RelL w m d (XOf Y m Fs) a v F) : Free m Fs F (idsL u a) → ∃ F', Used m Fs F F' (idsL u a) ∧ RelL w m' d' X' (mapIdL g a) v F' := by
  have closed : ∀ {x : AV} {v : Value} {F : List Nat} (hc : x.closed = true), RelV w m d (XOf Y m Fs) x v F → F = [] ∧ RelV w m' d' X' x v [] := fun hc hv => RelV.closed hX hv hc
  have leaf : ∀ {x : AV} {v : Value}, RelV w m' d' X' x v [] → ∃ F', Used m Fs [] F' [] ∧ RelV w m' d' X' x v F' := fun hx => ⟨[], ⟨List.nodup_nil, fun _ h => by cases h⟩, hx⟩
  refine RelL.rec (motive_1 := fun a v F _ => Free m Fs F (idsV u a) → ∃ F', Used m Fs F F' (idsV u a) ∧ RelV w m' d' X' (mapId g a) v F')
    (motive_2 := fun a v F _ => Free m Fs F (idsL u a) → ∃ F', Used m Fs F F' (idsL u a) ∧ RelL w m' d' X' (mapIdL g a) v F')
    ?undef ?one ?bool ?int ?str ?agg ?tup ?nil ?ro ?own ?own0 ?sl ?sl0 ?slDead ?ptr ?ptrDead ?rop ?box ?fn ?lnil ?lcons hr
  case undef => intro v _; exact leaf (.undef v)
  case one => intro v h _; exact leaf (.one v h)
  case bool => intro b _; exact leaf (.bool b)
  case int => intro k n _; exact leaf (.int k n)
  case str => intro s _; exact leaf (.str s)
  case agg => intro cs vs F _ ih hf; obtain ⟨F', h1, h2⟩ := ih hf; exact ⟨F', h1, .agg h2⟩
  case tup => intro cs vs F _ ih hf; obtain ⟨F', h1, h2⟩ := ih hf; exact ⟨F', h1, .tup h2⟩
  case nil => intro A _; exact leaf (.nil A)
  case ro =>
    intro s xs ys vs A cap hn he hc hf hcl hl _ hfr
    exact leaf (closed (x := .ro s xs) rfl (.ro hn he hc hf hcl hl)).2
  case own =>
    intro s xs ys vs b o cap F hn he hc hf hl ih hfr
    subst hf
    have e : idsV u (.own s xs) = idsL u (flat xs) := by rw [ids_flat]; rfl
    rw [e] at hfr ⊢
    have hnd := List.nodup_cons.1 hfr.1
    obtain ⟨F', ⟨hn1, hsub⟩, hr1⟩ := ih ⟨hnd.2, hfr.2.1, fun x hx => hfr.2.2 x (List.mem_cons_of_mem _ hx)⟩
    refine ⟨b :: F', ⟨List.nodup_cons.2 ⟨fun hb => ?_, hn1⟩, fun x hx => ?_⟩, ?_⟩
    · rcases hsub b hb with h1 | ⟨id', h1, h2⟩
      · exact hnd.1 h1
      · exact hfr.2.2 b (List.mem_cons_self ..) id' h1 h2
    · rcases List.mem_cons.1 hx with rfl | hx
      · exact .inl (List.mem_cons_self ..)
      · rcases hsub x hx with h1 | h1
        · exact .inl (List.mem_cons_of_mem _ h1)
        · exact .inr h1
    · have hlen : (mapIdL g xs).length = xs.length := by rw [mapIdL_map, List.length_map]
      show RelV w m' d' X' (.own s (mapIdL g xs)) _ _
      rw [← hlen]
      exact .own (by rw [hlen]; exact hn) (even_mapId hg he) hc (flat_mapId hg xs) hr1
  case own0 => intro s A _; exact leaf (.own0 A)
  case sl => intro id off n b o s cap h1 h2 h3 hfr; exact hsl _ _ _ _ (.sl h1 h2 h3) hfr.2.1
  case sl0 => intro id off A hfr; exact hsl _ _ _ _ (.sl0 A) hfr.2.1
  case slDead => intro id off n v h1 hfr; exact hsl _ _ _ _ (.slDead v h1) hfr.2.1
  case ptr => intro id i j b o s h1 hfr; exact hptr _ _ _ _ (.ptr h1) hfr.2.1
  case ptrDead => intro id i j v h1 hfr; exact hptr _ _ _ _ (.ptrDead v h1) hfr.2.1
  case rop =>
    intro cs vs b o hx hb hc hcl hl _ hfr
    exact leaf (closed (x := .rop cs) rfl (.rop hx hb hc hcl hl)).2
  case box =>
    intro x ys vs b o F hc hf hl ih hfr
    subst hf
    have e : idsV u (.box x) = idsL u x.cells := by rw [ids_cells]; rfl
    rw [e] at hfr ⊢
    have hnd := List.nodup_cons.1 hfr.1
    obtain ⟨F', ⟨hn1, hsub⟩, hr1⟩ := ih ⟨hnd.2, hfr.2.1, fun x hx => hfr.2.2 x (List.mem_cons_of_mem _ hx)⟩
    refine ⟨b :: F', ⟨List.nodup_cons.2 ⟨fun hb => ?_, hn1⟩, fun x hx => ?_⟩, .box hc (cells_mapId hg x) hr1⟩
    · rcases hsub b hb with h1 | ⟨id', h1, h2⟩
      · exact hnd.1 h1
      · exact hfr.2.2 b (List.mem_cons_self ..) id' h1 h2
    · rcases List.mem_cons.1 hx with rfl | hx
      · exact .inl (List.mem_cons_self ..)
      · rcases hsub x hx with h1 | h1
        · exact .inl (List.mem_cons_of_mem _ h1)
        · exact .inr h1
  case fn => intro f cs vs F _ ih hf; obtain ⟨F', h1, h2⟩ := ih hf; exact ⟨F', h1, .fn h2⟩
  case lnil => intro _; exact ⟨[], ⟨List.nodup_nil, fun _ h => by cases h⟩, .nil⟩
  case lcons =>
    intro x v F1 xs vs F2 _ _ ih1 ih2 hfr
    obtain ⟨f1, f2, f3⟩ := hfr
    obtain ⟨f4, f5, f6⟩ := List.nodup_append.1 f1
    obtain ⟨g4, g5, g6⟩ := List.nodup_append.1 (show (idsV u x ++ idsL u xs).Nodup from f2)
    have f3 : ∀ y ∈ F1 ++ F2, ∀ id ∈ idsV u x ++ idsL u xs, y ∉ blocksOf m Fs id := f3
    obtain ⟨F1', ⟨a1, a2⟩, a3⟩ := ih1 ⟨f4, g4, fun x hx id hid => f3 x (List.mem_append_left _ hx) id (List.mem_append_left _ hid)⟩
    obtain ⟨F2', ⟨b1, b2⟩, b3⟩ := ih2 ⟨f5, g5, fun x hx id hid => f3 x (List.mem_append_right _ hx) id (List.mem_append_right _ hid)⟩
    refine ⟨F1' ++ F2', ⟨List.nodup_append.2 ⟨a1, b1, fun x hx y hy e => ?_⟩, fun x hx => ?_⟩, .cons a3 b3⟩
    · subst e
      rcases a2 x hx with h1 | ⟨i1, h1, h1'⟩ <;> rcases b2 x hy with h2 | ⟨i2, h2, h2'⟩
      · exact f6 x h1 x h2 rfl
      · exact f3 x (List.mem_append_left _ h1) i2 (List.mem_append_right _ h2) h2'
      · exact f3 x (List.mem_append_right _ h2) i1 (List.mem_append_left _ h1) h1'
      · exact h.disj i1 i2 (fun e => g6 i1 h1 i2 h2 e) x h1' h2'
    · show x ∈ F1 ++ F2 ∨ ∃ id ∈ idsV u _ ++ idsL u xs, _
      rcases List.mem_append.1 hx with hx | hx
      · rcases a2 x hx with h1 | ⟨i1, h1, h1'⟩
        · exact .inl (List.mem_append_left _ h1)
        · exact .inr ⟨i1, List.mem_append_left _ h1, h1'⟩
      · rcases b2 x hx with h1 | ⟨i1, h1, h1'⟩
        · exact .inl (List.mem_append_right _ h1)
        · exact .inr ⟨i1, List.mem_append_right _ h1, h1'⟩
theorem pack_sound (h : RelW Y w0 F0 live d m Fs w) (ρ : Nat → Option Nat) {m' : IdMap} {d' X' : Nat → Prop} (hm : ∀ id k, ρ id = some k → m' k = m id) (hd : ∀ id k, ρ id = some k → d id → d' k)
    (hX : ∀ b, X' b → XOf Y m Fs b) : ∀ (D : Nat) {a : List AV} {v : List Value} {F : List Nat}, RelL w m d (XOf Y m Fs) a v F → Free m Fs F (idsL (up ρ live D) a) →
      ∃ F', Used m Fs F F' (idsL (up ρ live D) a) ∧ RelL w m' d' X' (mapIdL (gp ρ live D) a) v F' := by
  have leaf : ∀ {x : AV} {v : Value} {l : List Nat}, RelV w m' d' X' x v [] → ∃ F', Used m Fs [] F' l ∧ RelV w m' d' X' x v F' := fun hx => ⟨[], ⟨List.nodup_nil, fun _ h => by cases h⟩, hx⟩
  have kept_sl : ∀ {id k off n : Nat} {v : Value}, ρ id = some k → RelV w m d (XOf Y m Fs) (.sl id off n) v [] → RelV w m' d' X' (.sl k off n) v [] := by
    intro id k off n v hρ hv
    cases hv with
    | sl h1 h2 h3 => exact .sl ((hm _ _ hρ).trans h1) h2 h3
    | sl0 A => exact .sl0 A
    | slDead _ h1 => exact .slDead _ (hd _ _ hρ h1)
  have kept_ptr : ∀ {id k i j : Nat} {v : Value}, ρ id = some k → RelV w m d (XOf Y m Fs) (.ptr id i j) v [] → RelV w m' d' X' (.ptr k i j) v [] := by
    intro id k off n v hρ hv
    cases hv with
    | ptr h1 => exact .ptr ((hm _ _ hρ).trans h1)
    | ptrDead _ h1 => exact .ptrDead _ (hd _ _ hρ h1)
  intro D
  induction D with
  | zero =>
    intro a v F hr
    refine pack_core h (gp_agg ρ live 0) hX ?_ ?_ hr
    · intro id off n v hv _
      cases hρ : ρ id with
      | some k => have e : gp ρ live 0 true id off n = .sl k off n := by simp [gp, hρ]
                  rw [e]; exact leaf (kept_sl hρ hv)
      | none => have e : gp ρ live 0 true id off n = .undef := by simp [gp, hρ]
                rw [e]; exact leaf (.undef _)
    · intro id off n v hv _
      cases hρ : ρ id with
      | some k => have e : gp ρ live 0 false id off n = .ptr k off n := by simp [gp, hρ]
                  rw [e]; exact leaf (kept_ptr hρ hv)
      | none => have e : gp ρ live 0 false id off n = .undef := by simp [gp, hρ]
                rw [e]; exact leaf (.undef _)
  | succ D ihD =>
    intro a v F hr
    refine pack_core h (gp_agg ρ live (D + 1)) hX ?_ ?_ hr
    · intro id off n v hv hnd
      cases hρ : ρ id with
      | some k => have e : gp ρ live (D + 1) true id off n = .sl k off n := by simp [gp, hρ]
                  rw [e]; exact leaf (kept_sl hρ hv)
      | none =>
        cases hl : live id with
        | none => have e : gp ρ live (D + 1) true id off n = .undef := by simp [gp, hρ, hl]
                  rw [e]; exact leaf (.undef _)
        | some sx =>
          obtain ⟨s, xs⟩ := sx
          by_cases hc : off = 0 ∧ n ≤ xs.length
          case neg => have e : gp ρ live (D + 1) true id off n = .undef := by simp [gp, hρ, hl, hc]
                      rw [e]; exact leaf (.undef _)
          obtain ⟨rfl, hn⟩ := hc
          have e : gp ρ live (D + 1) true id 0 n = .own s (mapIdL (gp ρ live D) (xs.take n)) := by simp [gp, hρ, hl, hn]
          have eu : up ρ live (D + 1) true id 0 n = id :: idsL (up ρ live D) (xs.take n) := by simp [up, hρ, hl, hn]
          rw [e]; rw [eu] at hnd ⊢
          have hidn := List.nodup_cons.1 hnd
          cases hv with
          | slDead _ hdd => rw [h.ddom _ hdd] at hl; cases hl
          | sl0 A => exact leaf (by simpa [mapIdL] using .own0 A)
          | sl hm1 hnc hcx =>
            rename_i b o s' cap
            obtain ⟨rfl, hev, vs, hex, hr1⟩ := h.cells _ _ _ _ _ _ hl hm1
            obtain ⟨G1, G2, hG, h3, _⟩ := hr1.take (n * s')
            rw [← flat_take hev] at h3
            have hndb := h.nodup id
            rw [blocksOf_some hm1, hG] at hndb
            have hG1 : ∀ x ∈ G1, x ∈ blocksOf m Fs id := fun x hx => by rw [blocksOf_some hm1, hG]; exact List.mem_cons_of_mem _ (List.mem_append_left _ hx)
            have hbid : b ∈ blocksOf m Fs id := by rw [blocksOf_some hm1]; exact List.mem_cons_self ..
            have hdj : ∀ x ∈ blocksOf m Fs id, ∀ id' ∈ idsL (up ρ live D) (xs.take n), x ∉ blocksOf m Fs id' := fun x hx id' hid' => h.disj id id' (fun e => hidn.1 (e ▸ hid')) x hx
            obtain ⟨F1, ⟨hn1, hsub⟩, hr2⟩ := ihD h3 (by rw [ids_flat]; exact ⟨(List.nodup_append.1 (List.nodup_cons.1 hndb).2).1, hidn.2, fun x hx id' hid' => hdj x (hG1 x hx) id' hid'⟩)
            rw [ids_flat] at hsub
            rw [← flat_mapId (gp_agg ρ live D)] at hr2
            refine ⟨b :: F1, ⟨List.nodup_cons.2 ⟨fun hb => ?_, hn1⟩, fun x hx => .inr ?_⟩, ?_⟩
            · rcases hsub b hb with h1 | ⟨id', h1, h2⟩
              · exact (List.nodup_cons.1 hndb).1 (List.mem_append_left _ h1)
              · exact hdj b hbid id' h1 h2
            · rcases List.mem_cons.1 hx with rfl | hx
              · exact ⟨id, List.mem_cons_self .., hbid⟩
              · rcases hsub x hx with h1 | ⟨id', h1, h2⟩
                · exact ⟨id, List.mem_cons_self .., hG1 x h1⟩
                · exact ⟨id', List.mem_cons_of_mem _ h1, h2⟩
            · have hex' : Excl w b (o + 0 * s') (vs.take (n * s')) (o + 0 * s' + cap * s') := by
                obtain ⟨c, ty, e1, e2, _⟩ := hex
                obtain ⟨c', ty', e1', _, e3'⟩ := hcx
                rw [e1] at e1'; cases e1'
                refine ⟨c, ty, e1, fun j v hj => ?_, e3'⟩
                rw [Nat.zero_mul, Nat.add_zero]
                rw [List.getElem?_take] at hj
                split at hj
                · exact e2 j v hj
                · cases hj
              have hlen : (mapIdL (gp ρ live D) (xs.take n)).length = n := by rw [mapIdL_map, List.length_map, List.length_take]; omega
              have := RelV.own (w := w) (m := m') (d := d') (X := X') (cap := cap) (by rw [hlen]; omega) (even_mapId (gp_agg ρ live D) (hev.take n)) hex' rfl hr2
              rw [hlen] at this
              exact this
    · intro id i j v hv hnd
      cases hρ : ρ id with
      | some k => have e : gp ρ live (D + 1) false id i j = .ptr k i j := by simp [gp, hρ]
                  rw [e]; exact leaf (kept_ptr hρ hv)
      | none =>
        cases hl : live id with
        | none => have e : gp ρ live (D + 1) false id i j = .undef := by simp [gp, hρ, hl]
                  rw [e]; exact leaf (.undef _)
        | some sx =>
          obtain ⟨s, xs⟩ := sx
          by_cases hc : (∃ x, xs = [x]) ∧ i = 0 ∧ j = 0
          case neg =>
            have e : gp ρ live (D + 1) false id i j = .undef := by
              simp only [gp, hρ, hl, Bool.false_eq_true, if_false]
              split
              · rename_i x
                rw [if_neg (fun hh => hc ⟨⟨x, rfl⟩, hh⟩)]
              · rfl
            rw [e]; exact leaf (.undef _)
          obtain ⟨⟨x, rfl⟩, rfl, rfl⟩ := hc
          have e : gp ρ live (D + 1) false id 0 0 = .box (mapId (gp ρ live D) x) := by simp [gp, hρ, hl]
          have eu : up ρ live (D + 1) false id 0 0 = id :: idsV (up ρ live D) x := by simp [up, hρ, hl]
          rw [e]; rw [eu] at hnd ⊢
          have hidn := List.nodup_cons.1 hnd
          cases hv with
          | ptrDead _ hdd => rw [h.ddom _ hdd] at hl; cases hl
          | ptr hm1 =>
            rename_i b o s'
            obtain ⟨rfl, hev, vs, hex, hr1⟩ := h.cells _ _ _ _ _ _ hl hm1
            have hfl : flat [x] = x.cells := by simp [flat]
            rw [hfl] at hr1
            have hndb := h.nodup id
            rw [blocksOf_some hm1] at hndb
            have hbid : b ∈ blocksOf m Fs id := by rw [blocksOf_some hm1]; exact List.mem_cons_self ..
            have hG1 : ∀ x ∈ Fs id, x ∈ blocksOf m Fs id := fun x hx => by rw [blocksOf_some hm1]; exact List.mem_cons_of_mem _ hx
            have hdj : ∀ y ∈ blocksOf m Fs id, ∀ id' ∈ idsV (up ρ live D) x, y ∉ blocksOf m Fs id' := fun x hx id' hid' => h.disj id id' (fun e => hidn.1 (e ▸ hid')) x hx
            obtain ⟨F1, ⟨hn1, hsub⟩, hr2⟩ := ihD hr1 (by rw [ids_cells]; exact ⟨(List.nodup_cons.1 hndb).2, hidn.2, fun x hx id' hid' => hdj x (hG1 x hx) id' hid'⟩)
            rw [ids_cells] at hsub
            refine ⟨b :: F1, ⟨List.nodup_cons.2 ⟨fun hb => ?_, hn1⟩, fun x hx => .inr ?_⟩, ?_⟩
            · rcases hsub b hb with h1 | ⟨id', h1, h2⟩
              · exact (List.nodup_cons.1 hndb).1 h1
              · exact hdj b hbid id' h1 h2
            · rcases List.mem_cons.1 hx with rfl | hx
              · exact ⟨id, List.mem_cons_self .., hbid⟩
              · rcases hsub x hx with h1 | ⟨id', h1, h2⟩
                · exact ⟨id, List.mem_cons_self .., hG1 x h1⟩
                · exact ⟨id', List.mem_cons_of_mem _ h1, h2⟩
            · rw [Nat.zero_mul, Nat.add_zero]
              exact .box hex (cells_mapId (gp_agg ρ live D) x) hr2
def idx : List Nat → Nat → Option Nat
  | [], _ => none
  | k :: ks, id => if k = id then some 0 else (idx ks id).map (· + 1)
def rowP (g : Bool → Nat → Nat → Nat → AV) : Option (Nat × List AV) → Option (Nat × List AV)
  | some (s, xs) => some (s, mapIdL g xs)
  | none => none
def rowU (u : Bool → Nat → Nat → Nat → List Nat) : Option (Nat × List AV) → List Nat
  | some (_, xs) => idsL u xs
  | none => []
def packM (ks : List Nat) (live : Live) (D : Nat) : Mem := ks.map fun id => rowP (gp (idx ks) live D) (live id)
def usedM (ks : List Nat) (live : Live) (D : Nat) (l : List Nat) : List Nat := l.flatMap fun id => rowU (up (idx ks) live D) (live id)
theorem idx_some : ∀ {ks : List Nat} {id k : Nat}, idx ks id = some k → ks[k]? = some id := by
  intro ks
  induction ks with
  | nil => intro id k h; cases h
  | cons x ks ih =>
    intro id k h
    simp only [idx] at h
    split at h
    · cases h; simp [*]
    · cases hi : idx ks id with
      | none => rw [hi] at h; cases h
      | some j => rw [hi] at h; cases h; simpa using ih hi
theorem idx_mem : ∀ {ks : List Nat} {id : Nat}, id ∈ ks → idx ks id ≠ none := by
  intro ks
  induction ks with
  | nil => intro id h; cases h
  | cons x ks ih =>
    intro id h
    simp only [idx]
    split
    · simp
    · rename_i hne
      rcases List.mem_cons.1 h with rfl | h
      · exact absurd rfl hne
      · have := ih h
        cases hi : idx ks id with
        | none => exact absurd hi this
        | some j => simp
theorem idx_at {ks : List Nat} (hk : ks.Nodup) {id k : Nat} (h : ks[k]? = some id) : idx ks id = some k := by
  have hm := idx_mem (List.mem_of_getElem? h)
  cases hi : idx ks id with
  | none => exact absurd hi hm
  | some j =>
    have := idx_some hi
    obtain ⟨hj, e1⟩ := List.getElem?_eq_some_iff.1 this
    obtain ⟨hk', e2⟩ := List.getElem?_eq_some_iff.1 h
    rw [(List.getElem_inj hk).1 (e1.trans e2.symm)]
def mOf (ks : List Nat) (m : IdMap) : IdMap := fun k => match ks[k]? with | some id => m id | none => none
def dOf (ks : List Nat) (d : Nat → Prop) : Nat → Prop := fun k => match ks[k]? with | some id => d id | none => False
theorem mOf_at {ks : List Nat} {k id : Nat} (h : ks[k]? = some id) : mOf ks m k = m id := by simp [mOf, h]
theorem dOf_at {ks : List Nat} {k id : Nat} (h : ks[k]? = some id) : dOf ks d k = d id := by simp [dOf, h]
theorem live_pack {ks : List Nat} {D k : Nat} : liveOf (packM ks live D) k = match ks[k]? with | some id => rowP (gp (idx ks) live D) (live id) | none => none := by
  unfold liveOf packM
  rw [List.getElem?_map]
  cases ks[k]? with
  | none => rfl
  | some id => rfl
def ownRow (ks : List Nat) (live : Live) (D : Nat) (k : Nat) : List Nat := match ks[k]? with | some id => rowU (up (idx ks) live D) (live id) | none => []
theorem used_nodup {u : Nat → List Nat} : ∀ {l : List Nat}, (l.flatMap u).Nodup → (∀ (k id : Nat), l[k]? = some id → (u id).Nodup) ∧ ∀ (j k a b : Nat), j ≠ k → l[j]? = some a → l[k]? = some b → ∀ x ∈ u a, x ∉ u b := by
  intro l
  induction l with
  | nil => intro _; exact ⟨fun k id h => by simp at h, fun j k a b _ h => by simp at h⟩
  | cons y l ih =>
    intro h
    rw [List.flatMap_cons] at h
    obtain ⟨h1, h2, h3⟩ := List.nodup_append.1 h
    obtain ⟨h4, h5⟩ := ih h2
    refine ⟨fun k id hk => ?_, fun j k a b hne hj hk x hx hx' => ?_⟩
    · cases k with
      | zero => simp at hk; subst hk; exact h1
      | succ k => exact h4 k id (by simpa using hk)
    · cases j with
      | zero =>
        cases k with
        | zero => exact hne rfl
        | succ k =>
          simp at hj hk; subst hj
          exact h3 x hx x (List.mem_flatMap.2 ⟨b, List.mem_of_getElem? hk, hx'⟩) rfl
      | succ j =>
        cases k with
        | zero =>
          simp at hj hk; subst hk
          exact h3 x hx' x (List.mem_flatMap.2 ⟨a, List.mem_of_getElem? hj, hx⟩) rfl
        | succ k => exact h5 j k a b (fun e => hne (by rw [e])) (by simpa using hj) (by simpa using hk) x hx hx'
theorem RelW.pack (h : RelW Y w0 F0 live d m Fs w) {ks : List Nat} (hk : ks.Nodup) (D : Nat) (hu : (usedM ks live D ks).Nodup) :
    ∃ Fs', RelW Y w0 F0 (liveOf (packM ks live D)) (dOf ks d) (mOf ks m) Fs' w ∧ (∀ x, OwnOf (mOf ks m) Fs' x → OwnOf m Fs x) ∧
      ∀ k, ∀ x ∈ blocksOf (mOf ks m) Fs' k, ∃ id, ks[k]? = some id ∧ (x ∈ blocksOf m Fs id ∨ ∃ t ∈ ownRow ks live D k, x ∈ blocksOf m Fs t) := by
  obtain ⟨hu1, hu2⟩ := used_nodup (u := fun id => rowU (up (idx ks) live D) (live id)) hu
  have notin : ∀ k t, t ∈ ownRow ks live D k → idx ks t = none := by
    intro k t ht
    unfold ownRow at ht
    split at ht
    · rename_i id _
      cases hl : live id with
      | none => rw [hl] at ht; cases ht
      | some sx =>
        rw [hl] at ht
        exact ups_none (idx ks) live D (up_none (idx ks) live D) _ t ht
    · cases ht
  have notk : ∀ k t, t ∈ ownRow ks live D k → ∀ (j id : Nat), ks[j]? = some id → t ≠ id := fun k t ht j id hj e => by
    subst e
    have := idx_at hk hj
    rw [notin k _ ht] at this; cases this
  have hidx : ∀ id k, idx ks id = some k → ks[k]? = some id := fun id k h => idx_some h
  have row : ∀ k, ∃ F' : List Nat, ∀ (id s : Nat) (xs : List AV) (b o s' : Nat), ks[k]? = some id → live id = some (s, xs) → m id = some (b, o, s') → s' = s ∧ Even s xs ∧
      (∃ vs, Excl w b o vs (o + vs.length) ∧ RelL w (mOf ks m) (dOf ks d) (XOf Y m Fs) (flat (mapIdL (gp (idx ks) live D) xs)) vs F') ∧ Used m Fs (Fs id) F' (ownRow ks live D k) := by
    intro k
    by_cases hx : ∃ id s xs b o s', ks[k]? = some id ∧ live id = some (s, xs) ∧ m id = some (b, o, s')
    case neg => exact ⟨[], fun id s xs b o s' h1 h2 h3 => absurd ⟨id, s, xs, b, o, s', h1, h2, h3⟩ hx⟩
    obtain ⟨id, s, xs, b, o, s', h1, h2, h3⟩ := hx
    obtain ⟨e1, e2, vs, e3, e4⟩ := h.cells _ _ _ _ _ _ h2 h3
    have eo : ownRow ks live D k = idsL (up (idx ks) live D) xs := by simp [ownRow, h1, h2, rowU]
    have hnd := h.nodup id
    rw [blocksOf_some h3] at hnd
    have hfr : Free m Fs (Fs id) (idsL (up (idx ks) live D) (flat xs)) := by
      rw [ids_flat, ← eo]
      refine ⟨(List.nodup_cons.1 hnd).2, ?_, fun x hx t ht hxt => ?_⟩
      · have := hu1 k id h1
        rw [h2] at this; rw [eo]; exact this
      · exact h.disj id t (fun e => notk k t ht k id h1 e.symm) x (by rw [blocksOf_some h3]; exact List.mem_cons_of_mem _ hx) hxt
    obtain ⟨F', f1, f2⟩ := pack_sound h (idx ks) (m' := mOf ks m) (d' := dOf ks d) (fun id k hi => mOf_at (hidx _ _ hi)) (fun id k hi hd => by rw [dOf_at (hidx _ _ hi)]; exact hd) (fun _ hb => hb) D e4 hfr
    rw [ids_flat, ← eo] at f1
    rw [← flat_mapId (gp_agg (idx ks) live D)] at f2
    refine ⟨F', fun id' s2 xs2 b2 o2 s2' g1 g2 g3 => ?_⟩
    rw [h1] at g1; cases g1
    rw [h2] at g2; cases g2
    rw [h3] at g3; cases g3
    exact ⟨e1, e2, ⟨vs, e3, f2⟩, f1⟩
  obtain ⟨Fs', hFs⟩ := Classical.axiomOfChoice row
  have blk : ∀ k, ∀ x ∈ blocksOf (mOf ks m) Fs' k, ∃ id, ks[k]? = some id ∧ (x ∈ blocksOf m Fs id ∨ ∃ t ∈ ownRow ks live D k, x ∈ blocksOf m Fs t) := by
    intro k x hx
    cases hk1 : ks[k]? with
    | none => rw [blocksOf_none (by simp [mOf, hk1])] at hx; cases hx
    | some id =>
      cases hm1 : m id with
      | none => rw [blocksOf_none (by rw [mOf_at hk1]; exact hm1)] at hx; cases hx
      | some q =>
        obtain ⟨b, o, s'⟩ := q
        have hl1 := h.dom id (by rw [hm1]; simp)
        cases hl : live id with
        | none => exact absurd hl hl1
        | some sx =>
          obtain ⟨s, xs⟩ := sx
          obtain ⟨_, _, _, _, hsub⟩ := hFs k id s xs b o s' hk1 hl hm1
          rw [blocksOf_some (by rw [mOf_at hk1]; exact hm1)] at hx
          refine ⟨id, rfl, ?_⟩
          rcases List.mem_cons.1 hx with rfl | hx
          · exact .inl (by rw [blocksOf_some hm1]; exact List.mem_cons_self ..)
          · rcases hsub x hx with h1 | h1
            · exact .inl (by rw [blocksOf_some hm1]; exact List.mem_cons_of_mem _ h1)
            · exact .inr h1
  have own : ∀ x, OwnOf (mOf ks m) Fs' x → OwnOf m Fs x := by
    rintro x ⟨k, hx⟩
    obtain ⟨id, _, h1 | ⟨t, _, h1⟩⟩ := blk k x hx
    · exact ⟨id, h1⟩
    · exact ⟨t, h1⟩
  have C : Carry w w (mOf ks m) (mOf ks m) (dOf ks d) (dOf ks d) (XOf Y m Fs) (XOf Y (mOf ks m) Fs') :=
    { cells := fun b c ty fr hc => ⟨c, hc, rfl⟩
      size := Nat.le_refl _
      ro := fun b _ hx => ⟨fun h' => hx (by rcases h' with h' | h'; exact .inl h'; exact .inr (own b h')), rfl⟩
      ids := fun id q hq => .inl hq
      dead := fun _ h => h }
  refine ⟨Fs', ?_, own, blk⟩
  refine { dom := fun k hmk => ?_, ddom := fun k hdk => ?_, cells := fun k s xs b o s' hl hm1 => ?_, nodup := fun k => ?_, disj := fun j k hne x hx hx' => ?_, own := fun x hx => h.own x (own x hx), evo := h.evo }
  · rw [live_pack]
    cases hk1 : ks[k]? with
    | none => simp [mOf, hk1] at hmk
    | some id =>
      rw [mOf_at hk1] at hmk
      have := h.dom id hmk
      cases hl : live id with
      | none => exact absurd hl this
      | some sx => simp [rowP, hl]
  · rw [live_pack]
    cases hk1 : ks[k]? with
    | none => rfl
    | some id =>
      rw [dOf_at hk1] at hdk
      simp [h.ddom id hdk, rowP]
  · rw [live_pack] at hl
    cases hk1 : ks[k]? with
    | none => rw [hk1] at hl; cases hl
    | some id =>
      rw [hk1] at hl
      have hl : rowP (gp (idx ks) live D) (live id) = some (s, xs) := hl
      rw [mOf_at hk1] at hm1
      cases hl1 : live id with
      | none => rw [hl1] at hl; cases hl
      | some sx =>
        obtain ⟨s1, xs1⟩ := sx
        rw [hl1] at hl
        simp only [rowP, Option.some.injEq, Prod.mk.injEq] at hl
        obtain ⟨rfl, rfl⟩ := hl
        obtain ⟨e1, e2, ⟨vs, e3, e4⟩, _⟩ := hFs k id s1 xs1 b o s' hk1 hl1 hm1
        exact ⟨e1, even_mapId (gp_agg _ _ _) e2, vs, e3, RelL.carry C e4 (fun _ _ => rfl)⟩
  · cases hk1 : ks[k]? with
    | none => rw [blocksOf_none (by simp [mOf, hk1])]; exact List.nodup_nil
    | some id =>
      cases hm1 : m id with
      | none => rw [blocksOf_none (by rw [mOf_at hk1]; exact hm1)]; exact List.nodup_nil
      | some q =>
        obtain ⟨b, o, s'⟩ := q
        have hl1 := h.dom id (by rw [hm1]; simp)
        cases hl : live id with
        | none => exact absurd hl hl1
        | some sx =>
          obtain ⟨s, xs⟩ := sx
          obtain ⟨_, _, _, hn1, hsub⟩ := hFs k id s xs b o s' hk1 hl hm1
          rw [blocksOf_some (by rw [mOf_at hk1]; exact hm1)]
          refine List.nodup_cons.2 ⟨fun hb => ?_, hn1⟩
          have hnd := h.nodup id
          rw [blocksOf_some hm1] at hnd
          rcases hsub b hb with h1 | ⟨t, h1, h2⟩
          · exact (List.nodup_cons.1 hnd).1 h1
          · exact h.disj id t (fun e => notk k t h1 k id hk1 e.symm) b (by rw [blocksOf_some hm1]; exact List.mem_cons_self ..) h2
  · obtain ⟨a, ha, h1⟩ := blk j x hx
    obtain ⟨b, hb, h2⟩ := blk k x hx'
    have hab : a ≠ b := fun e => by
      subst e
      obtain ⟨hj', e1⟩ := List.getElem?_eq_some_iff.1 ha
      obtain ⟨hk', e2⟩ := List.getElem?_eq_some_iff.1 hb
      exact hne ((List.getElem_inj hk).1 (e1.trans e2.symm))
    rcases h1 with h1 | ⟨t, h1, h1'⟩ <;> rcases h2 with h2 | ⟨t', h2, h2'⟩
    · exact h.disj a b hab x h1 h2
    · exact h.disj a t' (fun e => notk k t' h2 j a ha e.symm) x h1 h2'
    · exact h.disj b t (fun e => notk j t h1 k b hb e.symm) x h2 h1'
    · refine h.disj t t' (fun e => ?_) x h1' h2'
      subst e
      have r1 : t ∈ rowU (up (idx ks) live D) (live a) := by simpa [ownRow, ha] using h1
      have r2 : t ∈ rowU (up (idx ks) live D) (live b) := by simpa [ownRow, hb] using h2
      exact hu2 j k a b hne ha hb t r1 r2
end
end Go.Abs
namespace Go.Abs
open Go Go.RowKit
section
variable {Y : Nat → Prop} {w0 : World} {F0 : List Nat} {live : Live} {d : Nat → Prop} {m : IdMap} {Fs : Nat → List Nat} {w : World}
def opened (live : Live) (id i j n : Nat) (s0 : Nat) (xs : List AV) (k : Nat) : List AV := xs.set i ((xs.getD i .undef).setCell j (.sl n 0 k))
theorem flat_setCell {s : Nat} {xs : List AV} (he : Even s xs) {i j : Nat} (hi : i < xs.length) (hj : j < (xs.getD i .undef).cells.length) {v : AV} (hv : isAgg v = false) :
    flat (xs.set i ((xs.getD i .undef).setCell j v)) = (flat xs).take (i * s + j) ++ [v] ++ (flat xs).drop (i * s + j + 1) ∧ Even s (xs.set i ((xs.getD i .undef).setCell j v)) ∧
      (flat xs)[i * s + j]? = some ((xs.getD i .undef).cells.getD j .undef) := by
  have hlen : (xs.getD i .undef).cells.length = s := he _ (getD_mem hi)
  have hc : ((xs.getD i .undef).setCell j v).cells = (xs.getD i .undef).cells.set j v := by
    generalize xs.getD i .undef = x at hj
    have hvc : v.cells = [v] := by cases v <;> first | rfl | cases hv
    cases x <;> first
      | rfl
      | (have hj0 : j = 0 := by simpa [AV.cells] using hj
         subst hj0; simpa [AV.setCell, AV.cells] using hvc)
  have hcl : ((xs.getD i .undef).setCell j v).cells.length = s := by rw [hc, List.length_set, hlen]
  have hb : i * s + s ≤ (flat xs).length := by
    rw [flat_length he]
    have : (i + 1) * s ≤ xs.length * s := Nat.mul_le_mul_right _ hi
    rw [Nat.add_mul, Nat.one_mul] at this; exact this
  have hat := flat_at he hi
  have hget : (flat xs)[i * s + j]? = some ((xs.getD i .undef).cells.getD j .undef) := by
    rw [← hat, List.getD_eq_getElem?_getD, List.getElem?_take, if_pos (by omega), List.getElem?_drop]
    rw [List.getElem?_eq_getElem (by omega)]; rfl
  refine ⟨?_, he.set hcl, hget⟩
  rw [flat_set he hi hcl, hc, ← hat]
  apply List.ext_getElem?
  intro t
  rcases Nat.lt_or_ge t (i * s) with h1 | h1
  · rw [List.append_assoc, List.getElem?_append_left (by simp; omega), List.append_assoc, List.getElem?_append_left (by simp; omega), List.getElem?_take, List.getElem?_take, if_pos h1, if_pos (by omega)]
  · rcases Nat.lt_or_ge t (i * s + s) with h2 | h2
    · rw [List.append_assoc, List.getElem?_append_right (by simp; omega), List.getElem?_append_left (by simp; omega)]
      simp only [List.length_take, Nat.min_eq_left (show i * s ≤ (flat xs).length by omega)]
      rw [List.getElem?_set]
      rcases Nat.lt_trichotomy t (i * s + j) with h3 | h3 | h3
      · rw [if_neg (by omega), List.getElem?_take, if_pos (by omega), List.getElem?_drop, List.append_assoc, List.getElem?_append_left (by simp; omega), List.getElem?_take, if_pos h3]
        congr 1; omega
      · subst h3
        rw [if_pos (by omega), if_pos (by simp; omega), List.append_assoc, List.getElem?_append_right (by simp; omega)]
        simp [Nat.min_eq_left (show i * s + j ≤ (flat xs).length by omega)]
      · rw [if_neg (by omega), List.getElem?_take, if_pos (by omega), List.getElem?_drop, List.append_assoc, List.getElem?_append_right (by simp; omega), List.getElem?_append_right (by simp; omega), List.getElem?_drop]
        simp only [List.length_take, List.length_singleton, Nat.min_eq_left (show i * s + j ≤ (flat xs).length by omega)]
        congr 1; omega
    · rw [List.append_assoc, List.getElem?_append_right (by simp; omega), List.getElem?_append_right (by simp; omega), List.append_assoc, List.getElem?_append_right (by simp; omega), List.getElem?_append_right (by simp; omega)]
      simp only [List.length_take, List.length_set, List.length_drop, List.length_singleton, Nat.min_eq_left (show i * s ≤ (flat xs).length by omega), Nat.min_eq_left (show i * s + j ≤ (flat xs).length by omega)]
      rw [List.getElem?_drop, List.getElem?_drop]
      congr 1; omega
theorem list_parts {α : Type} {l : List α} {k : Nat} {a : α} (h : l[k]? = some a) : l = l.take k ++ a :: l.drop (k + 1) := by
  obtain ⟨hk, rfl⟩ := List.getElem?_eq_some_iff.1 h
  rw [List.getElem_cons_drop hk, List.take_append_drop]
theorem RelW.fgt (h : RelW Y w0 F0 live d m Fs w) {id s : Nat} {xs : List AV} {i j : Nat} (hl : live id = some (s, xs)) (hi : i < xs.length) (hj : j < (xs.getD i .undef).cells.length) :
    ∃ Fs', RelW Y w0 F0 (upd live id (some (s, xs.set i ((xs.getD i .undef).setCell j .undef)))) d m Fs' w ∧ Carry w w m m d d (XOf Y m Fs) (XOf Y m Fs') := by
  cases hm : m id with
  | none =>
    refine ⟨Fs, h.relive (fun t ht => ?_) (fun t ht => ?_), .refl⟩
    · exact upd_ne _ _ (fun e => ht (by rw [e]; exact hm))
    · have h2 : t ≠ id := fun e => by have := h.ddom t ht; rw [e, hl] at this; cases this
      rw [upd_ne _ _ h2]; exact h.ddom t ht
  | some q =>
    obtain ⟨b, o, s2⟩ := q
    obtain ⟨rfl, hev, vs, hex, hr⟩ := h.cells _ _ _ _ _ _ hl hm
    obtain ⟨hfl, hev', hat⟩ := flat_setCell hev hi hj (v := .undef) rfl
    obtain ⟨v, G, hv, _, _⟩ := hr.get hat
    obtain ⟨F', hsub, hr'⟩ := hr.set (k := i * s2 + j) (RelV.undef v)
    have hvs : vs.set (i * s2 + j) v = vs := by
      obtain ⟨hk, rfl⟩ := List.getElem?_eq_some_iff.1 hv
      exact List.set_getElem_self hk
    rw [hvs] at hr'
    have hk : i * s2 + j < (flat xs).length := (List.getElem?_eq_some_iff.1 hat).1
    rw [show (flat xs).set (i * s2 + j) .undef = flat (xs.set i ((xs.getD i .undef).setCell j .undef)) by
      rw [hfl, List.set_eq_take_append_cons_drop, if_pos hk]; simp] at hr'
    have hnd := h.nodup id
    rw [blocksOf_some hm] at hnd
    have key := h.rewrite hl hm (Rewrite.refl b w) hev' (fun x hx => hsub.subset hx) ((List.nodup_cons.1 hnd).2.sublist hsub) hex (fun C => RelL.carry C hr' (fun _ _ => rfl))
    exact ⟨_, key.1, key.2⟩
theorem RelW.opn (h : RelW Y w0 F0 live d m Fs w) {id n s s' : Nat} {xs ys : List AV} {i j : Nat} (hl : live id = some (s, xs)) (hi : i < xs.length) (hj : j < (xs.getD i .undef).cells.length)
    (hc : (xs.getD i .undef).cells.getD j .undef = .own s' ys ∨ ((xs.getD i .undef).cells.getD j .undef = .nil ∧ ys = [])) (hn : m n = none) (hd : ¬ d n) (hln : live n = none) {live' : Live}
    (hl' : live' = upd (upd live id (some (s, xs.set i ((xs.getD i .undef).setCell j (.sl n 0 ys.length))))) n (some (s', ys))) :
    ∃ m' Fs', RelW Y w0 F0 live' d m' Fs' w ∧ Carry w w m m' d d (XOf Y m Fs) (XOf Y m' Fs') ∧ ∀ t, t ≠ n → m' t = m t := by
  have hne : n ≠ id := fun e => by rw [e, hl] at hln; cases hln
  cases hm : m id with
  | none =>
    refine ⟨m, Fs, h.relive (fun t ht => ?_) (fun t ht => ?_), .refl, fun _ _ => rfl⟩
    · have h1 : t ≠ n := fun e => ht (by rw [e]; exact hn)
      have h2 : t ≠ id := fun e => ht (by rw [e]; exact hm)
      rw [hl', upd_ne _ _ h1, upd_ne _ _ h2]
    · have h1 : t ≠ n := fun e => hd (by rw [← e]; exact ht)
      have h2 : t ≠ id := fun e => by have := h.ddom t ht; rw [e, hl] at this; cases this
      rw [hl', upd_ne _ _ h1, upd_ne _ _ h2]; exact h.ddom t ht
  | some q =>
    obtain ⟨b, o, s2⟩ := q
    obtain ⟨rfl, hev, vs, hex, hr⟩ := h.cells _ _ _ _ _ _ hl hm
    obtain ⟨hfl, hev', hat⟩ := flat_setCell hev hi hj (v := .sl n 0 ys.length) rfl
    rw [list_parts hat] at hr
    obtain ⟨vs1, vs2, F1, F2, rfl, hF, r1, r2⟩ := hr.split
    have hb := h.nodup id
    rw [blocksOf_some hm, hF] at hb
    cases r2 with
    | cons rc rt =>
      rename_i v Fc vs3 Ft
      have hcell : (∃ b' o' cap F' us, v = .slice (some ⟨b', o', none⟩) ys.length cap ∧ Fc = b' :: F' ∧ ys.length ≤ cap ∧ Even s' ys ∧ Excl w b' o' us (o' + cap * s') ∧ RelL w m d (XOf Y m Fs) (flat ys) us F') ∨
          (∃ A, v = .slice A 0 0 ∧ Fc = [] ∧ ys = []) := by
        rcases hc with hc | ⟨hc, rfl⟩
        · rw [hc] at rc
          cases rc with
          | own0 A => exact .inr ⟨A, rfl, rfl, rfl⟩
          | own g1 g2 g3 g4 g5 => subst g4; exact .inl ⟨_, _, _, _, _, rfl, rfl, g1, g2, g3, g5⟩
        · rw [hc] at rc
          cases rc with
          | nil A => exact .inr ⟨A, rfl, rfl, rfl⟩
      have hsubF : ∀ x ∈ F1 ++ Ft, x ∈ Fs id := fun x hx => by
        rw [hF]
        rcases List.mem_append.1 hx with hx | hx
        · exact List.mem_append_left _ hx
        · exact List.mem_append_right _ (List.mem_append_right _ hx)
      have hndF : (b :: (F1 ++ Ft)).Nodup := by
        refine List.Nodup.sublist ?_ hb
        exact List.Sublist.cons_cons _ (List.Sublist.append (List.Sublist.refl _) (List.sublist_append_right _ _))
      rcases hcell with ⟨b', o', cap, F', us, rfl, rfl, g1, g2, g3, g5⟩ | ⟨A, rfl, rfl, rfl⟩
      · -- a block of its own
        have hndc : (b' :: F').Nodup := (List.nodup_append.1 (List.nodup_append.1 (List.nodup_cons.1 hb).2).2.1).1
        have hsubc : ∀ x ∈ b' :: F', x ∈ Fs id := fun x hx => by rw [hF]; exact List.mem_append_right _ (List.mem_append_left _ hx)
        have hdisc : ∀ x ∈ b :: (F1 ++ Ft), x ∉ b' :: F' := fun x hx hx' => by
          have h1 := List.nodup_cons.1 hb
          rcases List.mem_cons.1 hx with rfl | hx
          · exact h1.1 (List.mem_append_right _ (List.mem_append_left _ hx'))
          · rcases List.mem_append.1 hx with hx | hx
            · exact (List.nodup_append.1 h1.2).2.2 x hx x (List.mem_append_left _ hx') rfl
            · exact (List.nodup_append.1 (List.nodup_append.1 h1.2).2.1).2.2 x hx' x hx rfl
        have bid : blocksOf (upd m n (some (b', o', s'))) (upd (upd Fs id (F1 ++ Ft)) n F') id = b :: (F1 ++ Ft) := by simp [blocksOf, upd, hne.symm, hm]
        have bn : blocksOf (upd m n (some (b', o', s'))) (upd (upd Fs id (F1 ++ Ft)) n F') n = b' :: F' := by simp [blocksOf, upd]
        have inb : ∀ x ∈ Fs id, x ∈ blocksOf m Fs id := fun x hx => by rw [blocksOf_some hm]; exact List.mem_cons_of_mem _ hx
        have key := h.change (live' := live') (d' := d) (m' := upd m n (some (b', o', s'))) (Fs' := upd (upd Fs id (F1 ++ Ft)) n F') (w' := w)
          (· = id) (fun t => t = id ∨ t = n) (.refl _ _) ?_ ?_ ?_ ?_ ?_ ?_ ?_ ?_ ?_ ?_
        · exact ⟨_, _, key.1, key.2, fun t ht => upd_ne _ _ ht⟩
        · intro t h1 h2
          have h3 : t ≠ n := fun e => h1 (.inr e)
          exact ⟨by rw [hl', upd_ne _ _ h3, upd_ne _ _ h2], upd_ne _ _ h3, by rw [upd_ne _ _ h3, upd_ne _ _ h2]⟩
        · intro t e h2; exact absurd (.inl e) h2
        · rintro t (rfl | rfl)
          · exact .inl ⟨rfl, upd_ne _ _ hne.symm⟩
          · exact .inr hn
        · rintro t (rfl | rfl)
          · exact fun hdd => by have := h.ddom t hdd; rw [hl] at this; cases this
          · exact hd
        · exact fun _ h => h
        · exact fun _ h => .inl h
        · rintro t (rfl | rfl) x hx
          · rw [bid] at hx
            have : x ∈ blocksOf m Fs t := by
              rcases List.mem_cons.1 hx with rfl | hx
              · rw [blocksOf_some hm]; exact List.mem_cons_self ..
              · exact inb x (hsubF x hx)
            exact ⟨(h.own x ⟨_, this⟩).1, .inr ⟨t, rfl, this⟩⟩
          · rw [bn] at hx
            have := inb x (hsubc x hx)
            exact ⟨(h.own x ⟨_, this⟩).1, .inr ⟨id, rfl, this⟩⟩
        · rintro t (rfl | rfl)
          · rw [bid]; exact hndF
          · rw [bn]; exact hndc
        · rintro t u (rfl | rfl) (rfl | rfl) hne' x hx
          · exact absurd rfl hne'
          · rw [bn]; rw [bid] at hx; exact hdisc x hx
          · rw [bid]; rw [bn] at hx; exact fun hx' => hdisc x hx' hx
          · exact absurd rfl hne'
        · intro C t ht
          have hCF : ∀ b ∈ (F1 ++ Ft : List Nat), w.heap[b]? = w.heap[b]? := fun _ _ => rfl
          rcases ht with rfl | rfl
          · refine ⟨s2, _, b, o, by rw [hl', upd_ne _ _ hne.symm, upd_same], by rw [upd_ne _ _ hne.symm]; exact hm, hev', vs1 ++ .slice (some ⟨b', o', none⟩) ys.length cap :: vs3, hex, ?_⟩
            rw [upd_ne _ _ hne.symm, upd_same, hfl, List.append_assoc]
            refine RelL.append (RelL.carry C r1 (fun _ _ => rfl)) (RelL.cons (F := []) ?_ (RelL.carry C rt (fun _ _ => rfl)))
            have hex2 : Excl w b' o' [] (o' + 0 * s' + cap * s') := by
              obtain ⟨c, ty, e1, _, e3⟩ := g3
              exact ⟨c, ty, e1, fun _ _ h => by simp at h, by omega⟩
            have := RelV.sl (w := w) (m := upd m n (some (b', o', s'))) (d := d) (X := XOf Y (upd m n (some (b', o', s'))) (upd (upd Fs t (F1 ++ Ft)) n F')) (id := n) (off := 0) (n := ys.length) (b := b') (o := o') (s := s') (cap := cap) (upd_same ..) g1 hex2
            rw [Nat.zero_mul, Nat.add_zero] at this
            exact this
          · refine ⟨s', ys, b', o', by rw [hl', upd_same], upd_same .., g2, us, ?_, ?_⟩
            · obtain ⟨c, ty, e1, e2, e3⟩ := g3
              refine ⟨c, ty, e1, e2, ?_⟩
              have := g5.length
              rw [flat_length g2] at this
              have h2 : ys.length * s' ≤ cap * s' := Nat.mul_le_mul_right _ g1
              omega
            · rw [upd_same]; exact RelL.carry C g5 (fun _ _ => rfl)
      · -- nothing is laid
        have key := h.change (live' := upd live id (some (s2, xs.set i ((xs.getD i .undef).setCell j (.sl n 0 0))))) (d' := d) (m' := m) (Fs' := upd Fs id (F1 ++ Ft)) (w' := w)
          (· = id) (· = id) (.refl _ _) ?_ ?_ ?_ ?_ ?_ ?_ ?_ ?_ ?_ ?_
        · refine ⟨m, _, key.1.relive (fun t ht => ?_) (fun t ht => ?_), key.2, fun _ _ => rfl⟩
          · have h1 : t ≠ n := fun e => ht (by rw [e]; exact hn)
            rw [hl', upd_ne _ _ h1]; rfl
          · have h1 : t ≠ n := fun e => hd (by rw [← e]; exact ht)
            have h2 : t ≠ id := fun e => by have := h.ddom t ht; rw [e, hl] at this; cases this
            rw [hl', upd_ne _ _ h1, upd_ne _ _ h2]; exact h.ddom t ht
        · intro t h1 h2; exact ⟨upd_ne _ _ h2, rfl, upd_ne _ _ h2⟩
        · intro t e h2; exact absurd e h2
        · rintro t rfl; exact .inl ⟨rfl, rfl⟩
        · rintro t rfl hdd; have := h.ddom t hdd; rw [hl] at this; cases this
        · exact fun _ h => h
        · exact fun _ h => .inl h
        · rintro t rfl x hx
          have bid : blocksOf m (upd Fs t (F1 ++ Ft)) t = b :: (F1 ++ Ft) := by simp [blocksOf, upd, hm]
          rw [bid] at hx
          have : x ∈ blocksOf m Fs t := by
            rw [blocksOf_some hm]
            rcases List.mem_cons.1 hx with rfl | hx
            · exact List.mem_cons_self ..
            · exact List.mem_cons_of_mem _ (hsubF x hx)
          exact ⟨(h.own x ⟨_, this⟩).1, .inr ⟨t, rfl, this⟩⟩
        · rintro t rfl
          have bid : blocksOf m (upd Fs t (F1 ++ Ft)) t = b :: (F1 ++ Ft) := by simp [blocksOf, upd, hm]
          rw [bid]; exact hndF
        · rintro t u rfl rfl hne'; exact absurd rfl hne'
        · rintro C t rfl
          refine ⟨s2, _, b, o, upd_same .., hm, hev', vs1 ++ .slice A 0 0 :: vs3, hex, ?_⟩
          rw [upd_same]
          simp only [List.length_nil] at hfl
          rw [hfl, List.append_assoc]
          exact RelL.append (RelL.carry C r1 (fun _ _ => rfl)) (RelL.cons (F := []) (.sl0 A) (RelL.carry C rt (fun _ _ => rfl)))
end
end Go.Abs
namespace Go.Abs
open Go Go.RowKit
def bnd {α β : Type} (a : Option α) (f : α → Option β) : Option β := match a with
  | some x => f x
  | none => none
@[congr] theorem bnd_congr {α β : Type} {a a' : Option α} (f : α → Option β) (h : a = a') : bnd a f = bnd a' f := by rw [h]
theorem bnd_some {α β : Type} (x : α) (f : α → Option β) : bnd (some x) f = f x := rfl
theorem bnd_none {α β : Type} (f : α → Option β) : bnd none f = none := rfl
theorem bnd_eq {α β : Type} {a : Option α} {f : α → Option β} {y : β} (h : bnd a f = some y) : ∃ x, a = some x ∧ f x = some y := by
  cases a with
  | none => cases h
  | some x => exact ⟨x, rfl, h⟩
inductive Vw where
  | tidy (keep : List Nat) (roots : List (Nat × Option Nat))
  | lay (t s : Nat)
  | opn (t : Nat) (o : Option Nat) (ix : Option (Nat × Int)) (off s : Nat)
  | fgt (t : Nat) (o : Option Nat) (ix : Option (Nat × Int)) (off : Nat)
  | opx (t : Nat) (o : Option Nat) (t2 : Nat) (o2 : Option Nat) (t3 : Nat) (c : Int) (off s : Nat)
  | all (n : Nat)
  | wide
def upto : Nat → List Nat
  | 0 => []
  | n + 1 => upto n ++ [n]
def idOf : AV → Option Nat
  | .sl id _ _ => some id
  | .ptr id _ _ => some id
  | _ => none
def cellAt (mem : Mem) (id i j : Nat) : AV := match liveOf mem id with
  | some (_, xs) => (xs.getD i .undef).cells.getD j .undef
  | none => .undef
def rootId (s : St) : Nat × Option Nat → Option Nat
  | (t, none) => idOf (s.get t)
  | (t, some off) => match s.get t with
    | .ptr id i j => idOf (cellAt s.mem id i (j + off))
    | _ => none
def addId (acc : List Nat) : Option Nat → List Nat
  | some id => if acc.contains id then acc else acc ++ [id]
  | none => acc
def rootsE (s : St) : List (Nat × Option Nat) → List Nat → List Nat
  | [], acc => acc
  | r :: rs, acc => rootsE s rs (addId acc (rootId s r))
def keepE (g : Bool → Nat → Nat → Nat → AV) (env : List (Nat × AV)) : List Nat → List (Nat × AV)
  | [] => []
  | t :: ts => (t, mapId g (lookA env t)) :: keepE g env ts
def tidyE (ks keep : List Nat) (s : St) : Option St :=
  if nodupNat ks = true ∧ nodupNat (usedM ks (liveOf s.mem) 4 ks) = true then some ⟨keepE (gp (idx ks) (liveOf s.mem) 0) s.env keep, packM ks (liveOf s.mem) 4⟩ else none
def layE (t sz : Nat) (s : St) : AV → Option St
  | .nil => some ⟨(t, .sl s.mem.length 0 0) :: s.env, s.mem ++ [some (sz, [])]⟩
  | _ => some s
def baseV (s : St) (t : Nat) : Option Nat → AV
  | none => s.get t
  | some off => match s.get t with
    | .ptr id i j => cellAt s.mem id i (j + off)
    | _ => .undef
def baseE (s : St) (bv : AV) : Option (Nat × Int) → Option (Nat × Nat × Nat)
  | none => match bv with
    | .ptr id i j => some (id, i, j)
    | _ => none
  | some (ti, c) => match bv, s.get ti with
    | .sl id o _, .int _ p => some (id, o + (p + c).toNat, 0)
    | _, _ => none
def opnC (s : St) (id i j sz s0 : Nat) (xs : List AV) : AV → Option St
  | .own s' ys => some ⟨s.env, s.mem.set id (some (s0, xs.set i ((xs.getD i .undef).setCell j (.sl s.mem.length 0 ys.length)))) ++ [some (s', ys)]⟩
  | .nil => some ⟨s.env, s.mem.set id (some (s0, xs.set i ((xs.getD i .undef).setCell j (.sl s.mem.length 0 0)))) ++ [some (sz, [])]⟩
  | _ => some s
def opnR (s : St) (id i j sz : Nat) : Option (Nat × List AV) → Option St
  | some (s0, xs) => if i < xs.length ∧ j < (xs.getD i .undef).cells.length then opnC s id i j sz s0 xs ((xs.getD i .undef).cells.getD j .undef) else none
  | none => none
def idxV (mem : Mem) : AV → AV → AV
  | .sl id off _, .int _ p => cellAt mem id (off + p.toNat) 0
  | _, _ => .undef
def opxT (c : Int) : AV → AV → Option (Nat × Nat)
  | .sl id o _, .int _ v => if 0 ≤ v + c then some (id, o + (v + c).toNat) else none
  | _, _ => none
def opxL (s : St) (id i off sz : Nat) : Option (Nat × List AV) → Option St
  | some (s0, xs) => if i < xs.length ∧ off < (xs.getD i .undef).cells.length then opnC s id i off sz s0 xs ((xs.getD i .undef).cells.getD off .undef) else some s
  | none => some s
def opxR (s : St) (off sz : Nat) : Option (Nat × Nat) → Option St
  | some (id, i) => opxL s id i off sz (liveOf s.mem id)
  | none => some s
def fgtR (s : St) (id i j : Nat) : Option (Nat × List AV) → Option St
  | some (s0, xs) => if i < xs.length ∧ j < (xs.getD i .undef).cells.length then some ⟨s.env, s.mem.set id (some (s0, xs.set i ((xs.getD i .undef).setCell j .undef)))⟩ else none
  | none => none
def nthA : List AV → Nat → Option AV
  | [], _ => none
  | x :: r, n => match n with
    | 0 => some x
    | n + 1 => nthA r n
def nthR : Mem → Nat → Option (Nat × List AV)
  | [], _ => none
  | x :: r, n => match n with
    | 0 => x
    | n + 1 => nthR r n
def setR : Mem → Nat → Nat × List AV → Mem
  | [], _, _ => []
  | x :: r, n, y => match n with
    | 0 => some y :: r
    | n + 1 => x :: setR r n y
def opnM (mem : Mem) (p : Nat × Nat × Nat) : Mem := match nthR mem p.1 with
  | some (s0, xs) => match nthA xs p.2.1 with
    | some x => match nthA x.cells p.2.2 with
      | some (.own s' ys) => setR mem p.1 (s0, xs.set p.2.1 (x.setCell p.2.2 (.sl mem.length 0 ys.length))) ++ [some (s', ys)]
      | _ => mem
    | none => mem
  | none => mem
def ownJ (id i : Nat) : Nat → List AV → List (Nat × Nat × Nat) → List (Nat × Nat × Nat)
  | _, [], acc => acc
  | j, x :: r, acc => match x with
    | .own _ _ => (id, i, j) :: ownJ id i (j + 1) r acc
    | _ => ownJ id i (j + 1) r acc
def ownI (id : Nat) : Nat → List AV → List (Nat × Nat × Nat) → List (Nat × Nat × Nat)
  | _, [], acc => acc
  | i, x :: r, acc => match x with
    | .agg cs => ownJ id i 0 cs (ownI id (i + 1) r acc)
    | .own _ _ => (id, i, 0) :: ownI id (i + 1) r acc
    | _ => ownI id (i + 1) r acc
def ownM : Nat → Mem → List (Nat × Nat × Nat)
  | _, [] => []
  | id, x :: r => match x with
    | some (_, xs) => ownI id 0 xs (ownM (id + 1) r)
    | none => ownM (id + 1) r
def opnF : List (Nat × Nat × Nat) → Mem → Mem
  | [], mem => mem
  | p :: ps, mem => opnF ps (opnM mem p)
def allM : Nat → Mem → Mem
  | 0, mem => mem
  | n + 1, mem => match ownM 0 mem with
    | [] => mem
    | p :: ps => allM n (opnF (p :: ps) mem)
def vwE (b : Nat) : Vw → St → Option St
  | .all n, s => some ⟨s.env, allM n s.mem⟩
  | .wide, s => some s
  | .tidy keep roots, s => tidyE (rootsE s roots (upto b)) keep s
  | .lay t sz, s => layE t sz s (s.get t)
  | .opx t o t2 o2 t3 c off sz, s => opxR s off sz (opxT c (baseV s t o) (idxV s.mem (baseV s t2 o2) (s.get t3)))
  | .opn t o ix off sz, s => bnd (baseE s (baseV s t o) ix) fun q => opnR s q.1 q.2.1 (q.2.2 + off) sz (liveOf s.mem q.1)
  | .fgt t o ix off, s => bnd (baseE s (baseV s t o) ix) fun q => fgtR s q.1 q.2.1 (q.2.2 + off) (liveOf s.mem q.1)
def vwL (b : Nat) : List Vw → St → Option St
  | [], s => some s
  | v :: vs, s => bnd (vwE b v s) (vwL b vs)
inductive EI where
  | op (k : K) (os : List Opd) (dst : Option Nat) (solo : Bool)
  | pc (g : Opd) (os : List Opd) (dst : Option Nat) (solo : Bool)
  | sc (g : Opd) (os : List Opd) (dst : Option Nat) (solo : Bool)
  | grp (t : Nat) (want : Bool) (G : List EI) (x dst : Nat) (solo : Bool)
  | grw (t : Nat) (want : Bool) (G : List EI) (x dst : Nat) (solo : Bool)
inductive EC where
  | skip
  | region (l : List EI) (draw : Bool)
  | regL (l : List EI) (js is : List Nat)
  | seq (a b : EC)
  | cond (c : Opd) (a b : EC)
  | block (id : Nat) (a : EC)
  | loop (hd : List Vw) (a : EC)
  | exit (id : Nat)
  | ret
  | view (v : List Vw) (a : EC)
inductive Wd where
  | one
  | row (s : Nat) (e : Wd)
  | rrow (s : Nat)
  | agg (ws : List Wd)
structure EF where
  body : EC
  results : List RV
  ntmps : Nat
  ful : Wd
  orc : Option (List AV → Mem → Option (AV × Mem))
mutual
def wid : Wd → AV → AV
  | .one => fun v => v
  | .row s e => fun v => match v with
    | .nil => .own s []
    | .own s' xs => .own s' (xs.map (wid e))
    | v => v
  | .rrow s => fun v => match v with
    | .nil => .ro s []
    | v => v
  | .agg ws => fun v => match v with
    | .agg cs => .agg (widL ws cs)
    | .tup cs => .tup (widL ws cs)
    | v => v
def widL : List Wd → List AV → List AV
  | [] => fun cs => cs
  | w :: ws => fun cs => match cs with
    | c :: cs => wid w c :: widL ws cs
    | [] => []
end
def finW (w : Wd) : Option (AV × Mem) → Option (AV × Mem)
  | some (v, m) => some (wid w v, m)
  | none => none
def orcE (r : Option (AV × Mem)) (args : List AV) (mem : Mem) : Option (List AV → Mem → Option (AV × Mem)) → Option (AV × Mem)
  | some g => g args mem
  | none => r
def closedT : AV → Bool
  | .tup cs => cs.all AV.closed
  | v => v.closed
def xokC : AV → Bool
  | .sl _ _ _ => true
  | .ptr _ _ _ => true
  | v => closedC v
def xokV (v : AV) : Bool := v.cells.all xokC
def xokT : AV → Bool
  | .tup cs => cs.all xokV
  | v => xokV v
def pickOps (t : Nat) (want : Bool) (x : Nat) : List Opd := if want then [.tmp t, .tmp x, .const (.bool false)] else [.tmp t, .const (.bool true), .tmp x]
mutual
def eraseI (gd : Option (Nat × Bool)) : EI → List AOp
  | .op k os dst solo => [⟨.op k os, dst, gd, solo⟩]
  | .pc g os dst solo => [⟨.pcall g os, dst, gd, solo⟩]
  | .sc g os dst solo => [⟨.scall g os, dst, gd, solo⟩]
  | .grp t want G x dst solo => eraseL (some (t, want)) G ++ [⟨.op .pick (pickOps t want x), some dst, gd, solo⟩]
  | .grw t want G x dst solo => eraseL (some (t, want)) G ++ [⟨.op .pick (pickOps t want x), some dst, gd, solo⟩]
def eraseL (gd : Option (Nat × Bool)) : List EI → List AOp
  | [] => []
  | x :: xs => eraseI gd x ++ eraseL gd xs
end
def eraseC : EC → AC
  | .skip => .skip
  | .region l draw => .region (eraseL none l) draw
  | .regL l js is => .regL (eraseL none l) js is
  | .seq a b => .seq (eraseC a) (eraseC b)
  | .cond c a b => .cond c (eraseC a) (eraseC b)
  | .block id a => .block id (eraseC a)
  | .loop _ a => .loop (eraseC a)
  | .exit id => .exit id
  | .ret => .ret
  | .view _ a => eraseC a
def eraseF (F : EF) : AF := ⟨eraseC F.body, F.results, F.ntmps⟩
def dstsL (gd : Option (Nat × Bool)) (l : List EI) : List Nat := (eraseL gd l).filterMap (·.dst)
mutual
def okI (t : Nat) (wr : List Nat) : EI → Bool
  | .op _ _ dst _ => dst != some t
  | .pc _ _ dst _ => dst != some t
  | .sc _ _ dst _ => dst != some t
  | .grp t' want G x dst _ => t' != t && wr.contains t' && okL t' [] G && (dst != t) && !((dstsL (some (t', want)) G).contains t)
  | .grw t' want G x dst _ => t' != t && wr.contains t' && okL t' [] G && (dst != t) && !((dstsL (some (t', want)) G).contains t)
def okL (t : Nat) (wr : List Nat) : List EI → Bool
  | [] => true
  | x :: xs => okI t wr x && okL t (wr ++ dstsL none [x]) xs
end
def okTop : List EI → Bool
  | [] => true
  | .grp t _ G _ _ _ :: xs => okL t [] G && okTop xs
  | .grw t _ G _ _ _ :: xs => okL t [] G && okTop xs
  | _ :: xs => okTop xs
def okE : EC → Bool
  | .region l _ => okTop l
  | .regL l _ _ => okTop l
  | .seq a b => okE a && okE b
  | .cond _ a b => okE a && okE b
  | .block _ a => okE a
  | .loop _ a => okE a
  | .view _ a => okE a
  | _ => true
def isDef : AV → Bool
  | .undef => false
  | _ => true
def outE (mem : Mem) (e : Eff) : AV × Option Mem := (effVal mem.length e, match e with | .val _ => none | e => some (effMem mem e))
open Classical in
noncomputable def opE (mem : Mem) (solo : Bool) (k : K) (args : List AV) : Option (AV × Option Mem) :=
  if weff (liveOf mem) k args (fun e => (e.quiet || solo) = true ∧ e = effOf (liveOf mem) k args) ∧ args.all isDef = true then some (outE mem (effOf (liveOf mem) k args)) else none
def isUmv : K → List AV → Bool
  | .mv, [.undef] => true
  | _, _ => false
noncomputable def opX (mem : Mem) (solo : Bool) (k : K) (args : List AV) : Option (AV × Option Mem) :=
  if isUmv k args = true then some (.undef, none) else opE mem solo k args
abbrev CallF := FuncId → List AV → Mem → Option (AV × Mem)
mutual
def ice : AV → AV
  | .agg cs => .agg (iceL cs)
  | .tup cs => .tup cs
  | .own s xs => .ro s (iceL xs)
  | .box x => .rop (iceC x)
  | .undef => .undef
  | .one => .one
  | .bool b => .bool b
  | .int k n => .int k n
  | .str s => .str s
  | .nil => .nil
  | .ro s xs => .ro s xs
  | .sl id off n => .sl id off n
  | .ptr id i j => .ptr id i j
  | .rop cs => .rop cs
  | .fn f cs => .fn f (iceL cs)
def iceL : List AV → List AV
  | [] => []
  | x :: xs => ice x :: iceL xs
def iceC : AV → List AV
  | .agg cs => iceL cs
  | .tup cs => [.tup cs]
  | .own s xs => [.ro s (iceL xs)]
  | .box x => [.rop (iceC x)]
  | .undef => [.undef]
  | .one => [.one]
  | .bool b => [.bool b]
  | .int k n => [.int k n]
  | .str s => [.str s]
  | .nil => [.nil]
  | .ro s xs => [.ro s xs]
  | .sl id off n => [.sl id off n]
  | .ptr id i j => [.ptr id i j]
  | .rop cs => [.rop cs]
  | .fn f cs => [.fn f (iceL cs)]
end
def inl (live : Live) : Nat → Bool → Nat → Nat → Nat → AV
  | 0 => fun _ _ _ _ => .tup []
  | D + 1 => fun b id i j => match live id with
    | none => .tup []
    | some (s, xs) => if b then (if i + j ≤ xs.length then .own s (mapIdL (inl live D) ((xs.drop i).take j)) else .tup [])
      else (if i < xs.length then .box (.agg ((mapId (inl live D) (xs.getD i .undef)).cells.drop j)) else .tup [])
def frz (live : Live) (x : AV) : AV := ice (mapId (inl live 4) x)
mutual
def coolC : AV → Bool
  | .own s xs => coolR s xs
  | .box x => coolX x
  | .undef => true
  | .one => true
  | .bool _ => true
  | .int _ _ => true
  | .str _ => true
  | .nil => true
  | .ro _ _ => true
  | .rop _ => true
  | .fn _ cs => cs.isEmpty
  | .agg _ => false
  | .tup _ => false
  | .sl _ _ _ => false
  | .ptr _ _ _ => false
def coolX : AV → Bool
  | .agg cs => coolL cs
  | .own s xs => coolR s xs
  | .box x => coolX x
  | .undef => true
  | .one => true
  | .bool _ => true
  | .int _ _ => true
  | .str _ => true
  | .nil => true
  | .ro _ _ => true
  | .rop _ => true
  | .fn _ cs => cs.isEmpty
  | .tup _ => false
  | .sl _ _ _ => false
  | .ptr _ _ _ => false
def coolL : List AV → Bool
  | [] => true
  | x :: xs => coolC x && coolL xs
def coolR (s : Nat) : List AV → Bool
  | [] => true
  | x :: xs => (x.cells.length == s) && coolX x && coolR s xs
end
def coolA : AV → Bool
  | .fn _ cs => cs.all coolX
  | v => coolX v
def unroC : AV → AV
  | .ro _ _ => .one
  | .rop _ => .one
  | v => v
def unro : AV → AV
  | .agg cs => .agg (cs.map unroC)
  | .tup cs => .tup (cs.map fun x => match x with | .agg ds => .agg (ds.map unroC) | v => unroC v)
  | v => unroC v
def addE (mem : Mem) : List (Option (Nat × List AV)) → Option Mem
  | [] => none
  | l => some (mem ++ l)
def pcR (mem : Mem) (res : AV) : Option (AV × Option Mem) :=
  if unpOk res = true then some ((unp mem.length res).1, addE mem (unp mem.length res).2) else none
def pcOut (mem : Mem) (lent : Bool) : Option (AV × Mem) → Option (AV × Option Mem)
  | some (res, []) => if lent then (if (unro res).roFree = true then pcR mem (unro res) else none) else pcR mem res
  | _ => none
def pcF (call : CallF) (mem : Mem) (f : FuncId) (args : List AV) : Option (AV × Option Mem) :=
  if args.all AV.closed = true then pcOut mem false (call f args [])
  else if args.all (fun x => coolA (mapId (inl (liveOf mem) 4) x)) = true then pcOut mem true (call f (args.map (frz (liveOf mem))) []) else none
def pcE (call : CallF) (mem : Mem) (args : List AV) : AV → Option (AV × Option Mem)
  | .fn f caps => if args.all isDef = true then pcF call mem f (args ++ caps) else none
  | _ => none
def dedupN : List Nat → List Nat → List Nat
  | acc, [] => acc
  | acc, x :: xs => dedupN (addId acc (some x)) xs
def lendO (r : Option Mem) : Option (Nat × List AV) → Option Mem
  | some (s, xs) => if coolR s xs = true then bnd r fun l => some (some (s, xs) :: l) else none
  | none => none
def lendR (mem : Mem) : List Nat → Option Mem
  | [] => some []
  | id :: ks => lendO (lendR mem ks) (liveOf mem id)
def giveR : Mem → List Nat → Mem → Option Mem
  | mem, [], [] => some mem
  | mem, id :: ks, some (s, xs) :: rs => if coolR s xs = true then giveR (mem.set id (some (s, xs))) ks rs else none
  | _, _, _ => none
def scSl (mem : Mem) (ks : List Nat) (small : Mem) : AV → Option (AV × Option Mem)
  | .sl k off n => if k < ks.length then bnd (giveR mem ks small) fun m => some (.sl (ks.getD k 0) off n, some m) else none
  | .tup [.sl k off n, x] => if k < ks.length ∧ x.closed = true then bnd (giveR mem ks small) fun m => some (.tup [.sl (ks.getD k 0) off n, x], some m) else none
  | _ => none
def scOut (mem : Mem) (ks : List Nat) : Option (AV × Mem) → Option (AV × Option Mem)
  | some (res, small) => if closedT res = true then bnd (giveR mem ks small) fun m => some (res, some m) else scSl mem ks small res
  | none => none
def xOut (mem : Mem) : Option (AV × Mem) → Option (AV × Option Mem)
  | some (res, mem') => if xokT res = true ∧ mem'.length = mem.length then some (res, some mem') else none
  | none => none
def scS (k : Mem → Option (AV × Option Mem)) (w : Option (AV × Option Mem)) : Option Mem → Option (AV × Option Mem)
  | some small => k small
  | none => w
def scK (call : CallF) (mem : Mem) (f : FuncId) (args : List AV) (ks : List Nat) : Option (AV × Option Mem) :=
  if nodupNat ks = true then scS (fun small => scOut mem ks (call f (mapIdL (gp (idx ks) (liveOf mem) 0) args) small)) (xOut mem (call f args mem)) (lendR mem ks) else none
def idU (_ : Bool) (id _ _ : Nat) : List Nat := [id]
def scF (call : CallF) (mem : Mem) (f : FuncId) (args : List AV) : Option (AV × Option Mem) := scK call mem f args (dedupN [] (idsL idU args))
def scE (call : CallF) (mem : Mem) (args : List AV) : AV → Option (AV × Option Mem)
  | .fn f caps => if args.all isDef = true then scF call mem f (args ++ caps) else none
  | _ => none
def qcOut : Option (AV × Mem) → Option (AV × Option Mem)
  | some (res, []) => some (res, none)
  | _ => none
def qcE (call : CallF) (mem : Mem) (args : List AV) : AV → Option (AV × Option Mem)
  | .fn f caps => if args.all isDef = true then qcOut (call f (args ++ caps) (none :: mem)) else none
  | _ => none
def stp (q : Bool) (s : St) (dst : Option Nat) : AV × Option Mem → Option St
  | (v, none) => some (s.put dst v s.mem)
  | (v, some mem) => if q then none else some (s.put dst v mem)
def boolOf : AV → Option Bool
  | .bool b => some b
  | _ => none
def hide (s : St) (ks : List Nat) (dst : Nat) (b : Bool) : St := ⟨(dst, .bool b) :: ks.map (fun k => (k, .undef)) ++ s.env, s.mem⟩
def isBool : AV → Option Bool
  | .bool b => some b
  | _ => none
mutual
noncomputable def evI (call : CallF) (q : Bool) : EI → St → Option St
  | .op k os dst solo, s => bnd (opX s.mem solo k (os.map (getOpd s.get))) (stp q s dst)
  | .pc g os dst solo, s => bnd (pcE call s.mem (os.map (getOpd s.get)) (getOpd s.get g)) (stp q s dst)
  | .sc g os dst solo, s => bnd (if solo = true then scE call s.mem (os.map (getOpd s.get)) (getOpd s.get g) else qcE call s.mem (os.map (getOpd s.get)) (getOpd s.get g)) (stp q s dst)
  | .grp t want G x dst _, s => bnd (isBool (s.get t)) fun b =>
      bnd (if b = want then bnd (evR call true G s) (fun s1 => boolOf (s1.get x)) else some (!want)) fun v => some (hide s (dstsL none G) dst v)
  | .grw t want G x dst _, s => bnd (isBool (s.get t)) fun b =>
      if b = want then bnd (evR call q G s) (fun s1 => bnd (boolOf (s1.get x)) fun v => some (hide ⟨s.env, s1.mem⟩ (dstsL none G) dst v)) else some (hide s (dstsL none G) dst (!want))
noncomputable def evR (call : CallF) (q : Bool) : List EI → St → Option St
  | [], s => some s
  | x :: xs, s => bnd (evI call q x s) (evR call q xs)
end
def nxt (f : St → Option (AX × St)) : AX × St → Option (AX × St)
  | (.normal, s) => f s
  | (.exit i, s) => some (.exit i, s)
  | (.ret, s) => some (.ret, s)
def outB (id : Nat) : AX × St → AX × St
  | (.exit i, s) => if i = id then (.normal, s) else (.exit i, s)
  | (.normal, s) => (.normal, s)
  | (.ret, s) => (.ret, s)
def iterL (g : St → Option (AX × St)) : Nat → St → Option (AX × St)
  | 0, _ => none
  | n + 1, s => bnd (g s) (nxt (iterL g n))
def cnd (t : Option Bool) (x y : Option (AX × St)) : Option (AX × St) := match t with
  | some b => if b = true then x else y
  | none => none
def lkE (n : Nat) (js is : List Nat) (s : St) : Option (AX × St) := if lkOk n js is s = true then some (.normal, s) else none
noncomputable def evC (call : CallF) (b fuel : Nat) : EC → St → Option (AX × St)
  | .skip, s => some (.normal, s)
  | .region l _, s => bnd (evR call false l s) fun s => some (.normal, s)
  | .regL l js is, s => bnd (evR call false l s) (lkE s.mem.length js is)
  | .seq x y, s => bnd (evC call b fuel x s) (nxt (evC call b fuel y))
  | .cond c x y, s => cnd (isBool (getOpd s.get c)) (evC call b fuel x s) (evC call b fuel y s)
  | .block id x, s => bnd (evC call b fuel x s) fun r => some (outB id r)
  | .loop hd x, s => bnd (vwL b hd s) (iterL (fun s => bnd (evC call b fuel x s) (nxt fun s => bnd (vwL b hd s) fun s => some (.normal, s))) fuel)
  | .exit id, s => some (.exit id, s)
  | .ret, s => some (.ret, s)
  | .view v x, s => bnd (vwL b v s) (evC call b fuel x)
noncomputable def resE (s : St) : List RV → Option (List AV)
  | [] => some []
  | .tmp t :: r => bnd (resE s r) fun vs => some (s.get t :: vs)
  | .cell a k :: r => bnd (opE s.mem false k [s.get a]) fun v => match v with
    | (v, none) => bnd (resE s r) fun vs => some (v :: vs)
    | _ => none
def finP (b : Nat) (mem : Mem) (res : AV) : Option (AV × Mem) :=
  if nodupNat (usedM (upto b) (liveOf mem) 4 (upto b) ++ idsV (up (idx (upto b)) (liveOf mem) 4) res) = true then some (mapId (gp (idx (upto b)) (liveOf mem) 4) res, packM (upto b) (liveOf mem) 4) else none
noncomputable def finE (b : Nat) (rs : List RV) : AX × St → Option (AV × Mem)
  | (.exit _, _) => none
  | (.normal, s) => bnd (resE s rs) fun vs => finP b s.mem (oneRes vs)
  | (.ret, s) => bnd (resE s rs) fun vs => finP b s.mem (oneRes vs)
noncomputable def runB (call : CallF) (n : Nat) (F : EF) (args : List AV) (mem : Mem) : Option (AV × Mem) :=
  if args.length ≤ F.ntmps then bnd (evC call mem.length n F.body ⟨enumA 0 args, mem⟩) (finE mem.length F.results) else none
noncomputable def runF (T : FuncId → Option EF) : Nat → CallF
  | 0 => fun _ _ _ => none
  | n + 1 => fun f args mem => match T f with
    | some F => orcE (finW F.ful (runB (runF T n) n F args mem)) args mem F.orc
    | none => none
end Go.Abs
namespace Go.Abs
open Go Go.RowKit
def Sim (s sa : St) : Prop := sa.mem = s.mem ∧ ∀ t, s.get t = .undef ∨ s.get t = sa.get t
theorem Sim.refl (s : St) : Sim s s := ⟨rfl, fun _ => .inr rfl⟩
theorem isDef_ne {v : AV} (h : isDef v = true) : v ≠ .undef := fun e => by subst e; cases h
theorem Sim.opd {s sa : St} (h : Sim s sa) {o : Opd} (hd : isDef (getOpd s.get o) = true) : getOpd sa.get o = getOpd s.get o := by
  cases o with
  | const v => rfl
  | tmp t =>
    rcases h.2 t with h1 | h1
    · exact absurd h1 (isDef_ne hd)
    · exact h1.symm
theorem Sim.opds {s sa : St} (h : Sim s sa) {os : List Opd} (hd : (os.map (getOpd s.get)).all isDef = true) : os.map (getOpd sa.get) = os.map (getOpd s.get) := by
  induction os with
  | nil => rfl
  | cons o os ih =>
    simp only [List.map_cons, List.all_cons, Bool.and_eq_true] at hd
    rw [List.map_cons, List.map_cons, h.opd hd.1, ih hd.2]
theorem Sim.put {s sa : St} (h : Sim s sa) (dst : Option Nat) (v : AV) (mem : Mem) : Sim (s.put dst v mem) (sa.put dst v mem) := by
  refine ⟨rfl, fun t => ?_⟩
  rw [get_put, get_put]
  split
  · exact .inr rfl
  · exact h.2 t
theorem regWp_append {P : Program} : ∀ {l1 l2 : List AOp} {s : St} {Q : St → Prop}, regWp P l1 s (fun s => regWp P l2 s Q) → regWp P (l1 ++ l2) s Q := by
  intro l1
  induction l1 with
  | nil => intro l2 s Q h; exact h
  | cons x l1 ih =>
    intro l2 s Q h
    exact regWp_mono (l := [x]) (fun s hs => ih hs) h
def Off (t : Nat) (want : Bool) (sa : St) : Prop := sa.get t = .bool (!want) ∨ sa.get t = .tup []
theorem opWp_skip {P : Program} {sa : St} {it : Item} {dst : Option Nat} {t : Nat} {want solo : Bool} {Q : St → Prop} (h : Off t want sa) (hq : Q (sa.put dst (.tup []) sa.mem)) : opWp P sa ⟨it, dst, some (t, want), solo⟩ Q := by
  unfold opWp
  rcases h with h | h
  · simp only [h]
    cases want <;> simp <;> exact hq
  · simp only [h]; exact hq
def RunG (gd : Option (Nat × Bool)) (sa : St) : Prop := gd = none ∨ ∃ t want, gd = some (t, want) ∧ sa.get t = .bool want
theorem opWp_run {P : Program} {sa : St} {it : Item} {dst : Option Nat} {gd : Option (Nat × Bool)} {solo : Bool} {Q : St → Prop} (hg : RunG gd sa) (h : itemWp P sa solo it (fun v mem => Q (sa.put dst v mem))) : opWp P sa ⟨it, dst, gd, solo⟩ Q := by
  unfold opWp
  rcases hg with rfl | ⟨t, want, rfl, hb⟩
  · exact h
  · simp only [hb]
    exact ⟨fun _ => h, fun e => absurd trivial e⟩
theorem dstsI_gd (gd gd' : Option (Nat × Bool)) (x : EI) : (eraseI gd x).filterMap (·.dst) = (eraseI gd' x).filterMap (·.dst) := by
  cases x <;> simp [eraseI, List.filterMap_cons]
theorem dstsL_gd (gd gd' : Option (Nat × Bool)) (l : List EI) : dstsL gd l = dstsL gd' l := by
  induction l with
  | nil => simp [dstsL, eraseL]
  | cons x l ih => unfold dstsL at ih ⊢; simp only [eraseL, List.filterMap_append]; rw [ih, dstsI_gd gd gd']
theorem dstsL_cons (gd : Option (Nat × Bool)) (x : EI) (l : List EI) : dstsL gd (x :: l) = dstsL gd [x] ++ dstsL gd l := by
  simp [dstsL, eraseL]
mutual
theorem skipI {P : Program} : ∀ (x : EI) {t : Nat} {want : Bool} {wr : List Nat} {sa : St} {Q : St → Prop}, okI t wr x = true → Off t want sa → (∀ u ∈ wr, sa.get u = .tup []) →
    (∀ sa', sa'.mem = sa.mem → (∀ k, k ∉ dstsL none [x] → sa'.get k = sa.get k) → (∀ u ∈ wr ++ dstsL none [x], sa'.get u = .tup []) → Q sa') → regWp P (eraseI (some (t, want)) x) sa Q := by
  intro x t want wr sa Q hok hoff hwr hq
  have leaf : ∀ (it : Item) (dst : Option Nat) (solo : Bool), dstsL none [x] = [dst].filterMap id → regWp P [⟨it, dst, some (t, want), solo⟩] sa Q := by
    intro it dst solo hd
    refine opWp_skip hoff (hq _ rfl (fun k hk => ?_) (fun u hu => ?_))
    · rw [get_put, if_neg]
      intro e; subst e; exact hk (by rw [hd]; simp)
    · rw [get_put]
      split
      · rfl
      · rename_i hne
        rcases List.mem_append.1 hu with hu | hu
        · exact hwr u hu
        · rw [hd] at hu
          cases dst with
          | none => simp at hu
          | some k => simp at hu; subst hu; exact absurd rfl hne
  match x with
  | .op k os dst solo => exact leaf _ dst solo (by cases dst <;> simp [dstsL, eraseL, eraseI])
  | .pc g os dst solo => exact leaf _ dst solo (by cases dst <;> simp [dstsL, eraseL, eraseI])
  | .sc g os dst solo => exact leaf _ dst solo (by cases dst <;> simp [dstsL, eraseL, eraseI])
  | .grp t' want' G x' dst' solo' =>
    simp only [okI, Bool.and_eq_true, bne_iff_ne, ne_eq, List.contains_iff_mem, Bool.not_eq_true', List.contains_eq_mem, decide_eq_true_eq, decide_eq_false_iff_not] at hok
    obtain ⟨⟨⟨⟨h1, h2⟩, h3⟩, h4⟩, h5⟩ := hok
    show regWp P (eraseL (some (t', want')) G ++ _) sa Q
    refine regWp_append ?_
    refine skipL G h3 (.inr (hwr t' h2)) (fun u hu => by cases hu) (fun sa' hm hk hu => ?_)
    have ht : sa'.get t = sa.get t := hk t (by rw [dstsL_gd none (some (t', want'))]; exact h5)
    have hds : dstsL none [.grp t' want' G x' dst' solo'] = dstsL none G ++ [dst'] := by
      simp only [dstsL, eraseL, eraseI, List.append_nil, List.filterMap_append]
      rw [show (eraseL (some (t', want')) G).filterMap (·.dst) = (eraseL none G).filterMap (·.dst) from dstsL_gd _ _ G]; rfl
    refine opWp_skip (by unfold Off; rw [ht]; exact hoff) (hq _ hm (fun k hk' => ?_) (fun u hu' => ?_))
    · rw [hds] at hk'
      simp only [List.mem_append, List.mem_singleton, not_or] at hk'
      rw [get_put, if_neg (fun e => hk'.2 (by simpa using e.symm))]
      exact hk k hk'.1
    · rw [get_put]
      split
      · rfl
      · rename_i hne
        rw [hds] at hu'
        simp only [List.mem_append, List.mem_singleton] at hu'
        by_cases hin : u ∈ dstsL none G
        · exact hu u (by simpa using hin)
        · rcases hu' with hu' | hu' | hu'
          · rw [hk u hin]; exact hwr u hu'
          · exact absurd hu' hin
          · exact absurd (by rw [hu']) hne
  | .grw t' want' G x' dst' solo' =>
    simp only [okI, Bool.and_eq_true, bne_iff_ne, ne_eq, List.contains_iff_mem, Bool.not_eq_true', List.contains_eq_mem, decide_eq_true_eq, decide_eq_false_iff_not] at hok
    obtain ⟨⟨⟨⟨h1, h2⟩, h3⟩, h4⟩, h5⟩ := hok
    show regWp P (eraseL (some (t', want')) G ++ _) sa Q
    refine regWp_append ?_
    refine skipL G h3 (.inr (hwr t' h2)) (fun u hu => by cases hu) (fun sa' hm hk hu => ?_)
    have ht : sa'.get t = sa.get t := hk t (by rw [dstsL_gd none (some (t', want'))]; exact h5)
    have hds : dstsL none [.grw t' want' G x' dst' solo'] = dstsL none G ++ [dst'] := by
      simp only [dstsL, eraseL, eraseI, List.append_nil, List.filterMap_append]
      rw [show (eraseL (some (t', want')) G).filterMap (·.dst) = (eraseL none G).filterMap (·.dst) from dstsL_gd _ _ G]; rfl
    refine opWp_skip (by unfold Off; rw [ht]; exact hoff) (hq _ hm (fun k hk' => ?_) (fun u hu' => ?_))
    · rw [hds] at hk'
      simp only [List.mem_append, List.mem_singleton, not_or] at hk'
      rw [get_put, if_neg (fun e => hk'.2 (by simpa using e.symm))]
      exact hk k hk'.1
    · rw [get_put]
      split
      · rfl
      · rename_i hne
        rw [hds] at hu'
        simp only [List.mem_append, List.mem_singleton] at hu'
        by_cases hin : u ∈ dstsL none G
        · exact hu u (by simpa using hin)
        · rcases hu' with hu' | hu' | hu'
          · rw [hk u hin]; exact hwr u hu'
          · exact absurd hu' hin
          · exact absurd (by rw [hu']) hne
theorem skipL {P : Program} : ∀ (l : List EI) {t : Nat} {want : Bool} {wr : List Nat} {sa : St} {Q : St → Prop}, okL t wr l = true → Off t want sa → (∀ u ∈ wr, sa.get u = .tup []) →
    (∀ sa', sa'.mem = sa.mem → (∀ k, k ∉ dstsL none l → sa'.get k = sa.get k) → (∀ u ∈ wr ++ dstsL none l, sa'.get u = .tup []) → Q sa') → regWp P (eraseL (some (t, want)) l) sa Q := by
  intro l t want wr sa Q hok hoff hwr hq
  match l with
  | [] => exact hq sa rfl (fun _ _ => rfl) (fun u hu => hwr u (by simpa [dstsL, eraseL] using hu))
  | x :: xs =>
    simp only [okL, Bool.and_eq_true] at hok
    show regWp P (eraseI (some (t, want)) x ++ eraseL (some (t, want)) xs) sa Q
    refine regWp_append (skipI x hok.1 hoff hwr (fun sa1 hm1 hk1 hu1 => ?_))
    have hoff1 : Off t want sa1 := by
      by_cases hin : t ∈ dstsL none [x]
      · exact .inr (hu1 t (List.mem_append_right _ hin))
      · unfold Off; rw [hk1 t hin]; exact hoff
    refine skipL xs hok.2 hoff1 hu1 (fun sa2 hm2 hk2 hu2 => hq sa2 (hm2.trans hm1) (fun k hk => ?_) (fun u hu => ?_))
    · rw [dstsL_cons, List.mem_append, not_or] at hk
      rw [hk2 k hk.2, hk1 k hk.1]
    · rw [dstsL_cons] at hu
      exact hu2 u (by rw [List.append_assoc]; exact hu)
end
theorem opE_sound {mem : Mem} {solo : Bool} {k : K} {args : List AV} {v : AV} {om : Option Mem} (h : opE mem solo k args = some (v, om)) :
    weff (liveOf mem) k args (fun e => (e.quiet || solo) = true ∧ (v, om) = outE mem e) ∧ args.all isDef = true := by
  unfold opE at h
  split at h
  · rename_i hc
    have h := Option.some.inj h
    exact ⟨weff_mono hc.1 (fun e he => ⟨he.1, by rw [he.2]; exact h.symm⟩), hc.2⟩
  · cases h
theorem outE_mem {mem : Mem} {e : Eff} {v : AV} {om : Option Mem} (h : (v, om) = outE mem e) : v = effVal mem.length e ∧ om.getD mem = effMem mem e := by
  cases e <;> (simp only [outE, Prod.mk.injEq] at h; obtain ⟨rfl, rfl⟩ := h; exact ⟨rfl, rfl⟩)
theorem stp_eq {q : Bool} {s s' : St} {dst : Option Nat} {v : AV} {om : Option Mem} (h : stp q s dst (v, om) = some s') : s' = s.put dst v (om.getD s.mem) ∧ (q = true → s'.mem = s.mem) := by
  cases om with
  | none => simp only [stp, Option.some.injEq] at h; subst h; exact ⟨rfl, fun _ => rfl⟩
  | some mem =>
    simp only [stp] at h
    split at h
    · cases h
    · rename_i hq
      cases h; exact ⟨rfl, fun e => absurd e hq⟩
theorem iceL_map (xs : List AV) : iceL xs = xs.map ice := by
  induction xs with
  | nil => simp [iceL]
  | cons x xs ih => simp [iceL, ih]
theorem ice_cells (x : AV) : iceC x = (ice x).cells := by
  cases x <;> simp [iceC, ice, AV.cells]
theorem ice_cells' (x : AV) : (ice x).cells = iceL x.cells := by
  cases x <;> simp [ice, AV.cells, iceL]
theorem even_ice {s : Nat} {xs : List AV} (h : Even s xs) : Even s (iceL xs) := by
  intro x hx
  rw [iceL_map] at hx
  obtain ⟨y, hy, rfl⟩ := List.mem_map.1 hx
  rw [ice_cells', iceL_map, List.length_map]
  exact h y hy
theorem iceL_length (xs : List AV) : (iceL xs).length = xs.length := by rw [iceL_map, List.length_map]
theorem inl_agg (live : Live) : ∀ (D : Nat) (b : Bool) (id i j : Nat), isAgg (inl live D b id i j) = false := by
  intro D b id i j
  cases D with
  | zero => rfl
  | succ D => unfold inl; (repeat' split) <;> rfl
end Go.Abs
namespace Go.Abs
open Go Go.RowKit
theorem coolR_all (s : Nat) (xs : List AV) : coolR s xs = true ↔ Even s xs ∧ ∀ x ∈ xs, coolX x = true := by
  induction xs with
  | nil => simp [coolR, Even]
  | cons x xs ih =>
    simp only [coolR, Bool.and_eq_true, beq_iff_eq, ih, Even, List.mem_cons, forall_eq_or_imp]
    exact ⟨fun ⟨⟨h1, h2⟩, h3, h4⟩ => ⟨⟨h1, h3⟩, h2, h4⟩, fun ⟨⟨h1, h3⟩, h2, h4⟩ => ⟨⟨h1, h2⟩, h3, h4⟩⟩
theorem cool_ids (g : Bool → Nat → Nat → Nat → AV) (u : Bool → Nat → Nat → Nat → List Nat) (x : AV) : (coolC x = true → mapId g x = x ∧ idsV u x = []) ∧ (coolX x = true → mapId g x = x ∧ idsV u x = []) := by
  refine AV.rec (motive_1 := fun x => (coolC x = true → mapId g x = x ∧ idsV u x = []) ∧ (coolX x = true → mapId g x = x ∧ idsV u x = []))
    (motive_2 := fun xs => (coolL xs = true → mapIdL g xs = xs ∧ idsL u xs = []) ∧ ∀ s, coolR s xs = true → mapIdL g xs = xs ∧ idsL u xs = []) ?_ ?_ ?_ ?_ ?_ ?_ ?_ ?_ ?_ ?_ ?_ ?_ ?_ ?_ ?_ ?_ ?_ x
  · simp [mapId, idsV]
  · simp [mapId, idsV]
  · intro b; simp [mapId, idsV]
  · intro k n; simp [mapId, idsV]
  · intro s; simp [mapId, idsV]
  · intro cs h
    refine ⟨fun e => by simp [coolC] at e, fun e => ?_⟩
    obtain ⟨h1, h2⟩ := h.1 (by simpa [coolX] using e)
    simp [mapId, idsV, h1, h2]
  · intro cs h; exact ⟨fun e => by simp [coolC] at e, fun e => by simp [coolX] at e⟩
  · simp [mapId, idsV]
  · intro s xs _; simp [mapId, idsV]
  · intro s xs h
    have key : coolR s xs = true → mapId g (.own s xs) = .own s xs ∧ idsV u (.own s xs) = [] := fun e => by
      obtain ⟨h1, h2⟩ := h.2 s e
      simp [mapId, idsV, h1, h2]
    exact ⟨fun e => key (by simpa [coolC] using e), fun e => key (by simpa [coolX] using e)⟩
  · intro id off n; exact ⟨fun e => by simp [coolC] at e, fun e => by simp [coolX] at e⟩
  · intro id off n; exact ⟨fun e => by simp [coolC] at e, fun e => by simp [coolX] at e⟩
  · intro cs _; simp [mapId, idsV]
  · intro x h
    have key : coolX x = true → mapId g (.box x) = .box x ∧ idsV u (.box x) = [] := fun e => by
      obtain ⟨h1, h2⟩ := h.2 e
      simp [mapId, idsV, h1, h2]
    exact ⟨fun e => key (by simpa [coolC] using e), fun e => key (by simpa [coolX] using e)⟩
  · intro f cs _
    have key : cs.isEmpty = true → mapId g (.fn f cs) = .fn f cs ∧ idsV u (.fn f cs) = [] := fun e => by
      cases cs with
      | nil => simp [mapId, idsV, mapIdL, idsL]
      | cons a b => cases e
    exact ⟨fun e => key (by simpa [coolC] using e), fun e => key (by simpa [coolX] using e)⟩
  · simp [mapIdL, idsL]
  · intro x xs h1 h2
    refine ⟨fun e => ?_, fun s e => ?_⟩
    · simp only [coolL, Bool.and_eq_true] at e
      obtain ⟨a1, a2⟩ := h1.1 e.1
      obtain ⟨b1, b2⟩ := h2.1 e.2
      simp [mapIdL, idsL, a1, a2, b1, b2]
    · simp only [coolR, Bool.and_eq_true] at e
      obtain ⟨a1, a2⟩ := h1.2 e.1.2
      obtain ⟨b1, b2⟩ := h2.2 s e.2
      simp [mapIdL, idsL, a1, a2, b1, b2]
theorem FrzL.app {live : Live} : ∀ {as bs cs ds : List AV}, FrzL live as bs → FrzL live cs ds → FrzL live (as ++ cs) (bs ++ ds) := by
  intro as
  induction as with
  | nil => intro bs cs ds h k; cases h; exact k
  | cons a as ih => intro bs cs ds h k; cases h with | cons h t => exact .cons h (ih t k)
theorem mapId_agg {g : Bool → Nat → Nat → Nat → AV} (hg : ∀ b id i j, isAgg (g b id i j) = false) {x : AV} (h : isAgg x = false) : isAgg (mapId g x) = false := by
  cases x <;> first | rfl | exact hg .. | cases h
theorem inl_rows (live : Live) (D : Nat) : (∀ x, (coolC (mapId (inl live D) x) = true → Frz live x (ice (mapId (inl live D) x)) ∧ closedC (ice (mapId (inl live D) x)) = true) ∧
      (coolX (mapId (inl live D) x) = true → FrzL live x.cells (ice (mapId (inl live D) x)).cells ∧ (ice (mapId (inl live D) x)).cells.all closedC = true)) →
      ∀ xs, (coolL (mapIdL (inl live D) xs) = true → FrzL live xs (iceL (mapIdL (inl live D) xs)) ∧ (iceL (mapIdL (inl live D) xs)).all closedC = true) ∧
        ∀ s, coolR s (mapIdL (inl live D) xs) = true → FrzL live (flat xs) (flat (iceL (mapIdL (inl live D) xs))) ∧ (flat (iceL (mapIdL (inl live D) xs))).all closedC = true := by
  intro hx xs
  induction xs with
  | nil => exact ⟨fun _ => ⟨.nil, rfl⟩, fun s _ => ⟨.nil, rfl⟩⟩
  | cons x xs ih =>
    refine ⟨fun e => ?_, fun s e => ?_⟩
    · simp only [mapIdL, coolL, Bool.and_eq_true] at e
      obtain ⟨a1, a2⟩ := (hx x).1 e.1
      obtain ⟨b1, b2⟩ := ih.1 e.2
      exact ⟨.cons a1 b1, by simp only [mapIdL, iceL, List.all_cons, a2, b2, Bool.and_self]⟩
    · simp only [mapIdL, coolR, Bool.and_eq_true] at e
      obtain ⟨a1, a2⟩ := (hx x).2 e.1.2
      obtain ⟨b1, b2⟩ := ih.2 s e.2
      simp only [mapIdL, iceL]
      rw [flat_cons, flat_cons]
      exact ⟨a1.app b1, by rw [List.all_append, a2, b2]; rfl⟩
theorem inl_str (live : Live) (D : Nat) : (∀ id off n, coolC (inl live D true id off n) = true → Frz live (.sl id off n) (ice (inl live D true id off n)) ∧ closedC (ice (inl live D true id off n)) = true) →
      (∀ id i j, coolC (inl live D false id i j) = true → Frz live (.ptr id i j) (ice (inl live D false id i j)) ∧ closedC (ice (inl live D false id i j)) = true) →
      ∀ x, (coolC (mapId (inl live D) x) = true → Frz live x (ice (mapId (inl live D) x)) ∧ closedC (ice (mapId (inl live D) x)) = true) ∧
        (coolX (mapId (inl live D) x) = true → FrzL live x.cells (ice (mapId (inl live D) x)).cells ∧ (ice (mapId (inl live D) x)).cells.all closedC = true) := by
  have hg := inl_agg live D
  have leaf : ∀ y : AV, closedC y = true → Frz live y y ∧ closedC y = true := fun y hy => ⟨.closed (by
    have : y.cells = [y] := by cases y <;> first | rfl | cases hy
    unfold AV.closed; rw [this]; simp [hy]), hy⟩
  have both : ∀ y : AV, isAgg y = false → isAgg (mapId (inl live D) y) = false → (coolC (mapId (inl live D) y) = true → Frz live y (ice (mapId (inl live D) y)) ∧ closedC (ice (mapId (inl live D) y)) = true) →
      (coolC (mapId (inl live D) y) = true → Frz live y (ice (mapId (inl live D) y)) ∧ closedC (ice (mapId (inl live D) y)) = true) ∧
      (coolX (mapId (inl live D) y) = true → FrzL live y.cells (ice (mapId (inl live D) y)).cells ∧ (ice (mapId (inl live D) y)).cells.all closedC = true) := by
    intro y h1 h2 h
    refine ⟨h, fun e => ?_⟩
    have he : coolC (mapId (inl live D) y) = true := by
      revert h2 e; generalize mapId (inl live D) y = z; intro h2 e
      cases z <;> first | exact e | cases h2
    obtain ⟨a1, a2⟩ := h he
    have c1 : y.cells = [y] := by cases y <;> first | rfl | cases h1
    have c2 : (ice (mapId (inl live D) y)).cells = [ice (mapId (inl live D) y)] := by
      revert h2; generalize mapId (inl live D) y = z; intro h2; cases z <;> first | rfl | cases h2
    rw [c1, c2]; exact ⟨.cons a1 .nil, by simp [a2]⟩
  intro hs hp x
  refine AV.rec (motive_1 := fun x => (coolC (mapId (inl live D) x) = true → Frz live x (ice (mapId (inl live D) x)) ∧ closedC (ice (mapId (inl live D) x)) = true) ∧
      (coolX (mapId (inl live D) x) = true → FrzL live x.cells (ice (mapId (inl live D) x)).cells ∧ (ice (mapId (inl live D) x)).cells.all closedC = true))
    (motive_2 := fun xs => (coolL (mapIdL (inl live D) xs) = true → FrzL live xs (iceL (mapIdL (inl live D) xs)) ∧ (iceL (mapIdL (inl live D) xs)).all closedC = true) ∧
      ∀ s, coolR s (mapIdL (inl live D) xs) = true → FrzL live (flat xs) (flat (iceL (mapIdL (inl live D) xs))) ∧ (flat (iceL (mapIdL (inl live D) xs))).all closedC = true) ?_ ?_ ?_ ?_ ?_ ?_ ?_ ?_ ?_ ?_ ?_ ?_ ?_ ?_ ?_ ?_ ?_ x
  · exact both _ rfl rfl (fun _ => leaf _ rfl)
  · exact both _ rfl rfl (fun _ => leaf _ rfl)
  · intro b; exact both _ rfl rfl (fun _ => leaf _ rfl)
  · intro k n; exact both _ rfl rfl (fun _ => leaf _ rfl)
  · intro s; exact both _ rfl rfl (fun _ => leaf _ rfl)
  · intro cs h
    exact ⟨fun e => by simp [mapId, coolC] at e, fun e => h.1 (by simpa [mapId, coolX] using e)⟩
  · intro cs h; exact ⟨fun e => by simp [mapId, coolC] at e, fun e => by simp [mapId, coolX] at e⟩
  · exact both _ rfl rfl (fun _ => leaf _ rfl)
  · intro s xs _; exact both _ rfl rfl (fun _ => leaf _ rfl)
  · intro s xs h
    refine both _ rfl rfl (fun e => ?_)
    have e : coolR s (mapIdL (inl live D) xs) = true := by simpa [mapId, coolC] using e
    obtain ⟨h1, h2⟩ := h.2 s e
    exact ⟨.own h1 (even_ice ((coolR_all s _).1 e).1) (by rw [iceL_length, mapIdL_map, List.length_map]) rfl h2, rfl⟩
  · intro id off n; exact both _ rfl (hg ..) (fun e => hs id off n e)
  · intro id off n; exact both _ rfl (hg ..) (fun e => hp id off n e)
  · intro cs _; exact both _ rfl rfl (fun _ => leaf _ rfl)
  · intro x h
    refine both _ rfl rfl (fun e => ?_)
    obtain ⟨h1, h2⟩ := h.2 (by simpa [mapId, coolC] using e)
    simp only [mapId, ice]
    rw [ice_cells]
    exact ⟨.box h1 h2, rfl⟩
  · intro f cs _
    refine both _ rfl rfl (fun e => ?_)
    have e : mapIdL (inl live D) cs = [] := by simpa [mapId, coolC] using e
    have e' : cs = [] := by cases cs with | nil => rfl | cons a b => simp [mapIdL] at e
    subst e'; exact ⟨.fn .nil, rfl⟩
  · exact ⟨fun _ => ⟨.nil, rfl⟩, fun s _ => ⟨.nil, rfl⟩⟩
  · intro x xs h1 h2
    refine ⟨fun e => ?_, fun s e => ?_⟩
    · simp only [mapIdL, coolL, Bool.and_eq_true] at e
      obtain ⟨a1, a2⟩ := h1.1 e.1
      obtain ⟨b1, b2⟩ := h2.1 e.2
      exact ⟨.cons a1 b1, by simp only [mapIdL, iceL, List.all_cons, a2, b2, Bool.and_self]⟩
    · simp only [mapIdL, coolR, Bool.and_eq_true] at e
      obtain ⟨a1, a2⟩ := h1.2 e.1.2
      obtain ⟨b1, b2⟩ := h2.2 s e.2
      simp only [mapIdL, iceL]
      rw [flat_cons, flat_cons]
      exact ⟨a1.app b1, by rw [List.all_append, a2, b2]; rfl⟩
theorem inl_frz (live : Live) : ∀ (D : Nat) (x : AV), (coolC (mapId (inl live D) x) = true → Frz live x (ice (mapId (inl live D) x)) ∧ closedC (ice (mapId (inl live D) x)) = true) ∧
      (coolX (mapId (inl live D) x) = true → FrzL live x.cells (ice (mapId (inl live D) x)).cells ∧ (ice (mapId (inl live D) x)).cells.all closedC = true) := by
  intro D
  induction D with
  | zero => exact inl_str live 0 (fun id off n e => by simp [inl, coolC] at e) (fun id off n e => by simp [inl, coolC] at e)
  | succ D ih =>
    refine inl_str live (D + 1) (fun id off n e => ?_) (fun id i j e => ?_)
    · unfold inl at e ⊢
      cases hl : live id with
      | none => simp [hl, coolC] at e
      | some sx =>
        obtain ⟨s, xs⟩ := sx
        simp only [hl, if_true] at e ⊢
        by_cases hn : off + n ≤ xs.length
        · rw [if_pos hn] at e ⊢
          have e : coolR s (mapIdL (inl live D) ((xs.drop off).take n)) = true := by simpa [coolC] using e
          obtain ⟨h1, h2⟩ := (inl_rows live D ih _).2 s e
          exact ⟨.sl hl hn h1 (even_ice ((coolR_all s _).1 e).1) (by rw [iceL_length, mapIdL_map, List.length_map, List.length_take, List.length_drop]; omega) rfl h2, rfl⟩
        · rw [if_neg hn] at e; simp [coolC] at e
    · unfold inl at e ⊢
      cases hl : live id with
      | none => simp [hl, coolC] at e
      | some sx =>
        obtain ⟨s, xs⟩ := sx
        simp only [hl, Bool.false_eq_true, if_false] at e ⊢
        by_cases hi : i < xs.length
        · rw [if_pos hi] at e ⊢
          have hd : (mapId (inl live D) (xs.getD i .undef)).cells.drop j = mapIdL (inl live D) ((xs.getD i .undef).cells.drop j) := by
            rw [cells_mapId (inl_agg live D), mapIdL_map, mapIdL_map, List.map_drop]
          rw [hd] at e ⊢
          have e : coolL (mapIdL (inl live D) ((xs.getD i .undef).cells.drop j)) = true := by simpa [coolC, coolX] using e
          obtain ⟨h1, h2⟩ := (inl_rows live D ih _).1 e
          refine ⟨.ptr (zs := iceL (mapIdL (inl live D) ((xs.getD i .undef).cells.drop j))) hl hi h1 h2, rfl⟩
        · rw [if_neg hi] at e; simp [coolC] at e
end Go.Abs
namespace Go.Abs
open Go Go.RowKit
theorem RelV.closedT {w : World} {m : IdMap} {d X : Nat → Prop} {m' : IdMap} {d' X' : Nat → Prop} (hX : ∀ b, X' b → X b) {a : AV} {v : Value} {F : List Nat} (h : RelV w m d X a v F) (hc : closedT a = true) : RelV w m' d' X' a v [] := by
  cases a with
  | tup cs => cases h with | tup h => exact .tup (RelL.closedA hX h hc).2
  | _ => exact (RelV.closed (m' := m') (d' := d') hX h hc).2
theorem RelV.xokC {w : World} {m : IdMap} {d X : Nat → Prop} {a : AV} {v : Value} {F : List Nat} (h : RelV w m d X a v F) (hc : xokC a = true) : F = [] := by
  cases a <;> first
    | (cases h <;> rfl)
    | (exact (RelV.closed (m' := m) (d' := d) (fun _ h => h) h (by simpa [AV.closed, AV.cells, Go.Abs.xokC] using hc)).1)
    | (simp [Go.Abs.xokC, closedC] at hc)
theorem RelL.xokC {w : World} {m : IdMap} {d X : Nat → Prop} : ∀ {cs : List AV} {vs : List Value} {F : List Nat}, RelL w m d X cs vs F → cs.all Go.Abs.xokC = true → F = [] := by
  intro cs
  induction cs with
  | nil => intro vs F h _; cases h; rfl
  | cons c cs ih =>
    intro vs F h hc
    rw [List.all_cons, Bool.and_eq_true] at hc
    cases h with
    | cons h t => rw [h.xokC hc.1, ih t hc.2]; rfl
theorem RelV.xokV {w : World} {m : IdMap} {d X : Nat → Prop} {a : AV} {v : Value} {F : List Nat} (h : RelV w m d X a v F) (hc : xokV a = true) : F = [] := by
  by_cases ha : ∃ cs, a = .agg cs
  · obtain ⟨cs, rfl⟩ := ha
    cases h with | agg h => exact h.xokC hc
  · have e : a.cells = [a] := by cases a <;> first | rfl | exact absurd ⟨_, rfl⟩ ha
    unfold Go.Abs.xokV at hc
    rw [e] at hc
    exact h.xokC (by simpa using hc)
theorem RelV.xokT {w : World} {m : IdMap} {d X : Nat → Prop} {a : AV} {v : Value} {F : List Nat} (h : RelV w m d X a v F) (hc : xokT a = true) : RelV w m d X a v [] := by
  have hl : ∀ {cs : List AV} {vs : List Value} {F : List Nat}, RelL w m d X cs vs F → cs.all Go.Abs.xokV = true → F = [] := by
    intro cs
    induction cs with
    | nil => intro vs F h _; cases h; rfl
    | cons c cs ih =>
      intro vs F h hc
      rw [List.all_cons, Bool.and_eq_true] at hc
      cases h with
      | cons h t => rw [h.xokV hc.1, ih t hc.2]; rfl
  cases a with
  | tup cs => cases h with | tup h => have := hl h hc; subst this; exact .tup h
  | _ => have := RelV.xokV h hc; subst this; exact h
theorem closedC_xok {a : AV} (h : closedC a = true) : Go.Abs.xokC a = true := by cases a <;> first | rfl | exact h
theorem closed_xok {a : AV} (h : a.closed = true) : Go.Abs.xokV a = true := by
  unfold Go.Abs.xokV; unfold AV.closed at h
  rw [List.all_eq_true] at h ⊢
  exact fun x hx => closedC_xok (h x hx)
theorem closedT_xok {a : AV} (h : closedT a = true) : Go.Abs.xokT a = true := by
  cases a with
  | tup cs =>
    have h : cs.all AV.closed = true := h
    show cs.all Go.Abs.xokV = true
    rw [List.all_eq_true] at h ⊢
    exact fun x hx => closed_xok (h x hx)
  | _ => exact closed_xok h
theorem coolC_X {x : AV} (h : coolC x = true) : coolX x = true := by cases x <;> simp_all [coolC, coolX]
theorem coolL_X {xs : List AV} (h : coolL xs = true) : ∀ x ∈ xs, coolX x = true := by
  induction xs with
  | nil => intro x hx; cases hx
  | cons y ys ih =>
    simp only [coolL, Bool.and_eq_true] at h
    intro x hx
    rcases List.mem_cons.1 hx with rfl | hx
    · exact coolC_X h.1
    · exact ih h.2 x hx
theorem cool_cells {x : AV} (h : coolX x = true) : ∀ y ∈ x.cells, coolX y = true := by
  by_cases ha : ∃ cs, x = .agg cs
  · obtain ⟨cs, rfl⟩ := ha; exact coolL_X (xs := cs) (by simpa [coolX] using h)
  · have e : x.cells = [x] := by cases x <;> first | rfl | exact absurd ⟨_, rfl⟩ ha
    rw [e]; intro y hy; rw [List.mem_singleton.1 hy]; exact h
theorem cool_flat {xs : List AV} (h : ∀ x ∈ xs, coolX x = true) : ∀ y ∈ flat xs, coolX y = true := by
  induction xs with
  | nil => intro y hy; simp [flat] at hy
  | cons x xs ih =>
    intro y hy
    rw [flat_cons] at hy
    rcases List.mem_append.1 hy with hy | hy
    · exact cool_cells (h x (List.mem_cons_self ..)) y hy
    · exact ih (fun z hz => h z (List.mem_cons_of_mem _ hz)) y hy
theorem cool_rel {w : World} {m m' : IdMap} {d d' X X' : Nat → Prop} (hX : ∀ b, X' b → X b) {a : List AV} {v : List Value} {F : List Nat} (hr : RelL w m d X a v F) :
    (∀ x ∈ a, coolX x = true) → RelL w m' d' X' a v F := by
  refine RelL.rec (motive_1 := fun a v F _ => coolX a = true → RelV w m' d' X' a v F) (motive_2 := fun a v F _ => (∀ x ∈ a, coolX x = true) → RelL w m' d' X' a v F)
    ?undef ?one ?bool ?int ?str ?agg ?tup ?nil ?ro ?own ?own0 ?sl ?sl0 ?slDead ?ptr ?ptrDead ?rop ?box ?fn ?lnil ?lcons hr
  case undef => intro v _; exact .undef v
  case one => intro v h _; exact .one v h
  case bool => intro b _; exact .bool b
  case int => intro k n _; exact .int k n
  case str => intro s _; exact .str s
  case agg => intro cs vs F _ ih h; exact .agg (ih (coolL_X (by simpa [coolX] using h)))
  case tup => intro cs vs F _ ih h; simp [coolX] at h
  case nil => intro A _; exact .nil A
  case ro => intro s xs ys vs A cap hn he hc hf hcl hl _ _; exact (RelV.closed hX (.ro hn he hc hf hcl hl) rfl).2
  case own =>
    intro s xs ys vs b o cap F hn he hc hf hl ih h
    have h1 := (coolR_all s xs).1 (by simpa [coolX] using h)
    exact .own hn he hc hf (ih (by rw [← hf]; exact cool_flat h1.2))
  case own0 => intro s A _; exact .own0 A
  case sl => intro id off n b o s cap h1 h2 h3 h; simp [coolX] at h
  case sl0 => intro id off A h; simp [coolX] at h
  case slDead => intro id off n v h1 h; simp [coolX] at h
  case ptr => intro id i j b o s h1 h; simp [coolX] at h
  case ptrDead => intro id i j v h1 h; simp [coolX] at h
  case rop => intro cs vs b o hx hb hc hcl hl _ _; exact (RelV.closed hX (.rop hx hb hc hcl hl) rfl).2
  case box => intro x ys vs b o F hc hf hl ih h; exact .box hc hf (ih (by rw [← hf]; exact cool_cells (by simpa [coolX] using h)))
  case fn =>
    intro f caps vs F hl ih h
    have e : caps = [] := by simpa [coolX] using h
    subst e
    exact .fn (ih (fun x hx => by cases hx))
  case lnil => intro _; exact .nil
  case lcons => intro a v F as vs G _ _ h1 h2 h; exact .cons (h1 (h a (List.mem_cons_self ..))) (h2 (fun x hx => h x (List.mem_cons_of_mem _ hx)))
theorem CallOk.mono {P : Program} {f : FuncId} {vs : List Value} {w : World} {Rr Rr' : Value → World → Prop} (h : CallOk P f vs w Rr) (hi : ∀ v w', Rr v w' → Rr' v w') : CallOk P f vs w Rr' :=
  fun o a next Q hn => h o a next Q (fun v w' hr => hn v w' (hi v w' hr))
def BCall (P : Program) (f : FuncId) (args : List AV) (mem : Mem) (res : AV) (mem' : Mem) : Prop :=
  ∀ (Y : Nat → Prop) (w0 : World) (F0 : List Nat) (d : Nat → Prop) (m : IdMap) (Fs : Nat → List Nat) (w : World) (vs : List Value),
    (∀ t, mem.length ≤ t → m t = none ∧ ¬ d t) → RelW Y w0 F0 (liveOf mem) d m Fs w → RelL w m d (XOf Y m Fs) args vs [] →
    CallOk P f vs w (fun v w' => ∃ d' m' Fs', RelW Y w0 F0 (liveOf mem') d' m' Fs' w' ∧ (∀ t, mem'.length ≤ t → m' t = none ∧ ¬ d' t) ∧ Carry w w' m m' d d' (XOf Y m Fs) (XOf Y m' Fs') ∧ R Y w' m' d' Fs' res v)
def frM (ks : List Nat) (m m2 : IdMap) (id : Nat) : Option (Nat × Nat × Nat) := match idx ks id with | some k => m2 k | none => m id
def frFs (ks : List Nat) (m : IdMap) (Fs Fs2 : Nat → List Nat) (id : Nat) : List Nat := if (m id).isSome then (match idx ks id with | some k => Fs2 k | none => Fs id) else Fs id
def ScRes (ks : List Nat) (res res' : AV) : Prop := (closedT res = true ∧ res' = res) ∨ (∃ k id off n, res = .sl k off n ∧ ks[k]? = some id ∧ res' = .sl id off n) ∨ ∃ k id off n x, res = .tup [.sl k off n, x] ∧ x.closed = true ∧ ks[k]? = some id ∧ res' = .tup [.sl id off n, x]
section
variable {P : Program} {f : FuncId} {args : List AV} {mem mem' small small' : Mem} {ks : List Nat} {res res' : AV}
theorem SCall.frame (hB : BCall P f (mapIdL (gp (idx ks) (liveOf mem) 0) args) small res small') (hnd : ks.Nodup) (hl : small.length = ks.length)
    (h1 : ∀ k id, ks[k]? = some id → ∃ s xs, liveOf mem id = some (s, xs) ∧ liveOf small k = some (s, xs) ∧ ∀ x ∈ xs, coolX x = true)
    (h2 : ∀ k id, ks[k]? = some id → ∃ s xs, liveOf small' k = some (s, xs) ∧ liveOf mem' id = some (s, xs) ∧ ∀ x ∈ xs, coolX x = true)
    (h3 : ∀ id, id ∉ ks → liveOf mem' id = liveOf mem id) (h4 : mem'.length = mem.length) (hres : ScRes ks res res') : SCall P f args mem res' mem' := by
  refine ⟨by omega, ?_⟩
  intro Y w0 F0 d m Fs w vs hfr hr ha
  have nd : ∀ id, id ∈ ks → ¬ d id := fun id hid hd => by
    obtain ⟨k, hk⟩ := List.mem_iff_getElem?.1 hid
    obtain ⟨s, xs, e, _⟩ := h1 k id hk
    rw [hr.ddom id hd] at e; cases e
  have hXs : ∀ b, XOf (XOf Y m Fs) (mOf ks m) (fun k => match ks[k]? with | some id => Fs id | none => []) b ↔ XOf Y m Fs b := fun b => by
    constructor
    · rintro (h | ⟨k, hk⟩)
      · exact h
      · cases e : ks[k]? with
        | none => simp [blocksOf, mOf, e] at hk
        | some id => exact .inr ⟨id, by simpa [blocksOf, mOf, e] using hk⟩
    · exact fun h => .inl h
  have hbl : ∀ k id, ks[k]? = some id → blocksOf (mOf ks m) (fun k => match ks[k]? with | some id => Fs id | none => []) k = blocksOf m Fs id := fun k id e => by simp [blocksOf, mOf, e]
  have hbn : ∀ k, ks[k]? = none → blocksOf (mOf ks m) (fun k => match ks[k]? with | some id => Fs id | none => []) k = [] := fun k e => by simp [blocksOf, mOf, e]
  have hrs : RelW (XOf Y m Fs) w (ks.flatMap (blocksOf m Fs)) (liveOf small) d0 (mOf ks m) (fun k => match ks[k]? with | some id => Fs id | none => []) w :=
    { dom := fun k hk => by
        cases e : ks[k]? with
        | none => simp [mOf, e] at hk
        | some id => obtain ⟨s, xs, _, e2, _⟩ := h1 k id e; rw [e2]; simp
      ddom := fun _ h => h.elim
      cells := fun k s xs b o s' hlv hm => by
        cases e : ks[k]? with
        | none => simp [mOf, e] at hm
        | some id =>
          obtain ⟨s1, xs1, e1, e2, e3⟩ := h1 k id e
          rw [e2] at hlv; cases hlv
          rw [mOf_at e] at hm
          obtain ⟨q1, q2, vs1, q3, q4⟩ := hr.cells id s xs b o s' e1 hm
          refine ⟨q1, q2, vs1, q3, ?_⟩
          simp only [e]
          exact cool_rel (fun b hb => (hXs b).1 hb) q4 (cool_flat e3)
      nodup := fun k => by
        cases e : ks[k]? with
        | none => rw [hbn k e]; exact List.nodup_nil
        | some id => rw [hbl k id e]; exact hr.nodup id
      disj := fun k k' hne x hx => by
        cases e : ks[k]? with
        | none => rw [hbn k e] at hx; cases hx
        | some id =>
          cases e' : ks[k']? with
          | none => rw [hbn k' e']; exact fun h => by cases h
          | some id' =>
            rw [hbl k id e] at hx; rw [hbl k' id' e']
            refine hr.disj id id' (fun h => hne ?_) x hx
            subst h
            have a1 := idx_at hnd e
            have a2 := idx_at hnd e'
            rw [a1] at a2; exact Option.some.inj a2
      own := fun x ⟨k, hx⟩ => by
        cases e : ks[k]? with
        | none => rw [hbn k e] at hx; cases hx
        | some id =>
          rw [hbl k id e] at hx
          exact ⟨(hr.own x ⟨id, hx⟩).1, .inl (List.mem_flatMap.2 ⟨id, List.mem_of_getElem? e, hx⟩)⟩
      evo := .refl _ _ }
  have hargs : RelL w (mOf ks m) d0 (XOf (XOf Y m Fs) (mOf ks m) (fun k => match ks[k]? with | some id => Fs id | none => [])) (mapIdL (gp (idx ks) (liveOf mem) 0) args) vs [] := by
    have hu : ∀ a, idsL (up (idx ks) (liveOf mem) 0) a = [] := fun a => by
      rw [idsL_map]
      refine List.eq_nil_iff_forall_not_mem.2 fun y hy => ?_
      obtain ⟨z, _, hz⟩ := List.mem_flatMap.1 hy
      have key : ∀ z, idsV (up (idx ks) (liveOf mem) 0) z = [] := fun z => by
        refine AV.rec (motive_1 := fun x => idsV (up (idx ks) (liveOf mem) 0) x = []) (motive_2 := fun xs => idsL (up (idx ks) (liveOf mem) 0) xs = []) ?_ ?_ ?_ ?_ ?_ ?_ ?_ ?_ ?_ ?_ ?_ ?_ ?_ ?_ ?_ ?_ ?_ z <;> intros <;> simp_all [idsV, idsL, up]
      rw [key z] at hz; cases hz
    obtain ⟨F', ⟨_, u2⟩, u3⟩ := pack_sound hr (idx ks) (m' := mOf ks m) (d' := d0) (X' := XOf (XOf Y m Fs) (mOf ks m) (fun k => match ks[k]? with | some id => Fs id | none => []))
      (fun id k hi => mOf_at (idx_some hi)) (fun id k hi hd => (nd id (List.mem_of_getElem? (idx_some hi)) hd).elim) (fun b hb => (hXs b).1 hb) 0 ha
      (by rw [hu]; exact ⟨List.nodup_nil, List.nodup_nil, fun _ h => by cases h⟩)
    have e : F' = [] := by
      rw [hu] at u2
      refine List.eq_nil_iff_forall_not_mem.2 fun b hb => ?_
      rcases u2 b hb with h | ⟨id, h, _⟩ <;> cases h
    rw [e] at u3; exact u3
  have hfrs : ∀ t, small.length ≤ t → mOf ks m t = none ∧ ¬ d0 t := fun t ht => ⟨by simp [mOf, List.getElem?_eq_none (show ks.length ≤ t by omega)], fun h => h⟩
  refine CallOk.mono (hB (XOf Y m Fs) w (ks.flatMap (blocksOf m Fs)) d0 (mOf ks m) _ w vs hfrs hrs hargs) ?_
  rintro v w' ⟨d2, m2, Fs2, r1, _, r2, r3⟩
  have hm2 : ∀ k id q, ks[k]? = some id → m id = some q → m2 k = some q := fun k id q e hq => by
    rcases r2.ids k q (by rw [mOf_at e]; exact hq) with h | h
    · exact h
    · obtain ⟨s, xs, e2, _⟩ := h2 k id e
      rw [r1.ddom k h] at e2; cases e2
  have hout : ∀ id, id ∉ ks → idx ks id = none := fun id hn => by
    cases e : idx ks id with
    | none => rfl
    | some k => exact absurd (List.mem_of_getElem? (idx_some e)) hn
  have hM : ∀ k id, ks[k]? = some id → frM ks m m2 id = m2 k := fun k id e => by simp [frM, idx_at hnd e]
  have hMo : ∀ id, id ∉ ks → frM ks m m2 id = m id := fun id hn => by simp [frM, hout id hn]
  have hkeepM : ∀ id q, m id = some q → frM ks m m2 id = some q := fun id q hq => by
    by_cases hin : id ∈ ks
    · obtain ⟨k, e⟩ := List.mem_iff_getElem?.1 hin
      rw [hM k id e]; exact hm2 k id q e hq
    · rw [hMo id hin]; exact hq
  have hblk : ∀ k id, ks[k]? = some id → m2 k ≠ none → blocksOf (frM ks m m2) (frFs ks (frM ks m m2) Fs Fs2) id = blocksOf m2 Fs2 k := fun k id e hn => by
    cases hq : m2 k with
    | none => exact absurd hq hn
    | some q => simp [blocksOf, frFs, hM k id e, hq, idx_at hnd e]
  have hbo : ∀ id, id ∉ ks → blocksOf (frM ks m m2) (frFs ks (frM ks m m2) Fs Fs2) id = blocksOf m Fs id := fun id hn => by simp [blocksOf, frFs, hout id hn, hMo id hn]
  have hX2 : ∀ b, XOf Y (frM ks m m2) (frFs ks (frM ks m m2) Fs Fs2) b → XOf (XOf Y m Fs) m2 Fs2 b := by
    rintro b (h | ⟨id, hid⟩)
    · exact .inl (.inl h)
    · by_cases hin : id ∈ ks
      · obtain ⟨k, e⟩ := List.mem_iff_getElem?.1 hin
        by_cases hn : m2 k = none
        · rw [blocksOf_none (by rw [hM k id e]; exact hn)] at hid; cases hid
        · rw [hblk k id e hn] at hid; exact .inr ⟨k, hid⟩
      · rw [hbo id hin] at hid; exact .inl (.inr ⟨id, hid⟩)
  obtain ⟨g1, g2⟩ := hr.change (live' := fun id => if (frM ks m m2 id).isSome then liveOf mem' id else liveOf mem id) (d' := d) (m' := frM ks m m2) (Fs' := frFs ks (frM ks m m2) Fs Fs2) (w' := w')
    (fun id => id ∈ ks ∧ m id ≠ none) (fun id => id ∈ ks ∧ frM ks m m2 id ≠ none)
    (r1.evo.mono (fun b hb => by
      obtain ⟨id, h5, h6⟩ := List.mem_flatMap.1 hb
      exact ⟨id, ⟨h5, fun hn => by rw [blocksOf_none hn] at h6; cases h6⟩, h6⟩))
    (fun id hN _ => by
      by_cases hin : id ∈ ks
      · have hn : frM ks m m2 id = none := Classical.byContradiction fun h => hN ⟨hin, h⟩
        have hn' : m id = none := by
          cases hq : m id with
          | none => rfl
          | some q => rw [hkeepM id q hq] at hn; cases hn
        exact ⟨by simp [hn], by rw [hn, hn'], by simp [frFs, hn]⟩
      · exact ⟨by rw [h3 id hin]; simp, hMo id hin, by simp [frFs, hout id hin]⟩)
    (fun id hK hN => by
      obtain ⟨hin, hn⟩ := hK
      cases hq : m id with
      | none => exact absurd hq hn
      | some q => exact absurd ⟨hin, by rw [hkeepM id q hq]; simp⟩ hN)
    (fun id hN => by
      cases hq : m id with
      | none => exact .inr rfl
      | some q => exact .inl ⟨⟨hN.1, by simp [hq]⟩, hkeepM id q hq⟩)
    (fun id hN => nd id hN.1) (fun _ h => h) (fun _ h => .inl h)
    (fun id hN x hx => by
      obtain ⟨k, e⟩ := List.mem_iff_getElem?.1 hN.1
      rw [hblk k id e (by rw [← hM k id e]; exact hN.2)] at hx
      obtain ⟨o1, o2⟩ := r1.own x ⟨k, hx⟩
      refine ⟨o1, ?_⟩
      rcases o2 with o2 | o2
      · obtain ⟨id', h5, h6⟩ := List.mem_flatMap.1 o2
        exact .inr ⟨id', ⟨h5, fun hn => by rw [blocksOf_none hn] at h6; cases h6⟩, h6⟩
      · exact .inl o2)
    (fun id hN => by
      obtain ⟨k, e⟩ := List.mem_iff_getElem?.1 hN.1
      rw [hblk k id e (by rw [← hM k id e]; exact hN.2)]; exact r1.nodup k)
    (fun id id' hN hN' hne x hx => by
      obtain ⟨k, e⟩ := List.mem_iff_getElem?.1 hN.1
      obtain ⟨k', e'⟩ := List.mem_iff_getElem?.1 hN'.1
      rw [hblk k id e (by rw [← hM k id e]; exact hN.2)] at hx; rw [hblk k' id' e' (by rw [← hM k' id' e']; exact hN'.2)]
      exact r1.disj k k' (fun h => hne (by subst h; rw [e] at e'; exact Option.some.inj e')) x hx)
    (fun _ id hN => by
      obtain ⟨k, e⟩ := List.mem_iff_getElem?.1 hN.1
      obtain ⟨s, xs, e1, e2, e3⟩ := h2 k id e
      cases hq : frM ks m m2 id with
      | none => exact absurd hq hN.2
      | some q =>
        obtain ⟨b, o, s'⟩ := q
        obtain ⟨q1, q2, vs1, q3, q4⟩ := r1.cells k s xs b o s' e1 (by rw [← hM k id e]; exact hq)
        subst q1
        refine ⟨s', xs, b, o, by simp [e2], rfl, q2, vs1, q3, ?_⟩
        simp only [frFs, hq, Option.isSome_some, if_true, idx_at hnd e]
        exact cool_rel hX2 q4 (cool_flat e3))
  refine ⟨d, _, _, g1.relive (fun t ht => ?_) (fun t ht => ?_), fun t ht => ?_, g2, ?_⟩
  · cases hq : frM ks m m2 t with
    | none => exact absurd hq ht
    | some q => simp [hq]
  · rw [h3 t (fun hin => nd t hin ht)]; exact hr.ddom t ht
  · have hin : t ∉ ks := fun hin => by
      obtain ⟨k, e⟩ := List.mem_iff_getElem?.1 hin
      obtain ⟨s, xs, e1, _⟩ := h1 k t e
      have := liveOf_lt e1
      omega
    rw [hMo t hin]; exact hfr t (by omega)
  · have one : ∀ {k id off n : Nat} {u : Value}, ks[k]? = some id → R (XOf Y m Fs) w' m2 d2 Fs2 (.sl k off n) u → R Y w' (frM ks m m2) d (frFs ks (frM ks m m2) Fs Fs2) (.sl id off n) u := fun {k id off n u} hk r => by
      cases r with
      | slDead _ hdd =>
        obtain ⟨s, xs, e2, _⟩ := h2 k id hk
        rw [r1.ddom k hdd] at e2; cases e2
      | sl0 A => exact .sl0 A
      | sl hm hn hc => exact .sl (by rw [hM k id hk]; exact hm) hn hc
    rcases hres with ⟨hc, rfl⟩ | ⟨k, id, off, n, rfl, hk, rfl⟩ | ⟨k, id, off, n, x, rfl, hx, hk, rfl⟩
    · exact RelV.closedT hX2 r3 hc
    · exact one hk r3
    · cases r3 with
      | tup q =>
        rename_i us
        have hat : ∀ {j : Nat} {a : AV}, [AV.sl k off n, x][j]? = some a → ∃ u, us[j]? = some u ∧ RelV w' m2 d2 (XOf (XOf Y m Fs) m2 Fs2) a u [] := fun {j a} hj => by
          obtain ⟨u, G, q1, q2, q3⟩ := q.get hj
          have : G = [] := List.eq_nil_iff_forall_not_mem.2 fun y hy => by cases q3 y hy
          subst this
          exact ⟨u, q1, q2⟩
        obtain ⟨u0, p0, q0⟩ := hat (j := 0) rfl
        obtain ⟨u1, p1, q1⟩ := hat (j := 1) rfl
        have hlen := q.length
        match us, hlen with
        | [a, b], _ =>
        cases p0; cases p1
        exact .tup (.cons (F := []) (one hk q0) (.cons (F := []) (RelV.closed hX2 q1 hx).2 .nil))
end
theorem lendR_spec {mem : Mem} : ∀ {ks : List Nat} {small : Mem}, lendR mem ks = some small → small.length = ks.length ∧ ∀ k id, ks[k]? = some id → ∃ s xs, liveOf mem id = some (s, xs) ∧ liveOf small k = some (s, xs) ∧ ∀ x ∈ xs, coolX x = true := by
  intro ks
  induction ks with
  | nil => intro small h; simp only [lendR] at h; cases h; exact ⟨rfl, fun k id h => by cases h⟩
  | cons id ks ih =>
    intro small h
    simp only [lendR] at h
    cases hl : liveOf mem id with
    | none => rw [hl] at h; simp [lendO] at h
    | some sx =>
      obtain ⟨s, xs⟩ := sx
      rw [hl] at h
      simp only [lendO] at h
      split at h
      case isFalse => cases h
      rename_i hc
      obtain ⟨l, h1, h2⟩ := bnd_eq h
      cases h2
      obtain ⟨g1, g2⟩ := ih h1
      refine ⟨by simp [g1], fun k id' hk => ?_⟩
      cases k with
      | zero =>
        simp only [List.getElem?_cons_zero, Option.some.injEq] at hk
        subst hk
        exact ⟨s, xs, hl, rfl, ((coolR_all s xs).1 hc).2⟩
      | succ k =>
        simp only [List.getElem?_cons_succ] at hk
        obtain ⟨s', xs', e1, e2, e3⟩ := g2 k id' hk
        exact ⟨s', xs', e1, by simpa [liveOf] using e2, e3⟩
theorem giveR_spec : ∀ {ks : List Nat} {mem mem' small : Mem}, ks.Nodup → (∀ id ∈ ks, id < mem.length) → giveR mem ks small = some mem' → mem'.length = mem.length ∧ (∀ id, id ∉ ks → liveOf mem' id = liveOf mem id) ∧
    ∀ k id, ks[k]? = some id → ∃ s xs, liveOf small k = some (s, xs) ∧ liveOf mem' id = some (s, xs) ∧ ∀ x ∈ xs, coolX x = true := by
  intro ks
  induction ks with
  | nil =>
    intro mem mem' small _ _ h
    cases small with
    | nil => simp only [giveR] at h; cases h; exact ⟨rfl, fun _ _ => rfl, fun k id h => by cases h⟩
    | cons r rs => simp [giveR] at h
  | cons id ks ih =>
    intro mem mem' small hn hlt h
    cases small with
    | nil => simp [giveR] at h
    | cons r rs =>
      cases r with
      | none => simp [giveR] at h
      | some sx =>
        obtain ⟨s, xs⟩ := sx
        simp only [giveR] at h
        split at h
        case isFalse => cases h
        rename_i hc
        have hnd := List.nodup_cons.1 hn
        have hid := hlt id (List.mem_cons_self ..)
        obtain ⟨g1, g2, g3⟩ := ih hnd.2 (fun id' hid' => by rw [List.length_set]; exact hlt id' (List.mem_cons_of_mem _ hid')) h
        refine ⟨by rw [g1, List.length_set], fun id' hid' => ?_, fun k id' hk => ?_⟩
        · rw [g2 id' (fun h => hid' (List.mem_cons_of_mem _ h))]
          have : id ≠ id' := fun h => hid' (h ▸ List.mem_cons_self ..)
          simp [liveOf, List.getElem?_set, this]
        · cases k with
          | zero =>
            simp only [List.getElem?_cons_zero, Option.some.injEq] at hk
            subst hk
            refine ⟨s, xs, rfl, ?_, ((coolR_all s xs).1 hc).2⟩
            rw [g2 id hnd.1]
            simp [liveOf, List.getElem?_set, hid]
          | succ k =>
            simp only [List.getElem?_cons_succ] at hk
            obtain ⟨s', xs', e1, e2, e3⟩ := g3 k id' hk
            exact ⟨s', xs', by simpa [liveOf] using e1, e2, e3⟩
theorem giveR_len : ∀ {ks : List Nat} {mem mem' small : Mem}, giveR mem ks small = some mem' → small.length = ks.length := by
  intro ks
  induction ks with
  | nil =>
    intro mem mem' small h
    cases small with
    | nil => rfl
    | cons r rs => simp [giveR] at h
  | cons id ks ih =>
    intro mem mem' small h
    cases small with
    | nil => simp [giveR] at h
    | cons r rs =>
      cases r with
      | none => simp [giveR] at h
      | some sx =>
        obtain ⟨s, xs⟩ := sx
        simp only [giveR] at h
        split at h
        · simp [ih h]
        · cases h
theorem scE_sound {P : Program} {call : CallF} (hc : ∀ f args mem res mem', call f args mem = some (res, mem') → xokT res = true → mem'.length = mem.length → BCall P f args mem res mem') {mem : Mem} {args : List AV} {g v : AV} {om : Option Mem} (h : scE call mem args g = some (v, om)) :
    (∀ {Q : AV → Mem → Prop}, Q v (om.getD mem) → SCallW P g args mem Q) ∧ args.all isDef = true ∧ ∃ f caps, g = .fn f caps := by
  unfold scE at h
  split at h
  case h_2 => cases h
  rename_i f caps
  split at h
  case isFalse => cases h
  rename_i hd
  refine ⟨fun {Q} hq => ?_, hd, f, caps, rfl⟩
  unfold scF scK at h
  split at h
  case isFalse => cases h
  rename_i hnd
  cases h1 : lendR mem (dedupN [] (idsL idU (args ++ caps))) with
  | none =>
    rw [h1] at h
    have h : xOut mem (call f (args ++ caps) mem) = some (v, om) := h
    unfold xOut at h
    split at h
    case h_2 => cases h
    rename_i res mem' hcall
    split at h
    case isFalse => cases h
    rename_i hcl
    cases h
    refine ⟨f, caps, _, mem', rfl, ⟨Nat.le_of_eq hcl.2.symm, fun Y w0 F0 d m Fs w vs hfr hr ha => hc _ _ _ _ _ hcall hcl.1 hcl.2 Y w0 F0 d m Fs w vs hfr hr ha⟩, hq⟩
  | some small =>
  rw [h1] at h
  have h2 : scOut mem (dedupN [] (idsL idU (args ++ caps))) (call f (mapIdL (gp (idx (dedupN [] (idsL idU (args ++ caps)))) (liveOf mem) 0) (args ++ caps)) small) = some (v, om) := h
  obtain ⟨l1, l2⟩ := lendR_spec h1
  unfold scOut at h2
  split at h2
  case h_2 => cases h2
  rename_i res small' hcall
  have hnd := nodupNat_spec hnd
  have fin : ∀ {m' : Mem} {r' : AV}, ScRes (dedupN [] (idsL idU (args ++ caps))) res r' → xokT res = true → giveR mem (dedupN [] (idsL idU (args ++ caps))) small' = some m' → SCall P f (args ++ caps) mem r' m' := by
    intro m' r' hs hx h3
    obtain ⟨g1, g2, g3⟩ := giveR_spec hnd (fun id hid => by
      obtain ⟨k, hk⟩ := List.mem_iff_getElem?.1 hid
      obtain ⟨s, xs, e, _⟩ := l2 k id hk
      by_cases hlt : id < mem.length
      · exact hlt
      · rw [liveOf_ge (by omega)] at e; cases e) h3
    exact SCall.frame (hc _ _ _ _ _ hcall hx ((giveR_len h3).trans l1.symm)) hnd l1 l2 g3 g2 g1 hs
  split at h2
  · rename_i hcl
    obtain ⟨mem', h3, h4⟩ := bnd_eq h2
    cases h4
    exact ⟨f, caps, _, mem', rfl, fin (.inl ⟨hcl, rfl⟩) (closedT_xok hcl) h3, hq⟩
  · unfold scSl at h2
    split at h2
    case h_3 => cases h2
    case h_1 =>
      rename_i k off n _
      split at h2
      case isFalse => cases h2
      rename_i hk
      obtain ⟨mem', h3, h4⟩ := bnd_eq h2
      cases h4
      refine ⟨f, caps, _, mem', rfl, fin (.inr (.inl ⟨k, _, off, n, rfl, ?_, rfl⟩)) rfl h3, hq⟩
      rw [List.getD_eq_getElem?_getD, List.getElem?_eq_getElem hk]; rfl
    case h_2 =>
      rename_i k off n x _
      split at h2
      case isFalse => cases h2
      rename_i hk
      obtain ⟨mem', h3, h4⟩ := bnd_eq h2
      cases h4
      refine ⟨f, caps, _, mem', rfl, fin (.inr (.inr ⟨k, _, off, n, x, rfl, hk.2, ?_, rfl⟩)) ?_ h3, hq⟩
      · rw [List.getD_eq_getElem?_getD, List.getElem?_eq_getElem hk.1]; rfl
      · have hx := closed_xok hk.2
        show ([AV.sl k off n, x].all xokV) = true
        rw [List.all_cons, List.all_cons, hx]; rfl
end Go.Abs
namespace Go.Abs
open Go Go.RowKit
theorem frz_top (live : Live) (D : Nat) (x : AV) (h : coolX (mapId (inl live D) x) = true) : Frz live x (ice (mapId (inl live D) x)) := by
  by_cases ha : isAgg x = true
  · cases x with
    | agg cs => exact .agg ((inl_frz live D (.agg cs)).2 h).1
    | _ => cases ha
  · have ha : isAgg x = false := by simpa using ha
    have h2 := mapId_agg (inl_agg live D) ha
    refine ((inl_frz live D x).1 ?_).1
    revert h2 h; generalize mapId (inl live D) x = z; intro h h2
    cases z <;> first | exact h | cases h2
theorem frz_sound (live : Live) (x : AV) (h : coolA (mapId (inl live 4) x) = true) : Frz live x (frz live x) := by
  unfold frz
  cases x with
  | fn f cs =>
    have h : (mapIdL (inl live 4) cs).all coolX = true := h
    refine .fn ?_
    show FrzL live cs (iceL (mapIdL (inl live 4) cs))
    induction cs with
    | nil => exact .nil
    | cons c cs ih =>
      simp only [mapIdL, List.all_cons, Bool.and_eq_true] at h
      exact .cons (frz_top live 4 c h.1) (ih h.2 h.2)
  | sl id off n =>
    refine frz_top live 4 _ ?_
    revert h
    have h2 := inl_agg live 4 true id off n
    show coolA (inl live 4 true id off n) = true → coolX (inl live 4 true id off n) = true
    have h3 : ∀ f cs, inl live 4 true id off n ≠ .fn f cs := by intro f cs; unfold inl; (repeat' split) <;> simp
    revert h3; generalize inl live 4 true id off n = z; intro h3 h
    cases z <;> first | exact h | exact absurd rfl (h3 _ _)
  | ptr id i j =>
    refine frz_top live 4 _ ?_
    revert h
    show coolA (inl live 4 false id i j) = true → coolX (inl live 4 false id i j) = true
    have h3 : ∀ f cs, inl live 4 false id i j ≠ .fn f cs := by intro f cs; unfold inl; (repeat' split) <;> simp
    revert h3; generalize inl live 4 false id i j = z; intro h3 h
    cases z <;> first | exact h | exact absurd rfl (h3 _ _)
  | _ => exact frz_top live 4 _ h
theorem frzL_sound (live : Live) : ∀ (xs : List AV), xs.all (fun x => coolA (mapId (inl live 4) x)) = true → FrzL live xs (xs.map (frz live)) := by
  intro xs
  induction xs with
  | nil => intro _; exact .nil
  | cons x xs ih =>
    intro h
    simp only [List.all_cons, Bool.and_eq_true] at h
    exact .cons (frz_sound live x h.1) (ih h.2)
theorem RelL.unroC {w : World} {m : IdMap} {d X : Nat → Prop} : ∀ {xs : List AV} {vs : List Value} {F : List Nat}, RelL w m d X xs vs F → RelL w m d X (xs.map unroC) vs F := by
  intro xs
  induction xs with
  | nil => intro vs F h; cases h; exact .nil
  | cons x xs ih =>
    intro vs F h
    cases h with
    | cons h t =>
      refine .cons ?_ (ih t)
      cases x with
      | ro s ys => cases h; exact .one _ rfl
      | rop cs => cases h; exact .one _ rfl
      | _ => exact h
theorem RelL.unroT {w : World} {m : IdMap} {d X : Nat → Prop} : ∀ {xs : List AV} {vs : List Value} {F : List Nat}, RelL w m d X xs vs F → RelL w m d X (xs.map fun x => match x with | .agg ds => .agg (ds.map Abs.unroC) | v => Abs.unroC v) vs F := by
  intro cs
  induction cs with
  | nil => intro vs F h; cases h; exact .nil
  | cons c cs ih =>
    intro vs F h
    cases h with
    | cons h t =>
      refine .cons ?_ (ih t)
      cases c with
      | agg ds => cases h with | agg h => exact .agg h.unroC
      | _ => exact (RelL.unroC (RelL.single h)).head
theorem RelV.unro {w : World} {m : IdMap} {d X : Nat → Prop} {x : AV} {v : Value} {F : List Nat} (h : RelV w m d X x v F) : RelV w m d X (unro x) v F := by
  cases x with
  | agg cs => cases h with | agg h => exact .agg h.unroC
  | tup cs => cases h with | tup h => exact .tup h.unroT
  | _ => exact (RelL.unroC (RelL.single h)).head
theorem ACall.unro {P : Program} {f : FuncId} {args : List AV} {res : AV} (h : ACall P f args res) : ACall P f args (unro res) :=
  fun Y w vs ha => (h Y w vs ha).mono fun v w' ⟨F, h1, h2, h3, h4⟩ => ⟨F, h1, h2, h3.unro, h4⟩
def CallsOk (P : Program) (call : CallF) : Prop := (∀ f args res, call f args [] = some (res, []) → ACall P f args res) ∧
  (∀ f args mem res mem', call f args mem = some (res, mem') → xokT res = true → mem'.length = mem.length → BCall P f args mem res mem') ∧ ∀ f args mem res, call f args (none :: mem) = some (res, []) → QCall P f args mem res
theorem qcE_sound {P : Program} {call : CallF} (hc : CallsOk P call) {mem : Mem} {args : List AV} {g v : AV} {om : Option Mem} (h : qcE call mem args g = some (v, om)) :
    (∀ {Q : AV → Mem → Prop}, Q v (om.getD mem) → QCallW P g args mem Q) ∧ args.all isDef = true ∧ ∃ f caps, g = .fn f caps := by
  unfold qcE at h
  split at h
  case h_2 => cases h
  rename_i f caps
  split at h
  case isFalse => cases h
  rename_i hd
  unfold qcOut at h
  split at h
  · rename_i res hr
    cases h
    exact ⟨fun hq => ⟨f, caps, _, rfl, hc.2.2 _ _ _ _ hr, hq⟩, hd, f, caps, rfl⟩
  · cases h
theorem pcR_eq {mem : Mem} {res v : AV} {om : Option Mem} (h : pcR mem res = some (v, om)) : unpOk res = true ∧ v = (unp mem.length res).1 ∧ om.getD mem = mem ++ (unp mem.length res).2 := by
  unfold pcR at h
  split at h
  · rename_i hu
    simp only [Option.some.injEq, Prod.mk.injEq] at h
    obtain ⟨rfl, rfl⟩ := h
    refine ⟨hu, rfl, ?_⟩
    cases (unp mem.length res).2 with
    | nil => simp [addE]
    | cons a b => simp [addE]
  · cases h
theorem pcE_sound {P : Program} {call : CallF} (hc : CallsOk P call) {mem : Mem} {args : List AV} {g v : AV} {om : Option Mem} (h : pcE call mem args g = some (v, om)) :
    (∀ {Q : AV → Mem → Prop}, Q v (om.getD mem) → PCall P g args mem Q) ∧ args.all isDef = true ∧ ∃ f caps, g = .fn f caps := by
  unfold pcE at h
  split at h
  case h_2 => cases h
  rename_i f caps
  split at h
  case isFalse => cases h
  rename_i hd
  refine ⟨fun {Q} hq => ?_, hd, f, caps, rfl⟩
  unfold pcF at h
  split at h
  · rename_i hcl
    unfold pcOut at h
    split at h
    · rename_i res hcall
      simp only [Bool.false_eq_true, if_false] at h
      obtain ⟨h1, rfl, h3⟩ := pcR_eq h
      exact ⟨f, caps, _, res, rfl, .inl ⟨rfl, hcl⟩, hc.1 _ _ _ hcall, h1, by rw [← h3]; exact hq⟩
    · cases h
  · split at h
    · rename_i hco
      unfold pcOut at h
      split at h
      · rename_i res hcall
        simp only [if_true] at h
        split at h
        · rename_i hr
          obtain ⟨h1, rfl, h3⟩ := pcR_eq h
          exact ⟨f, caps, _, unro res, rfl, .inr ⟨frzL_sound _ _ hco, hr⟩, (hc.1 _ _ _ hcall).unro, h1, by rw [← h3]; exact hq⟩
        · cases h
      · cases h
    · cases h
theorem lookA_hide (env : List (Nat × AV)) (k : Nat) : ∀ ks : List Nat, lookA (ks.map (fun k => (k, AV.undef)) ++ env) k = if k ∈ ks then .undef else lookA env k := by
  intro ks
  induction ks with
  | nil => simp
  | cons j ks ih =>
    show (if j = k then AV.undef else lookA (ks.map _ ++ env) k) = _
    rw [ih]
    by_cases h : j = k
    · subst h; simp
    · rw [if_neg h]
      by_cases h2 : k ∈ ks
      · rw [if_pos h2, if_pos (List.mem_cons_of_mem _ h2)]
      · rw [if_neg h2, if_neg]
        intro h3
        rcases List.mem_cons.1 h3 with h3 | h3
        · exact h h3.symm
        · exact h2 h3
theorem get_hide (s : St) (ks : List Nat) (dst : Nat) (b : Bool) (k : Nat) : (hide s ks dst b).get k = if k = dst then .bool b else if k ∈ ks then .undef else s.get k := by
  show (if dst = k then AV.bool b else lookA (ks.map _ ++ s.env) k) = _
  rw [lookA_hide]
  by_cases h : k = dst
  · subst h; simp
  · rw [if_neg (show ¬ dst = k from fun e => h e.symm), if_neg h]; rfl
theorem itemWp_op {P : Program} {s : St} {solo : Bool} {k : K} {os : List Opd} {Q : AV → Mem → Prop} (h : weff (liveOf s.mem) k (os.map (getOpd s.get)) (fun e => (e.quiet || solo) = true ∧ Q (effVal s.mem.length e) (effMem s.mem e))) : itemWp P s solo (.op k os) Q := h
theorem itemWp_pc {P : Program} {s : St} {solo : Bool} {g : Opd} {os : List Opd} {Q : AV → Mem → Prop} (h : PCall P (getOpd s.get g) (os.map (getOpd s.get)) s.mem Q) : itemWp P s solo (.pcall g os) Q := h
theorem itemWp_sc {P : Program} {s : St} {solo : Bool} {g : Opd} {os : List Opd} {Q : AV → Mem → Prop} (hs : solo = true) (h : SCallW P (getOpd s.get g) (os.map (getOpd s.get)) s.mem Q) : itemWp P s solo (.scall g os) Q := .inl ⟨hs, h⟩
theorem isBool_eq {v : AV} {b : Bool} (h : isBool v = some b) : v = .bool b := by
  cases v <;> simp [isBool] at h
  rw [h]
theorem boolOf_eq {v : AV} {b : Bool} (h : boolOf v = some b) : v = .bool b := by
  cases v <;> simp [boolOf] at h
  rw [h]
def OkG : Option (Nat × Bool) → EI → Prop
  | none, x => okTop [x] = true
  | some (t, _), x => ∃ wr, okI t wr x = true
def OkGL : Option (Nat × Bool) → List EI → Prop
  | none, l => okTop l = true
  | some (t, _), l => ∃ wr, okL t wr l = true
theorem OkGL.cons {gd : Option (Nat × Bool)} {x : EI} {l : List EI} (h : OkGL gd (x :: l)) : OkG gd x ∧ OkGL gd l := by
  cases gd with
  | none =>
    have h : okTop (x :: l) = true := h
    cases x <;> simp [okTop] at h <;> simp [OkG, OkGL, okTop, h]
  | some tw =>
    obtain ⟨t, w⟩ := tw
    obtain ⟨wr, h⟩ := h
    simp only [okL, Bool.and_eq_true] at h
    exact ⟨⟨_, h.1⟩, ⟨_, h.2⟩⟩
theorem OkG.inner {gd : Option (Nat × Bool)} {t : Nat} {want : Bool} {G : List EI} {x dst : Nat} {solo : Bool} (h : OkG gd (.grp t want G x dst solo)) : okL t [] G = true ∧ ∀ t0 w0, gd = some (t0, w0) → t0 ∉ dstsL none G := by
  cases gd with
  | none =>
    have h : okTop [.grp t want G x dst solo] = true := h
    simp [okTop] at h
    exact ⟨h, fun _ _ e => by cases e⟩
  | some tw =>
    obtain ⟨t1, w1⟩ := tw
    obtain ⟨wr, h⟩ := h
    simp only [okI, Bool.and_eq_true, bne_iff_ne, ne_eq, Bool.not_eq_true', List.contains_eq_mem, decide_eq_false_iff_not, decide_eq_true_eq] at h
    obtain ⟨⟨⟨⟨_, _⟩, h3⟩, _⟩, h5⟩ := h
    exact ⟨h3, fun t0 w0 e => by cases e; rw [dstsL_gd none (some (t, want))]; exact h5⟩
theorem OkG.innerW {gd : Option (Nat × Bool)} {t : Nat} {want : Bool} {G : List EI} {x dst : Nat} {solo : Bool} (h : OkG gd (.grw t want G x dst solo)) : okL t [] G = true ∧ ∀ t0 w0, gd = some (t0, w0) → t0 ∉ dstsL none G := by
  cases gd with
  | none =>
    have h : okTop [.grw t want G x dst solo] = true := h
    simp [okTop] at h
    exact ⟨h, fun _ _ e => by cases e⟩
  | some tw =>
    obtain ⟨t1, w1⟩ := tw
    obtain ⟨wr, h⟩ := h
    simp only [okI, Bool.and_eq_true, bne_iff_ne, ne_eq, Bool.not_eq_true', List.contains_eq_mem, decide_eq_false_iff_not, decide_eq_true_eq] at h
    obtain ⟨⟨⟨⟨_, _⟩, h3⟩, _⟩, h5⟩ := h
    exact ⟨h3, fun t0 w0 e => by cases e; rw [dstsL_gd none (some (t, want))]; exact h5⟩
theorem OkG.dst {gd : Option (Nat × Bool)} {x : EI} (h : OkG gd x) {t0 : Nat} {w0 : Bool} (e : gd = some (t0, w0)) : t0 ∉ dstsL none [x] := by
  subst e
  obtain ⟨wr, h⟩ := h
  cases x with
  | grp t want G x dst solo =>
    simp only [okI, Bool.and_eq_true, bne_iff_ne, ne_eq, Bool.not_eq_true', List.contains_eq_mem, decide_eq_false_iff_not, decide_eq_true_eq] at h
    obtain ⟨⟨⟨⟨_, _⟩, h3⟩, h4⟩, h5⟩ := h
    have hds : dstsL none [.grp t want G x dst solo] = dstsL (some (t, want)) G ++ [dst] := by
      simp only [dstsL, eraseL, eraseI, List.append_nil, List.filterMap_append]; rfl
    rw [hds, List.mem_append, List.mem_singleton, not_or]
    exact ⟨h5, fun e => h4 e.symm⟩
  | grw t want G x dst solo =>
    simp only [okI, Bool.and_eq_true, bne_iff_ne, ne_eq, Bool.not_eq_true', List.contains_eq_mem, decide_eq_false_iff_not, decide_eq_true_eq] at h
    obtain ⟨⟨⟨⟨_, _⟩, h3⟩, h4⟩, h5⟩ := h
    have hds : dstsL none [.grw t want G x dst solo] = dstsL (some (t, want)) G ++ [dst] := by
      simp only [dstsL, eraseL, eraseI, List.append_nil, List.filterMap_append]; rfl
    rw [hds, List.mem_append, List.mem_singleton, not_or]
    exact ⟨h5, fun e => h4 e.symm⟩
  | op k os dst solo =>
    simp only [okI, bne_iff_ne, ne_eq] at h
    cases dst <;> simp [dstsL, eraseL, eraseI, List.filterMap_cons] at h ⊢
    exact fun e => h e.symm
  | pc g os dst solo =>
    simp only [okI, bne_iff_ne, ne_eq] at h
    cases dst <;> simp [dstsL, eraseL, eraseI, List.filterMap_cons] at h ⊢
    exact fun e => h e.symm
  | sc g os dst solo =>
    simp only [okI, bne_iff_ne, ne_eq] at h
    cases dst <;> simp [dstsL, eraseL, eraseI, List.filterMap_cons] at h ⊢
    exact fun e => h e.symm
theorem RunG.same {gd : Option (Nat × Bool)} {sa sa' : St} (h : RunG gd sa) (hs : ∀ t w, gd = some (t, w) → sa'.get t = sa.get t) : RunG gd sa' := by
  rcases h with h | ⟨t, w, h1, h2⟩
  · exact .inl h
  · exact .inr ⟨t, w, h1, by rw [hs t w h1]; exact h2⟩
def After (q : Bool) (ds : List Nat) (s s' sa sa' : St) : Prop := Sim s' sa' ∧ (q = true → s'.mem = s.mem) ∧ ∀ k, k ∉ ds → sa'.get k = sa.get k
section
variable {P : Program} {call : CallF} (hc : CallsOk P call)
include hc
theorem leaf_after {q : Bool} {s s' sa : St} {dst : Option Nat} {v : AV} {om : Option Mem} (hs : stp q s dst (v, om) = some s') (h : Sim s sa) {ds : List Nat} (hd : ds = [dst].filterMap id) :
    After q ds s s' sa (sa.put dst v (om.getD sa.mem)) := by
  obtain ⟨rfl, h2⟩ := stp_eq hs
  refine ⟨by rw [h.1]; exact h.put .., h2, fun k hk => ?_⟩
  rw [get_put, if_neg]
  intro e; subst e; subst hd; simp at hk
mutual
theorem evI_sound : ∀ (x : EI) {q : Bool} {gd : Option (Nat × Bool)} {s s' sa : St}, evI call q x s = some s' → Sim s sa → RunG gd sa → OkG gd x → regWp P (eraseI gd x) sa (After q (dstsL none [x]) s s' sa) := by
  intro x q gd s s' sa h hs hr hok
  match x with
  | .op k os dst solo =>
    simp only [evI] at h
    obtain ⟨⟨v, om⟩, h1, h2⟩ := bnd_eq h
    unfold opX at h1
    split at h1
    case isTrue =>
      rename_i hu
      cases h1
      obtain ⟨rfl, o, rfl⟩ : k = .mv ∧ ∃ o, os = [o] := by
        cases k <;> simp only [isUmv, Bool.false_eq_true] at hu
        match os with
        | [] => simp [isUmv] at hu
        | [o] => exact ⟨rfl, o, rfl⟩
        | _ :: _ :: _ => simp [isUmv] at hu
      show opWp P sa _ _
      refine opWp_run hr ?_
      refine itemWp_op ?_
      show weff _ .mv [_] _
      simp only [weff]
      refine ⟨rfl, ?_⟩
      have h2 : s' = s.put dst .undef s.mem := by
        have := h2
        simp only [stp, Option.some.injEq] at this
        exact this.symm
      subst h2
      refine ⟨⟨hs.1, fun t => ?_⟩, fun _ => rfl, fun t ht => ?_⟩
      · rw [get_put, get_put]
        by_cases e : dst = some t
        · rw [if_pos e]; exact .inl rfl
        · rw [if_neg e, if_neg e]; exact hs.2 t
      · show (sa.put _ _ _).get t = _
        rw [get_put, if_neg]
        intro e; subst e; simp [dstsL, eraseL, eraseI, List.filterMap_cons] at ht
    obtain ⟨h3, h4⟩ := opE_sound h1
    show opWp P sa _ _
    refine opWp_run hr ?_
    refine itemWp_op ?_
    rw [hs.opds h4, hs.1]
    refine weff_mono h3 (fun e he => ⟨he.1, ?_⟩)
    obtain ⟨e1, e2⟩ := outE_mem he.2
    rw [← e1, ← e2]
    have := leaf_after hc h2 hs (ds := dstsL none [.op k os dst solo]) (by cases dst <;> simp [dstsL, eraseL, eraseI, List.filterMap_cons])
    rw [hs.1] at this; exact this
  | .pc g os dst solo =>
    simp only [evI] at h
    obtain ⟨⟨v, om⟩, h1, h2⟩ := bnd_eq h
    obtain ⟨h3, h4, f, caps, h5⟩ := pcE_sound hc h1
    show opWp P sa _ _
    refine opWp_run hr ?_
    refine itemWp_pc ?_
    rw [hs.opds h4, hs.1, hs.opd (by rw [h5]; rfl)]
    refine h3 ?_
    have := leaf_after hc h2 hs (ds := dstsL none [.pc g os dst solo]) (by cases dst <;> simp [dstsL, eraseL, eraseI, List.filterMap_cons])
    rw [hs.1] at this; exact this
  | .sc g os dst solo =>
    simp only [evI] at h
    obtain ⟨⟨v, om⟩, h1, h2⟩ := bnd_eq h
    split at h1
    case isFalse =>
      obtain ⟨h3, h4, f, caps, h5⟩ := qcE_sound hc h1
      show opWp P sa _ _
      refine opWp_run hr ?_
      refine .inr ?_
      rw [hs.opds h4, hs.1, hs.opd (by rw [h5]; rfl)]
      refine h3 ?_
      have := leaf_after hc h2 hs (ds := dstsL none [.sc g os dst solo]) (by cases dst <;> simp [dstsL, eraseL, eraseI, List.filterMap_cons])
      rw [hs.1] at this; exact this
    rename_i hso
    obtain ⟨h3, h4, f, caps, h5⟩ := scE_sound hc.2.1 h1
    show opWp P sa _ _
    refine opWp_run hr ?_
    refine itemWp_sc hso ?_
    rw [hs.opds h4, hs.1, hs.opd (by rw [h5]; rfl)]
    refine h3 ?_
    have := leaf_after hc h2 hs (ds := dstsL none [.sc g os dst solo]) (by cases dst <;> simp [dstsL, eraseL, eraseI, List.filterMap_cons])
    rw [hs.1] at this; exact this
  | .grp t want G x' dst solo =>
    simp only [evI] at h
    obtain ⟨b, h1, h⟩ := bnd_eq h
    obtain ⟨v, h2, h⟩ := bnd_eq h
    cases h
    have hb := isBool_eq h1
    have hsb : sa.get t = .bool b := by
      rcases hs.2 t with h3 | h3
      · rw [hb] at h3; cases h3
      · rw [← h3]; exact hb
    obtain ⟨hokG, hokt⟩ := hok.inner
    have hds : dstsL none [.grp t want G x' dst solo] = dstsL none G ++ [dst] := by
      simp only [dstsL, eraseL, eraseI, List.append_nil, List.filterMap_append]
      rw [show (eraseL (some (t, want)) G).filterMap (·.dst) = (eraseL none G).filterMap (·.dst) from dstsL_gd _ _ G]; rfl
    show regWp P (eraseL (some (t, want)) G ++ _) sa _
    refine regWp_append ?_
    have fin : ∀ sa1 : St, sa1.mem = s.mem → (∀ k, k ∉ dstsL none G → sa1.get k = sa.get k) → (∃ c a b, (pickOps t want x').map (getOpd sa1.get) = [.bool c, a, b] ∧ (bif c then a else b) = .bool v) →
        regWp P [⟨.op .pick (pickOps t want x'), some dst, gd, solo⟩] sa1 (After q (dstsL none [.grp t want G x' dst solo]) s (hide s (dstsL none G) dst v) sa) := by
      intro sa1 hm hk hp
      have hr1 : RunG gd sa1 := hr.same (fun t0 w0 e => hk t0 (hokt t0 w0 e))
      refine opWp_run hr1 ?_
      refine itemWp_op ?_
      obtain ⟨c, a, b, e1, e2⟩ := hp
      rw [e1]
      simp only [weff, e2]
      refine ⟨rfl, ⟨?_, fun _ => rfl, fun k hk' => ?_⟩⟩
      · refine ⟨hm, fun k => ?_⟩
        rw [get_hide, get_put]
        by_cases e : k = dst
        · subst e; simp [effVal]
        · rw [if_neg e, if_neg (show ¬ some dst = some k from fun h => e (by simpa using h.symm))]
          by_cases hin : k ∈ dstsL none G
          · rw [if_pos hin]; exact .inl rfl
          · rw [if_neg hin, hk k hin]; exact hs.2 k
      · rw [hds, List.mem_append, List.mem_singleton, not_or] at hk'
        show (sa1.put _ _ _).get k = _
        rw [get_put, if_neg (by simpa using fun h => hk'.2 h.symm)]
        exact hk k hk'.1
    split at h2
    · rename_i hbw
      obtain ⟨s1, h3, h4⟩ := bnd_eq h2
      have hv := boolOf_eq h4
      refine regWp_mono (fun sa1 hA => ?_) (evL_sound G h3 hs (.inr ⟨t, want, rfl, by rw [hsb, hbw]⟩) ⟨[], hokG⟩)
      obtain ⟨a1, a2, a3⟩ := hA
      have hx : sa1.get x' = .bool v := by
        rcases a1.2 x' with h5 | h5
        · rw [hv] at h5; cases h5
        · rw [← h5]; exact hv
      have ht : sa1.get t = .bool want := by
        have ht0 : t ∉ dstsL none G := (show ∀ l wr, okL t wr l = true → t ∉ dstsL none l from fun l => by
          induction l with
          | nil => intro wr _ h; simp [dstsL, eraseL] at h
          | cons y l ih =>
            intro wr h hin
            simp only [okL, Bool.and_eq_true] at h
            rw [dstsL_cons, List.mem_append] at hin
            rcases hin with hin | hin
            · exact OkG.dst (gd := some (t, true)) ⟨wr, h.1⟩ rfl hin
            · exact ih _ h.2 hin) G [] hokG
        rw [a3 t ht0, hsb, hbw]
      refine fin sa1 (a1.1.trans (a2 rfl)) a3 ?_
      cases want with
      | true => exact ⟨true, .bool v, .bool false, by simp [pickOps, getOpd, ht, hx], rfl⟩
      | false => exact ⟨false, .bool true, .bool v, by simp [pickOps, getOpd, ht, hx], rfl⟩
    · rename_i hbw
      cases h2
      have hbw : b = !want := by cases b <;> cases want <;> simp_all
      refine skipL G hokG (.inl (by rw [hsb, hbw])) (fun u hu => by cases hu) (fun sa1 hm hk hu => ?_)
      refine fin sa1 (hm.trans hs.1) hk ?_
      have ht0 : t ∉ dstsL none G := (show ∀ l wr, okL t wr l = true → t ∉ dstsL none l from fun l => by
          induction l with
          | nil => intro wr _ h; simp [dstsL, eraseL] at h
          | cons y l ih =>
            intro wr h hin
            simp only [okL, Bool.and_eq_true] at h
            rw [dstsL_cons, List.mem_append] at hin
            rcases hin with hin | hin
            · exact OkG.dst (gd := some (t, true)) ⟨wr, h.1⟩ rfl hin
            · exact ih _ h.2 hin) G [] hokG
      have ht : sa1.get t = .bool (!want) := by rw [hk t ht0, hsb, hbw]
      cases want with
      | true => exact ⟨false, sa1.get x', .bool false, by simp [pickOps, getOpd, ht], rfl⟩
      | false => exact ⟨true, .bool true, sa1.get x', by simp [pickOps, getOpd, ht], rfl⟩
  | .grw t want G x' dst solo =>
    simp only [evI] at h
    obtain ⟨b, h1, h⟩ := bnd_eq h
    have hb := isBool_eq h1
    have hsb : sa.get t = .bool b := by
      rcases hs.2 t with h3 | h3
      · rw [hb] at h3; cases h3
      · rw [← h3]; exact hb
    obtain ⟨hokG, hokt⟩ := hok.innerW
    have hds : dstsL none [.grw t want G x' dst solo] = dstsL none G ++ [dst] := by
      simp only [dstsL, eraseL, eraseI, List.append_nil, List.filterMap_append]
      rw [show (eraseL (some (t, want)) G).filterMap (·.dst) = (eraseL none G).filterMap (·.dst) from dstsL_gd _ _ G]; rfl
    show regWp P (eraseL (some (t, want)) G ++ _) sa _
    refine regWp_append ?_
    have fin : ∀ (v : Bool) (mem' : Mem) (sa1 : St), (q = true → mem' = s.mem) → sa1.mem = mem' → (∀ k, k ∉ dstsL none G → sa1.get k = sa.get k) → (∃ c a b, (pickOps t want x').map (getOpd sa1.get) = [.bool c, a, b] ∧ (bif c then a else b) = .bool v) →
        regWp P [⟨.op .pick (pickOps t want x'), some dst, gd, solo⟩] sa1 (After q (dstsL none [.grw t want G x' dst solo]) s (hide ⟨s.env, mem'⟩ (dstsL none G) dst v) sa) := by
      intro v mem' sa1 hq hm hk hp
      have hr1 : RunG gd sa1 := hr.same (fun t0 w0 e => hk t0 (hokt t0 w0 e))
      refine opWp_run hr1 ?_
      refine itemWp_op ?_
      obtain ⟨c, a, b, e1, e2⟩ := hp
      rw [e1]
      simp only [weff, e2]
      refine ⟨rfl, ⟨?_, fun hq' => hq hq', fun k hk' => ?_⟩⟩
      · refine ⟨hm, fun k => ?_⟩
        rw [get_hide, get_put]
        by_cases e : k = dst
        · subst e; simp [effVal]
        · rw [if_neg e, if_neg (show ¬ some dst = some k from fun h => e (by simpa using h.symm))]
          by_cases hin : k ∈ dstsL none G
          · rw [if_pos hin]; exact .inl rfl
          · rw [if_neg hin, hk k hin]; exact hs.2 k
      · rw [hds, List.mem_append, List.mem_singleton, not_or] at hk'
        show (sa1.put _ _ _).get k = _
        rw [get_put, if_neg (by simpa using fun h => hk'.2 h.symm)]
        exact hk k hk'.1
    split at h
    · rename_i hbw
      obtain ⟨s1, h3, h⟩ := bnd_eq h
      obtain ⟨v, h4, h⟩ := bnd_eq h
      cases h
      have hv := boolOf_eq h4
      refine regWp_mono (fun sa1 hA => ?_) (evL_sound G h3 hs (.inr ⟨t, want, rfl, by rw [hsb, hbw]⟩) ⟨[], hokG⟩)
      obtain ⟨a1, a2, a3⟩ := hA
      have hx : sa1.get x' = .bool v := by
        rcases a1.2 x' with h5 | h5
        · rw [hv] at h5; cases h5
        · rw [← h5]; exact hv
      have ht : sa1.get t = .bool want := by
        have ht0 : t ∉ dstsL none G := (show ∀ l wr, okL t wr l = true → t ∉ dstsL none l from fun l => by
          induction l with
          | nil => intro wr _ h; simp [dstsL, eraseL] at h
          | cons y l ih =>
            intro wr h hin
            simp only [okL, Bool.and_eq_true] at h
            rw [dstsL_cons, List.mem_append] at hin
            rcases hin with hin | hin
            · exact OkG.dst (gd := some (t, true)) ⟨wr, h.1⟩ rfl hin
            · exact ih _ h.2 hin) G [] hokG
        rw [a3 t ht0, hsb, hbw]
      refine fin v s1.mem sa1 (fun hq => a2 hq) a1.1 a3 ?_
      cases want with
      | true => exact ⟨true, .bool v, .bool false, by simp [pickOps, getOpd, ht, hx], rfl⟩
      | false => exact ⟨false, .bool true, .bool v, by simp [pickOps, getOpd, ht, hx], rfl⟩
    · rename_i hbw
      cases h
      have hbw : b = !want := by cases b <;> cases want <;> simp_all
      refine skipL G hokG (.inl (by rw [hsb, hbw])) (fun u hu => by cases hu) (fun sa1 hm hk hu => ?_)
      refine fin (!want) s.mem sa1 (fun _ => rfl) (hm.trans hs.1) hk ?_
      have ht0 : t ∉ dstsL none G := (show ∀ l wr, okL t wr l = true → t ∉ dstsL none l from fun l => by
          induction l with
          | nil => intro wr _ h; simp [dstsL, eraseL] at h
          | cons y l ih =>
            intro wr h hin
            simp only [okL, Bool.and_eq_true] at h
            rw [dstsL_cons, List.mem_append] at hin
            rcases hin with hin | hin
            · exact OkG.dst (gd := some (t, true)) ⟨wr, h.1⟩ rfl hin
            · exact ih _ h.2 hin) G [] hokG
      have ht : sa1.get t = .bool (!want) := by rw [hk t ht0, hsb, hbw]
      cases want with
      | true => exact ⟨false, sa1.get x', .bool false, by simp [pickOps, getOpd, ht], rfl⟩
      | false => exact ⟨true, .bool true, sa1.get x', by simp [pickOps, getOpd, ht], rfl⟩
theorem evL_sound : ∀ (l : List EI) {q : Bool} {gd : Option (Nat × Bool)} {s s' sa : St}, evR call q l s = some s' → Sim s sa → RunG gd sa → OkGL gd l → regWp P (eraseL gd l) sa (After q (dstsL none l) s s' sa) := by
  intro l q gd s s' sa h hs hr hok
  match l with
  | [] =>
    simp only [evR] at h
    cases h
    exact ⟨hs, fun _ => rfl, fun _ _ => rfl⟩
  | x :: xs =>
    simp only [evR] at h
    obtain ⟨s1, h1, h2⟩ := bnd_eq h
    obtain ⟨k1, k2⟩ := hok.cons
    show regWp P (eraseI gd x ++ eraseL gd xs) sa _
    refine regWp_append (regWp_mono (fun sa1 hA => ?_) (evI_sound x h1 hs hr k1))
    obtain ⟨a1, a2, a3⟩ := hA
    refine regWp_mono (fun sa2 hB => ?_) (evL_sound xs h2 a1 (hr.same (fun t w e => a3 t (k1.dst e))) k2)
    obtain ⟨b1, b2, b3⟩ := hB
    refine ⟨b1, fun e => (b2 e).trans (a2 e), fun k hk => ?_⟩
    rw [dstsL_cons, List.mem_append, not_or] at hk
    rw [b3 k hk.2, a3 k hk.1]
end
end
end Go.Abs
namespace Go.Abs
open Go Go.RowKit
theorem upto_length (b : Nat) : (upto b).length = b := by
  induction b with
  | zero => rfl
  | succ b ih => simp [upto, ih]
theorem upto_get (b : Nat) : ∀ id, id < b → (upto b)[id]? = some id := by
  induction b with
  | zero => intro id h; omega
  | succ b ih =>
    intro id h
    show (upto b ++ [b])[id]? = _
    by_cases h2 : id < b
    · rw [List.getElem?_append_left (by rw [upto_length]; exact h2)]; exact ih id h2
    · have : id = b := by omega
      subst this
      rw [List.getElem?_append_right (by rw [upto_length]; exact Nat.le_refl _), upto_length]; simp
theorem ids_zero (ρ : Nat → Option Nat) (live : Live) (xs : List AV) : idsL (up ρ live 0) xs = [] := by
  have h : ∀ t ∈ idsL (up ρ live 0) xs, False := by
    have hV : ∀ x : AV, idsV (up ρ live 0) x = [] := by
      intro x
      refine AV.rec (motive_1 := fun x => idsV (up ρ live 0) x = []) (motive_2 := fun xs => idsL (up ρ live 0) xs = [])
        ?_ ?_ ?_ ?_ ?_ ?_ ?_ ?_ ?_ ?_ ?_ ?_ ?_ ?_ ?_ ?_ ?_ x <;> intros <;> simp_all [idsV, idsL, up]
    intro t ht
    rw [idsL_map] at ht
    obtain ⟨x, _, hx⟩ := List.mem_flatMap.1 ht
    rw [hV x] at hx; cases hx
  exact List.eq_nil_iff_forall_not_mem.2 h
theorem look_keep (g : Bool → Nat → Nat → Nat → AV) (env : List (Nat × AV)) (t : Nat) : ∀ ts : List Nat, lookA (keepE g env ts) t = .undef ∨ lookA (keepE g env ts) t = mapId g (lookA env t) := by
  intro ts
  induction ts with
  | nil => exact .inl rfl
  | cons u ts ih =>
    show (if u = t then mapId g (lookA env u) else lookA (keepE g env ts) t) = _ ∨ (if u = t then mapId g (lookA env u) else lookA (keepE g env ts) t) = _
    by_cases h : u = t
    · subst h; rw [if_pos rfl]; exact .inr rfl
    · rw [if_neg h]; exact ih
theorem roots_ext (s : St) : ∀ (l : List (Nat × Option Nat)) (acc : List Nat), ∃ rs, rootsE s l acc = acc ++ rs := by
  intro l
  induction l with
  | nil => intro acc; exact ⟨[], by simp [rootsE]⟩
  | cons r l ih =>
    intro acc
    have h1 : ∃ rs, addId acc (rootId s r) = acc ++ rs := by
      cases rootId s r with
      | none => exact ⟨[], by simp [addId]⟩
      | some id =>
        simp only [addId]
        split
        · exact ⟨[], by simp⟩
        · exact ⟨[id], rfl⟩
    obtain ⟨r1, e1⟩ := h1
    obtain ⟨r2, e2⟩ := ih (acc ++ r1)
    exact ⟨r1 ++ r2, by simp only [rootsE]; rw [e1, e2, List.append_assoc]⟩
section
variable {P : Program} {B : Start} {Y : Nat → Prop} {w0 : World} {F0 : List Nat} {N : Nat} {s s' : St} {a : Act} {w : World} {b : Nat}
def HB (b : Nat) (B : Start) : Prop := (∀ id, B.m id ≠ none → id < b) ∧ ∀ id, B.d id → id < b
theorem RelS.sim {sa : St} (h : RelS B Y w0 F0 N sa a w) (hs : Sim s sa) : RelS B Y w0 F0 N s a w := by
  obtain ⟨d, m, Fs, h1, h2, h3, h4⟩ := h
  refine ⟨d, m, Fs, by rw [← hs.1]; exact h1, by rw [← hs.1]; exact h2, fun t => ?_, h4⟩
  rcases hs.2 t with e | e
  · rw [e]; exact .undef _
  · rw [e]; exact h3 t
theorem tidy_sound {rs keep : List Nat} (h : tidyE (upto b ++ rs) keep s = some s') (hr : RelS B Y w0 F0 N s a w) (hB : HB b B) : RelS B Y w0 F0 N s' a w := by
  unfold tidyE at h
  split at h
  case isFalse => cases h
  rename_i hc
  cases h
  obtain ⟨d, m, Fs, h1, h2, h3, h4, h5, h6⟩ := hr
  obtain ⟨Fs', k1, k2, k3⟩ := h1.pack (nodupNat_spec hc.1) 4 (nodupNat_spec hc.2)
  have base : ∀ id, id < b → (upto b ++ rs)[id]? = some id := fun id hid => by
    rw [List.getElem?_append_left (by rw [upto_length]; exact hid)]; exact upto_get b id hid
  have hX : ∀ x, XOf Y (mOf (upto b ++ rs) m) Fs' x → XOf Y m Fs x := fun x hx => by
    rcases hx with hx | hx
    · exact .inl hx
    · exact .inr (k2 x hx)
  refine ⟨_, _, Fs', k1, fun t ht => ?_, fun t => ?_, h4, h5, ?_⟩
  · have ht : (upto b ++ rs).length ≤ t := by simpa [packM] using ht
    have : (upto b ++ rs)[t]? = none := List.getElem?_eq_none ht
    exact ⟨by simp [mOf, this], by simp [dOf, this]⟩
  · show RelV _ _ _ _ (lookA (keepE _ s.env keep) t) _ _
    rcases look_keep (gp (idx (upto b ++ rs)) (liveOf s.mem) 0) s.env t keep with e | e
    · rw [e]; exact .undef _
    · rw [e]
      have hz := ids_zero (idx (upto b ++ rs)) (liveOf s.mem) [s.get t]
      obtain ⟨F', ⟨_, f1⟩, f2⟩ := pack_sound h1 (idx (upto b ++ rs)) (m' := mOf (upto b ++ rs) m) (d' := dOf (upto b ++ rs) d) (fun id k hi => mOf_at (idx_some hi)) (fun id k hi hd => by rw [dOf_at (idx_some hi)]; exact hd) hX 0
        (RelL.single (h3 t)) (by rw [hz]; exact ⟨List.nodup_nil, List.nodup_nil, fun _ h => by cases h⟩)
      have : F' = [] := List.eq_nil_iff_forall_not_mem.2 fun x hx => by
        rcases f1 x hx with h | ⟨id, h, _⟩
        · cases h
        · rw [hz] at h; cases h
      subst this
      exact f2.head
  · exact
      { cells := h6.cells
        size := h6.size
        ro := fun x hx hn => ⟨fun hx' => (h6.ro x hx hn).1 (hX x hx'), (h6.ro x hx hn).2⟩
        ids := fun id q hq => by
          have hid := base id (hB.1 id (by rw [hq]; simp))
          rw [mOf_at hid, dOf_at hid]; exact h6.ids id q hq
        dead := fun id hd => by
          have hid := base id (hB.2 id hd)
          rw [dOf_at hid]; exact h6.dead id hd }
theorem opnR_sound {id i j sz : Nat} (h : opnR s id i j sz (liveOf s.mem id) = some s') (hr : RelS B Y w0 F0 N s a w) : RelS B Y w0 F0 N s' a w := by
  unfold opnR at h
  split at h
  case h_2 => cases h
  rename_i s0 xs hl
  split at h
  case isFalse => cases h
  rename_i hij
  obtain ⟨d, m, Fs, h1, h2, h3, h4, h5, h6⟩ := hr
  have hid : id < s.mem.length := liveOf_lt hl
  have fin : ∀ (s1 : Nat) (ys : List AV), ((xs.getD i .undef).cells.getD j .undef = .own s1 ys ∨ ((xs.getD i .undef).cells.getD j .undef = .nil ∧ ys = [])) →
      RelS B Y w0 F0 N ⟨s.env, s.mem.set id (some (s0, xs.set i ((xs.getD i .undef).setCell j (.sl s.mem.length 0 ys.length)))) ++ [some (s1, ys)]⟩ a w := by
    intro s1 ys hc
    obtain ⟨m', Fs', e1, e2, e3⟩ := h1.opn (n := s.mem.length) hl hij.1 hij.2 hc (h2 _ (Nat.le_refl _)).1 (h2 _ (Nat.le_refl _)).2 (liveOf_ge (Nat.le_refl _))
      (live' := liveOf (s.mem.set id (some (s0, xs.set i ((xs.getD i .undef).setCell j (.sl s.mem.length 0 ys.length)))) ++ [some (s1, ys)])) (by
        rw [liveOf_snoc, liveOf_set hid, List.length_set])
    refine ⟨d, m', Fs', e1, fun t ht => ?_, fun t => RelV.carry e2 (h3 t) (fun _ h => by cases h), h4, h5, Carry.trans h6 e2⟩
    have ht : s.mem.length + 1 ≤ t := by simpa using ht
    exact ⟨by rw [e3 t (by omega)]; exact (h2 t (by omega)).1, (h2 t (by omega)).2⟩
  generalize hg : (xs.getD i .undef).cells.getD j .undef = g at h fin
  cases g <;> simp only [opnC] at h <;> first | (cases h; exact ⟨d, m, Fs, h1, h2, h3, h4, h5, h6⟩) | skip
  · cases h; exact fin sz [] (.inr ⟨rfl, rfl⟩)
  · cases h; exact fin _ _ (.inl rfl)
theorem nthA_eq : ∀ (l : List AV) (i : Nat) (x : AV), nthA l i = some x → i < l.length ∧ l.getD i .undef = x
  | [], _, _, h => by cases h
  | y :: r, 0, x, h => by cases h; exact ⟨by simp, rfl⟩
  | y :: r, i + 1, x, h => by
    obtain ⟨h1, h2⟩ := nthA_eq r i x h
    exact ⟨by rw [List.length_cons]; omega, by rw [← h2]; rfl⟩
theorem nthR_eq : ∀ (m : Mem) (i : Nat), nthR m i = liveOf m i
  | [], _ => rfl
  | x :: r, 0 => rfl
  | x :: r, i + 1 => by rw [nthR]; rw [nthR_eq r i]; rfl
theorem setR_eq : ∀ (m : Mem) (i : Nat) (y : Nat × List AV), setR m i y = m.set i (some y)
  | [], _, _ => rfl
  | x :: r, 0, _ => rfl
  | x :: r, i + 1, y => by rw [setR, setR_eq r i y]; rfl
theorem opnM_sound {p : Nat × Nat × Nat} (hr : RelS B Y w0 F0 N s a w) : RelS B Y w0 F0 N ⟨s.env, opnM s.mem p⟩ a w := by
  obtain ⟨id, i, j⟩ := p
  unfold opnM
  simp only
  split
  · rename_i s0 xs hl
    rw [nthR_eq] at hl
    split
    · rename_i x hx
      obtain ⟨hx1, hx2⟩ := nthA_eq _ _ _ hx
      split
      · rename_i s' ys hc
        obtain ⟨hc1, hc2⟩ := nthA_eq _ _ _ hc
        refine opnR_sound (s := s) (id := id) (i := i) (j := j) (sz := 0) ?_ hr
        rw [hl]
        simp only [opnR]
        rw [hx2, if_pos ⟨hx1, hc1⟩, hc2]
        simp only [opnC]
        rw [setR_eq, hx2]
      · exact hr
    · exact hr
  · exact hr
theorem opnF_sound : ∀ {ps : List (Nat × Nat × Nat)} {mem : Mem}, RelS B Y w0 F0 N ⟨s.env, mem⟩ a w → RelS B Y w0 F0 N ⟨s.env, opnF ps mem⟩ a w := by
  intro ps
  induction ps with
  | nil => intro mem hr; exact hr
  | cons p ps ih => intro mem hr; exact ih (opnM_sound (s := ⟨s.env, mem⟩) hr)
theorem allM_sound : ∀ {n : Nat} {mem : Mem}, RelS B Y w0 F0 N ⟨s.env, mem⟩ a w → RelS B Y w0 F0 N ⟨s.env, allM n mem⟩ a w := by
  intro n
  induction n with
  | zero => intro mem hr; exact hr
  | succ n ih =>
    intro mem hr
    simp only [allM]
    split
    · exact hr
    · exact ih (opnF_sound hr)
theorem vw_sound {v : Vw} (h : vwE b v s = some s') (hr : RelS B Y w0 F0 N s a w) (hB : HB b B) : RelS B Y w0 F0 N s' a w := by
  cases v with
  | all n =>
    simp only [vwE] at h
    cases h
    exact allM_sound hr
  | wide =>
    simp only [vwE] at h
    cases h
    exact hr
  | tidy keep roots =>
    simp only [vwE] at h
    obtain ⟨rs, e⟩ := roots_ext s roots (upto b)
    rw [e] at h
    exact tidy_sound h hr hB
  | lay t sz =>
    simp only [vwE] at h
    obtain ⟨d, m, Fs, h1, h2, h3, h4⟩ := hr
    have hv := h3 t
    generalize hg : s.get t = g at h hv
    cases g <;> simp only [layE] at h <;> first | (cases h; exact ⟨d, m, Fs, h1, h2, h3, h4⟩) | skip
    · cases h
      have key : ∀ u : Value, RelV w m d (XOf Y m Fs) .nil u [] → RelV w m d (XOf Y m Fs) (.sl s.mem.length 0 0) u [] := fun u hu => by cases hu; exact .sl0 _
      refine ⟨d, m, Fs, h1.relive (fun u hu => ?_) (fun u hu => ?_), fun u hu => h2 u (by simp at hu; omega), fun u => ?_, h4⟩
      · have : u < s.mem.length := Nat.lt_of_not_le fun hle => hu (h2 u hle).1
        exact liveOf_append this
      · have : u < s.mem.length := Nat.lt_of_not_le fun hle => (h2 u hle).2 hu
        rw [liveOf_append this]; exact h1.ddom u hu
      · show RelV _ _ _ _ (if t = u then AV.sl s.mem.length 0 0 else lookA s.env u) _ _
        by_cases e : t = u
        · subst e; rw [if_pos rfl]; exact key _ hv
        · rw [if_neg e]; exact h3 u
  | opn t o ix off sz =>
    simp only [vwE] at h
    obtain ⟨⟨id, i, j⟩, _, h⟩ := bnd_eq h
    simp only at h
    exact opnR_sound h hr
  | fgt t o ix off =>
    simp only [vwE] at h
    obtain ⟨⟨id, i, j⟩, _, h⟩ := bnd_eq h
    simp only at h
    unfold fgtR at h
    split at h
    case h_2 => cases h
    rename_i s0 xs hl
    split at h
    case isFalse => cases h
    rename_i hij
    cases h
    obtain ⟨d, m, Fs, h1, h2, h3, h4, h5, h6⟩ := hr
    have hid : id < s.mem.length := liveOf_lt hl
    obtain ⟨Fs', e1, e2⟩ := h1.fgt hl hij.1 hij.2
    refine ⟨d, m, Fs', by rw [liveOf_set hid]; exact e1, fun t ht => h2 t (by simpa using ht), fun t => RelV.carry e2 (h3 t) (fun _ h => by cases h), h4, h5, Carry.trans h6 e2⟩
  | opx t o t2 o2 t3 c off sz =>
    simp only [vwE] at h
    generalize opxT c (baseV s t o) (idxV s.mem (baseV s t2 o2) (s.get t3)) = q at h
    cases q with
    | none => cases h; exact hr
    | some q =>
      obtain ⟨id, i⟩ := q
      have h : opxL s id i off sz (liveOf s.mem id) = some s' := h
      cases hl : liveOf s.mem id with
      | none => rw [hl] at h; cases h; exact hr
      | some sx =>
        obtain ⟨s0, xs⟩ := sx
        rw [hl] at h
        simp only [opxL] at h
        split at h
        · rename_i hc
          refine opnR_sound (id := id) (i := i) (j := off) (sz := sz) ?_ hr
          rw [hl]; simp only [opnR]; rw [if_pos hc]; exact h
        · cases h; exact hr
theorem vwL_sound : ∀ {vs : List Vw} {s s' : St}, vwL b vs s = some s' → RelS B Y w0 F0 N s a w → HB b B → RelS B Y w0 F0 N s' a w := by
  intro vs
  induction vs with
  | nil => intro s s' h hr _; simp only [vwL] at h; cases h; exact hr
  | cons v vs ih =>
    intro s s' h hr hB
    simp only [vwL] at h
    obtain ⟨s1, h1, h2⟩ := bnd_eq h
    exact ih h2 (vw_sound h1 hr hB) hB
variable {TT : Types} {pures : List FuncId} {call : CallF}
def IsX (x : AX) (s' : St) : AX → St → Prop := fun e s => e = x ∧ s = s'
theorem comp_seq {c : Code} {x y : AC} (h : compileC P TT pures N c = some (.seq x y)) : ∃ cx cy, c = .seq cx cy ∧ compileC P TT pures N cx = some x ∧ compileC P TT pures N cy = some y := by
  cases c <;> simp only [compileC, Option.map_eq_some_iff] at h
  all_goals first | (cases h; done) | (obtain ⟨_, _, h⟩ := h; cases h; done) | (split at h <;> cases h; done) | (split at h <;> first | (cases h; done) | (simp only [Option.map_eq_some_iff] at h; obtain ⟨_, _, h⟩ := h; cases h; done)) | skip
  split at h
  · rename_i h1 h2; cases h; exact ⟨_, _, rfl, h1, h2⟩
  · cases h
theorem comp_cond {c : Code} {o : Opd} {x y : AC} (h : compileC P TT pures N c = some (.cond o x y)) : ∃ c0 cx cy, c = .cond c0 cx cy ∧ opd c0 = some o ∧ compileC P TT pures N cx = some x ∧ compileC P TT pures N cy = some y := by
  cases c <;> simp only [compileC, Option.map_eq_some_iff] at h
  all_goals first | (cases h; done) | (obtain ⟨_, _, h⟩ := h; cases h; done) | (split at h <;> cases h; done) | (split at h <;> first | (cases h; done) | (simp only [Option.map_eq_some_iff] at h; obtain ⟨_, _, h⟩ := h; cases h; done)) | skip
  split at h
  · rename_i h1 h2 h3; cases h; exact ⟨_, _, _, rfl, h1, h2, h3⟩
  · cases h
theorem comp_block {c : Code} {id : Nat} {x : AC} (h : compileC P TT pures N c = some (.block id x)) : ∃ cx, c = .block id cx ∧ compileC P TT pures N cx = some x := by
  cases c <;> simp only [compileC, Option.map_eq_some_iff] at h
  all_goals first | (cases h; done) | (obtain ⟨_, _, h⟩ := h; cases h; done) | (split at h <;> cases h; done) | (split at h <;> first | (cases h; done) | (simp only [Option.map_eq_some_iff] at h; obtain ⟨_, _, h⟩ := h; cases h; done)) | skip
  obtain ⟨_, h1, h⟩ := h
  cases h; exact ⟨_, rfl, h1⟩
theorem comp_loop {c : Code} {x : AC} (h : compileC P TT pures N c = some (.loop x)) : ∃ cx, c = .loop cx ∧ compileC P TT pures N cx = some x := by
  cases c <;> simp only [compileC, Option.map_eq_some_iff] at h
  all_goals first | (cases h; done) | (obtain ⟨_, _, h⟩ := h; cases h; done) | (split at h <;> cases h; done) | (split at h <;> first | (cases h; done) | (simp only [Option.map_eq_some_iff] at h; obtain ⟨_, _, h⟩ := h; cases h; done)) | skip
  obtain ⟨_, h1, h⟩ := h
  cases h; exact ⟨_, rfl, h1⟩
theorem wpc_one (hm : P.follows .mixedOrders = true) (hTT : ∀ t T, TT.get t = some T → tyOf P t = some T) {c : Code} {ac : AC} (hc : compileC P TT pures N c = some ac) {x : AX} {s' : St}
    (h : wpc P ac (fun e s1 => e = x ∧ Sim s' s1) s) (hr : RelS B Y w0 F0 N s a w) : c.wp P (absQ B Y w0 F0 N (IsX x s')) a w := by
  refine wp_mono (wpc_sound hm hTT c hc h hr) (fun e a w he => ?_)
  cases e with
  | normal => obtain ⟨s1, h1, h2, h3⟩ := he; exact ⟨s', h1.sim h3, h2, rfl⟩
  | exit id => obtain ⟨s1, h1, h2, h3⟩ := he; exact ⟨s', h1.sim h3, h2, rfl⟩
  | ret => obtain ⟨s1, h1, h2, h3⟩ := he; exact ⟨s', h1.sim h3, h2, rfl⟩
  | _ => exact he.elim
theorem lkOk_sim {s sa : St} (h : Sim s sa) {n : Nat} {js is : List Nat} (hl : lkOk n js is s = true) : lkOk n js is sa = true := by
  unfold lkOk at hl ⊢
  simp only [List.all_eq_true, List.mem_map] at hl ⊢
  rintro _ ⟨t, ht, rfl⟩
  have h1 := hl _ ⟨t, ht, rfl⟩
  have e : ∀ u, s.get u ≠ .undef → sa.get u = s.get u := fun u hu => (h.2 u).elim (fun e => absurd e hu) (fun e => e.symm)
  rw [e t (fun e => by rw [e] at h1; cases h1)]
  generalize s.get t = x at h1
  cases x with
  | ptr id a b =>
    simp only [lkJ, Bool.and_eq_true, List.all_eq_true, List.mem_map] at h1 ⊢
    refine ⟨h1.1, ?_⟩
    rintro _ ⟨u, hu, rfl⟩
    have h2 := h1.2 _ ⟨u, hu, rfl⟩
    rw [e u (fun e => by rw [e] at h2; cases h2)]
    exact h2
  | _ => cases h1
theorem iter_loop {cx : Code} {g : St → Option (AX × St)} {x : AX} {s' : St} (hx : x ≠ .normal)
    (hg : ∀ s a w, RelS B Y w0 F0 N s a w → ∀ y s1, g s = some (y, s1) → cx.wp P (absQ B Y w0 F0 N (IsX y s1)) a w) {n : Nat} (h : iterL g n s = some (x, s')) (hr : RelS B Y w0 F0 N s a w) :
    (Code.loop cx).wp P (absQ B Y w0 F0 N (IsX x s')) a w := by
  refine loop_sound (fun s => ∃ n, iterL g n s = some (x, s')) (fun s => leastN fun n => iterL g n s = some (x, s')) (fun s hI a w hr => ?_) ⟨n, h⟩ hr
  obtain ⟨n, hn⟩ := hI
  obtain ⟨h1, h2⟩ := leastN_spec (p := fun n => iterL g n s = some (x, s')) hn
  generalize hk : leastN (fun n => iterL g n s = some (x, s')) = k at h1
  cases k with
  | zero => simp [iterL] at h1
  | succ k =>
    simp only [iterL] at h1
    obtain ⟨⟨y, s1⟩, e1, e2⟩ := bnd_eq h1
    refine wp_mono (hg s a w hr y s1 e1) (fun e a w he => ?_)
    cases e with
    | normal =>
      obtain ⟨s2, r1, r2, r3⟩ := he
      subst r2; subst r3
      have h3 : iterL g k s2 = some (x, s') := e2
      refine ⟨s2, r1, ⟨k, h3⟩, ?_⟩
      have := (leastN_spec (p := fun n => iterL g n s2 = some (x, s')) h3).2
      omega
    | exit id =>
      obtain ⟨s2, r1, r2, r3⟩ := he
      subst r2; subst r3
      cases e2
      exact ⟨_, r1, rfl, rfl⟩
    | ret =>
      obtain ⟨s2, r1, r2, r3⟩ := he
      subst r2; subst r3
      cases e2
      exact ⟨_, r1, rfl, rfl⟩
    | _ => exact he.elim
theorem iter_ne {g : St → Option (AX × St)} : ∀ {n : Nat} {s : St} {x : AX} {s' : St}, iterL g n s = some (x, s') → x ≠ .normal := by
  intro n
  induction n with
  | zero => intro s x s' h; simp [iterL] at h
  | succ n ih =>
    intro s x s' h
    simp only [iterL] at h
    obtain ⟨⟨y, s1⟩, _, e2⟩ := bnd_eq h
    cases y with
    | normal => exact ih e2
    | exit i => cases e2; simp
    | ret => cases e2; simp
theorem evC_sound (hm : P.follows .mixedOrders = true) (hTT : ∀ t T, TT.get t = some T → tyOf P t = some T) (hcall : CallsOk P call) (hB : HB b B) {fuel : Nat} : ∀ (ec : EC) {c : Code} {x : AX} {s s' : St} {a : Act} {w : World},
    compileC P TT pures N c = some (eraseC ec) → okE ec = true → evC call b fuel ec s = some (x, s') → RelS B Y w0 F0 N s a w → c.wp P (absQ B Y w0 F0 N (IsX x s')) a w := by
  intro ec
  induction ec with
  | skip =>
    intro c x s s' a w hc _ h hr
    simp only [evC] at h; cases h
    exact wpc_one hm hTT hc ⟨rfl, .refl _⟩ hr
  | exit id =>
    intro c x s s' a w hc _ h hr
    simp only [evC] at h; cases h
    exact wpc_one hm hTT hc ⟨rfl, .refl _⟩ hr
  | ret =>
    intro c x s s' a w hc _ h hr
    simp only [evC] at h; cases h
    exact wpc_one hm hTT hc ⟨rfl, .refl _⟩ hr
  | region l draw =>
    intro c x s s' a w hc hok h hr
    simp only [evC] at h
    obtain ⟨s1, h1, h2⟩ := bnd_eq h
    cases h2
    refine wpc_one hm hTT hc ?_ hr
    show regWp P (eraseL none l) s _
    exact regWp_mono (fun sa hA => ⟨rfl, hA.1⟩) (evL_sound hcall l h1 (.refl _) (.inl rfl) hok)
  | regL l js is =>
    intro c x s s' a w hc hok h hr
    simp only [evC] at h
    obtain ⟨s1, h1, h2⟩ := bnd_eq h
    unfold lkE at h2
    split at h2
    case isFalse => cases h2
    rename_i hlk
    cases h2
    refine wpc_one hm hTT hc ?_ hr
    show regWp P (eraseL none l) s _
    exact regWp_mono (fun sa hA => ⟨lkOk_sim hA.1 hlk, ⟨rfl, hA.1⟩⟩) (evL_sound hcall l h1 (.refl _) (.inl rfl) hok)
  | seq p q ihp ihq =>
    intro c x s s' a w hc hok h hr
    obtain ⟨cx, cy, rfl, c1, c2⟩ := comp_seq hc
    simp only [okE, Bool.and_eq_true] at hok
    simp only [evC] at h
    obtain ⟨⟨y, s1⟩, h1, h2⟩ := bnd_eq h
    refine wp_seq (wp_mono (ihp c1 hok.1 h1 hr) (fun e a w he => ?_))
    cases e with
    | normal => obtain ⟨s2, r1, r2, r3⟩ := he; subst r2; subst r3; exact ihq c2 hok.2 h2 r1
    | exit id => obtain ⟨s2, r1, r2, r3⟩ := he; subst r2; subst r3; cases h2; exact ⟨_, r1, rfl, rfl⟩
    | ret => obtain ⟨s2, r1, r2, r3⟩ := he; subst r2; subst r3; cases h2; exact ⟨_, r1, rfl, rfl⟩
    | _ => exact he.elim
  | cond o p q ihp ihq =>
    intro c x s s' a w hc hok h hr
    obtain ⟨c0, cx, cy, rfl, co, c1, c2⟩ := comp_cond hc
    simp only [okE, Bool.and_eq_true] at hok
    simp only [evC] at h
    generalize ho : isBool (getOpd s.get o) = ob at h
    cases ob with
    | none => simp [cnd] at h
    | some t =>
      have hb := isBool_eq ho
      have hev : a.eval c0 = .bool t := by
        obtain ⟨d, m, Fs, h1, h2, h3, h4, h5, h6⟩ := hr
        have := opd_rel h3 co
        rw [hb] at this
        generalize a.eval c0 = v at this; cases this; rfl
      refine wp_cond hev ?_
      cases t with
      | true => exact ihp c1 hok.1 (by simpa [cnd] using h) hr
      | false => exact ihq c2 hok.2 (by simpa [cnd] using h) hr
  | block id p ihp =>
    intro c x s s' a w hc hok h hr
    obtain ⟨cx, rfl, c1⟩ := comp_block hc
    simp only [evC] at h
    obtain ⟨⟨y, s1⟩, h1, h2⟩ := bnd_eq h
    refine wp_block (wp_mono (ihp c1 hok h1 hr) (fun e a w he => ?_))
    cases e with
    | normal => obtain ⟨s2, r1, r2, r3⟩ := he; subst r2; subst r3; cases h2; exact ⟨_, r1, rfl, rfl⟩
    | exit i =>
      obtain ⟨s2, r1, r2, r3⟩ := he; subst r2; subst r3
      show if i = id then _ else _
      by_cases hi : i = id
      · rw [if_pos hi]
        simp only [outB, hi, if_true, Option.some.injEq, Prod.mk.injEq] at h2
        obtain ⟨rfl, rfl⟩ := h2
        exact ⟨_, r1, rfl, rfl⟩
      · rw [if_neg hi]
        simp only [outB, hi, if_false, Option.some.injEq, Prod.mk.injEq] at h2
        obtain ⟨rfl, rfl⟩ := h2
        exact ⟨_, r1, rfl, rfl⟩
    | ret => obtain ⟨s2, r1, r2, r3⟩ := he; subst r2; subst r3; cases h2; exact ⟨_, r1, rfl, rfl⟩
    | _ => exact he.elim
  | view v p ihp =>
    intro c x s s' a w hc hok h hr
    simp only [evC] at h
    obtain ⟨s1, h1, h2⟩ := bnd_eq h
    exact ihp hc hok h2 (vwL_sound h1 hr hB)
  | loop hd p ihp =>
    intro c x s s' a w hc hok h hr
    obtain ⟨cx, rfl, c1⟩ := comp_loop hc
    simp only [evC] at h
    obtain ⟨s1, h1, h2⟩ := bnd_eq h
    refine iter_loop (iter_ne h2) (fun s a w hr y s1 hy => ?_) h2 (vwL_sound h1 hr hB)
    obtain ⟨⟨z, s2⟩, e1, e2⟩ := bnd_eq hy
    refine wp_mono (ihp c1 hok e1 hr) (fun e a w he => ?_)
    cases e with
    | normal =>
      obtain ⟨s3, r1, r2, r3⟩ := he; subst r2; subst r3
      obtain ⟨s4, e3, e4⟩ := bnd_eq (show bnd (vwL b hd s3) (fun s => some (AX.normal, s)) = some (y, s1) from e2)
      cases e4
      exact ⟨_, vwL_sound e3 r1 hB, rfl, rfl⟩
    | exit id => obtain ⟨s3, r1, r2, r3⟩ := he; subst r2; subst r3; cases e2; exact ⟨_, r1, rfl, rfl⟩
    | ret => obtain ⟨s3, r1, r2, r3⟩ := he; subst r2; subst r3; cases e2; exact ⟨_, r1, rfl, rfl⟩
    | _ => exact he.elim
end
end Go.Abs
namespace Go.Abs
open Go Go.RowKit
section
variable {P : Program} {TT : Types} {pures : List FuncId} {T : FuncId → Option EF}
def COk (P : Program) (TT : Types) (pures : List FuncId) (f : FuncId) (F : EF) : Prop := ∃ fn, P.funcs[f]? = some fn ∧ compileF P TT pures fn = some (eraseF F) ∧ okE F.body = true
structure OrcOk (P : Program) (f : FuncId) (g : List AV → Mem → Option (AV × Mem)) : Prop where
  fn : ∃ fn c, P.funcs[f]? = some fn ∧ (fn.name == "runtime.NumGoroutine") = false ∧ fn.body = some c
  pure : ∀ args res, g args [] = some (res, []) → ACalls P f args res
  wr : ∀ args mem res mem', g args mem = some (res, mem') → xokT res = true → mem'.length = mem.length → BCall P f args mem res mem'
  qt : ∀ args mem res, g args (none :: mem) = some (res, []) → QCall P f args mem res
def TOk (P : Program) (TT : Types) (pures : List FuncId) (T : FuncId → Option EF) : Prop := ∀ f F, T f = some F → (F.orc = none ∧ COk P TT pures f F) ∨ ∃ g, F.orc = some g ∧ OrcOk P f g
section
variable {w : World} {m : IdMap} {d X : Nat → Prop}
theorem wid_cells (sh : Wd) (x : AV) : (wid sh x).cells.length = x.cells.length := by
  cases sh with
  | one => rfl
  | row s e => cases x <;> rfl
  | rrow s => cases x <;> rfl
  | agg ws =>
    have hl : ∀ (ws : List Wd) (cs : List AV), (widL ws cs).length = cs.length := by
      intro ws
      induction ws with
      | nil => intro cs; rfl
      | cons w ws ih =>
        intro cs
        cases cs with
        | nil => rfl
        | cons c cs => simp only [widL, List.length_cons, ih]
    cases x <;> first | rfl | exact hl ws _
mutual
theorem wid_sound : ∀ (sh : Wd) {av : AV} {v : Value} {F : List Nat}, RelV w m d X av v F → RelV w m d X (wid sh av) v F
  | .one, av, v, F, h => h
  | .row s e, av, v, F, h => by
    cases av with
    | nil => cases h; exact .own0 _
    | own s' xs =>
      have hr : ∀ (xs : List AV) {vs : List Value} {F : List Nat}, RelL w m d X (flat xs) vs F → RelL w m d X (flat (xs.map (wid e))) vs F := by
        intro xs
        induction xs with
        | nil => intro vs F h; exact h
        | cons x xs ih =>
          intro vs F h
          obtain ⟨vs1, vs2, F1, F2, rfl, rfl, h1, h2⟩ := RelL.split (show RelL w m d X (x.cells ++ flat xs) vs F from h)
          refine RelL.append (?_ : RelL w m d X (wid e x).cells vs1 F1) (ih h2)
          by_cases ha : ∃ cs, x = .agg cs
          · obtain ⟨cs, rfl⟩ := ha
            have := wid_sound e (RelV.agg h1)
            cases e with
            | one => exact h1
            | row s e => exact h1
            | rrow s => exact h1
            | agg ws =>
              cases this with
              | agg h => exact h
          · have e1 : x.cells = [x] := by cases x <;> first | rfl | exact absurd ⟨_, rfl⟩ ha
            rw [e1] at h1
            have e2 : (wid e x).cells = [wid e x] := by
              cases e with
              | one => exact e1
              | row s e => cases x <;> first | rfl | exact absurd ⟨_, rfl⟩ ha
              | rrow s => cases x <;> first | rfl | exact absurd ⟨_, rfl⟩ ha
              | agg ws => cases x <;> first | rfl | exact absurd ⟨_, rfl⟩ ha
            rw [e2]
            cases h1 with
            | cons h1 t => cases t; exact .cons (wid_sound e h1) .nil
      cases h with
      | own hn he hc hf h =>
        subst hf
        have hl : (xs.map (wid e)).length = xs.length := List.length_map ..
        show RelV w m d X (.own s' (xs.map (wid e))) _ _
        rw [← hl]
        refine .own (by rw [hl]; exact hn) (fun y hy => ?_) hc rfl (hr xs h)
        obtain ⟨x, hx, rfl⟩ := List.mem_map.1 hy
        rw [wid_cells]; exact he x hx
      | own0 A => exact .own0 A
    | _ => exact h
  | .rrow s, av, v, F, h => by
    cases av with
    | nil => cases h with | nil A => exact .ro (xs := []) (ys := []) (vs := []) (Nat.le_refl _) (fun _ h => by cases h) (.inl rfl) rfl rfl .nil
    | _ => exact h
  | .agg ws, av, v, F, h => by
    cases av with
    | agg cs => cases h with | agg h => exact .agg (widL_sound ws h)
    | tup cs => cases h with | tup h => exact .tup (widL_sound ws h)
    | _ => exact h
theorem widL_sound : ∀ (ws : List Wd) {cs : List AV} {vs : List Value} {F : List Nat}, RelL w m d X cs vs F → RelL w m d X (widL ws cs) vs F
  | [], cs, vs, F, h => h
  | w :: ws, cs, vs, F, h => by
    cases h with
    | nil => exact .nil
    | cons h t => exact .cons (wid_sound w h) (widL_sound ws t)
end
end
theorem resE_wp {s : St} : ∀ {rs : List RV} {vs : List AV}, resE s rs = some vs → resWp s rs (fun us => us = vs) := by
  intro rs
  induction rs with
  | nil => intro vs h; simp only [resE] at h; cases h; rfl
  | cons r rs ih =>
    intro vs h
    have mono : ∀ {rs : List RV} {Q Q' : List AV → Prop}, (∀ us, Q us → Q' us) → resWp s rs Q → resWp s rs Q' := by
      intro rs
      induction rs with
      | nil => intro Q Q' hq h; exact hq _ h
      | cons r rs ih =>
        intro Q Q' hq h
        cases r with
        | tmp t => exact ih (fun us h => hq _ h) (show resWp s rs _ from h)
        | cell a k =>
          refine weff_mono (show weff (liveOf s.mem) k [s.get a] _ from h) (fun e he => ?_)
          cases e with
          | val v => exact ih (fun us h => hq _ h) he
          | _ => exact he.elim
    cases r with
    | tmp t =>
      simp only [resE] at h
      obtain ⟨us, h1, h2⟩ := bnd_eq h
      cases h2
      show resWp s rs (fun vs => s.get t :: vs = s.get t :: us)
      exact mono (fun us' e => by rw [e]) (ih h1)
    | cell a k =>
      simp only [resE] at h
      obtain ⟨⟨v, om⟩, h1, h2⟩ := bnd_eq h
      obtain ⟨h3, _⟩ := opE_sound h1
      cases om with
      | some mem => cases h2
      | none =>
        obtain ⟨us, h4, h5⟩ := bnd_eq (show bnd (resE s rs) (fun vs => some (v :: vs)) = some vs from h2)
        cases h5
        refine weff_mono h3 (fun e he => ?_)
        obtain ⟨_, he⟩ := he
        cases e with
        | val u =>
          simp only [outE, effVal, Prod.mk.injEq] at he
          obtain ⟨rfl, _⟩ := he
          exact mono (fun us' e => by rw [e]) (ih h4)
        | _ => simp [outE] at he
theorem upto_lt (b : Nat) : ∀ x ∈ upto b, x < b := by
  induction b with
  | zero => intro x hx; cases hx
  | succ b ih =>
    intro x hx
    rcases List.mem_append.1 (show x ∈ upto b ++ [b] from hx) with h | h
    · have := ih x h; omega
    · have := List.mem_singleton.1 h; omega
theorem upto_nodup (b : Nat) : (upto b).Nodup := by
  induction b with
  | zero => exact List.nodup_nil
  | succ b ih =>
    show (upto b ++ [b]).Nodup
    rw [List.nodup_append]
    refine ⟨ih, by simp, fun x hx y hy => ?_⟩
    have h1 := upto_lt b x hx
    have h2 := List.mem_singleton.1 hy
    omega
theorem runA_step (hm : P.follows .mixedOrders = true) (hTT : ∀ t U, TT.get t = some U → tyOf P t = some U) {f : FuncId} {F : EF} (hT : COk P TT pures f F) {call : CallF} {n : Nat} (hcall : CallsOk P call) : ∀ args res, runB call n F args [] = some (res, []) → ACalls P f args res := by
    intro args res h
    unfold runB at h
    split at h
    case isFalse => cases h
    rename_i hN
    obtain ⟨⟨x, s'⟩, h1, h2⟩ := bnd_eq h
    obtain ⟨fn, hfn, hc, hok⟩ := hT
    obtain ⟨c, hb, hname, hbody, hres, hnt⟩ := compileF_spec hc
    intro Y w vs ha
    have hlen := ha.length
    have hX : XOf Y m0 (fun _ => []) = Y := by
      funext x
      have : ¬ OwnOf m0 (fun _ => []) x := by rintro ⟨id, hid⟩; simp [blocksOf, m0] at hid
      simp [XOf, this]
    have hr : RelW Y w [] (liveOf []) d0 m0 (fun _ => []) w :=
      { dom := fun id h => absurd rfl h
        ddom := fun _ h => h.elim
        cells := fun id s xs b o s' hl => by simp [liveOf] at hl
        nodup := fun id => by simp [blocksOf, m0]
        disj := fun id id' _ x hx => by simp [blocksOf, m0] at hx
        own := fun x hx => by obtain ⟨id, hid⟩ := hx; simp [blocksOf, m0] at hid
        evo := .refl _ _ }
    have ha' : RelL w m0 d0 (XOf Y m0 (fun _ => [])) args vs [] := by rw [hX]; exact ha
    have hN' : args.length ≤ fn.ntmps := by
      have : (eraseF F).ntmps = fn.ntmps := hnt
      rw [← this]; exact hN
    refine calls_of_wp hfn hb ?_
    have hrs : RelS ⟨w, m0, d0, XOf Y m0 (fun _ => [])⟩ Y w [] fn.ntmps ⟨enumA 0 args, []⟩ { tmps := vs.toArray ++ Array.replicate (fn.ntmps - vs.toArray.size) Go.undef, defers := [] } w :=
      ⟨d0, m0, fun _ => [], hr, fun t _ => ⟨rfl, fun h => h⟩, fun t => start_rel (by omega) ha' t, rfl, by simp; omega, Carry.refl⟩
    refine wp_mono (evC_sound hm hTT hcall ⟨fun id h => absurd rfl h, fun id h => False.elim h⟩ F.body hbody hok h1 hrs) (fun e a w' he => ?_)
    have fin : ∀ s1, RelS ⟨w, m0, d0, XOf Y m0 (fun _ => [])⟩ Y w [] fn.ntmps s1 a w' → s1 = s' → (∃ us, resE s' F.results = some us ∧ finP 0 s'.mem (oneRes us) = some (res, [])) →
        a.defers = [] ∧ ∃ v, (results fn a.tmps).run P w' = .ok v w' ∧ ∃ F, F.Nodup ∧ (∀ b ∈ F, w.heap.size ≤ b ∧ b < w'.heap.size) ∧ RelV w' m0 d0 (fun b => Y b ∨ b ∈ F) res v F ∧ Evo (fun _ => False) w w' := by
      rintro s1 ⟨d', m', Fs', r1, r2, r3, r4, r5, r6⟩ rfl ⟨us, hus, hfin⟩
      obtain ⟨vs', as, e1, e2, e3⟩ := res_sound hTT r1 r3 hres (show resWp s1 F.results _ from resE_wp hus)
      subst e3
      refine ⟨r4, _, results_run e1, ?_⟩
      have hv : R Y w' m' d' Fs' (oneRes as) (oneVal vs') := oneRes_rel e2
      unfold finP at hfin
      split at hfin
      case isFalse => cases hfin
      rename_i hnd
      simp only [upto, Option.some.injEq, Prod.mk.injEq] at hfin
      obtain ⟨rfl, _⟩ := hfin
      have hnd := nodupNat_spec hnd
      simp only [upto, usedM, List.flatMap_nil, List.nil_append] at hnd
      have hone : idsL (up (idx []) (liveOf s1.mem) 4) [oneRes as] = idsV (up (idx []) (liveOf s1.mem) 4) (oneRes as) := by simp [idsL]
      obtain ⟨G, ⟨g1, g2⟩, g3⟩ := pack_sound r1 (idx []) (m' := m0) (d' := d0) (X' := XOf Y m' Fs') (fun id k hi => by cases hi) (fun id k hi => by cases hi) (fun _ h => h) 4 (RelL.single hv)
        (by rw [hone]; exact ⟨List.nodup_nil, hnd, fun _ h => by cases h⟩)
      have hown : ∀ b ∈ G, OwnOf m' Fs' b := fun b hb => by
        rcases g2 b hb with h4 | ⟨id, _, h4⟩
        · cases h4
        · exact ⟨id, h4⟩
      refine ⟨G, g1, fun b hb => ?_, ?_, r1.evo.mono (fun b hb => by cases hb)⟩
      · obtain ⟨e1, e2⟩ := r1.own b (hown b hb)
        rcases e2 with e2 | e2
        · cases e2
        · exact ⟨e2, e1⟩
      · refine (RelL.head (RelL.carry (w' := w') (m' := m0) (d' := d0) { cells := fun b c ty fr hc => ⟨c, hc, rfl⟩, size := Nat.le_refl _, ro := fun b _ hx => ⟨fun h' => hx ?_, rfl⟩, ids := fun id q hq => .inl hq, dead := fun _ h => h } g3 (fun _ _ => rfl)))
        rcases h' with h' | h'
        · exact .inl h'
        · exact .inr (hown b h')
    have hf : ∀ y, y = x → (∀ i, y ≠ .exit i) → ∃ us, resE s' F.results = some us ∧ finP 0 s'.mem (oneRes us) = some (res, []) := by
      rintro y rfl hne
      cases y with
      | exit i => exact absurd rfl (hne i)
      | normal => exact bnd_eq (show bnd (resE s' F.results) (fun vs => finP 0 s'.mem (oneRes vs)) = _ from h2)
      | ret => exact bnd_eq (show bnd (resE s' F.results) (fun vs => finP 0 s'.mem (oneRes vs)) = _ from h2)
    cases e with
    | normal => obtain ⟨s1, k1, k2, k3⟩ := he; exact fin s1 k1 k3 (hf _ k2 (fun i h => by cases h))
    | ret => obtain ⟨s1, k1, k2, k3⟩ := he; exact fin s1 k1 k3 (hf _ k2 (fun i h => by cases h))
    | exit id => obtain ⟨s1, k1, k2, k3⟩ := he; subst k2; cases h2
    | _ => exact he.elim
theorem runB_step (hm : P.follows .mixedOrders = true) (hTT : ∀ t U, TT.get t = some U → tyOf P t = some U) {f : FuncId} {F : EF} (hT : COk P TT pures f F) {call : CallF} {n : Nat} (hcall : CallsOk P call) (sh : Wd) :
    ∀ args mem res mem', runB call n F args mem = some (res, mem') → xokT (wid sh res) = true → BCall P f args mem (wid sh res) mem' := by
    intro args mem res mem' h hcl
    unfold runB at h
    split at h
    case isFalse => cases h
    rename_i hN
    obtain ⟨⟨x, s'⟩, h1, h2⟩ := bnd_eq h
    obtain ⟨fn, hfn, hc, hok⟩ := hT
    obtain ⟨c, hb, hname, hbody, hres, hnt⟩ := compileF_spec hc
    intro Y w0 F0 d m Fs w vs hfr hr ha
    have hlen := ha.length
    have hN' : args.length ≤ fn.ntmps := by
      have : (eraseF F).ntmps = fn.ntmps := hnt
      rw [← this]; exact hN
    refine .of_calls hfn hname hb (calls_of_wp hfn hb ?_)
    have hrs : RelS ⟨w, m, d, XOf Y m Fs⟩ Y w0 F0 fn.ntmps ⟨enumA 0 args, mem⟩ { tmps := vs.toArray ++ Array.replicate (fn.ntmps - vs.toArray.size) Go.undef, defers := [] } w :=
      ⟨d, m, Fs, hr, hfr, fun t => start_rel (by omega) ha t, rfl, by simp; omega, Carry.refl⟩
    have lt_of : ∀ id, ¬ (m id = none ∧ ¬ d id) → id < mem.length := fun id hn => by
      by_cases hlt : id < mem.length
      · exact hlt
      · exact absurd (hfr id (by omega)) hn
    refine wp_mono (evC_sound hm hTT hcall ⟨fun id h => lt_of id fun hh => h hh.1, fun id h => lt_of id fun hh => hh.2 h⟩ F.body hbody hok h1 hrs) (fun e a w' he => ?_)
    have fin : ∀ s1, RelS ⟨w, m, d, XOf Y m Fs⟩ Y w0 F0 fn.ntmps s1 a w' → s1 = s' → (∃ us, resE s' F.results = some us ∧ finP mem.length s'.mem (oneRes us) = some (res, mem')) →
        a.defers = [] ∧ ∃ v, (results fn a.tmps).run P w' = .ok v w' ∧ ∃ d' m' Fs', RelW Y w0 F0 (liveOf mem') d' m' Fs' w' ∧ (∀ t, mem'.length ≤ t → m' t = none ∧ ¬ d' t) ∧ Carry w w' m m' d d' (XOf Y m Fs) (XOf Y m' Fs') ∧ R Y w' m' d' Fs' (wid sh res) v := by
      rintro s1 ⟨d', m', Fs', r1, r2, r3, r4, r5, r6⟩ rfl ⟨us, hus, hfin⟩
      obtain ⟨vs', as, e1, e2, e3⟩ := res_sound hTT r1 r3 hres (show resWp s1 F.results _ from resE_wp hus)
      subst e3
      refine ⟨r4, _, results_run e1, ?_⟩
      have hv : R Y w' m' d' Fs' (oneRes as) (oneVal vs') := oneRes_rel e2
      unfold finP at hfin
      split at hfin
      case isFalse => cases hfin
      rename_i hnd
      simp only [Option.some.injEq, Prod.mk.injEq] at hfin
      obtain ⟨rfl, rfl⟩ := hfin
      obtain ⟨hn1, hn2, _⟩ := List.nodup_append.1 (nodupNat_spec hnd)
      have hup : (upto mem.length).Nodup := upto_nodup _
      obtain ⟨Fs2, p1, p2, _⟩ := r1.pack hup 4 hn1
      have hX : ∀ b, XOf Y (mOf (upto mem.length) m') Fs2 b → XOf Y m' Fs' b := fun b hb => by
        rcases hb with hb | hb
        · exact .inl hb
        · exact .inr (p2 b hb)
      have hone : idsL (up (idx (upto mem.length)) (liveOf s1.mem) 4) [oneRes as] = idsV (up (idx (upto mem.length)) (liveOf s1.mem) 4) (oneRes as) := by simp [idsL]
      obtain ⟨G, _, g3⟩ := pack_sound r1 (idx (upto mem.length)) (m' := mOf (upto mem.length) m') (d' := dOf (upto mem.length) d') (X' := XOf Y (mOf (upto mem.length) m') Fs2)
        (fun id k hi => mOf_at (idx_some hi)) (fun id k hi hd => by rw [dOf_at (idx_some hi)]; exact hd) hX 4 (RelL.single hv)
        (by rw [hone]; exact ⟨List.nodup_nil, hn2, fun _ h => by cases h⟩)
      have hul : ∀ b, (upto b).length = b := fun b => by
        induction b with
        | zero => rfl
        | succ b ih => show (upto b ++ [b]).length = _; simp [ih]
      refine ⟨_, _, Fs2, p1, fun t ht => ?_, ?_, RelV.xokT (wid_sound sh (RelL.head g3)) hcl⟩
      · have hn : (upto mem.length)[t]? = none := by
          rw [List.getElem?_eq_none_iff]
          simpa [packM] using ht
        simp [mOf, dOf, hn]
      refine { cells := r6.cells, size := r6.size, ro := fun b hb hx => ?_, ids := fun id q hq => ?_, dead := fun id hd => ?_ }
      · obtain ⟨q1, q2⟩ := r6.ro b hb hx
        exact ⟨fun h => q1 (hX b h), q2⟩
      · have hlt := lt_of id (fun hh => by rw [hh.1] at hq; cases hq)
        rw [mOf_at (upto_get _ id hlt), dOf_at (upto_get _ id hlt)]
        exact r6.ids id q hq
      · have hlt := lt_of id (fun hh => hh.2 hd)
        rw [dOf_at (upto_get _ id hlt)]
        exact r6.dead id hd
    have hf : ∀ y, y = x → (∀ i, y ≠ .exit i) → ∃ us, resE s' F.results = some us ∧ finP mem.length s'.mem (oneRes us) = some (res, mem') := by
      rintro y rfl hne
      cases y with
      | exit i => exact absurd rfl (hne i)
      | normal => exact bnd_eq (show bnd (resE s' F.results) (fun vs => finP mem.length s'.mem (oneRes vs)) = _ from h2)
      | ret => exact bnd_eq (show bnd (resE s' F.results) (fun vs => finP mem.length s'.mem (oneRes vs)) = _ from h2)
    cases e with
    | normal => obtain ⟨s1, k1, k2, k3⟩ := he; exact fin s1 k1 k3 (hf _ k2 (fun i h => by cases h))
    | ret => obtain ⟨s1, k1, k2, k3⟩ := he; exact fin s1 k1 k3 (hf _ k2 (fun i h => by cases h))
    | exit id => obtain ⟨s1, k1, k2, k3⟩ := he; subst k2; cases h2
    | _ => exact he.elim
theorem ACalls.wid {f : FuncId} {args : List AV} {res : AV} (sh : Wd) (h : ACalls P f args res) : ACalls P f args (wid sh res) := by
  intro Y w vs ha
  refine Calls.mono (h Y w vs ha) (fun e w' he => ?_)
  cases e with
  | returned v =>
    obtain ⟨F, h1, h2, h3, h4⟩ := he
    exact ⟨F, h1, h2, wid_sound sh h3, h4⟩
  | _ => exact he
theorem finW_eq {w : Wd} {r : Option (AV × Mem)} {v : AV} {m : Mem} (h : finW w r = some (v, m)) : ∃ u, r = some (u, m) ∧ v = wid w u := by
  cases r with
  | none => cases h
  | some p => obtain ⟨u, k⟩ := p; cases h; exact ⟨u, rfl, rfl⟩
theorem upto_len (b : Nat) : (upto b).length = b := by
  induction b with
  | zero => rfl
  | succ b ih => simp [upto, ih]
theorem finP_len {b : Nat} {mem m : Mem} {res v : AV} (h : finP b mem res = some (v, m)) : m.length = b := by
  unfold finP at h
  split at h
  · cases h
    unfold packM
    rw [List.length_map, upto_len]
  · cases h
theorem runB_len {call : CallF} {n : Nat} {F : EF} {args : List AV} {mem m : Mem} {v : AV} (h : runB call n F args mem = some (v, m)) : m.length = mem.length := by
  unfold runB at h
  split at h
  · obtain ⟨⟨x, s⟩, _, h2⟩ := bnd_eq h
    cases x with
    | exit i => cases h2
    | normal => obtain ⟨vs, _, h3⟩ := bnd_eq (show bnd (resE s F.results) _ = _ from h2); exact finP_len h3
    | ret => obtain ⟨vs, _, h3⟩ := bnd_eq (show bnd (resE s F.results) _ = _ from h2); exact finP_len h3
  · cases h
theorem runF_at {n : Nat} {f : FuncId} {args : List AV} {mem : Mem} {r : AV × Mem} (h : runF T (n + 1) f args mem = some r) : ∃ F, T f = some F ∧ orcE (finW F.ful (runB (runF T n) n F args mem)) args mem F.orc = some r := by
  simp only [runF] at h
  split at h
  · exact ⟨_, by assumption, h⟩
  · cases h
theorem runF_step (hm : P.follows .mixedOrders = true) (hTT : ∀ t U, TT.get t = some U → tyOf P t = some U) (hT : TOk P TT pures T) {n : Nat} (hcall : CallsOk P (runF T n)) : ∀ f args res, runF T (n + 1) f args [] = some (res, []) → ACalls P f args res := by
  intro f args res h
  obtain ⟨F, hF, h⟩ := runF_at h
  rcases hT f F hF with ⟨ho, hc⟩ | ⟨g, ho, hg⟩
  · rw [ho] at h
    obtain ⟨u, h1, rfl⟩ := finW_eq (show finW F.ful (runB (runF T n) n F args []) = some (res, []) from h)
    exact ACalls.wid F.ful (runA_step hm hTT hc hcall args u h1)
  · rw [ho] at h
    exact hg.pure args res h
theorem runF_calls (hm : P.follows .mixedOrders = true) (hTT : ∀ t U, TT.get t = some U → tyOf P t = some U) (hT : TOk P TT pures T) : ∀ n, CallsOk P (runF T n) := by
  intro n
  induction n with
  | zero => exact ⟨fun f args res h => by simp [runF] at h, fun f args mem res mem' h => by simp [runF] at h, fun f args mem res h => by simp [runF] at h⟩
  | succ n ih =>
    refine ⟨fun f args res h => ?_, fun f args mem res mem' h hcl hln => ?_, fun f args mem res h => ?_⟩
    · obtain ⟨F, hF, _⟩ := runF_at h
      have hb : ∃ fn c, P.funcs[f]? = some fn ∧ (fn.name == "runtime.NumGoroutine") = false ∧ fn.body = some c := by
        rcases hT f F hF with ⟨_, fn, hfn, hc, _⟩ | ⟨g, _, hg⟩
        · obtain ⟨c, hb, hname, _⟩ := compileF_spec hc
          exact ⟨fn, c, hfn, hname, hb⟩
        · exact hg.fn
      obtain ⟨fn, c, hfn, hname, hb⟩ := hb
      exact fun Y w vs ha => .of_calls hfn hname hb (runF_step hm hTT hT ih f args res h Y w vs ha)
    · obtain ⟨F, hF, h⟩ := runF_at h
      rcases hT f F hF with ⟨ho, hc⟩ | ⟨g, ho, hg⟩
      · rw [ho] at h
        obtain ⟨u, h1, rfl⟩ := finW_eq (show finW F.ful (runB (runF T n) n F args mem) = some (res, mem') from h)
        exact runB_step hm hTT hc ih F.ful args mem u mem' h1 hcl
      · rw [ho] at h
        exact hg.wr args mem res mem' h hcl hln
    · obtain ⟨F, hF, h⟩ := runF_at h
      rcases hT f F hF with ⟨ho, hc⟩ | ⟨g, ho, hg⟩
      · rw [ho] at h
        obtain ⟨u, h1, rfl⟩ := finW_eq (show finW F.ful (runB (runF T n) n F args (none :: mem)) = some (res, []) from h)
        have := runB_len h1
        cases this
      · rw [ho] at h
        exact hg.qt args mem res h
theorem runF_sound (hm : P.follows .mixedOrders = true) (hTT : ∀ t U, TT.get t = some U → tyOf P t = some U) (hT : TOk P TT pures T) : ∀ n f args res, runF T n f args [] = some (res, []) → ACalls P f args res := by
  intro n f args res h
  cases n with
  | zero => simp [runF] at h
  | succ n => exact runF_step hm hTT hT (runF_calls hm hTT hT n) f args res h
end
open Classical in
noncomputable def lim {α : Type} (A : Nat → Option α) : Option α := if h : ∃ n, A n ≠ none then A h.choose else none
def Mono {α : Type} (A : Nat → Option α) : Prop := ∀ n v, A n = some v → A (n + 1) = some v
theorem Mono.le {α : Type} {A : Nat → Option α} (h : Mono A) {n k : Nat} {v : α} (ha : A n = some v) (hk : n ≤ k) : A k = some v := by
  obtain ⟨j, rfl⟩ : ∃ j, k = n + j := ⟨k - n, by omega⟩
  clear hk
  induction j with
  | zero => exact ha
  | succ j ih => exact h _ _ ih
theorem lim_eq {α : Type} {A : Nat → Option α} (h : Mono A) {n : Nat} {v : α} (ha : A n = some v) : lim A = some v := by
  have hx : ∃ n, A n ≠ none := ⟨n, by rw [ha]; simp⟩
  unfold lim
  rw [dif_pos hx]
  have h1 := hx.choose_spec
  cases hc : A hx.choose with
  | none => exact absurd hc h1
  | some u =>
    have e1 := h.le hc (Nat.le_max_left hx.choose n)
    have e2 := h.le ha (Nat.le_max_right hx.choose n)
    rw [e1] at e2; exact e2
theorem lim_some {α : Type} {A : Nat → Option α} {v : α} (h : lim A = some v) : ∃ n, A n = some v := by
  unfold lim at h
  split at h
  · exact ⟨_, h⟩
  · cases h
theorem lim_ext {α : Type} {A B : Nat → Option α} (ha : Mono A) (hb : Mono B) (h : ∀ v, (∃ n, A n = some v) ↔ ∃ n, B n = some v) : lim A = lim B := by
  cases e : lim A with
  | some v =>
    obtain ⟨n, hn⟩ := (h v).1 (lim_some e)
    exact (lim_eq hb hn).symm
  | none =>
    cases e' : lim B with
    | none => rfl
    | some v =>
      obtain ⟨n, hn⟩ := (h v).2 (lim_some e')
      rw [lim_eq ha hn] at e; cases e
theorem lim_const {α : Type} (a : Option α) : lim (fun _ => a) = a := by
  cases a with
  | some v => exact lim_eq (A := fun _ => some v) (fun _ _ h => h) (n := 0) rfl
  | none =>
    cases e : lim (fun _ : Nat => (none : Option α)) with
    | none => rfl
    | some v => obtain ⟨n, hn⟩ := lim_some e; cases hn
theorem lim_shift {α : Type} {A : Nat → Option α} (ha : Mono A) : lim (fun n => A (n + 1)) = lim A :=
  lim_ext (fun n v h => ha _ _ h) ha (fun v => ⟨fun ⟨n, h⟩ => ⟨n + 1, h⟩, fun ⟨n, h⟩ => ⟨n, ha _ _ h⟩⟩)
theorem lim_bnd {α β : Type} {A : Nat → Option α} {B : Nat → α → Option β} (ha : Mono A) (hb : ∀ x, Mono (fun n => B n x)) : lim (fun n => bnd (A n) (B n)) = bnd (lim A) (fun x => lim (fun n => B n x)) := by
  have hm : Mono (fun n => bnd (A n) (B n)) := fun n v h => by
    obtain ⟨x, h1, h2⟩ := bnd_eq h
    show bnd _ _ = _
    rw [ha _ _ h1]; exact hb x _ _ h2
  cases e : lim A with
  | none =>
    cases e' : lim (fun n => bnd (A n) (B n)) with
    | none => rfl
    | some v =>
      obtain ⟨n, hn⟩ := lim_some e'
      obtain ⟨x, h1, h2⟩ := bnd_eq hn
      rw [lim_eq ha h1] at e; cases e
  | some x =>
    show _ = lim (fun n => B n x)
    refine lim_ext hm (hb x) (fun v => ⟨fun ⟨n, h⟩ => ?_, fun ⟨n, h⟩ => ?_⟩)
    · obtain ⟨y, h1, h2⟩ := bnd_eq h
      rw [lim_eq ha h1] at e; cases e
      exact ⟨n, h2⟩
    · obtain ⟨k, hk⟩ := lim_some e
      refine ⟨max n k, ?_⟩
      show bnd _ _ = _
      rw [ha.le hk (Nat.le_max_right ..)]
      exact (hb x).le h (Nat.le_max_left ..)
theorem Mono.bnd {α β : Type} {A : Nat → Option α} {B : Nat → α → Option β} (ha : Mono A) (hb : ∀ x, Mono (fun n => B n x)) : Mono (fun n => bnd (A n) (B n)) := fun n v h => by
  obtain ⟨x, h1, h2⟩ := bnd_eq h
  show Abs.bnd _ _ = _
  rw [ha _ _ h1]; exact hb x _ _ h2
theorem Mono.const {α : Type} (a : Option α) : Mono (fun _ => a) := fun _ _ h => h
end Go.Abs
