/- Part 11 of the texts of a claim, joined by a program of ours (ZXc). No condition. -/
import Derived.Test.YtaaajjinpppgeaaGreatP5j
set_option linter.unusedVariables false
set_option linter.unusedSimpArgs false
set_option linter.unusedSectionVars false
namespace Go.Proofs.YtaaajjinpppgeaaGreat
open Go Go.Abs
set_option maxRecDepth 100000
theorem look_if (a0 a1 a2 : AV) (id off n : Nat) (p : Int) (m : Mem) : E TN 193 [.agg [a0, a1, a2, .sl id off n], .int .i64 p] (none :: m) = if n ≤ 1048576 ∧ (liveOf m id).isSome = true then (if 1 ≤ p ∧ p ≤ (n : Int) then lookR m off p (liveOf m id) else some (.tup [.agg [.bool false, .nil, .str ⟨#[]⟩], .bool false], [])) else none := by
  rw [q193]; rfl
theorem lookR_at {m : Mem} {off : Nat} {p : Int} {xs : List AV} {d : Bool} {i2 o2 n2 : Nat} {s : ByteArray} (h : xs[off + (p.toNat - 1)]? = some (.agg [.bool d, .sl i2 o2 n2, .str s])) :
    lookR m off p (some (3, xs)) = if (liveOf m i2).isSome = true then some (.tup [.agg [.bool d, .sl i2 o2 n2, .str s], .bool true], []) else none := by
  simp only [lookR, h]
def m12 (x : Dsk) (I B : List AV) (y : Ino) (dirs seen : List Int) (names : List ByteArray) : Mem :=
  [some (4, [.agg [.nil, .nil, .nil, .nil]]), some (4, [.agg [.own 1 (x.used.map bv), .own 1 (x.taken.map bv), .sl 6 0 8, .sl 7 0 16]]), some (1, dirs.map iv), some (1, seen.map iv), some (3, [.agg [.int .i64 y.kind, .int .i64 y.links, .sl 8 0 2]]), some (1, names.map sv),
    some (3, I), some (3, B), some (1, y.ptrs.map iv)]
def r12 (x : Dsk) (I : List AV) (i : Nat) (y : Ino) (k : Nat) (st : NmB) : St :=
  ⟨[(2, .ptr 0 0 0), (3, .ptr 1 0 0), (4, .sl 2 0 st.dirs.length), (5, .sl 3 0 st.seen.length), (6, .int .i64 (i : Nat)), (7, .ptr 4 0 0), (8, .sl 5 0 st.names.length), (9, .int .i64 (k : Nat))],
   m12 x (I.set i (.agg [.int .i64 y.kind, .int .i64 y.links, .sl 8 0 2])) (st.blks.map blkO) y st.dirs st.seen st.names⟩
theorem st12z (x : Dsk) (hl : x.inos.length = 8) (i : Nat) (hi : i < 8) (y : Ino) (hyi : x.inos[i]? = some y) (hy2 : y.ptrs.length = 2) (hyk : y.kind = 2) (k : Nat) (hpk : y.ptrs[k]? = some 0) (st : NmB) (hb : st.blks.length = 16) :
    XG TN 0 H99_12 L99_12 (r12 x (x.inos.map inoO) i y k st) = some (.normal, r12 x (x.inos.map inoO) i y (k + 1) st) := by
  have hk2 : k < 2 := by have := (List.getElem?_eq_some_iff.1 hpk).1; omega
  have k2 : (k : Int) < (2 : Int) := by omega
  have gpp : (y.ptrs.map iv).getD k .undef = .int .i64 0 := gD_map hpk
  have yk : decide (y.kind = 2) = true := by simpa using hyk
  have e1 : ¬ ((1 : Int) ≤ 0 ∧ (0 : Int) ≤ ((16 : Nat) : Int)) := by omega
  have e2 : (16 : Nat) ≤ 1048576 := by decide
  obtain ⟨I, hI⟩ : ∃ I, x.inos.map inoO = I := ⟨_, rfl⟩
  have imi : ∀ g, mapIdL g I = I := fun g => by rw [← hI]; exact mi_map g inoO x.inos inoO_cool
  have ims : ∀ u, idsL u I = [] := fun u => by rw [← hI]; exact is_map u inoO x.inos inoO_cool
  have il : I.length = 8 := by rw [← hI]; simp [hl]
  have isg : ∀ v : AV, (I.set i v).getD i .undef = v := fun v => by rw [List.getD, List.getElem?_set_self (by omega)]; rfl
  have iss : ∀ v w : AV, (I.set i v).set i w = I.set i w := fun v w => by rw [List.set_set]
  obtain ⟨B, hB⟩ : ∃ B, st.blks.map blkO = B := ⟨_, rfl⟩
  have bmi : ∀ g, mapIdL g B = B := fun g => by rw [← hB]; exact mi_map g blkO st.blks blkO_cool
  have bms : ∀ u, idsL u B = [] := fun u => by rw [← hB]; exact is_map u blkO st.blks blkO_cool
  have bl : B.length = 16 := by rw [← hB]; simp [hb]
  have wk := w_i64 ((k : Int) + 1) (by omega)
  have tu : (x.used.map bv).take x.used.length = x.used.map bv := List.take_of_length_le (by simp)
  have tt : (x.taken.map bv).take x.taken.length = x.taken.map bv := List.take_of_length_le (by simp)
  unfold r12 m12
  rw [hB, hI]
  simp only [XG, L99_12, h99_12, go_sem, seval, bnd_ite, look_if, e1, e2, Option.isSome_some, and_self, hk2, k2, hy2, gpp, yk, imi, ims, il, isg, iss, bmi, bms, bl, is_set, hi, wk, tu, tt, bv_mi, bv_is, iv_mi, iv_is, sv_mi, sv_is, Int.natCast_nonneg, Bool.not_false, Bool.not_true, Bool.false_eq_true, if_false, if_true]
  first | done | rfl
theorem st12n (x : Dsk) (hl : x.inos.length = 8) (i : Nat) (hi : i < 8) (y : Ino) (hyi : x.inos[i]? = some y) (hy2 : y.ptrs.length = 2) (hyk : y.kind = 2) (k : Nat) (p : Int) (hp1 : 1 ≤ p) (hp2 : p ≤ 16) (hpk : y.ptrs[k]? = some p) (st : NmB) (hb : st.blks.length = 16) (b : Blk) (hbk : st.blks[(p - 1).toNat]? = some b) (hd : b.dir = false) :
    XG TN 0 H99_12 L99_12 (r12 x (x.inos.map inoO) i y k st) = some (.normal, r12 x (x.inos.map inoO) i y (k + 1) st) := by
  have hk2 : k < 2 := by have := (List.getElem?_eq_some_iff.1 hpk).1; omega
  have k2 : (k : Int) < (2 : Int) := by omega
  have gpp : (y.ptrs.map iv).getD k .undef = .int .i64 p := gD_map hpk
  have yk : decide (y.kind = 2) = true := by simpa using hyk
  obtain ⟨kk, hkk⟩ : ∃ kk : Nat, (p - 1).toNat = kk := ⟨_, rfl⟩
  rw [hkk] at hbk
  have hk16 : kk < 16 := by omega
  have e1 : ((1 : Int) ≤ p ∧ p ≤ ((16 : Nat) : Int)) := by omega
  have e2 : (16 : Nat) ≤ 1048576 := by decide
  have p0 : (0 : Int) ≤ p + -1 := by omega
  have pk : (p + -1).toNat = kk := by omega
  obtain ⟨I, hI⟩ : ∃ I, x.inos.map inoO = I := ⟨_, rfl⟩
  have imi : ∀ g, mapIdL g I = I := fun g => by rw [← hI]; exact mi_map g inoO x.inos inoO_cool
  have ims : ∀ u, idsL u I = [] := fun u => by rw [← hI]; exact is_map u inoO x.inos inoO_cool
  have il : I.length = 8 := by rw [← hI]; simp [hl]
  have isg : ∀ v : AV, (I.set i v).getD i .undef = v := fun v => by rw [List.getD, List.getElem?_set_self (by omega)]; rfl
  have iss : ∀ v w : AV, (I.set i v).set i w = I.set i w := fun v w => by rw [List.set_set]
  have gb : (st.blks.map blkO).getD kk .undef = .agg [.bool b.dir, .own 2 (b.slots.map slt), .str b.text] := gD_map hbk
  have bself : (st.blks.map blkO).set kk (.agg [.bool b.dir, .own 2 (b.slots.map slt), .str b.text]) = st.blks.map blkO := set_self (by rw [List.getElem?_map, hbk]; rfl)
  obtain ⟨B, hB⟩ : ∃ B, st.blks.map blkO = B := ⟨_, rfl⟩
  rw [hB] at gb bself
  have bmi : ∀ g, mapIdL g B = B := fun g => by rw [← hB]; exact mi_map g blkO st.blks blkO_cool
  have bms : ∀ u, idsL u B = [] := fun u => by rw [← hB]; exact is_map u blkO st.blks blkO_cool
  have bl : B.length = 16 := by rw [← hB]; simp [hb]
  have sg : ∀ v : AV, (B.set kk v).getD kk .undef = v := fun v => by rw [List.getD, List.getElem?_set_self (by omega)]; rfl
  have ss : ∀ v w : AV, (B.set kk v).set kk w = B.set kk w := fun v w => by rw [List.set_set]
  have lr : ∀ (m : Mem) (d : Bool) (i2 o2 n2 : Nat) (s : ByteArray), lookR m 0 p (some (3, B.set kk (.agg [.bool d, .sl i2 o2 n2, .str s]))) = if (liveOf m i2).isSome = true then some (.tup [.agg [.bool d, .sl i2 o2 n2, .str s], .bool true], []) else none := fun m d i2 o2 n2 s =>
    lookR_at (by rw [show 0 + (p.toNat - 1) = kk by omega, List.getElem?_set_self (by omega)])
  have wk := w_i64 ((k : Int) + 1) (by omega)
  have tu : (x.used.map bv).take x.used.length = x.used.map bv := List.take_of_length_le (by simp)
  have tt : (x.taken.map bv).take x.taken.length = x.taken.map bv := List.take_of_length_le (by simp)
  have tkS : (b.slots.map slt).take b.slots.length = b.slots.map slt := List.take_of_length_le (by simp)
  have tsn : (st.seen.map iv).take st.seen.length = st.seen.map iv := List.take_of_length_le (by simp)
  have snc := iv_coR st.seen
  have sni := iv_ic st.seen
  unfold r12 m12
  rw [hB, hI]
  rw [hd] at gb bself
  simp only [XG, L99_12, h99_12, go_sem, seval, bnd_ite, look_if, lr, hp1, hp2, e2, p0, pk, Option.isSome_some, and_self, hk2, k2, hy2, gpp, yk, imi, ims, il, isg, iss, gb, bself, bmi, bms, bl, sg, ss, is_set, hi, hk16, wk, tu, tt, tkS, tsn, snc, sni, bv_mi, bv_is, iv_mi, iv_is, sv_mi, sv_is, Int.natCast_nonneg, Bool.not_false, Bool.not_true, Bool.false_eq_true, if_false, if_true]
  first | done | rfl
theorem st12h (x : Dsk) (hl : x.inos.length = 8) (i : Nat) (hi : i < 8) (y : Ino) (hyi : x.inos[i]? = some y) (hy2 : y.ptrs.length = 2) (hyk : y.kind = 2) (k : Nat) (p : Int) (hp1 : 1 ≤ p) (hp2 : p ≤ 16) (hpk : y.ptrs[k]? = some p) (st : NmB) (hb : st.blks.length = 16) (b : Blk) (hbk : st.blks[(p - 1).toNat]? = some b) (hd : b.dir = true) (hsn : st.seen.length ≤ 100000) (hs : p ∈ st.seen) :
    XG TN 0 H99_12 L99_12 (r12 x (x.inos.map inoO) i y k st) = some (.normal, r12 x (x.inos.map inoO) i y (k + 1) st) := by
  have hk2 : k < 2 := by have := (List.getElem?_eq_some_iff.1 hpk).1; omega
  have k2 : (k : Int) < (2 : Int) := by omega
  have gpp : (y.ptrs.map iv).getD k .undef = .int .i64 p := gD_map hpk
  have yk : decide (y.kind = 2) = true := by simpa using hyk
  obtain ⟨kk, hkk⟩ : ∃ kk : Nat, (p - 1).toNat = kk := ⟨_, rfl⟩
  rw [hkk] at hbk
  have hk16 : kk < 16 := by omega
  have e1 : ((1 : Int) ≤ p ∧ p ≤ ((16 : Nat) : Int)) := by omega
  have e2 : (16 : Nat) ≤ 1048576 := by decide
  have p0 : (0 : Int) ≤ p + -1 := by omega
  have pk : (p + -1).toNat = kk := by omega
  obtain ⟨I, hI⟩ : ∃ I, x.inos.map inoO = I := ⟨_, rfl⟩
  have imi : ∀ g, mapIdL g I = I := fun g => by rw [← hI]; exact mi_map g inoO x.inos inoO_cool
  have ims : ∀ u, idsL u I = [] := fun u => by rw [← hI]; exact is_map u inoO x.inos inoO_cool
  have il : I.length = 8 := by rw [← hI]; simp [hl]
  have isg : ∀ v : AV, (I.set i v).getD i .undef = v := fun v => by rw [List.getD, List.getElem?_set_self (by omega)]; rfl
  have iss : ∀ v w : AV, (I.set i v).set i w = I.set i w := fun v w => by rw [List.set_set]
  have gb : (st.blks.map blkO).getD kk .undef = .agg [.bool b.dir, .own 2 (b.slots.map slt), .str b.text] := gD_map hbk
  have bself : (st.blks.map blkO).set kk (.agg [.bool b.dir, .own 2 (b.slots.map slt), .str b.text]) = st.blks.map blkO := set_self (by rw [List.getElem?_map, hbk]; rfl)
  obtain ⟨B, hB⟩ : ∃ B, st.blks.map blkO = B := ⟨_, rfl⟩
  rw [hB] at gb bself
  have bmi : ∀ g, mapIdL g B = B := fun g => by rw [← hB]; exact mi_map g blkO st.blks blkO_cool
  have bms : ∀ u, idsL u B = [] := fun u => by rw [← hB]; exact is_map u blkO st.blks blkO_cool
  have bl : B.length = 16 := by rw [← hB]; simp [hb]
  have sg : ∀ v : AV, (B.set kk v).getD kk .undef = v := fun v => by rw [List.getD, List.getElem?_set_self (by omega)]; rfl
  have ss : ∀ v w : AV, (B.set kk v).set kk w = B.set kk w := fun v w => by rw [List.set_set]
  have lr : ∀ (m : Mem) (d : Bool) (i2 o2 n2 : Nat) (s : ByteArray), lookR m 0 p (some (3, B.set kk (.agg [.bool d, .sl i2 o2 n2, .str s]))) = if (liveOf m i2).isSome = true then some (.tup [.agg [.bool d, .sl i2 o2 n2, .str s], .bool true], []) else none := fun m d i2 o2 n2 s =>
    lookR_at (by rw [show 0 + (p.toNat - 1) = kk by omega, List.getElem?_set_self (by omega)])
  have wk := w_i64 ((k : Int) + 1) (by omega)
  have tu : (x.used.map bv).take x.used.length = x.used.map bv := List.take_of_length_le (by simp)
  have tt : (x.taken.map bv).take x.taken.length = x.taken.map bv := List.take_of_length_le (by simp)
  have tkS : (b.slots.map slt).take b.slots.length = b.slots.map slt := List.take_of_length_le (by simp)
  have tsn : (st.seen.map iv).take st.seen.length = st.seen.map iv := List.take_of_length_le (by simp)
  have snc := iv_coR st.seen
  have sni := iv_ic st.seen
  have e3 := n126 st.seen p (by unfold maxLen; omega)
  rw [decide_eq_true hs] at e3
  unfold r12 m12
  rw [hB, hI]
  rw [hd] at gb bself
  simp only [XG, L99_12, h99_12, go_sem, seval, bnd_ite, e3, look_if, lr, hp1, hp2, e2, p0, pk, Option.isSome_some, and_self, hk2, k2, hy2, gpp, yk, imi, ims, il, isg, iss, gb, bself, bmi, bms, bl, sg, ss, is_set, hi, hk16, wk, tu, tt, tkS, tsn, snc, sni, bv_mi, bv_is, iv_mi, iv_is, sv_mi, sv_is, Int.natCast_nonneg, Bool.not_false, Bool.not_true, Bool.false_eq_true, if_false, if_true]
  first | done | rfl
end Go.Proofs.YtaaajjinpppgeaaGreat
namespace Go.Proofs.YtaaajjinpppgeaaGreat
open Go Go.Abs
set_option maxRecDepth 100000
theorem st12s (x : Dsk) (hl : x.inos.length = 8) (i : Nat) (hi : i < 8) (y : Ino) (hyi : x.inos[i]? = some y) (hy2 : y.ptrs.length = 2) (hyk : y.kind = 2) (k : Nat) (p : Int) (hp1 : 1 ≤ p) (hp2 : p ≤ 16) (hpk : y.ptrs[k]? = some p) (st : NmB) (hb : st.blks.length = 16) (b : Blk) (hbk : st.blks[(p - 1).toNat]? = some b) (hd : b.dir = true) (hsn : st.seen.length ≤ 100000) (hs : p ∉ st.seen) (hgb : goodB b) (hS4 : b.slots.length = 4) (hn : st.names.length ≤ 1000) (hdl : st.dirs.length ≤ 1000) :
    XG TN 0 H99_12 L99_12 (r12 x (x.inos.map inoO) i y k st) = some (.normal, r12 x (x.inos.map inoO) i y (k + 1) (sweep x.inos st p)) := by
  have hk2 : k < 2 := by have := (List.getElem?_eq_some_iff.1 hpk).1; omega
  have k2 : (k : Int) < (2 : Int) := by omega
  have gpp : (y.ptrs.map iv).getD k .undef = .int .i64 p := gD_map hpk
  have yk : decide (y.kind = 2) = true := by simpa using hyk
  obtain ⟨kk, hkk⟩ : ∃ kk : Nat, (p - 1).toNat = kk := ⟨_, rfl⟩
  rw [hkk] at hbk
  have hk16 : kk < 16 := by omega
  have e1 : ((1 : Int) ≤ p ∧ p ≤ ((16 : Nat) : Int)) := by omega
  have e2 : (16 : Nat) ≤ 1048576 := by decide
  have p0 : (0 : Int) ≤ p + -1 := by omega
  have pk : (p + -1).toNat = kk := by omega
  obtain ⟨⟨yx, r2⟩, k1, kx, e, ke, l2, l3, l4, l5, l6, l7, l8, l9⟩ := lp18 x hl st.blks i hi y hyi hy2 kk hk16 hb b hd p (by omega) k hpk st.dirs (st.seen ++ [p]) st.names b.slots hS4 hgb.2 hn hdl
  simp only at kx ke
  subst kx; subst ke
  have hout := (fold_len x.inos b.slots ⟨[], st.names, st.dirs⟩).1
  simp only [List.length_nil, Nat.zero_add, hS4] at hout
  obtain ⟨I, hI⟩ : ∃ I, x.inos.map inoO = I := ⟨_, rfl⟩
  have imi : ∀ g, mapIdL g I = I := fun g => by rw [← hI]; exact mi_map g inoO x.inos inoO_cool
  have ims : ∀ u, idsL u I = [] := fun u => by rw [← hI]; exact is_map u inoO x.inos inoO_cool
  have il : I.length = 8 := by rw [← hI]; simp [hl]
  have isg : ∀ v : AV, (I.set i v).getD i .undef = v := fun v => by rw [List.getD, List.getElem?_set_self (by omega)]; rfl
  have iss : ∀ v w : AV, (I.set i v).set i w = I.set i w := fun v w => by rw [List.set_set]
  have gb : (st.blks.map blkO).getD kk .undef = .agg [.bool b.dir, .own 2 (b.slots.map slt), .str b.text] := gD_map hbk
  have bself : (st.blks.map blkO).set kk (.agg [.bool b.dir, .own 2 (b.slots.map slt), .str b.text]) = st.blks.map blkO := set_self (by rw [List.getElem?_map, hbk]; rfl)
  unfold sweep
  rw [hkk, hbk]
  simp only
  generalize b.slots.foldl (slStep x.inos) ⟨[], st.names, st.dirs⟩ = Z at *
  obtain ⟨Q, hQ⟩ : ∃ Q, (st.blks.set kk { b with slots := Z.out }).map blkO = Q := ⟨_, rfl⟩
  have hset : (st.blks.map blkO).set kk (.agg [.bool true, .own 2 (Z.out.map slt), .str b.text]) = Q := by rw [← hQ, List.map_set, ← hd]; rfl
  have tQ : Q.take 16 = Q := List.take_of_length_le (by rw [← hQ]; simp [hb])
  obtain ⟨B, hB⟩ : ∃ B, st.blks.map blkO = B := ⟨_, rfl⟩
  rw [hB] at gb bself hset k1
  rw [hI] at k1
  have bmi : ∀ g, mapIdL g B = B := fun g => by rw [← hB]; exact mi_map g blkO st.blks blkO_cool
  have bms : ∀ u, idsL u B = [] := fun u => by rw [← hB]; exact is_map u blkO st.blks blkO_cool
  have bl : B.length = 16 := by rw [← hB]; simp [hb]
  have sg : ∀ v : AV, (B.set kk v).getD kk .undef = v := fun v => by rw [List.getD, List.getElem?_set_self (by omega)]; rfl
  have ss : ∀ v w : AV, (B.set kk v).set kk w = B.set kk w := fun v w => by rw [List.set_set]
  have lr : ∀ (m : Mem) (d : Bool) (i2 o2 n2 : Nat) (s : ByteArray), lookR m 0 p (some (3, B.set kk (.agg [.bool d, .sl i2 o2 n2, .str s]))) = if (liveOf m i2).isSome = true then some (.tup [.agg [.bool d, .sl i2 o2 n2, .str s], .bool true], []) else none := fun m d i2 o2 n2 s =>
    lookR_at (by rw [show 0 + (p.toNat - 1) = kk by omega, List.getElem?_set_self (by omega)])
  have wk := w_i64 ((k : Int) + 1) (by omega)
  have tu : (x.used.map bv).take x.used.length = x.used.map bv := List.take_of_length_le (by simp)
  have tt : (x.taken.map bv).take x.taken.length = x.taken.map bv := List.take_of_length_le (by simp)
  have tkS : (b.slots.map slt).take b.slots.length = b.slots.map slt := List.take_of_length_le (by simp)
  have tsn : (st.seen.map iv).take st.seen.length = st.seen.map iv := List.take_of_length_le (by simp)
  have snc := iv_coR st.seen
  have sni := iv_ic st.seen
  have e3 := n126 st.seen p (by unfold maxLen; omega)
  rw [decide_eq_false hs] at e3
  have tR : (Z.out.map slt).take 4 = Z.out.map slt := List.take_of_length_le (by simp [hout])
  have h4 : (b.slots.map slt).take 4 = b.slots.map slt := List.take_of_length_le (by simp [hS4])
  have san : st.seen.map iv ++ [AV.int .i64 p] = (st.seen ++ [p]).map iv := by rw [List.map_append]; rfl
  have sal : (st.seen ++ [p]).length = st.seen.length + 1 := by simp
  have hap : (st.seen.length + 1) * 8 ≤ 140737488355328 := by omega
  have hs0 : ((0 : Nat) : Int) = 0 := rfl
  rw [hd] at gb
  unfold s18 m18 at k1
  simp only [hs0, sal] at k1
  unfold r12 m12
  rw [hI]
  simp only [hB, hQ]
  simp only [XG, L99_12, h99_12, h99_18, m18, go_sem, seval, bnd_ite, e3, look_if, lr, hp1, hp2, e2, p0, pk, Option.isSome_some, true_and, and_self, hk2, k2, hy2, gpp, yk, imi, ims, il, isg, iss, gb, bmi, bms, bl, sg, ss, is_set, hi, hk16, wk, tu, tt, tkS, tR, tsn, snc, sni, san, sal, hap, hset, tQ, hout, hS4, h4, k1, l2, l3, l4, l5, l6, l7, l8, l9, bv_mi, bv_is, iv_mi, iv_is, sv_mi, sv_is, Int.natCast_nonneg, Bool.not_false, Bool.not_true, Bool.false_eq_true, if_false, if_true]
  first | done | rfl
end Go.Proofs.YtaaajjinpppgeaaGreat
namespace Go.Proofs.YtaaajjinpppgeaaGreat
open Go Go.Abs
set_option maxRecDepth 100000
structure RmI (st : NmB) (n d s : Nat) : Prop where
  len : st.blks.length = 16
  good : ∀ b ∈ st.blks, goodB b
  four : ∀ b ∈ st.blks, b.dir = true → b.slots.length = 4
  names : st.names.length ≤ n
  dirs : st.dirs.length ≤ d
  seen : st.seen.length ≤ s
theorem RmI.mono {st : NmB} {n d s n' d' s' : Nat} (h : RmI st n d s) (hn : n ≤ n') (hd : d ≤ d') (hs : s ≤ s') : RmI st n' d' s' := ⟨h.len, h.good, h.four, by have := h.names; omega, by have := h.dirs; omega, by have := h.seen; omega⟩
theorem sweep_rm (inos : List Ino) {st : NmB} {n d s : Nat} (h : RmI st n d s) (p : Int) (hp1 : 1 ≤ p) (hp2 : p ≤ 16) : RmI (sweep inos st p) (n + 4) (d + 4) (s + 1) := by
  have k := sweep_inv inos (st := st) (n := n) (d := d) ⟨h.len, h.good, h.names, h.dirs⟩ p hp1 hp2
  refine ⟨k.len, k.good, ?_, k.names, k.dirs, ?_⟩
  · have hl := h.len
    obtain ⟨b, hb⟩ := get_at (show (p - 1).toNat < st.blks.length by omega)
    unfold sweep
    rw [hb]
    intro c hc hd
    have hf := (fold_len inos b.slots ⟨[], st.names, st.dirs⟩).1
    simp only [List.length_nil, Nat.zero_add] at hf
    rcases List.mem_or_eq_of_mem_set hc with hc | rfl
    · exact h.four c hc hd
    · show (b.slots.foldl (slStep inos) ⟨[], st.names, st.dirs⟩).out.length = 4
      rw [hf]; exact h.four b (List.mem_of_getElem? hb) hd
  · have := h.seen
    unfold sweep
    split <;> (simp only [List.length_append, List.length_singleton]; omega)
theorem stepR_rm (inos : List Ino) {st : NmB} {n d s : Nat} (h : RmI st n d s) (p : Int) (hp1 : 0 ≤ p) (hp2 : p ≤ 16) : RmI (stepR inos st p) (n + 4) (d + 4) (s + 1) := by
  unfold stepR
  split
  · split
    · rename_i hc
      exact sweep_rm inos h p (by omega) hp2
    · exact h.mono (by omega) (by omega) (by omega)
  · exact h.mono (by omega) (by omega) (by omega)
theorem st12r (x : Dsk) (hl : x.inos.length = 8) (i : Nat) (hi : i < 8) (y : Ino) (hyi : x.inos[i]? = some y) (hy2 : y.ptrs.length = 2) (hyk : y.kind = 2) (k : Nat) (p : Int) (hp1 : 0 ≤ p) (hp2 : p ≤ 16) (hpk : y.ptrs[k]? = some p) (st : NmB) (hI : RmI st 1000 1000 100000) :
    XG TN 0 H99_12 L99_12 (r12 x (x.inos.map inoO) i y k st) = some (.normal, r12 x (x.inos.map inoO) i y (k + 1) (stepR x.inos st p)) := by
  have hb := hI.len
  obtain ⟨b, hbk⟩ := get_at (show (p - 1).toNat < st.blks.length by omega)
  unfold stepR
  rw [hbk]
  simp only
  by_cases h0 : p = 0
  · subst h0
    rw [if_neg (fun h => by omega)]
    exact st12z x hl i hi y hyi hy2 hyk k hpk st hb
  · have hp : 1 ≤ p := by omega
    cases hd : b.dir with
    | false =>
      rw [if_neg (fun h => by cases h.2.1)]
      exact st12n x hl i hi y hyi hy2 hyk k p hp hp2 hpk st hb b hbk hd
    | true =>
      by_cases hs : p ∈ st.seen
      · rw [if_neg (fun h => h.2.2 hs)]
        exact st12h x hl i hi y hyi hy2 hyk k p hp hp2 hpk st hb b hbk hd hI.seen hs
      · rw [if_pos ⟨by omega, rfl, hs⟩]
        have hm := List.mem_of_getElem? hbk
        exact st12s x hl i hi y hyi hy2 hyk k p hp hp2 hpk st hb b hbk hd hI.seen hs (hI.good b hm) (hI.four b hm hd) hI.names hI.dirs
theorem lp12r (x : Dsk) (hl : x.inos.length = 8) (i : Nat) (hi : i < 8) (y : Ino) (hyi : x.inos[i]? = some y) (hy2 : y.ptrs.length = 2) (hyk : y.kind = 2) (hyp : ∀ p ∈ y.ptrs, 0 ≤ p ∧ p ≤ 16) (st : NmB) (d s : Nat) (hI : RmI st 0 d s) (hd : d ≤ 900) (hs : s ≤ 90000) :
    ∃ r, XL TN 0 H99_12 L99_12 (r12 x (x.inos.map inoO) i y 0 st) = some r ∧ r.1 = .exit 2 ∧ RmI (y.ptrs.foldl (stepR x.inos) st) 8 (d + 8) (s + 2) ∧
      lookA r.2.env 2 = .ptr 0 0 0 ∧ lookA r.2.env 3 = .ptr 1 0 0 ∧ lookA r.2.env 4 = .sl 2 0 (y.ptrs.foldl (stepR x.inos) st).dirs.length ∧ lookA r.2.env 5 = .sl 3 0 (y.ptrs.foldl (stepR x.inos) st).seen.length ∧ lookA r.2.env 6 = .int .i64 (i : Nat) ∧ r.2.mem = (r12 x (x.inos.map inoO) i y 0 (y.ptrs.foldl (stepR x.inos) st)).mem := by
  refine XL_each (T := TN) (b := 0) (hd := H99_12) (x := L99_12) y.ptrs (stepR x.inos) (fun k st => r12 x (x.inos.map inoO) i y k st) (fun k st => RmI st (4 * k) (d + 4 * k) (s + k))
    (fun st r => r.1 = .exit 2 ∧ RmI st 8 (d + 8) (s + 2) ∧ lookA r.2.env 2 = .ptr 0 0 0 ∧ lookA r.2.env 3 = .ptr 1 0 0 ∧ lookA r.2.env 4 = .sl 2 0 st.dirs.length ∧ lookA r.2.env 5 = .sl 3 0 st.seen.length ∧ lookA r.2.env 6 = .int .i64 (i : Nat) ∧ r.2.mem = (r12 x (x.inos.map inoO) i y 0 st).mem) (fun k st p hp hk hI => ?_) (fun st hI => ?_) st (by simpa using hI)
  · obtain ⟨p1, p2⟩ := hyp p (List.mem_of_getElem? hp)
    refine ⟨st12r x hl i hi y hyi hy2 hyk k p p1 p2 hp st (hI.mono (by omega) (by omega) (by omega)), ?_⟩
    have := stepR_rm x.inos hI p p1 p2
    exact this.mono (by omega) (by omega) (by omega)
  · rw [hy2] at hI ⊢
    unfold r12 m12
    have c2 : ¬ ((2 : Nat) : Int) < 2 := by omega
    simp only [XG, L99_12, h99_12, go_sem, seval, bnd_ite, hy2, c2, decide_false]
    exact .mk (by simp) ⟨rfl, hI.mono (by omega) (by omega) (by omega), rfl, rfl, rfl, rfl, rfl, rfl⟩
theorem lp12x (x : Dsk) (i : Nat) (y : Ino) (hy2 : y.ptrs.length = 2) (hyk : y.kind ≠ 2) (st : NmB) :
    ∃ r, XL TN 0 H99_12 L99_12 (r12 x (x.inos.map inoO) i y 0 st) = some r ∧ r.1 = .exit 2 ∧
      lookA r.2.env 2 = .ptr 0 0 0 ∧ lookA r.2.env 3 = .ptr 1 0 0 ∧ lookA r.2.env 4 = .sl 2 0 st.dirs.length ∧ lookA r.2.env 5 = .sl 3 0 st.seen.length ∧ lookA r.2.env 6 = .int .i64 (i : Nat) ∧ r.2.mem = (r12 x (x.inos.map inoO) i y 0 st).mem := by
  have yk : decide (y.kind = 2) = false := by simpa using hyk
  have key : Stops (XG TN 0 H99_12 L99_12 (r12 x (x.inos.map inoO) i y 0 st)) (fun r => r.1 = .exit 2 ∧
      lookA r.2.env 2 = .ptr 0 0 0 ∧ lookA r.2.env 3 = .ptr 1 0 0 ∧ lookA r.2.env 4 = .sl 2 0 st.dirs.length ∧ lookA r.2.env 5 = .sl 3 0 st.seen.length ∧ lookA r.2.env 6 = .int .i64 (i : Nat) ∧ r.2.mem = (r12 x (x.inos.map inoO) i y 0 st).mem) := by
    unfold r12 m12
    have c0 : ((0 : Nat) : Int) < 2 := by omega
    simp only [XG, L99_12, h99_12, go_sem, seval, bnd_ite, hy2, c0, yk, decide_true, Bool.and_false, Bool.false_eq_true, if_false]
    exact .mk (by simp) ⟨rfl, rfl, rfl, rfl, rfl, rfl, rfl⟩
  obtain ⟨r, h1, h2, h3⟩ := key
  exact ⟨r, XL_out h1 h2, h3⟩
end Go.Proofs.YtaaajjinpppgeaaGreat
namespace Go.Proofs.YtaaajjinpppgeaaGreat
open Go Go.Abs
set_option maxRecDepth 100000
def s7 (x : Dsk) (ahead : List Int) (st : NmB) (i : Nat) : St :=
  ⟨[(2, .ptr 0 0 0), (3, .ptr 1 0 0), (4, .sl 2 0 ahead.length), (5, .sl 3 0 st.dirs.length), (6, .int .i64 ((i : Int) + 1))],
   [some (4, [.agg [.nil, .nil, .nil, .nil]]), some (4, [.agg [.own 1 (x.used.map bv), .own 1 (x.taken.map bv), .own 3 (x.inos.map inoO), .own 3 (st.blks.map blkO)]]), some (1, ahead.map iv), some (1, st.dirs.map iv)]⟩
theorem st7 (x : Dsk) (hl : x.inos.length = 8) (ahead bs : List Int) (st : NmB) (d : Nat) (hI : NmI st 1000000 d) (hd : d ≤ 500) (i : Nat) (hi : i < 8) (ha : ahead.length ≤ 1000) (hsm : ({ x with blks := st.blks } : Dsk).sm)
    (hpl : (inoOf { x with blks := st.blks } ((i : Int) + 1)).ptrs.length ≤ 16) (hbs : dirB (inoOf { x with blks := st.blks } ((i : Int) + 1)) ahead = bs) (hbl : bs.length ≤ 16) (hbp : ∀ p ∈ bs, 1 ≤ p ∧ p ≤ 16) :
    XG TN 0 H101_7 L101_7 (s7 x ahead st i) = some (.normal, s7 x (ahead ++ bs) (bs.foldl (sweep x.inos) { st with names := [] }) (i + 1)) := by
  have c1 : decide ((i : Int) + 1 ≤ 8) = true := decide_eq_true (by omega)
  have e1 := e195 { x with blks := st.blks } hsm ((i : Int) + 1) ahead (by omega) (by omega)
  rw [hbs] at e1
  unfold dsk at e1
  simp only at e1
  obtain ⟨⟨y, e, m⟩, k1, kx, kI, l2, l3, l4, l5, l6, l8, km⟩ := lp12 x hl ahead bs ((i : Int) + 1) { st with names := [] } d ⟨hI.len, hI.good, by simp, hI.dirs⟩ hd hbl hbp
  simp only at kx l2 l3 l4 l5 l6 l8 km
  subst kx; subst km
  generalize bs.foldl (sweep x.inos) { st with names := [] } = R at *
  have wi := w_i64 ((i : Int) + 1 + 1) (by omega)
  have ei : ((i : Int) + 1 + 1) = (((i + 1 : Nat) : Int) + 1) := by omega
  have hs0 : ((0 : Nat) : Int) = 0 := rfl
  have ta : (ahead.map iv).take ahead.length = ahead.map iv := List.take_of_length_le (by simp)
  have tb : (bs.map iv).take bs.length = bs.map iv := List.take_of_length_le (by simp)
  have am : ahead.map iv ++ bs.map iv = (ahead ++ bs).map iv := List.map_append.symm
  have al : (ahead ++ bs).length = ahead.length + bs.length := List.length_append
  have nb : (bs.map iv).all (fun x => x.cells.all noOwnC) = true := no_map iv bs (fun _ => rfl)
  have ob : ∀ live, (bs.map iv).all (fun x => x.cells.all (okC live)) = true := fun live => by
    rw [List.all_eq_true]
    intro z hz
    obtain ⟨w, _, rfl⟩ := List.mem_map.1 hz
    rfl
  have hap : (ahead.length + bs.length) * 8 ≤ 140737488355328 := by omega
  unfold s7
  unfold s12 at k1
  simp only [hs0, List.length_nil, List.map_nil] at k1
  rw [← ei]
  simp only [XG, L101_7, h101_7, h101_12, go_sem, seval, bnd_ite, c1, e1, k1, l2, l3, l4, l5, l6, l8, wi, ta, tb, am, al, nb, ob, hap, if_true]
  first | done | rfl
end Go.Proofs.YtaaajjinpppgeaaGreat
namespace Go.Proofs.YtaaajjinpppgeaaGreat
open Go Go.Abs
set_option maxRecDepth 100000
theorem dirFold (k : Int) (ahead : List Int) : ∀ (ps l : List Int), (ps.foldl (dirStep k ahead) l).length ≤ l.length + ps.length ∧ ∀ p ∈ ps.foldl (dirStep k ahead) l, p ∈ l ∨ (p ∈ ps ∧ p > 0)
  | [], l => ⟨Nat.le_refl _, fun p hp => .inl hp⟩
  | q :: ps, l => by
    obtain ⟨h1, h2⟩ := dirFold k ahead ps (dirStep k ahead l q)
    have g := dirStep_len (k := k) (ahead := ahead) (p := q) (Nat.le_refl l.length)
    rw [List.foldl_cons, List.length_cons]
    refine ⟨by omega, fun p hp => ?_⟩
    rcases h2 p hp with h | ⟨h, h3⟩
    · unfold dirStep at h
      split at h
      · rename_i hc
        rcases List.mem_append.1 h with h | h
        · exact .inl h
        · rw [List.mem_singleton.1 h]
          simp only [Bool.and_eq_true, decide_eq_true_eq] at hc
          exact .inr ⟨List.mem_cons_self .., hc.1.1.2⟩
      · exact .inl h
    · exact .inr ⟨List.mem_cons_of_mem _ h, h3⟩
def rowF (x : Dsk) (a : List Int × NmB) (i : Nat) : List Int × NmB :=
  (a.1 ++ dirB (inoOf x ((i : Int) + 1)) a.1, (dirB (inoOf x ((i : Int) + 1)) a.1).foldl (sweep x.inos) { a.2 with names := [] })
theorem NmI_mono {st : NmB} {n d n' d' : Nat} (h : NmI st n d) (hn : n ≤ n') (hd : d ≤ d') : NmI st n' d' := ⟨h.len, h.good, by have := h.names; omega, by have := h.dirs; omega⟩
theorem sweeps_inv (inos : List Ino) : ∀ (bs : List Int) {st : NmB} {n d : Nat}, NmI st n d → (∀ p ∈ bs, 1 ≤ p ∧ p ≤ 16) → NmI (bs.foldl (sweep inos) st) (n + 4 * bs.length) (d + 4 * bs.length)
  | [], _, _, _, h, _ => by simpa using h
  | p :: bs, st, n, d, h, hb => by
    obtain ⟨p1, p2⟩ := hb p (List.mem_cons_self ..)
    have := sweeps_inv inos bs (sweep_inv inos h p p1 p2) (fun q hq => hb q (List.mem_cons_of_mem _ hq))
    rw [List.foldl_cons, List.length_cons]
    exact NmI_mono this (by omega) (by omega)
theorem lp7 (x : Dsk) (h : x.sm) (hl : x.inos.length = 8) (hp : ∀ y ∈ x.inos, y.ptrs.length = 2 ∧ ∀ p ∈ y.ptrs, p ≤ 16) (hb : x.blks.length = 16) (hg : ∀ b ∈ x.blks, goodB b) :
    ∃ r, XL TN 0 H101_7 L101_7 (s7 x [] ⟨x.blks, [], [], []⟩ 0) = some r ∧ r.1 = .exit 0 ∧ lookA r.2.env 2 = .ptr 0 0 0 ∧ lookA r.2.env 3 = .ptr 1 0 0 ∧
      r.2.mem = (s7 x ((List.range 8).foldl (rowF x) ([], ⟨x.blks, [], [], []⟩)).1 ((List.range 8).foldl (rowF x) ([], ⟨x.blks, [], [], []⟩)).2 0).mem := by
  refine XL_each (T := TN) (b := 0) (hd := H101_7) (x := L101_7) (List.range 8) (rowF x) (fun i a => s7 x a.1 a.2 i) (fun i a => a.1.length ≤ 2 * i ∧ NmI a.2 1000000 (8 * i))
    (fun a r => r.1 = .exit 0 ∧ lookA r.2.env 2 = .ptr 0 0 0 ∧ lookA r.2.env 3 = .ptr 1 0 0 ∧ r.2.mem = (s7 x a.1 a.2 0).mem) (fun i a j hj hi hI => ?_) (fun a hI => ?_) ([], ⟨x.blks, [], [], []⟩) ⟨by simp, ⟨hb, hg, by simp, by simp⟩⟩
  · rw [List.length_range] at hi
    have hj' : j = i := by
      rw [List.getElem?_range hi] at hj
      cases hj; rfl
    subst hj'
    obtain ⟨h1, h2⟩ := hI
    obtain ⟨y, hy⟩ := get_at (show j < x.inos.length by omega)
    have hin : inoOf x ((j : Int) + 1) = y := by
      unfold inoOf
      rw [if_pos (by simp [inside]; omega), show ((j : Int) + 1 - 1).toNat = j by omega, List.getD, hy]; rfl
    obtain ⟨q1, q2⟩ := hp y (List.mem_of_getElem? hy)
    obtain ⟨d1, d2⟩ := dirFold y.kind a.1 y.ptrs []
    have hbs : ∀ p ∈ dirB y a.1, 1 ≤ p ∧ p ≤ 16 := fun p hpp => by
      rcases d2 p hpp with h | ⟨h, h3⟩
      · cases h
      · exact ⟨by omega, q2 p h⟩
    have hbl : (dirB y a.1).length ≤ 2 := by
      have : (dirB y a.1).length ≤ 0 + y.ptrs.length := d1
      omega
    have hsm : ({ x with blks := a.2.blks } : Dsk).sm := ⟨h.used, h.taken, h.inos, by have := h2.len; show a.2.blks.length ≤ _; omega, h.ino, fun b hb' => by
      have := (h2.good b hb').1
      unfold Blk.sm; omega⟩
    have e := st7 x hl a.1 (dirB y a.1) a.2 (8 * j) h2 (by omega) j (by omega) (by omega) hsm (by show (inoOf x ((j : Int) + 1)).ptrs.length ≤ 16; rw [hin]; omega) (by show dirB (inoOf x ((j : Int) + 1)) a.1 = _; rw [hin]) (by omega) hbs
    unfold rowF
    rw [hin]
    refine ⟨e, by simp only [List.length_append]; omega, ?_⟩
    have := sweeps_inv x.inos (dirB y a.1) (st := { a.2 with names := [] }) (n := 0) (d := 8 * j) ⟨h2.len, h2.good, by simp, h2.dirs⟩ hbs
    exact NmI_mono this (by omega) (by omega)
  · rw [List.length_range]
    have s8 : (((8 : Nat) : Int) + 1) = 9 := rfl
    have c9 : decide ((9 : Int) ≤ 8) = false := rfl
    unfold s7
    simp only [XG, L101_7, h101_7, go_sem, seval, bnd_ite, s8, c9, Bool.false_eq_true, if_false]
    exact .mk (by simp) ⟨rfl, rfl, rfl, rfl⟩
end Go.Proofs.YtaaajjinpppgeaaGreat
namespace Go.Proofs.YtaaajjinpppgeaaGreat
open Go Go.Abs
set_option maxRecDepth 100000
theorem good_of {b : Blk} (h : blkOk b = true) : goodB b := by
  cases hd : b.dir with
  | false =>
    have := (blkOk_txt h hd).1
    exact ⟨.inr (by rw [this]; rfl), fun s hs => by rw [this] at hs; cases hs⟩
  | true =>
    obtain ⟨h1, _, h3⟩ := blkOk_dir h hd
    refine ⟨.inl h1, fun s hs hne => ?_⟩
    obtain ⟨i, hi⟩ := List.getElem?_of_mem hs
    have := h3 i s hi
    unfold slotOk bare at this
    simp only [Bool.or_eq_true, Bool.and_eq_true, decide_eq_true_eq] at this
    rcases this with h | h
    · exact absurd h.1 hne
    · exact h.1.2
noncomputable def mnB (x : Dsk) : List Blk := ((List.range 8).foldl (rowF x) ([], ⟨x.blks, [], [], []⟩)).2.blks
theorem e101 (x : Dsk) (h : x.sm) (hk : x.ok) : E TN 101 [dsk x] [] = some (dskO (if dskOk x then { x with blks := mnB x } else x), []) := by
  rw [E_eq t101 (Nat.le_of_ble_eq_true rfl)]
  have e1 : E TN 83 [dsk x] [] = some (dskO x, []) := by rw [eN rfl t83]; exact e83 x h
  have e2 : E TN 84 [dsk x] [] = some (.bool (dskOk x), []) := by rw [eN rfl t84]; exact e84 x hk
  have tk1 : (x.used.map bv).take x.used.length = x.used.map bv := List.take_of_length_le (by simp)
  have tk2 : (x.taken.map bv).take x.taken.length = x.taken.map bv := List.take_of_length_le (by simp)
  have tk3 : (x.inos.map inoO).take x.inos.length = x.inos.map inoO := List.take_of_length_le (by simp)
  have tk4 : (x.blks.map blkO).take x.blks.length = x.blks.map blkO := List.take_of_length_le (by simp)
  cases hok : dskOk x with
  | false =>
    rw [hok] at e2
    simp only [dsk, dskO] at e1 e2
    simp only [Bool.false_eq_true, if_false, dsk, dskO, F101, go_sem, seval, bnd_ite, e1, e2, Bool.not_false, if_true, tk1, tk2, tk3, tk4]
    first | done | rfl
  | true =>
    rw [hok] at e2
    have hD := dskOk_iff.1 hok
    obtain ⟨⟨y, e, m⟩, k1, kx, l2, l3, km⟩ := lp7 x h hD.inos (fun y hy => by
      have := inoOk_iff.1 (hD.ino y hy)
      exact ⟨this.two, fun p hp => (this.ptr p hp).2.1⟩) hD.blks (fun b hb => good_of (hD.blk b hb))
    simp only at kx l2 l3 km
    subst kx; subst km
    unfold mnB
    generalize (List.range 8).foldl (rowF x) ([], ⟨x.blks, [], [], []⟩) = R at *
    have tk5 : (R.2.blks.map blkO).take R.2.blks.length = R.2.blks.map blkO := List.take_of_length_le (by simp)
    have hs0 : ((0 : Nat) : Int) + 1 = 1 := rfl
    unfold s7 at k1
    simp only [hs0, List.length_nil, List.map_nil] at k1
    simp only [dsk, dskO] at e1 e2
    simp only [if_true, dsk, dskO, F101, h101_7, go_sem, seval, bnd_ite, e1, e2, k1, l2, l3, Bool.not_true, Bool.false_eq_true, if_false, tk1, tk2, tk3, tk4, tk5]
    first | done | rfl
end Go.Proofs.YtaaajjinpppgeaaGreat
namespace Go.Proofs.YtaaajjinpppgeaaGreat
open Go Go.Abs
set_option maxRecDepth 100000
def r7 (x : Dsk) (I : List AV) (st : NmB) (i : Nat) : St :=
  ⟨[(2, .ptr 0 0 0), (3, .ptr 1 0 0), (4, .sl 2 0 st.dirs.length), (5, .sl 3 0 st.seen.length), (6, .int .i64 (i : Nat))],
   [some (4, [.agg [.nil, .nil, .nil, .nil]]), some (4, [.agg [.own 1 (x.used.map bv), .own 1 (x.taken.map bv), .sl 4 0 8, .sl 5 0 16]]), some (1, st.dirs.map iv), some (1, st.seen.map iv), some (3, I), some (3, st.blks.map blkO)]⟩
theorem st7r (x : Dsk) (hl : x.inos.length = 8) (i : Nat) (y : Ino) (hyi : x.inos[i]? = some y) (hy2 : y.ptrs.length = 2) (hyp : ∀ p ∈ y.ptrs, 0 ≤ p ∧ p ≤ 16) (st : NmB) (n d s : Nat) (hI : RmI st n d s) (hd : d ≤ 900) (hs : s ≤ 90000) :
    XG TN 0 H99_7 L99_7 (r7 x (x.inos.map inoO) st i) = some (.normal, r7 x (x.inos.map inoO) (rowsR x.inos st y) (i + 1)) := by
  have hi : i < 8 := by have := (List.getElem?_eq_some_iff.1 hyi).1; omega
  have i1 : (i : Int) < (8 : Int) := by omega
  have hi' : i < x.inos.length := by omega
  have gi : (x.inos.map inoO).getD i .undef = .agg [.int .i64 y.kind, .int .i64 y.links, .own 1 (y.ptrs.map iv)] := gD_map hyi
  have iself : (x.inos.map inoO).set i (.agg [.int .i64 y.kind, .int .i64 y.links, .own 1 (y.ptrs.map iv)]) = x.inos.map inoO := set_self (by rw [List.getElem?_map, hyi]; rfl)
  have lp : ∃ Z : NmB, Z.dirs = (rowsR x.inos st y).dirs ∧ Z.seen = (rowsR x.inos st y).seen ∧ Z.blks = (rowsR x.inos st y).blks ∧ ∃ r, XL TN 0 H99_12 L99_12 (r12 x (x.inos.map inoO) i y 0 { st with names := [] }) = some r ∧ r.1 = .exit 2 ∧
      lookA r.2.env 2 = .ptr 0 0 0 ∧ lookA r.2.env 3 = .ptr 1 0 0 ∧ lookA r.2.env 4 = .sl 2 0 Z.dirs.length ∧ lookA r.2.env 5 = .sl 3 0 Z.seen.length ∧ lookA r.2.env 6 = .int .i64 (i : Nat) ∧ r.2.mem = (r12 x (x.inos.map inoO) i y 0 Z).mem := by
    unfold rowsR
    by_cases hk : y.kind = 2
    · rw [if_pos hk]
      obtain ⟨r, k1, k2, k3, k4, k5, k6, k7, k8, k9⟩ := lp12r x hl i hi y hyi hy2 hk hyp { st with names := [] } d s ⟨hI.len, hI.good, hI.four, Nat.le_refl _, hI.dirs, hI.seen⟩ hd hs
      exact ⟨_, rfl, rfl, rfl, r, k1, k2, k4, k5, k6, k7, k8, k9⟩
    · rw [if_neg hk]
      obtain ⟨r, k1, k2, k4, k5, k6, k7, k8, k9⟩ := lp12x x i y hy2 hk { st with names := [] }
      exact ⟨{ st with names := [] }, rfl, rfl, rfl, r, k1, k2, k4, k5, k6, k7, k8, k9⟩
  obtain ⟨Z, z1, z2, z3, ⟨yx, e, m⟩, k1, kx, l2, l3, l4, l5, l6, km⟩ := lp
  simp only at kx l2 l3 l4 l5 l6 km
  subst kx; subst km
  have wi := w_i64 ((i : Int) + 1) (by omega)
  obtain ⟨I, hI2⟩ : ∃ I, x.inos.map inoO = I := ⟨_, rfl⟩
  rw [hI2] at gi iself k1
  have imi : ∀ g, mapIdL g I = I := fun g => by rw [← hI2]; exact mi_map g inoO x.inos inoO_cool
  have ims : ∀ u, idsL u I = [] := fun u => by rw [← hI2]; exact is_map u inoO x.inos inoO_cool
  have il : I.length = 8 := by rw [← hI2]; simp [hl]
  have isg : ∀ v : AV, (I.set i v).getD i .undef = v := fun v => by rw [List.getD, List.getElem?_set_self (by omega)]; rfl
  have iss : ∀ v w : AV, (I.set i v).set i w = I.set i w := fun v w => by rw [List.set_set]
  have tP : (y.ptrs.map iv).take 2 = y.ptrs.map iv := List.take_of_length_le (by simp [hy2])
  have hs0 : ((0 : Nat) : Int) = 0 := rfl
  have bm1 := fun g => mi_map g blkO st.blks blkO_cool
  have bs1 := fun u => is_map u blkO st.blks blkO_cool
  have bm2 := fun g => mi_map g blkO Z.blks blkO_cool
  have bs2 := fun u => is_map u blkO Z.blks blkO_cool
  unfold r7
  rw [← z1, ← z2, ← z3]
  unfold r12 m12 at k1
  simp only [hs0, List.length_nil, List.map_nil] at k1
  rw [hI2]
  simp only [XG, L99_7, h99_7, h99_12, go_sem, seval, bnd_ite, i1, hi, gi, iself, imi, ims, il, isg, iss, is_set, hy2, tP, k1, l2, l3, l4, l5, l6, wi, bm1, bs1, bm2, bs2, bv_mi, bv_is, iv_mi, iv_is, sv_mi, sv_is, Int.add_zero, Int.natCast_nonneg, if_true]
  first | done | rfl
theorem rowsR_rm (x : Dsk) (y : Ino) (hy2 : y.ptrs.length = 2) (hyp : ∀ p ∈ y.ptrs, 0 ≤ p ∧ p ≤ 16) {st : NmB} {n d s : Nat} (hI : RmI st n d s) : RmI (rowsR x.inos st y) (n + 8) (d + 8) (s + 2) := by
  unfold rowsR
  split
  · match hq : y.ptrs, hy2 with
    | [p, q], _ =>
      rw [hq] at hyp
      have h1 := hyp p (by simp)
      have h2 := hyp q (by simp)
      have k := stepR_rm x.inos (stepR_rm x.inos (st := { st with names := [] }) (n := 0) ⟨hI.len, hI.good, hI.four, Nat.le_refl _, hI.dirs, hI.seen⟩ p h1.1 h1.2) q h2.1 h2.2
      exact k.mono (by omega) (by omega) (by omega)
  · exact hI.mono (by omega) (by omega) (by omega)
theorem lp7r (x : Dsk) (hl : x.inos.length = 8) (hp : ∀ y ∈ x.inos, y.ptrs.length = 2 ∧ ∀ p ∈ y.ptrs, 0 ≤ p ∧ p ≤ 16) (hb : x.blks.length = 16) (hg : ∀ b ∈ x.blks, goodB b) (h4 : ∀ b ∈ x.blks, b.dir = true → b.slots.length = 4) :
    ∃ r, XL TN 0 H99_7 L99_7 (r7 x (x.inos.map inoO) ⟨x.blks, [], [], []⟩ 0) = some r ∧ r.1 = .exit 0 ∧ lookA r.2.env 2 = .ptr 0 0 0 ∧ lookA r.2.env 3 = .ptr 1 0 0 ∧
      r.2.mem = (r7 x (x.inos.map inoO) (x.inos.foldl (rowsR x.inos) ⟨x.blks, [], [], []⟩) 0).mem ∧ (x.inos.foldl (rowsR x.inos) ⟨x.blks, [], [], []⟩).blks.length = 16 := by
  refine XL_each (T := TN) (b := 0) (hd := H99_7) (x := L99_7) x.inos (rowsR x.inos) (fun i st => r7 x (x.inos.map inoO) st i) (fun i st => RmI st (8 * i) (8 * i) (2 * i))
    (fun st r => r.1 = .exit 0 ∧ lookA r.2.env 2 = .ptr 0 0 0 ∧ lookA r.2.env 3 = .ptr 1 0 0 ∧ r.2.mem = (r7 x (x.inos.map inoO) st 0).mem ∧ st.blks.length = 16) (fun i st y hy hi hI => ?_) (fun st hI => ?_) ⟨x.blks, [], [], []⟩ ⟨hb, hg, h4, by simp, by simp, by simp⟩
  · obtain ⟨q1, q2⟩ := hp y (List.mem_of_getElem? hy)
    refine ⟨st7r x hl i y hy q1 q2 st _ _ _ hI (by omega) (by omega), ?_⟩
    exact (rowsR_rm x y q1 q2 hI).mono (by omega) (by omega) (by omega)
  · rw [hl]
    have s8 : ¬ (((8 : Nat) : Int)) < 8 := by omega
    have hlen := hI.len
    unfold r7
    simp only [XG, L99_7, h99_7, go_sem, seval, bnd_ite, s8, decide_false, Bool.false_eq_true, if_false]
    exact .mk (by simp) ⟨rfl, rfl, rfl, rfl, hlen⟩
theorem e99 (x : Dsk) (h : x.sm) (hk : x.ok) : E TN 99 [dsk x] [] = some (dskO (if dskOk x then { x with blks := (x.inos.foldl (rowsR x.inos) ⟨x.blks, [], [], []⟩).blks } else x), []) := by
  rw [E_eq t99 (Nat.le_of_ble_eq_true rfl)]
  have e1 : E TN 74 [dsk x] [] = some (dskO x, []) := by rw [eN rfl t74]; exact e74 x h
  have e2 : E TN 75 [dsk x] [] = some (.bool (dskOk x), []) := by rw [eN rfl t75]; exact e75 x hk
  have tk1 : (x.used.map bv).take x.used.length = x.used.map bv := List.take_of_length_le (by simp)
  have tk2 : (x.taken.map bv).take x.taken.length = x.taken.map bv := List.take_of_length_le (by simp)
  have tk3 : (x.inos.map inoO).take x.inos.length = x.inos.map inoO := List.take_of_length_le (by simp)
  have tk4 : (x.blks.map blkO).take x.blks.length = x.blks.map blkO := List.take_of_length_le (by simp)
  cases hok : dskOk x with
  | false =>
    rw [hok] at e2
    simp only [dsk, dskO] at e1 e2
    simp only [Bool.false_eq_true, if_false, dsk, dskO, F99, go_sem, seval, bnd_ite, e1, e2, Bool.not_false, if_true, tk1, tk2, tk3, tk4]
    first | done | rfl
  | true =>
    rw [hok] at e2
    have hD := dskOk_iff.1 hok
    have n8 := hD.inos
    have n16 := hD.blks
    obtain ⟨⟨y, e, m⟩, k1, kx, l2, l3, km, kl⟩ := lp7r x hD.inos (fun y hy => by
      have := inoOk_iff.1 (hD.ino y hy)
      exact ⟨this.two, fun p hp => ⟨(this.ptr p hp).1, (this.ptr p hp).2.1⟩⟩) hD.blks (fun b hb => good_of (hD.blk b hb)) (fun b hb hd => (blkOk_dir (hD.blk b hb) hd).1)
    simp only at kx l2 l3 km
    subst kx; subst km
    generalize x.inos.foldl (rowsR x.inos) ⟨x.blks, [], [], []⟩ = R at *
    have tk5 : (R.blks.map blkO).take 16 = R.blks.map blkO := List.take_of_length_le (by simp [kl])
    have tk6 : (x.inos.map inoO).take 8 = x.inos.map inoO := List.take_of_length_le (by simp [n8])
    have hs0 : ((0 : Nat) : Int) = 0 := rfl
    unfold r7 at k1
    simp only [hs0, List.length_nil, List.map_nil] at k1
    have bm2 := fun g => mi_map g blkO R.blks blkO_cool
    have bs2 := fun u => is_map u blkO R.blks blkO_cool
    have im2 := fun g => mi_map g inoO x.inos inoO_cool
    have is2 := fun u => is_map u inoO x.inos inoO_cool
    simp only [dsk, dskO] at e1 e2
    rw [if_pos rfl]
    simp only [dsk, dskO, F99, h99_7, r7, go_sem, seval, bnd_ite, e1, e2, k1, l2, l3, n8, n16, kl, bm2, bs2, im2, is2, Bool.not_true, Bool.false_eq_true, if_false, tk1, tk2, tk3, tk4, tk5, tk6]
    first | done | rfl
end Go.Proofs.YtaaajjinpppgeaaGreat
namespace Go.Proofs.YtaaajjinpppgeaaGreat
open Go Go.Abs
theorem sweep_seen (inos : List Ino) (st : NmB) (p : Int) (l : List Int) : sweep inos { st with seen := l } p = { sweep inos st p with seen := l ++ [p] } := by
  unfold sweep
  simp only
  cases st.blks[(p - 1).toNat]? <;> rfl
theorem dir_step (inos : List Ino) (ahead : List Int) : ∀ (ps l : List Int) (st a : NmB), a = { l.foldl (sweep inos) st with seen := ahead ++ l } →
    ps.foldl (stepP inos) a = { (ps.foldl (dirStep 2 ahead) l).foldl (sweep inos) st with seen := ahead ++ ps.foldl (dirStep 2 ahead) l }
  | [], l, st, a, h => h
  | p :: ps, l, st, a, h => by
    rw [List.foldl_cons, List.foldl_cons]
    refine dir_step inos ahead ps (dirStep 2 ahead l p) st (stepP inos a p) ?_
    subst h
    by_cases hc : p > 0 ∧ ¬ (p ∈ ahead ∨ p ∈ l)
    · have hc1 : p > 0 ∧ p ∉ ahead ++ l := ⟨hc.1, fun h => hc.2 (List.mem_append.1 h)⟩
      have hc2 : dirStep 2 ahead l p = l ++ [p] := by
        unfold dirStep
        rw [if_pos]
        simp only [Bool.and_eq_true, Bool.not_eq_true', decide_eq_true_eq, decide_eq_false_iff_not]
        exact ⟨⟨⟨trivial, hc.1⟩, fun h => hc.2 (.inl h)⟩, fun h => hc.2 (.inr h)⟩
      unfold stepP
      rw [if_pos hc1, hc2, sweep_seen, List.foldl_append, List.append_assoc]
      rfl
    · have hc1 : ¬ (p > 0 ∧ p ∉ ahead ++ l) := fun h => hc ⟨h.1, fun h2 => h.2 (List.mem_append.2 h2)⟩
      have hc2 : dirStep 2 ahead l p = l := by
        unfold dirStep
        rw [if_neg]
        simp only [Bool.and_eq_true, Bool.not_eq_true', decide_eq_true_eq, decide_eq_false_iff_not]
        rintro ⟨⟨⟨_, h1⟩, h2⟩, h3⟩
        exact hc ⟨h1, fun h => h.elim h2 h3⟩
      unfold stepP
      rw [if_neg hc1, hc2]
end Go.Proofs.YtaaajjinpppgeaaGreat
namespace Go.Proofs.YtaaajjinpppgeaaGreat
open Go Go.Abs
theorem dir_none (k : Int) (hk : k ≠ 2) (ahead : List Int) : ∀ ps l : List Int, ps.foldl (dirStep k ahead) l = l
  | [], l => rfl
  | p :: ps, l => by
    rw [List.foldl_cons]
    have : dirStep k ahead l p = l := by
      unfold dirStep
      rw [decide_eq_false hk]
      rfl
    rw [this]; exact dir_none k hk ahead ps l
structure SameR (a : List Int × NmB) (b : NmB) : Prop where
  blks : a.2.blks = b.blks
  dirs : a.2.dirs = b.dirs
  seen : b.seen = a.1
theorem row_one (inos : List Ino) (y : Ino) {a : List Int × NmB} {b : NmB} (h : SameR a b) : SameR (a.1 ++ dirB y a.1, (dirB y a.1).foldl (sweep inos) { a.2 with names := [] }) (rowsP inos b y) := by
  obtain ⟨h1, h2, h3⟩ := h
  obtain ⟨ah, st⟩ := a
  simp only at h1 h2 h3
  unfold rowsP
  by_cases hk : y.kind = 2
  · rw [if_pos hk]
    unfold dirB
    rw [hk, dir_step inos ah y.ptrs [] { st with names := [] } { b with names := [] } (by
      obtain ⟨c1, c2, c3, c4⟩ := b
      obtain ⟨e1, e2, e3, e4⟩ := st
      simp only at h1 h2 h3
      subst h1; subst h2; subst h3
      simp)]
    exact ⟨rfl, rfl, rfl⟩
  · rw [if_neg hk]
    unfold dirB
    rw [dir_none y.kind hk]
    exact ⟨h1, h2, by simp [h3]⟩
theorem rows_all (x : Dsk) : ∀ n, n ≤ x.inos.length → SameR ((List.range n).foldl (rowF x) ([], ⟨x.blks, [], [], []⟩)) ((x.inos.take n).foldl (rowsP x.inos) ⟨x.blks, [], [], []⟩)
  | 0, _ => ⟨rfl, rfl, rfl⟩
  | n + 1, hn => by
    obtain ⟨y, hy⟩ := get_at (show n < x.inos.length by omega)
    have hin : inoOf x ((n : Int) + 1) = y := by
      unfold inoOf
      rw [if_pos (by simp [inside]; omega), show ((n : Int) + 1 - 1).toNat = n by omega, List.getD, hy]; rfl
    have ih := rows_all x n (by omega)
    rw [List.range_succ, List.foldl_append, List.take_add_one, hy, List.foldl_append]
    have := row_one x.inos y ih
    show SameR (rowF x _ n) (rowsP x.inos _ y)
    unfold rowF
    rw [hin]; exact this
theorem mnB_eq (x : Dsk) (h8 : x.inos.length = 8) : mnB x = (x.inos.foldl (rowsP x.inos) ⟨x.blks, [], [], []⟩).blks := by
  have := (rows_all x 8 (by omega)).blks
  rw [List.take_of_length_le (by omega)] at this
  exact this
end Go.Proofs.YtaaajjinpppgeaaGreat
namespace Go.Proofs.YtaaajjinpppgeaaGreat
open Go Go.Abs
set_option maxRecDepth 100000
def rowsB (x : Dsk) : List Blk := (x.inos.foldl (rowsR x.inos) ⟨x.blks, [], [], []⟩).blks
def mendN (x : Dsk) : Dsk := if dskOk x then { x with blks := rowsB x } else x
def okB (b : Blk) : Prop := b.slots.length ≤ 4 ∧ b.text.size ≤ 16 ∧ ∀ s ∈ b.slots, s.name.size ≤ 6
def okBs (st : NmB) : Prop := st.blks.length = 16 ∧ ∀ b ∈ st.blks, okB b
theorem fold_out (inos : List Ino) : ∀ (l : List Slt) (a : NmS), ∀ s ∈ (l.foldl (slStep inos) a).out, s ∈ a.out ∨ s ∈ l ∨ s = slt0
  | [], a, s, hs => .inl hs
  | t :: l, a, s, hs => by
    rw [List.foldl_cons] at hs
    rcases fold_out inos l (slStep inos a t) s hs with h | h | h
    · unfold slStep at h
      split at h
      · rcases List.mem_append.1 h with h | h
        · exact .inl h
        · rw [List.mem_singleton.1 h]; exact .inr (.inl (List.mem_cons_self ..))
      · split at h
        · rcases List.mem_append.1 h with h | h
          · exact .inl h
          · rw [List.mem_singleton.1 h]; exact .inr (.inl (List.mem_cons_self ..))
        · rcases List.mem_append.1 h with h | h
          · exact .inl h
          · exact .inr (.inr (List.mem_singleton.1 h))
    · exact .inr (.inl (List.mem_cons_of_mem _ h))
    · exact .inr (.inr h)
theorem sweep_okB (inos : List Ino) {st : NmB} (h : okBs st) (p : Int) : okBs (sweep inos st p) := by
  unfold sweep
  split
  · rename_i b hb
    refine ⟨by simp [h.1], fun c hc => ?_⟩
    rcases List.mem_or_eq_of_mem_set hc with hc | rfl
    · exact h.2 c hc
    · have hbo := h.2 b (List.mem_of_getElem? hb)
      have hl := (fold_len inos b.slots ⟨[], st.names, st.dirs⟩).1
      simp only [List.length_nil, Nat.zero_add] at hl
      refine ⟨by show (b.slots.foldl (slStep inos) ⟨[], st.names, st.dirs⟩).out.length ≤ 4; rw [hl]; exact hbo.1, hbo.2.1, fun s hs => ?_⟩
      rcases fold_out inos b.slots ⟨[], st.names, st.dirs⟩ s hs with h | h | h
      · cases h
      · exact hbo.2.2 s h
      · subst h; exact Nat.zero_le _
  · exact ⟨h.1, h.2⟩
theorem rows_okB (inos : List Ino) : ∀ (l : List Ino) {st : NmB}, okBs st → okBs (l.foldl (rowsR inos) st) := by
  have one : ∀ (ps : List Int) {st : NmB}, okBs st → okBs (ps.foldl (stepR inos) st) := by
    intro ps
    induction ps with
    | nil => intro st h; exact h
    | cons p ps ih =>
      intro st h
      rw [List.foldl_cons]
      refine ih ?_
      unfold stepR
      split
      · split
        · exact sweep_okB inos h p
        · exact h
      · exact h
  intro l
  induction l with
  | nil => intro st h; exact h
  | cons y l ih =>
    intro st h
    rw [List.foldl_cons]
    refine ih ?_
    unfold rowsR
    split
    · exact one y.ptrs (st := { st with names := [] }) h
    · exact h
theorem blk_okB {b : Blk} (h : blkOk b = true) : okB b := by
  cases hd : b.dir with
  | false =>
    obtain ⟨h1, h2⟩ := blkOk_txt h hd
    refine ⟨by rw [h1]; simp, h2, fun s hs => by rw [h1] at hs; cases hs⟩
  | true =>
    obtain ⟨h1, h2, h3⟩ := blkOk_dir h hd
    refine ⟨by omega, by rw [h2]; exact Nat.zero_le _, fun s hs => ?_⟩
    obtain ⟨i, hi⟩ := List.getElem?_of_mem hs
    have := h3 i s hi
    unfold slotOk bare nameOk at this
    simp only [Bool.or_eq_true, Bool.and_eq_true, decide_eq_true_eq] at this
    rcases this with h | h
    · rw [h.1]; exact Nat.zero_le _
    · have := h.1.1.2
      simp only [inside, Bool.and_eq_true, decide_eq_true_eq] at this
      omega
theorem rowsB_ok {x : Dsk} (h : DskOk x) : (rowsB x).length = 16 ∧ ∀ b ∈ rowsB x, okB b := rows_okB x.inos x.inos (st := ⟨x.blks, [], [], []⟩) ⟨h.blks, fun b hb => blk_okB (h.blk b hb)⟩
theorem mendN_sm {x : Dsk} (h : x.sm) : (mendN x).sm := by
  unfold mendN
  split
  · rename_i hd
    obtain ⟨h1, h2⟩ := rowsB_ok (dskOk_iff.1 hd)
    exact ⟨h.used, h.taken, h.inos, by show (rowsB x).length ≤ _; omega, h.ino, fun b hb => by
      have := (h2 b hb).1
      unfold Blk.sm; omega⟩
  · exact h
theorem mendN_ok {x : Dsk} (h : x.ok) : (mendN x).ok := by
  unfold mendN
  split
  · rename_i hd
    obtain ⟨h1, h2⟩ := rowsB_ok (dskOk_iff.1 hd)
    refine ⟨h.used, h.taken, h.inos, by show (rowsB x).length ≤ _; unfold maxLen; omega, h.ino, fun b hb => ?_⟩
    obtain ⟨k1, k2, k3⟩ := h2 b hb
    exact ⟨by unfold maxLen; omega, by unfold maxLen; omega, fun s hs => by have := k3 s hs; unfold Slt.ok maxLen; omega⟩
  · exact h
theorem mnB_rows {x : Dsk} (h : DskOk x) : mnB x = rowsB x := by
  rw [mnB_eq x h.inos]
  have := side_rows x.inos x.inos (a := ⟨x.blks, [], [], []⟩) (b := ⟨x.blks, [], [], []⟩) ⟨rfl, rfl, rfl, fun _ _ => Iff.rfl, fun b hb hd => (blkOk_txt (h.blk b hb) hd).1⟩ (fun y hy p hp => by
    have := (inoOk_iff.1 (h.ino y hy)).ptr p hp
    refine ⟨this.1, ?_⟩
    show p.toNat ≤ x.blks.length
    rw [h.blks]; omega)
  exact this.blks
theorem e99' (x : Dsk) (h : x.sm) (hk : x.ok) : E TN 99 [dsk x] [] = some (dskO (mendN x), []) := e99 x h hk
theorem e101' (x : Dsk) (h : x.sm) (hk : x.ok) : E TN 101 [dsk x] [] = some (dskO (mendN x), []) := by
  rw [e101 x h hk]
  unfold mendN
  by_cases hd : dskOk x = true
  · rw [if_pos hd, if_pos hd, mnB_rows (dskOk_iff.1 hd)]
  · rw [if_neg hd, if_neg hd]
end Go.Proofs.YtaaajjinpppgeaaGreat
namespace Go.Proofs.YtaaajjinpppgeaaGreat
open Go Go.Abs
set_option maxRecDepth 100000
theorem zip_fold {α β : Type} {f : β → α × Nat → β} {I : Nat → β → Prop} (l : List α) (step : ∀ j p st, l[j]? = some p → I j st → I (j + 1) (f st (p, j))) (a : β) (h : I 0 a) : I l.length (l.zipIdx.foldl f a) := by
  have key : ∀ (r : List α) (k : Nat) (a : β), l.drop k = r → I k a → k + r.length = l.length → I l.length ((r.zipIdx k).foldl f a) := by
    intro r
    induction r with
    | nil => intro k a _ h hk; simpa [show k = l.length by simpa using hk] using h
    | cons p r ih =>
      intro k a hd h hk
      rw [List.zipIdx_cons, List.foldl_cons]
      have hp : l[k]? = some p := by
        have := congrArg (fun m => m[0]?) hd
        simpa using this
      refine ih (k + 1) _ ?_ (step k p a hp h) (by simp only [List.length_cons] at hk; omega)
      have := congrArg List.tail hd
      simpa using this
  exact key l 0 a rfl h (by simp)
def mpOut (x : Dsk) (st : List Ino × List Int) (e : Ino × Nat) : List Ino × List Int :=
  if e.1.kind = 0 then st else
    (st.1.set e.2 ⟨e.1.kind, e.1.links, (e.1.ptrs.zipIdx.foldl (mpStep x e.1.kind) (e.1.ptrs, st.2)).1⟩, (e.1.ptrs.zipIdx.foldl (mpStep x e.1.kind) (e.1.ptrs, st.2)).2)
structure MoI (l0 : List Ino) (i : Nat) (st : List Ino × List Int) : Prop where
  len : st.1.length = l0.length
  rest : ∀ k, i ≤ k → st.1[k]? = l0[k]?
  had : st.2.length ≤ 2 * i
theorem mpFold {x : Dsk} {k : Int} {q0 had : List Int} : MpI q0 had.length q0.length (q0.zipIdx.foldl (mpStep x k) (q0, had)) :=
  zip_fold (I := fun j st => MpI q0 had.length j st) q0 (fun j p st _ h => mpStep_inv h) (q0, had) ⟨rfl, fun _ _ => rfl, by show had.length ≤ _; omega⟩
theorem mpOut_inv {x : Dsk} {l0 : List Ino} {i : Nat} {st : List Ino × List Int} {p : Ino} (hp : p.ptrs.length = 2) (h : MoI l0 i st) : MoI l0 (i + 1) (mpOut x st (p, i)) := by
  obtain ⟨h1, h2, h3⟩ := h
  unfold mpOut
  split
  · exact ⟨h1, fun k hk => h2 k (by omega), by omega⟩
  · have hf := mpFold (x := x) (k := p.kind) (q0 := p.ptrs) (had := st.2)
    refine ⟨by simpa using h1, fun k hk => ?_, ?_⟩
    · rw [List.getElem?_set_ne (by show i ≠ k; omega)]; exact h2 k (by omega)
    · have := hf.had; rw [hp] at this; show (List.foldl (mpStep x p.kind) (p.ptrs, st.2) p.ptrs.zipIdx).2.length ≤ 2 * (i + 1); omega
def ptrsOk (l : List Ino) : Prop := ∀ p ∈ l, p.ptrs.length = 2 ∧ ∀ q ∈ p.ptrs, 0 ≤ q ∧ q ≤ 16
def mo66 (x : Dsk) (st : List Ino × List Int) : Mem :=
  [some (4, [cpBox x]), some (4, [.agg [.nil, .nil, .nil, .nil]]), some (4, [.agg [.own 1 (x.used.map bv), .own 1 (x.taken.map bv), .sl 4 0 8, .own 3 (x.blks.map blkO)]]), some (1, st.2.map iv), some (3, st.1.map inoO)]
theorem in66a (x : Dsk) (hx : DskOk x) (l0 : List Ino) (hl : l0.length = 8) (hp : ptrsOk l0) :
    ∃ r, XL T 0 H102_8 L102_8 ⟨[(1, .ptr 0 0 0), (2, .ptr 1 0 0), (3, .ptr 2 0 0), (4, .sl 3 0 0), (27, .sl 4 0 8), (28, .int .i64 8), (29, .int .i64 0)], mo66 x (l0, [])⟩ = some r ∧
      r.1 = .exit 0 ∧ lookA r.2.env 2 = .ptr 1 0 0 ∧ lookA r.2.env 3 = .ptr 2 0 0 ∧ r.2.mem = mo66 x (l0.zipIdx.foldl (mpOut x) (l0, [])) := by
  refine XL_each l0.zipIdx (mpOut x) (fun i st => ⟨[(1, .ptr 0 0 0), (2, .ptr 1 0 0), (3, .ptr 2 0 0), (4, .sl 3 0 st.2.length), (27, .sl 4 0 8), (28, .int .i64 8), (29, .int .i64 (i : Nat))], mo66 x st⟩) (fun i st => MoI l0 i st)
    (fun st r => r.1 = .exit 0 ∧ lookA r.2.env 2 = .ptr 1 0 0 ∧ lookA r.2.env 3 = .ptr 2 0 0 ∧ r.2.mem = mo66 x st) ?step ?last (l0, []) ⟨rfl, fun _ _ => rfl, by show (0 : Nat) ≤ _; omega⟩
  case step =>
    rintro i st ⟨p, ii⟩ he hi hI
    obtain ⟨hpi, hii⟩ := zip_at he
    simp only at hpi hii; subst hii
    have hpp := hp p (List.mem_of_getElem? hpi)
    refine ⟨?_, mpOut_inv hpp.1 hI⟩
    rw [List.length_zipIdx, hl] at hi
    obtain ⟨h1, h2, h3⟩ := hI
    obtain ⟨Q, had⟩ := st
    simp only at h1 h2 h3
    have i1 : (ii : Int) < 8 := by omega
    have hQ := (h2 ii (Nat.le_refl _)).trans hpi
    have g1 : (Q.map inoO).getD ii .undef = .agg [.int .i64 p.kind, .int .i64 p.links, .own 1 (p.ptrs.map iv)] := gD_map hQ
    have i2 : ii < Q.length := by omega
    have hw := w_i64 ((ii : Int) + 1) (by omega)
    unfold mo66
    unfold mpOut
    have sq : ∀ q : List Int, (Q.map inoO).set ii (.agg [.int .i64 p.kind, .int .i64 p.links, .own 1 (q.map iv)]) = (Q.set ii ⟨p.kind, p.links, q⟩).map inoO := fun q => set_map' (f := inoO) (x := (⟨p.kind, p.links, q⟩ : Ino))
    by_cases c0 : p.kind = 0
    · have s0 := sq p.ptrs
      rw [show (⟨p.kind, p.links, p.ptrs⟩ : Ino) = p from rfl, set_self hQ] at s0
      have tk : (p.ptrs.map iv).take p.ptrs.length = p.ptrs.map iv := List.take_of_length_le (by simp)
      rw [if_pos c0]
      have c0 : decide (p.kind = 0) = true := by simpa using c0
      simp only [cpBox, XG, L102_8, h102_8, go_sem, seval, bnd_ite, is_set, ite_self, Int.add_zero, gD_set, List.set_set, i1, i2, g1, hw, c0, s0, tk, Int.natCast_nonneg, if_true]
      first | done | rfl
    · rw [if_neg c0]
      have c0 : decide (p.kind = 0) = false := by simpa using c0
      obtain ⟨⟨y, e, m⟩, k1, kx, k2, k3, k4, k5, k6, k7, k8, km⟩ := in66b x hx Q ii p.kind p.links p.ptrs hpp.1 hpp.2 had (by omega)
      simp only at kx k2 k3 k4 k5 k6 k7 k8 km; subst kx; subst km
      have hf := (mpFold (x := x) (k := p.kind) (q0 := p.ptrs) (had := had)).len
      generalize hF : p.ptrs.zipIdx.foldl (mpStep x p.kind) (p.ptrs, had) = F at *
      obtain ⟨q, hd⟩ := F
      have hq2 : q.length = 2 := by rw [hpp.1] at hf; exact hf
      have tk : (q.map iv).take 2 = q.map iv := List.take_of_length_le (by rw [List.length_map]; simp only at hf; omega)
      unfold mp66 cpBox at k1
      simp only [hpp.1] at k1
      simp only [cpBox, XG, L102_8, h102_8, h102_13, go_sem, seval, bnd_ite, is_set, ite_self, Int.add_zero, gD_set, List.set_set, i1, i2, g1, hw, c0, hpp.1, hq2, k1, k2, k3, k4, k5, k6, k7, k8, tk, sq, Int.natCast_nonneg, Bool.false_eq_true, if_false]
      first | done | rfl
  case last =>
    intro st hI
    rw [List.length_zipIdx, hl]
    unfold mo66
    have j1 : ¬ ((8 : Nat) : Int) < 8 := by omega
    simp only [cpBox, XG, L102_8, h102_8, go_sem, seval, bnd_ite, j1, decide_false]
    exact .mk (by simp) ⟨rfl, rfl, rfl, rfl⟩
def mendIn (x : Dsk) : List Ino := if (x.inos.getD 0 ino0).kind = 2 then x.inos else x.inos.set 0 ⟨2, 1, [0, 0]⟩
def mendPtrs (x : Dsk) : Dsk := ⟨x.used, x.taken, ((mendIn x).zipIdx.foldl (mpOut x) (mendIn x, [])).1, x.blks⟩
theorem mendIn_len (x : Dsk) : (mendIn x).length = x.inos.length := by unfold mendIn; split <;> simp
theorem mendIn_ptrs {x : Dsk} (h : DskOk x) : ptrsOk (mendIn x) := by
  have base : ptrsOk x.inos := fun p hp => by
    have := inoOk_iff.1 (h.ino p hp)
    exact ⟨this.two, fun q hq => ⟨(this.ptr q hq).1, (this.ptr q hq).2.1⟩⟩
  unfold mendIn; split
  · exact base
  · intro p hp
    rcases List.mem_or_eq_of_mem_set hp with h1 | h1
    · exact base p h1
    · subst h1
      refine ⟨rfl, fun q hq => ?_⟩
      have : q = 0 := by simpa using hq
      omega
theorem mendFold_len (x : Dsk) (l : List Ino) : ∀ (st : List Ino × List Int) (m : List (Ino × Nat)), (m.foldl (mpOut x) st).1.length = st.1.length := by
  intro st m
  induction m generalizing st with
  | nil => rfl
  | cons e m ih => rw [List.foldl_cons, ih]; unfold mpOut; split <;> simp
set_option maxHeartbeats 1000000 in
theorem e102 (x : Dsk) (hk : x.ok) (h : x.sm) : E T 102 [dsk x] [] = some (dskO (if dskOk x then mendPtrs x else x), []) := by
  rw [E_eq t102 (Nat.le_of_ble_eq_true rfl)]
  have e1 := e83 x h
  have e2 := e84 x hk
  have t1 : (x.used.map bv).take x.used.length = x.used.map bv := List.take_of_length_le (by simp)
  have t2 : (x.taken.map bv).take x.taken.length = x.taken.map bv := List.take_of_length_le (by simp)
  have t3 : (x.inos.map inoO).take x.inos.length = x.inos.map inoO := List.take_of_length_le (by simp)
  have t4 : (x.blks.map blkO).take x.blks.length = x.blks.map blkO := List.take_of_length_le (by simp)
  unfold dsk dskO at e1
  unfold dsk at e2
  cases hd : dskOk x with
  | false =>
    simp only [dsk, F102, go_sem, seval, bnd_ite, e1, e2, hd, t1, t2, t3, t4, dskO, Bool.not_false, if_true, Bool.false_eq_true, if_false]
  | true =>
  rw [if_pos rfl]
  have hx := dskOk_iff.1 hd
  have n1 := hx.inos
  obtain ⟨⟨y, e, m⟩, k1, kx, k2, k3, km⟩ := in66a x hx (mendIn x) ((mendIn_len x).trans n1) (mendIn_ptrs hx)
  simp only at kx k2 k3 km; subst kx; subst km
  have hfl := mendFold_len x (mendIn x) (mendIn x, []) (mendIn x).zipIdx
  have hml := (mendIn_len x).trans n1
  unfold mendPtrs
  unfold mo66 cpBox at k1
  generalize hF : (mendIn x).zipIdx.foldl (mpOut x) (mendIn x, []) = F at *
  obtain ⟨Q, had⟩ := F
  have hQ : Q.length = 8 := hfl.trans hml
  have tq : (Q.map inoO).take 8 = Q.map inoO := List.take_of_length_le (by simp [hQ])
  obtain ⟨p, hp⟩ := get_at (show 0 < x.inos.length by omega)
  have gp : (x.inos.map inoO).getD 0 .undef = .agg [.int .i64 p.kind, .int .i64 p.links, .own 1 (p.ptrs.map iv)] := gD_map hp
  have g0 : x.inos.getD 0 ino0 = p := getD_at hp
  by_cases c : p.kind = 2
  · have hm : mendIn x = x.inos := by unfold mendIn; rw [g0, if_pos c]
    rw [hm] at k1
    simp only [List.map_nil] at k1
    have c : decide (p.kind = 2) = true := by simpa using c
    simp only [dsk, F102, cpBox, mo66, h102_8, go_sem, seval, bnd_ite, e1, e2, hd, n1, t1, t2, t3, t4, gp, c, k1, k2, k3, dskO, tq, hQ, Bool.not_true, Bool.false_eq_true, if_false, List.map_nil, List.length_nil]
    done
  · have hm : mendIn x = x.inos.set 0 ⟨2, 1, [0, 0]⟩ := by unfold mendIn; rw [g0, if_neg c]
    rw [hm] at k1
    simp only [List.map_nil] at k1
    have c : decide (p.kind = 2) = false := by simpa using c
    have e3 := e87k 2
    have sq : (x.inos.map inoO).set 0 (.agg [.int .i64 2, .int .i64 1, .own 1 [.int .i64 0, .int .i64 0]]) = (x.inos.set 0 ⟨2, 1, [0, 0]⟩).map inoO := set_map' (f := inoO) (x := (⟨2, 1, [0, 0]⟩ : Ino))
    simp only [dsk, F102, cpBox, mo66, h102_8, go_sem, seval, bnd_ite, e1, e2, e3, hd, n1, t1, t2, t3, t4, gp, c, sq, k1, k2, k3, dskO, tq, hQ, is_set, ite_self, gD_set, List.set_set, Bool.not_true, Bool.not_false, Bool.false_eq_true, if_false, if_true, List.map_nil, List.length_nil]
    done
end Go.Proofs.YtaaajjinpppgeaaGreat
namespace Go.Proofs.YtaaajjinpppgeaaGreat
open Go Go.Abs
set_option maxRecDepth 100000
def mp65 (x : Dsk) (Q : List Ino) (i : Nat) (k l : Int) (n : Nat) (st : List Int × List Int) : Mem :=
  [some (4, [.agg [.nil, .nil, .nil, .nil]]), some (4, [.agg [.own 1 (x.used.map bv), .own 1 (x.taken.map bv), .sl 4 0 8, .own 3 (x.blks.map blkO)]]), some (1, st.2.map iv),
    some (3, [.agg [.int .i64 k, .int .i64 l, .sl 5 0 n]]), some (3, (Q.map inoO).set i (.agg [.int .i64 k, .int .i64 l, .sl 5 0 n])), some (1, st.1.map iv)]
theorem in65b (x : Dsk) (hx : DskOk x) (Q : List Ino) (hQl : Q.length = 8) (i : Nat) (hi : i < 8) (k l : Int) (hk : k ≠ 0) (q0 : List Int) (hq : q0.length = 2) (hp : ∀ p ∈ q0, 0 ≤ p ∧ p ≤ 16) (had : List Int) (hh : had.length ≤ 1000) :
    ∃ r, XL T 0 H100_12 L100_12 ⟨[(2, .ptr 0 0 0), (3, .ptr 1 0 0), (4, .sl 2 0 had.length), (5, .int .i64 i), (6, .ptr 3 0 0), (7, .int .i64 0)], mp65 x Q i k l 2 (q0, had)⟩ = some r ∧
      r.1 = .exit 2 ∧ lookA r.2.env 2 = .ptr 0 0 0 ∧ lookA r.2.env 3 = .ptr 1 0 0 ∧ lookA r.2.env 4 = .sl 2 0 (q0.zipIdx.foldl (mpStep x k) (q0, had)).2.length ∧ lookA r.2.env 5 = .int .i64 i ∧
        r.2.mem = mp65 x Q i k l 2 (q0.zipIdx.foldl (mpStep x k) (q0, had)) := by
  refine XL_each q0.zipIdx (mpStep x k) (fun j st => ⟨[(2, .ptr 0 0 0), (3, .ptr 1 0 0), (4, .sl 2 0 st.2.length), (5, .int .i64 i), (6, .ptr 3 0 0), (7, .int .i64 (j : Nat))], mp65 x Q i k l 2 st⟩) (fun j st => MpI q0 had.length j st)
    (fun st r => r.1 = .exit 2 ∧ lookA r.2.env 2 = .ptr 0 0 0 ∧ lookA r.2.env 3 = .ptr 1 0 0 ∧ lookA r.2.env 4 = .sl 2 0 st.2.length ∧ lookA r.2.env 5 = .int .i64 i ∧ r.2.mem = mp65 x Q i k l 2 st) ?step ?last (q0, had) ⟨rfl, fun _ _ => rfl, by show had.length ≤ _; omega⟩
  case step =>
    rintro j st ⟨p, jj⟩ he hj hI
    obtain ⟨hpj, hjj⟩ := zip_at he
    simp only at hpj hjj; subst hjj
    refine ⟨?_, mpStep_inv hI⟩
    rw [List.length_zipIdx, hq] at hj
    obtain ⟨h1, h2, h3⟩ := hI
    obtain ⟨q, hd⟩ := st
    simp only at h1 h2 h3
    have j1 : (jj : Int) < 2 := by omega
    have j2 : jj < 2 := hj
    have i1 : (i : Int) < 8 := by omega
    have g1 : (q.map iv).getD jj .undef = .int .i64 p := gD_map ((h2 jj (Nat.le_refl _)).trans hpj)
    have hpr := hp p (List.mem_of_getElem? hpj)
    have hw := w_i64 ((jj : Int) + 1) (by omega)
    have hk : decide (k = 0) = false := by simpa using hk
    have sq : (Q.map inoO).set i (.agg [.int .i64 k, .int .i64 l, .own 1 (q.map iv)]) = (Q.set i ⟨k, l, q⟩).map inoO := set_map' (f := inoO) (x := (⟨k, l, q⟩ : Ino))
    have tq : (q.map iv).take 2 = q.map iv := List.take_of_length_le (by rw [List.length_map]; omega)
    have t8 : ∀ L : List AV, L.length = 8 → L.take 8 = L := fun L h => List.take_of_length_le (by omega)
    have tb : (x.blks.map blkO).take x.blks.length = x.blks.map blkO := List.take_of_length_le (by simp)
    have tu : (x.used.map bv).take x.used.length = x.used.map bv := List.take_of_length_le (by simp)
    have tt : (x.taken.map bv).take x.taken.length = x.taken.map bv := List.take_of_length_le (by simp)
    have hsl : ((Q.set i ⟨k, l, q⟩).map inoO).length = 8 := by simp [hQl]
    have n2 := hx.blks
    unfold mp65
    unfold mpStep
    by_cases c0 : p = 0
    · subst c0
      rw [if_pos rfl]
      have e1 := e193n ⟨x.used, x.taken, Q.set i ⟨k, l, q⟩, x.blks⟩ 0 (by simp [inside])
      unfold dsk at e1
      simp only [XG, L100_12, h100_12, go_sem, seval, bnd_ite, is_set, ite_self, j1, j2, i1, hi, hQl, h1, hq, g1, hw, hk, sq, tq, t8 _ hsl, tb, tu, tt, e1, Int.natCast_nonneg, decide_true, Bool.not_false, if_true]
      rfl
    have hp0 : 0 < p := by omega
    obtain ⟨b, hb⟩ := get_at (show (p - 1).toNat < x.blks.length by omega)
    have e1 := e193 ⟨x.used, x.taken, Q.set i ⟨k, l, q⟩, x.blks⟩ p (by show x.blks.length ≤ _; omega) (by simp [inside]; omega) b hb
    unfold dsk at e1
    rw [show blk b = .agg [.bool b.dir, .ro 2 (b.slots.map slt), .str b.text] from rfl] at e1
    have e2 := e77 hd p (by unfold maxLen; omega)
    have hap : (hd.length + 1) * 8 ≤ 140737488355328 := by omega
    have tk : (hd.map iv).take hd.length = hd.map iv := List.take_of_length_le (by simp)
    rw [if_neg c0, blkAt_eq hb]
    by_cases c1 : (!(b.dir == decide (k = 2)) || decide (p ∈ hd)) = true
    · rw [if_pos c1]
      have sm : (q.map iv).set jj (.int .i64 0) = (q.set jj 0).map iv := set_map' (f := iv) (x := (0 : Int))
      simp only [XG, L100_12, h100_12, go_sem, seval, bnd_ite, is_set, ite_self, j1, j2, i1, hi, hQl, h1, hq, g1, hw, hk, sq, tq, t8 _ hsl, tb, tu, tt, e1, e2, c1, sm, gD_set, Int.natCast_nonneg, decide_true, decide_false, Bool.not_false, Bool.not_true, Bool.false_eq_true, if_true, if_false]
      rfl
    · rw [if_neg c1]
      have c1 : (!(b.dir == decide (k = 2)) || decide (p ∈ hd)) = false := Bool.eq_false_iff.2 c1
      simp only [XG, L100_12, h100_12, go_sem, seval, bnd_ite, is_set, ite_self, j1, j2, i1, hi, hQl, h1, hq, g1, hw, hk, sq, tq, t8 _ hsl, tb, tu, tt, e1, e2, c1, hap, tk, gD_set, Int.natCast_nonneg, decide_true, decide_false, Bool.not_false, Bool.not_true, Bool.false_eq_true, if_true, if_false]
      simp only [List.map_append, List.map_cons, List.map_nil, List.length_append]
      rfl
  case last =>
    intro st hI
    rw [List.length_zipIdx, hq]
    unfold mp65
    have j1 : ¬ ((2 : Nat) : Int) < 2 := by omega
    simp only [XG, L100_12, h100_12, go_sem, seval, bnd_ite, j1, decide_false, Bool.false_and]
    exact .mk (by simp) ⟨rfl, rfl, rfl, rfl, rfl, rfl⟩
theorem in65z (x : Dsk) (Q : List Ino) (i : Nat) (l : Int) (q0 : List Int) (hq : q0.length = 2) (had : List Int) :
    ∃ r, XL T 0 H100_12 L100_12 ⟨[(2, .ptr 0 0 0), (3, .ptr 1 0 0), (4, .sl 2 0 had.length), (5, .int .i64 i), (6, .ptr 3 0 0), (7, .int .i64 0)], mp65 x Q i 0 l 2 (q0, had)⟩ = some r ∧
      r.1 = .exit 2 ∧ lookA r.2.env 2 = .ptr 0 0 0 ∧ lookA r.2.env 3 = .ptr 1 0 0 ∧ lookA r.2.env 4 = .sl 2 0 had.length ∧ lookA r.2.env 5 = .int .i64 i ∧ r.2.mem = mp65 x Q i 0 l 2 (q0, had) := by
  have key : Stops (XG T 0 H100_12 L100_12 ⟨[(2, .ptr 0 0 0), (3, .ptr 1 0 0), (4, .sl 2 0 had.length), (5, .int .i64 i), (6, .ptr 3 0 0), (7, .int .i64 0)], mp65 x Q i 0 l 2 (q0, had)⟩)
      (fun r => r.1 = .exit 2 ∧ lookA r.2.env 2 = .ptr 0 0 0 ∧ lookA r.2.env 3 = .ptr 1 0 0 ∧ lookA r.2.env 4 = .sl 2 0 had.length ∧ lookA r.2.env 5 = .int .i64 i ∧ r.2.mem = mp65 x Q i 0 l 2 (q0, had)) := by
    unfold mp65
    simp only [XG, L100_12, h100_12, go_sem, seval, bnd_ite, decide_true, Bool.not_true, Bool.and_false, Bool.false_eq_true, if_false]
    exact .mk (by simp) ⟨rfl, rfl, rfl, rfl, rfl, rfl⟩
  obtain ⟨r, h1, h2, h3⟩ := key
  exact ⟨r, XL_out h1 h2, h3⟩
def mo65 (x : Dsk) (st : List Ino × List Int) : Mem :=
  [some (4, [.agg [.nil, .nil, .nil, .nil]]), some (4, [.agg [.own 1 (x.used.map bv), .own 1 (x.taken.map bv), .sl 3 0 8, .own 3 (x.blks.map blkO)]]), some (1, st.2.map iv), some (3, st.1.map inoO)]
theorem in65a (x : Dsk) (hx : DskOk x) (l0 : List Ino) (hl : l0.length = 8) (hp : ptrsOk l0) :
    ∃ r, XL T 0 H100_8 L100_8 ⟨[(2, .ptr 0 0 0), (3, .ptr 1 0 0), (4, .sl 2 0 0), (5, .int .i64 0)], mo65 x (l0, [])⟩ = some r ∧
      r.1 = .exit 0 ∧ lookA r.2.env 2 = .ptr 0 0 0 ∧ lookA r.2.env 3 = .ptr 1 0 0 ∧ r.2.mem = mo65 x (l0.zipIdx.foldl (mpOut x) (l0, [])) := by
  refine XL_each l0.zipIdx (mpOut x) (fun i st => ⟨[(2, .ptr 0 0 0), (3, .ptr 1 0 0), (4, .sl 2 0 st.2.length), (5, .int .i64 (i : Nat))], mo65 x st⟩) (fun i st => MoI l0 i st)
    (fun st r => r.1 = .exit 0 ∧ lookA r.2.env 2 = .ptr 0 0 0 ∧ lookA r.2.env 3 = .ptr 1 0 0 ∧ r.2.mem = mo65 x st) ?step ?last (l0, []) ⟨rfl, fun _ _ => rfl, by show (0 : Nat) ≤ _; omega⟩
  case step =>
    rintro i st ⟨p, ii⟩ he hi hI
    obtain ⟨hpi, hii⟩ := zip_at he
    simp only at hpi hii; subst hii
    have hpp := hp p (List.mem_of_getElem? hpi)
    refine ⟨?_, mpOut_inv hpp.1 hI⟩
    rw [List.length_zipIdx, hl] at hi
    obtain ⟨h1, h2, h3⟩ := hI
    obtain ⟨Q, had⟩ := st
    simp only at h1 h2 h3
    have i1 : (ii : Int) < 8 := by omega
    have hQ := (h2 ii (Nat.le_refl _)).trans hpi
    have g1 : (Q.map inoO).getD ii .undef = .agg [.int .i64 p.kind, .int .i64 p.links, .own 1 (p.ptrs.map iv)] := gD_map hQ
    have i2 : ii < Q.length := by omega
    have hQl : Q.length = 8 := by omega
    have hw := w_i64 ((ii : Int) + 1) (by omega)
    unfold mo65
    unfold mpOut
    have sq : ∀ q : List Int, (Q.map inoO).set ii (.agg [.int .i64 p.kind, .int .i64 p.links, .own 1 (q.map iv)]) = (Q.set ii ⟨p.kind, p.links, q⟩).map inoO := fun q => set_map' (f := inoO) (x := (⟨p.kind, p.links, q⟩ : Ino))
    by_cases c0 : p.kind = 0
    · have s0 := sq p.ptrs
      rw [show (⟨p.kind, p.links, p.ptrs⟩ : Ino) = p from rfl, set_self hQ] at s0
      obtain ⟨⟨y, e, m⟩, k1, kx, k2, k3, k4, k5, km⟩ := in65z x Q ii p.links p.ptrs hpp.1 had
      simp only at kx k2 k3 k4 k5 km; subst kx; subst km
      unfold mp65 at k1
      rw [if_pos c0]
      rw [c0] at g1 s0
      simp only [XG, L100_8, h100_8, h100_12, mp65, go_sem, seval, bnd_ite, is_set, ite_self, Int.add_zero, gD_set, List.set_set, tk_len, i1, i2, hi, hQl, g1, hw, hpp.1, k1, k2, k3, k4, k5, s0, Int.natCast_nonneg, decide_true, if_true]
      first | done | rfl
    · rw [if_neg c0]
      obtain ⟨⟨y, e, m⟩, k1, kx, k2, k3, k4, k5, km⟩ := in65b x hx Q hQl ii hi p.kind p.links c0 p.ptrs hpp.1 hpp.2 had (by omega)
      simp only at kx k2 k3 k4 k5 km; subst kx; subst km
      have hf := (mpFold (x := x) (k := p.kind) (q0 := p.ptrs) (had := had)).len
      generalize hF : p.ptrs.zipIdx.foldl (mpStep x p.kind) (p.ptrs, had) = F at *
      obtain ⟨q, hd⟩ := F
      have hq2 : q.length = 2 := by rw [hpp.1] at hf; exact hf
      unfold mp65 at k1
      simp only [XG, L100_8, h100_8, h100_12, mp65, go_sem, seval, bnd_ite, is_set, ite_self, Int.add_zero, gD_set, List.set_set, tk_len, i1, i2, hi, hQl, g1, hw, hpp.1, hq2, k1, k2, k3, k4, k5, sq, Int.natCast_nonneg, decide_true, if_true]
      first | done | rfl
  case last =>
    intro st hI
    rw [List.length_zipIdx, hl]
    have h1 := hI.len
    unfold mo65
    have j1 : ¬ ((8 : Nat) : Int) < 8 := by omega
    simp only [XG, L100_8, h100_8, go_sem, seval, bnd_ite, j1, decide_false]
    exact .mk (by simp) ⟨rfl, rfl, rfl, rfl⟩
set_option maxHeartbeats 1000000 in
theorem e100 (x : Dsk) (hk : x.ok) (h : x.sm) : E T 100 [dsk x] [] = some (dskO (if dskOk x then mendPtrs x else x), []) := by
  rw [E_eq t100 (Nat.le_of_ble_eq_true rfl)]
  have e1 := e74 x h
  have e2 := e75 x hk
  have t1 : (x.used.map bv).take x.used.length = x.used.map bv := List.take_of_length_le (by simp)
  have t2 : (x.taken.map bv).take x.taken.length = x.taken.map bv := List.take_of_length_le (by simp)
  have t3 : (x.inos.map inoO).take x.inos.length = x.inos.map inoO := List.take_of_length_le (by simp)
  have t4 : (x.blks.map blkO).take x.blks.length = x.blks.map blkO := List.take_of_length_le (by simp)
  unfold dsk dskO at e1
  unfold dsk at e2
  cases hd : dskOk x with
  | false =>
    simp only [dsk, F100, go_sem, seval, bnd_ite, e1, e2, hd, t1, t2, t3, t4, dskO, Bool.not_false, if_true, Bool.false_eq_true, if_false]
  | true =>
  rw [if_pos rfl]
  have hx := dskOk_iff.1 hd
  have n1 := hx.inos
  obtain ⟨⟨y, e, m⟩, k1, kx, k2, k3, km⟩ := in65a x hx (mendIn x) ((mendIn_len x).trans n1) (mendIn_ptrs hx)
  simp only at kx k2 k3 km; subst kx; subst km
  have hfl := mendFold_len x (mendIn x) (mendIn x, []) (mendIn x).zipIdx
  have hml := (mendIn_len x).trans n1
  unfold mendPtrs
  unfold mo65 at k1
  generalize hF : (mendIn x).zipIdx.foldl (mpOut x) (mendIn x, []) = F at *
  obtain ⟨Q, had⟩ := F
  have hQ : Q.length = 8 := hfl.trans hml
  have tq : (Q.map inoO).take 8 = Q.map inoO := List.take_of_length_le (by simp [hQ])
  obtain ⟨p, hp⟩ := get_at (show 0 < x.inos.length by omega)
  have gp : (x.inos.map ino).getD 0 .undef = .agg [.int .i64 p.kind, .int .i64 p.links, .ro 1 (p.ptrs.map iv)] := gD_map hp
  have gpo : (x.inos.map inoO).getD 0 .undef = .agg [.int .i64 p.kind, .int .i64 p.links, .own 1 (p.ptrs.map iv)] := gD_map hp
  have g0 : x.inos.getD 0 ino0 = p := getD_at hp
  by_cases c : p.kind = 2
  · have hm : mendIn x = x.inos := by unfold mendIn; rw [g0, if_pos c]
    rw [hm] at k1
    simp only [List.map_nil] at k1
    have c : decide (p.kind = 2) = true := by simpa using c
    simp only [dsk, F100, mo65, h100_8, go_sem, seval, bnd_ite, e1, e2, hd, n1, t1, t2, t3, t4, gp, c, k1, k2, k3, dskO, tq, hQ, Bool.not_true, Bool.false_eq_true, if_false, List.map_nil, List.length_nil]
    done
  · have hm : mendIn x = x.inos.set 0 ⟨2, 1, [0, 0]⟩ := by unfold mendIn; rw [g0, if_neg c]
    rw [hm] at k1
    simp only [List.map_nil] at k1
    have c : decide (p.kind = 2) = false := by simpa using c
    have e3 := e55k 2
    have sq : (x.inos.map inoO).set 0 (.agg [.int .i64 2, .int .i64 1, .own 1 [.int .i64 0, .int .i64 0]]) = (x.inos.set 0 ⟨2, 1, [0, 0]⟩).map inoO := set_map' (f := inoO) (x := (⟨2, 1, [0, 0]⟩ : Ino))
    simp only [dsk, F100, mo65, h100_8, go_sem, seval, bnd_ite, e1, e2, e3, hd, n1, t1, t2, t3, t4, gp, gpo, c, sq, k1, k2, k3, dskO, tq, hQ, is_set, ite_self, gD_set, List.set_set, Bool.not_true, Bool.not_false, Bool.false_eq_true, if_false, if_true, List.map_nil, List.length_nil]
    done
end Go.Proofs.YtaaajjinpppgeaaGreat
namespace Go.Proofs.YtaaajjinpppgeaaGreat
open Go Go.Abs
set_option maxRecDepth 100000
theorem mpOut_two {x : Dsk} (m : List (Ino × Nat)) : ∀ st : List Ino × List Int, (∀ e ∈ m, e.1.ptrs.length = 2) → (∀ p ∈ st.1, p.ptrs.length = 2) → ∀ p ∈ (m.foldl (mpOut x) st).1, p.ptrs.length = 2 := by
  induction m with
  | nil => intro st _ h; exact h
  | cons e m ih =>
    intro st hm h
    rw [List.foldl_cons]
    refine ih _ (fun f hf => hm f (List.mem_cons_of_mem _ hf)) ?_
    unfold mpOut
    split
    · exact h
    · intro p hp
      rcases List.mem_or_eq_of_mem_set hp with h1 | h1
      · exact h p h1
      · subst h1
        have := (mpFold (x := x) (k := e.1.kind) (q0 := e.1.ptrs) (had := st.2)).len
        show (List.foldl (mpStep x e.1.kind) (e.1.ptrs, st.2) e.1.ptrs.zipIdx).1.length = 2
        rw [this]; exact hm e (List.mem_cons_self ..)
theorem mendPtrs_two {x : Dsk} (h : DskOk x) : ∀ p ∈ (mendPtrs x).inos, p.ptrs.length = 2 := by
  have h1 := mendIn_ptrs h
  refine mpOut_two _ _ (fun e he => ?_) (fun p hp => (h1 p hp).1)
  obtain ⟨i, hi⟩ := List.mem_iff_getElem?.1 he
  obtain ⟨h2, _⟩ := zip_at (p := e) hi
  exact (h1 e.1 (List.mem_of_getElem? h2)).1
theorem mendPtrs_len {x : Dsk} : (mendPtrs x).inos.length = x.inos.length := by
  show ((mendIn x).zipIdx.foldl (mpOut x) (mendIn x, [])).1.length = _
  rw [mendFold_len x (mendIn x)]; exact mendIn_len x
def mendP (x : Dsk) : Dsk := if dskOk x then mendPtrs x else x
theorem mendP_sm {x : Dsk} (h : x.sm) : (mendP x).sm := by
  unfold mendP
  split
  · rename_i hd
    have hx := dskOk_iff.1 hd
    refine ⟨h.used, h.taken, ?_, h.blks, fun p hp => ?_, h.blk⟩
    · rw [mendPtrs_len]; exact h.inos
    · have := mendPtrs_two hx p hp
      unfold Ino.sm; omega
  · exact h
theorem mendP_ok {x : Dsk} (h : x.ok) (hs : x.sm) : (mendP x).ok := by
  have h2 := mendP_sm hs
  have hb : (mendP x).blks = x.blks := by unfold mendP; split <;> rfl
  have : ∀ n : Nat, n ≤ 1048576 → n ≤ maxLen := fun n h => by unfold maxLen; omega
  exact ⟨this _ h2.used, this _ h2.taken, this _ h2.inos, this _ h2.blks, fun y hy => this _ (h2.ino y hy), by rw [hb]; exact h.blk⟩
end Go.Proofs.YtaaajjinpppgeaaGreat
namespace Go.Proofs.YtaaajjinpppgeaaGreat
open Go Go.Abs
set_option maxRecDepth 100000
def pushN (L : List Slt) (s : Slt) : List Slt := if hasName s then L ++ [s] else L
theorem pushN_all (l : List Slt) : ∀ L : List Slt, l.foldl pushN L = L ++ l.filter hasName := by
  induction l with
  | nil => intro L; simp
  | cons s l ih =>
    intro L
    rw [List.foldl_cons, ih]
    unfold pushN
    cases h : hasName s <;> simp [h]
theorem pushN_len (L : List Slt) (s : Slt) : (pushN L s).length ≤ L.length + 1 := by unfold pushN; split <;> simp
def dskC (x : Dsk) : AV := .agg [.ro 1 (x.used.map bv), .ro 1 (x.taken.map bv), .ro 3 (x.inos.map ino), .ro 3 (x.blks.map blk)]
def sl178 (x : Dsk) (b : Blk) (L : List Slt) : Mem := [some (4, [dskC x]), some (2, L.map slt), some (3, [.agg [.bool b.dir, .ro 2 (b.slots.map slt), .str b.text]])]
theorem in178b (x : Dsk) (i : Int) (k : Nat) (b : Blk) (hb : b.sm) (L : List Slt) (hL : L.length ≤ 1099511627776) :
    ∃ r, XL T 0 H175_9 L175_9 ⟨[(1, .int .i64 i), (2, .ptr 0 0 0), (5, .sl 1 0 L.length), (6, .int .i64 k), (7, .ptr 2 0 0), (9, .int .i64 0)], sl178 x b L⟩ = some r ∧
      r.1 = .exit 2 ∧ lookA r.2.env 1 = .int .i64 i ∧ lookA r.2.env 2 = .ptr 0 0 0 ∧ lookA r.2.env 5 = .sl 1 0 (L ++ namedOf b).length ∧ lookA r.2.env 6 = .int .i64 k ∧ r.2.mem = sl178 x b (L ++ namedOf b) := by
  unfold Blk.sm at hb
  cases hd : b.dir with
  | false =>
    have e : L ++ namedOf b = L := by unfold namedOf; rw [hd]; simp
    rw [e]
    have key : Stops (XG T 0 H175_9 L175_9 ⟨[(1, .int .i64 i), (2, .ptr 0 0 0), (5, .sl 1 0 L.length), (6, .int .i64 k), (7, .ptr 2 0 0), (9, .int .i64 0)], sl178 x b L⟩)
        (fun r => r.1 = .exit 2 ∧ lookA r.2.env 1 = .int .i64 i ∧ lookA r.2.env 2 = .ptr 0 0 0 ∧ lookA r.2.env 5 = .sl 1 0 L.length ∧ lookA r.2.env 6 = .int .i64 k ∧ r.2.mem = sl178 x b L) := by
      unfold sl178 dskC
      by_cases h0 : 0 < (b.slots.length : Int)
      · simp only [XG, L175_9, h175_9, go_sem, seval, bnd_ite, hd, h0, decide_true, Bool.and_false, Bool.false_eq_true, if_false]
        exact .mk (by simp) ⟨rfl, rfl, rfl, rfl, rfl, rfl⟩
      · simp only [XG, L175_9, h175_9, go_sem, seval, bnd_ite, hd, h0, decide_false, Bool.false_and, Bool.false_eq_true, if_false]
        exact .mk (by simp) ⟨rfl, rfl, rfl, rfl, rfl, rfl⟩
    obtain ⟨r, h1, h2, h3⟩ := key
    exact ⟨r, XL_out h1 h2, h3⟩
  | true =>
    have e : L ++ namedOf b = b.slots.foldl pushN L := by unfold namedOf; rw [hd, if_pos rfl, pushN_all]
    rw [e]
    refine XL_each b.slots pushN (fun j M => ⟨[(1, .int .i64 i), (2, .ptr 0 0 0), (5, .sl 1 0 M.length), (6, .int .i64 k), (7, .ptr 2 0 0), (9, .int .i64 (j : Nat))], sl178 x b M⟩) (fun j M => M.length ≤ L.length + j)
      (fun M r => r.1 = .exit 2 ∧ lookA r.2.env 1 = .int .i64 i ∧ lookA r.2.env 2 = .ptr 0 0 0 ∧ lookA r.2.env 5 = .sl 1 0 M.length ∧ lookA r.2.env 6 = .int .i64 k ∧ r.2.mem = sl178 x b M) ?step ?last L (by omega)
    case step =>
      intro j M s hs hj hM
      refine ⟨?_, by have := pushN_len M s; omega⟩
      have j1 : (j : Int) < (b.slots.length : Int) := by omega
      have gs : (b.slots.map slt).getD j .undef = .agg [.str s.name, .int .i64 s.ino] := gD_map hs
      have hap : (M.length + 1) * 24 ≤ 140737488355328 := by omega
      have tk : (M.map slt).take M.length = M.map slt := List.take_of_length_le (by simp)
      have hw := w_i64 ((j : Int) + 1) (by omega)
      unfold sl178 dskC pushN
      cases hn : hasName s with
      | true =>
        have hn : decide (s.name = ⟨#[]⟩) = false := by simpa [hasName] using hn
        simp only [XG, L175_9, h175_9, go_sem, seval, bnd_ite, hd, j1, gs, hn, hap, tk, hw, Int.natCast_nonneg, decide_true, Bool.not_false, Bool.and_self, if_true, List.map_append, List.map_cons, List.map_nil, List.length_append]
        rfl
      | false =>
        have hn : decide (s.name = ⟨#[]⟩) = true := by simpa [hasName] using hn
        simp only [XG, L175_9, h175_9, go_sem, seval, bnd_ite, hd, j1, gs, hn, hw, Int.natCast_nonneg, decide_true, Bool.not_true, Bool.and_self, if_true, Bool.false_eq_true, if_false]
        rfl
    case last =>
      intro M hM
      unfold sl178 dskC
      simp only [XG, L175_9, h175_9, go_sem, seval, bnd_ite, hd, Int.lt_irrefl, decide_false, Bool.false_and]
      exact .mk (by simp) ⟨rfl, rfl, rfl, rfl, rfl, rfl⟩
theorem e175 (x : Dsk) (h : x.sm) (i : Int) (hi : -9223372036854775808 ≤ i ∧ i ≤ 9223372036854775807) : E T 175 [dsk x, .int .i64 i] [] = some (.own 2 ((slotsAt x i).map slt), []) := by
  rw [E_eqW t175 (Nat.le_of_ble_eq_true rfl)]
  have n1 := h.inos
  cases hc : inside i 1 x.inos.length with
  | false =>
    have : slotsAt x i = [] := by unfold slotsAt inoOf; rw [hc]; rfl
    rw [this]
    simp only [dsk, F175, h175_5, go_sem, seval, bnd_ite, e108i, hc, Bool.not_false, Bool.true_or, if_true, List.map_nil]
  | true =>
  have hc' := hc
  simp only [inside, Bool.and_eq_true, decide_eq_true_eq] at hc'
  have hp := inoOf_mem hc
  have hsm := inoOf_sm h i
  generalize hP : inoOf x i = p at *
  have gp : (x.inos.map ino).getD (i - 1).toNat .undef = .agg [.int .i64 p.kind, .int .i64 p.links, .ro 1 (p.ptrs.map iv)] := gD_map hp
  have b1 : 0 ≤ i - 1 := by omega
  have b2 : i - 1 < (x.inos.length : Int) := by omega
  have w1 := w_i64 (i - 1) (by omega)
  by_cases hk : p.kind = 2
  case neg =>
    have : slotsAt x i = [] := by unfold slotsAt; rw [hP, if_neg hk]
    rw [this]
    have hk : decide (p.kind = 2) = false := by simpa using hk
    simp only [dsk, F175, h175_5, go_sem, seval, bnd_ite, e108i, hc, w1, b1, b2, gp, hk, Bool.not_true, Bool.not_false, Bool.false_or, if_true, List.map_nil]
  have hs : slotsAt x i = p.ptrs.foldl (fun L q => L ++ namedOf (blkOf x q)) [] := by
    unfold slotsAt; rw [hP, if_pos hk]
    have : ∀ (l : List Int) (L : List Slt), l.foldl (fun L q => L ++ namedOf (blkOf x q)) L = L ++ l.flatMap fun q => namedOf (blkOf x q) := by
      intro l
      induction l with
      | nil => intro L; simp
      | cons q l ih => intro L; rw [List.foldl_cons, ih]; simp
    rw [this]; simp
  unfold Ino.sm at hsm
  refine (XL_each (T := T) (b := 0) (hd := H175_5) (x := L175_5) p.ptrs (fun L q => L ++ namedOf (blkOf x q)) (fun j L => ⟨[(1, .int .i64 i), (2, .ptr 0 0 0), (5, .sl 1 0 L.length), (6, .int .i64 (j : Nat))], [some (4, [dskC x]), some (2, L.map slt)]⟩) (fun j L => L.length ≤ j * 1048576)
    (fun L r => r.1 = .exit 0 ∧ lookA r.2.env 5 = .sl 1 0 L.length ∧ r.2.mem = [some (4, [dskC x]), some (2, L.map slt)]) ?step ?last [] (by simp)).elim ?main
  case step =>
    intro j L q hq hj hL
    have hn := namedOf_len h q
    refine ⟨?_, by simp only [List.length_append]; omega⟩
    have j1 : (j : Int) < (p.ptrs.length : Int) := by omega
    have gq : (p.ptrs.map iv).getD j .undef = .int .i64 q := gD_map hq
    have e1 := e193u x h q
    unfold dsk at e1
    rw [show blk (blkOf x q) = .agg [.bool (blkOf x q).dir, .ro 2 ((blkOf x q).slots.map slt), .str (blkOf x q).text] from rfl] at e1
    obtain ⟨⟨y, e, m⟩, k1, kx, k2, k3, k4, k5, km⟩ := in178b x i j (blkOf x q) (blkOf_sm h q) L (by omega)
    simp only at kx k2 k3 k4 k5 km; subst kx; subst km
    unfold sl178 dskC at k1
    have hw := w_i64 ((j : Int) + 1) (by omega)
    simp only [XG, L175_5, h175_5, h175_9, dskC, sl178, go_sem, seval, bnd_ite, w1, b1, b2, gp, j1, gq, e1, hw, k1, k2, k3, k4, k5, Int.natCast_nonneg, decide_true]
    first | done | rfl
  case last =>
    intro L hL
    unfold dskC
    simp only [XG, L175_5, h175_5, go_sem, seval, bnd_ite, w1, b1, b2, gp, Int.lt_irrefl, decide_false]
    exact .mk (by simp) ⟨rfl, rfl, rfl⟩
  case main =>
  rintro ⟨y, e, m⟩ ⟨k1, kx, k2, km⟩
  simp only at kx k2 km; subst kx; subst km
  have hs0 : ((0 : Nat) : Int) = 0 := rfl
  simp only [hs0, List.map_nil, List.length_nil] at k1
  rw [← hs] at k1 k2
  unfold dskC at k1
  have hk : decide (p.kind = 2) = true := by simpa using hk
  generalize slotsAt x i = S at *
  have tk : (S.map slt).take S.length = S.map slt := List.take_of_length_le (by simp)
  simp only [dsk, F175, h175_5, dskC, go_sem, seval, bnd_ite, e108i, hc, w1, b1, b2, gp, hk, k1, k2, tk, Bool.not_true, Bool.or_self, Bool.false_eq_true, if_false]
end Go.Proofs.YtaaajjinpppgeaaGreat
namespace Go.Proofs.YtaaajjinpppgeaaGreat
open Go Go.Abs
set_option maxRecDepth 100000
def good (x : Dsk) (j : Int) : Bool := !decide ((inoOf x j).kind = 0)
theorem good_in {x : Dsk} {j : Int} (h : good x j = true) : inside j 1 x.inos.length = true := by
  cases hc : inside j 1 x.inos.length with
  | true => rfl
  | false => unfold good inoOf at h; rw [hc] at h; simp [ino0] at h
inductive Reach (x : Dsk) : Int → Prop
  | root : Reach x 1
  | step {i : Int} {s : Slt} : Reach x i → s ∈ slotsAt x i → good x s.ino = true → Reach x s.ino
theorem reach_in {x : Dsk} (hn : 0 < x.inos.length) {i : Int} (h : Reach x i) : 1 ≤ i ∧ i ≤ (x.inos.length : Int) := by
  cases h with
  | root => omega
  | step _ _ h => simpa [inside] using good_in h
def numL (n : Nat) : List Int := (List.range n).map fun (k : Nat) => (k : Int) + 1
theorem mem_numL {n : Nat} {i : Int} : i ∈ numL n ↔ 1 ≤ i ∧ i ≤ (n : Int) := by
  unfold numL
  simp only [List.mem_map, List.mem_range]
  exact ⟨fun ⟨k, h1, h2⟩ => by omega, fun h => ⟨(i - 1).toNat, by omega, by omega⟩⟩
theorem numL_lt (n : Nat) : (numL n).Pairwise (· < ·) := by
  unfold numL
  rw [List.pairwise_map]
  exact List.Pairwise.imp (fun h => by omega) (List.pairwise_lt_range (n := n))
open Classical in
noncomputable def reachL (x : Dsk) : List Int := (numL x.inos.length).filter fun i => decide (Reach x i)
open Classical in
theorem mem_reachL {x : Dsk} {i : Int} : i ∈ reachL x ↔ (1 ≤ i ∧ i ≤ (x.inos.length : Int)) ∧ Reach x i := by
  unfold reachL; rw [List.mem_filter, mem_numL, decide_eq_true_eq]
theorem reachL_lt (x : Dsk) : (reachL x).Pairwise (· < ·) := (numL_lt _).filter _
theorem reachL_nodup (x : Dsk) : (reachL x).Nodup := (reachL_lt x).imp fun h => by omega
theorem reachL_len (x : Dsk) : (reachL x).length ≤ x.inos.length := Nat.le_trans (List.length_filter_le ..) (by simp [numL])
theorem nodup_len {n : Nat} {l : List Int} (h : l.Nodup) (hi : ∀ i ∈ l, 1 ≤ i ∧ i ≤ (n : Int)) : l.length ≤ n := by
  have hp : l.Perm ((numL n).filter fun i => decide (i ∈ l)) :=
    (List.perm_ext_iff_of_nodup h (((numL_lt n).imp fun h => by omega).filter _)).2 fun i => by
      rw [List.mem_filter, mem_numL, decide_eq_true_eq]; exact ⟨fun h => ⟨hi i h, h⟩, fun h => h.2⟩
  rw [hp.length_eq]
  exact Nat.le_trans (List.length_filter_le ..) (by simp [numL])
theorem sort_reach {x : Dsk} {l : List Int} (h : l.Nodup) (hm : ∀ i, i ∈ l ↔ i ∈ reachL x) : sortI l = reachL x := by
  have hp : (sortI l).Perm (reachL x) := (List.mergeSort_perm l _).trans ((List.perm_ext_iff_of_nodup h (reachL_nodup x)).2 hm)
  refine List.Perm.eq_of_pairwise (le := fun a b : Int => a ≤ b) (fun a b _ _ h1 h2 => by omega) ?_ ((reachL_lt x).imp fun h => by omega) hp
  have := List.pairwise_mergeSort (le := fun a b : Int => decide (a ≤ b)) (fun a b c h1 h2 => by simp at *; omega) (fun a b => by simp; omega) l
  exact this.imp fun h => by simpa using h
def bfsStep (x : Dsk) (L : List Int) (s : Slt) : List Int := if good x s.ino = true ∧ ¬ s.ino ∈ L then L ++ [s.ino] else L
theorem bfs_fold (x : Dsk) (l : List Slt) : ∀ L : List Int, L.Nodup →
    (l.foldl (bfsStep x) L).Nodup ∧ (∃ t, l.foldl (bfsStep x) L = L ++ t) ∧ (∀ s ∈ l, good x s.ino = true → s.ino ∈ l.foldl (bfsStep x) L) ∧
      ∀ j ∈ l.foldl (bfsStep x) L, j ∈ L ∨ ∃ s ∈ l, good x s.ino = true ∧ s.ino = j := by
  induction l with
  | nil => intro L h; exact ⟨h, ⟨[], by simp⟩, by simp, fun j hj => .inl hj⟩
  | cons s l ih =>
    intro L h
    rw [List.foldl_cons]
    have hs : (bfsStep x L s).Nodup ∧ (∃ t, bfsStep x L s = L ++ t) ∧ (good x s.ino = true → s.ino ∈ bfsStep x L s) ∧ ∀ j ∈ bfsStep x L s, j ∈ L ∨ good x s.ino = true ∧ s.ino = j := by
      unfold bfsStep
      by_cases c : good x s.ino = true ∧ ¬ s.ino ∈ L
      · rw [if_pos c]
        refine ⟨?_, ⟨_, rfl⟩, fun _ => by simp, fun j hj => ?_⟩
        · rw [List.nodup_append]
          exact ⟨h, by simp, fun a ha b hb => by simp at hb; subst hb; intro e; subst e; exact c.2 ha⟩
        · rw [List.mem_append, List.mem_singleton] at hj
          rcases hj with hj | rfl
          · exact .inl hj
          · exact .inr ⟨c.1, rfl⟩
      · rw [if_neg c]
        exact ⟨h, ⟨[], by simp⟩, fun hg => Classical.byContradiction fun hc => c ⟨hg, hc⟩, fun j hj => .inl hj⟩
    obtain ⟨s1, ⟨t, s2⟩, s3, s4⟩ := hs
    obtain ⟨h1, ⟨t2, h2⟩, h3, h4⟩ := ih _ s1
    refine ⟨h1, ⟨t ++ t2, by rw [h2, s2, List.append_assoc]⟩, fun a ha hg => ?_, fun j hj => ?_⟩
    · rw [List.mem_cons] at ha
      rcases ha with rfl | ha
      · rw [h2]; exact List.mem_append_left _ (s3 hg)
      · exact h3 a ha hg
    · rcases h4 j hj with hj | ⟨a, ha, hg⟩
      · rcases s4 j hj with hj | hg
        · exact .inl hj
        · exact .inr ⟨s, by simp, hg⟩
      · exact .inr ⟨a, List.mem_cons_of_mem _ ha, hg⟩
structure BInv (x : Dsk) (k : Nat) (L : List Int) : Prop where
  nodup : L.Nodup
  root : (1 : Int) ∈ L
  sound : ∀ i ∈ L, Reach x i
  done : ∀ i ∈ L.take k, ∀ s ∈ slotsAt x i, good x s.ino = true → s.ino ∈ L
  le : k ≤ L.length
theorem BInv.start (x : Dsk) : BInv x 0 [1] := ⟨by simp, by simp, fun i hi => by simp at hi; subst hi; exact .root, by simp, by simp⟩
theorem BInv.step {x : Dsk} {k : Nat} {L : List Int} (h : BInv x k L) {i : Int} (hi : L[k]? = some i) : BInv x (k + 1) ((slotsAt x i).foldl (bfsStep x) L) := by
  obtain ⟨h1, ⟨t, h2⟩, h3, h4⟩ := bfs_fold x (slotsAt x i) L h.nodup
  have hk : k < L.length := by
    obtain ⟨h, _⟩ := List.getElem?_eq_some_iff.1 hi
    exact h
  refine ⟨h1, by rw [h2]; exact List.mem_append_left _ h.root, fun j hj => ?_, fun j hj s hs hg => ?_, by rw [h2, List.length_append]; omega⟩
  · rcases h4 j hj with hj | ⟨s, hs, hg, rfl⟩
    · exact h.sound j hj
    · exact .step (h.sound i (List.mem_of_getElem? hi)) hs hg
  · rw [h2, List.take_append_of_le_length (by omega), take_snoc hi, List.mem_append, List.mem_singleton] at hj
    rcases hj with hj | rfl
    · rw [h2]; exact List.mem_append_left _ (h.done j hj s hs hg)
    · exact h3 s hs hg
theorem BInv.len {x : Dsk} {k : Nat} {L : List Int} (h : BInv x k L) (hn : 0 < x.inos.length) : L.length ≤ x.inos.length := nodup_len h.nodup fun i hi => reach_in hn (h.sound i hi)
theorem BInv.stop {x : Dsk} {k : Nat} {L : List Int} (h : BInv x k L) (hn : 0 < x.inos.length) (hk : L.length ≤ k) : sortI L = reachL x := by
  refine sort_reach h.nodup fun i => ⟨fun hi => mem_reachL.2 ⟨reach_in hn (h.sound i hi), h.sound i hi⟩, fun hi => ?_⟩
  have hr := (mem_reachL.1 hi).2
  clear hi
  have hd := h.done
  rw [List.take_of_length_le hk] at hd
  induction hr with
  | root => exact h.root
  | step _ hs hg ih => exact hd _ ih _ hs hg
def hasStep (x : Dsk) (h : List Bool) (s : Slt) : List Bool := if good x s.ino = true then h.set (s.ino - 1).toNat true else h
def hasIno (x : Dsk) (h : List Bool) (i : Nat) : List Bool := if h.getD i false = true then (slotsAt x ((i : Int) + 1)).foldl (hasStep x) h else h
def hasRound (x : Dsk) (h : List Bool) : List Bool := (List.range x.inos.length).foldl (hasIno x) h
def leB (a b : List Bool) : Prop := a.length = b.length ∧ ∀ i : Nat, a.getD i false = true → b.getD i false = true
theorem leB.refl (a : List Bool) : leB a a := ⟨rfl, fun _ h => h⟩
theorem leB.trans {a b c : List Bool} (h1 : leB a b) (h2 : leB b c) : leB a c := ⟨h1.1.trans h2.1, fun i h => h2.2 i (h1.2 i h)⟩
theorem leB.antisymm {a b : List Bool} (h1 : leB a b) (h2 : leB b a) : a = b := by
  refine List.ext_getElem h1.1 fun i p q => ?_
  have e1 := h1.2 i; have e2 := h2.2 i
  simp only [List.getD_eq_getElem?_getD, List.getElem?_eq_getElem p, List.getElem?_eq_getElem q, Option.getD_some] at e1 e2
  cases ha : a[i] <;> cases hb : b[i] <;> simp_all
theorem leB_fold {α : Type} (f : List Bool → α → List Bool) (hf : ∀ h a, leB h (f h a)) (l : List α) : ∀ h, leB h (l.foldl f h) := by
  induction l with
  | nil => intro h; exact .refl h
  | cons a l ih => intro h; exact (hf h a).trans (ih _)
theorem fix_fold {α : Type} (f : List Bool → α → List Bool) (hf : ∀ h a, leB h (f h a)) (l : List α) : ∀ h, l.foldl f h = h → ∀ a ∈ l, f h a = h := by
  induction l with
  | nil => intro h _ a ha; simp at ha
  | cons b l ih =>
    intro h e a ha
    rw [List.foldl_cons] at e
    have e1 : f h b = h := leB.antisymm (by have := leB_fold f hf l (f h b); rw [e] at this; exact this) (hf h b)
    rw [List.mem_cons] at ha
    rcases ha with rfl | ha
    · exact e1
    · rw [e1] at e; exact ih h e a ha
theorem gD_setB (h : List Bool) (k i : Nat) : (h.set k true).getD i false = if i = k ∧ k < h.length then true else h.getD i false := by
  simp only [List.getD_eq_getElem?_getD, List.getElem?_set]
  by_cases c : k = i
  · subst c
    by_cases c2 : k < h.length
    · simp [c2]
    · have : h[k]? = none := List.getElem?_eq_none (by omega)
      simp [c2, this]
  · rw [if_neg c, if_neg (by omega)]
theorem hasStep_le (x : Dsk) (h : List Bool) (s : Slt) : leB h (hasStep x h s) := by
  unfold hasStep; split
  · exact ⟨by simp, fun i hi => by rw [gD_setB]; split <;> simp_all⟩
  · exact .refl h
theorem hasIno_le (x : Dsk) (h : List Bool) (i : Nat) : leB h (hasIno x h i) := by
  unfold hasIno; split
  · exact leB_fold _ (hasStep_le x) _ h
  · exact .refl h
theorem hasRound_le (x : Dsk) (h : List Bool) : leB h (hasRound x h) := leB_fold _ (hasIno_le x) _ h
theorem count_le : ∀ {a b : List Bool}, leB a b → a.count true ≤ b.count true ∧ (a.count true = b.count true → a = b) := by
  intro a
  induction a with
  | nil => intro b h; have := h.1; cases b with
    | nil => simp
    | cons => simp at this
  | cons p a ih =>
    intro b h
    cases b with
    | nil => have := h.1; simp at this
    | cons q b =>
      have hab : leB a b := ⟨by have := h.1; simpa using this, fun i hi => by have := h.2 (i + 1); simpa using this (by simpa using hi)⟩
      obtain ⟨h1, h2⟩ := ih hab
      have h0 := h.2 0
      simp only [List.getD_cons_zero] at h0
      cases p with
      | true =>
        have : q = true := h0 rfl
        subst this
        simp only [List.count_cons_self]
        exact ⟨by omega, fun e => by rw [h2 (by omega)]⟩
      | false =>
        cases q with
        | true => simp only [List.count_cons_self, List.count_cons_of_ne (show (false : Bool) ≠ true by decide)]; exact ⟨by omega, fun e => by omega⟩
        | false => simp only [List.count_cons_of_ne (show (false : Bool) ≠ true by decide)]; exact ⟨h1, fun e => by rw [h2 e]⟩
def hasN (x : Dsk) (h : List Bool) : Nat → List Bool
  | 0 => h
  | n + 1 => hasRound x (hasN x h n)
theorem hasN_fold (x : Dsk) (n : Nat) : ∀ h, (List.range n).foldl (fun h _ => hasRound x h) h = hasN x h n := by
  intro h
  induction n with
  | zero => rfl
  | succ n ih => rw [List.range_succ, List.foldl_append, ih]; rfl
theorem hasN_grow (x : Dsk) (h : List Bool) (h1 : 1 ≤ h.count true) (n : Nat) : hasRound x (hasN x h n) = hasN x h n ∨ n + 1 ≤ (hasN x h n).count true := by
  induction n with
  | zero => exact .inr h1
  | succ n ih =>
    have hle := hasRound_le x (hasN x h n)
    rcases ih with ih | ih
    · left; show hasRound x (hasRound x (hasN x h n)) = hasRound x (hasN x h n); rw [ih, ih]
    · obtain ⟨k1, k2⟩ := count_le hle
      by_cases c : (hasN x h n).count true = (hasRound x (hasN x h n)).count true
      · left; have := k2 c; show hasRound x (hasRound x (hasN x h n)) = hasRound x (hasN x h n); rw [← this, ← this]
      · right; show n + 1 + 1 ≤ (hasRound x (hasN x h n)).count true; omega
def has0 (x : Dsk) : List Bool := (List.replicate x.inos.length false).set 0 true
def hasF (x : Dsk) : List Bool := hasN x (has0 x) x.inos.length
theorem hasN_le (x : Dsk) (h : List Bool) (n : Nat) : leB h (hasN x h n) := by
  induction n with
  | zero => exact .refl h
  | succ n ih => exact ih.trans (hasRound_le x _)
theorem hasF_len (x : Dsk) : (hasF x).length = x.inos.length := by
  have := (hasN_le x (has0 x) x.inos.length).1
  unfold hasF; rw [← this]; simp [has0]
def soundB (x : Dsk) (h : List Bool) : Prop := h.length = x.inos.length ∧ ∀ i : Nat, h.getD i false = true → Reach x ((i : Int) + 1)
theorem hasStep_sound {x : Dsk} {h : List Bool} (hs : soundB x h) {i : Int} (hi : Reach x i) {s : Slt} (hm : s ∈ slotsAt x i) : soundB x (hasStep x h s) := by
  unfold hasStep; split
  next hg =>
    refine ⟨by simp [hs.1], fun j hj => ?_⟩
    rw [gD_setB] at hj
    split at hj
    next c =>
      have := good_in hg
      simp only [inside, Bool.and_eq_true, decide_eq_true_eq] at this
      have e : (j : Int) + 1 = s.ino := by omega
      rw [e]; exact .step hi hm hg
    next c => exact hs.2 j hj
  next => exact hs
theorem hasIno_sound {x : Dsk} {h : List Bool} (hs : soundB x h) (i : Nat) : soundB x (hasIno x h i) := by
  unfold hasIno; split
  next hi =>
    have hr := hs.2 i hi
    have key : ∀ (l : List Slt), (∀ s ∈ l, s ∈ slotsAt x ((i : Int) + 1)) → ∀ h, soundB x h → soundB x (l.foldl (hasStep x) h) := by
      intro l
      induction l with
      | nil => intro _ h hs; exact hs
      | cons s l ih => intro hm h hs; exact ih (fun a ha => hm a (List.mem_cons_of_mem _ ha)) _ (hasStep_sound hs hr (hm s (by simp)))
    exact key _ (fun _ h => h) h hs
  next => exact hs
theorem hasRound_sound {x : Dsk} {h : List Bool} (hs : soundB x h) : soundB x (hasRound x h) := by
  have key : ∀ (l : List Nat) h, soundB x h → soundB x (l.foldl (hasIno x) h) := by
    intro l
    induction l with
    | nil => intro h hs; exact hs
    | cons s l ih => intro h hs; exact ih _ (hasIno_sound hs s)
  exact key _ h hs
theorem hasN_sound {x : Dsk} {h : List Bool} (hs : soundB x h) (n : Nat) : soundB x (hasN x h n) := by
  induction n with
  | zero => exact hs
  | succ n ih => exact hasRound_sound ih
theorem has0_at (x : Dsk) (i : Nat) : (has0 x).getD i false = true ↔ i = 0 ∧ 0 < x.inos.length := by
  unfold has0; rw [gD_setB]
  have : (List.replicate x.inos.length false).getD i false = false := by
    rw [List.getD_eq_getElem?_getD, List.getElem?_replicate]; split <;> rfl
  rw [this]; simp
theorem hasF_reach {x : Dsk} (hn : 0 < x.inos.length) {i : Int} (hr : Reach x i) : (hasF x).getD (i - 1).toNat false = true := by
  have hfix : hasRound x (hasF x) = hasF x := by
    have h1 : 1 ≤ (has0 x).count true := by
      unfold has0
      cases h : x.inos.length with
      | zero => omega
      | succ n => simp [List.replicate_succ]
    rcases hasN_grow x (has0 x) h1 x.inos.length with h | h
    · exact h
    · have h2 : (hasF x).count true ≤ (hasF x).length := List.count_le_length ..
      rw [hasF_len] at h2
      unfold hasF at h2; omega
  induction hr with
  | root => exact (hasN_le x (has0 x) x.inos.length).2 0 ((has0_at x 0).2 ⟨rfl, hn⟩)
  | @step i s hi hs hg ih =>
    have hri := reach_in hn hi
    have e1 := fix_fold _ (hasIno_le x) _ _ hfix (i - 1).toNat (List.mem_range.2 (by omega))
    unfold hasIno at e1
    rw [if_pos ih] at e1
    have e2 : (((i - 1).toNat : Nat) : Int) + 1 = i := by omega
    rw [e2] at e1
    have e3 := fix_fold _ (hasStep_le x) _ _ e1 s hs
    unfold hasStep at e3
    rw [if_pos hg] at e3
    have hin := good_in hg
    simp only [inside, Bool.and_eq_true, decide_eq_true_eq] at hin
    rw [← e3, gD_setB, if_pos ⟨rfl, by rw [hasF_len]; omega⟩]
def outStep (h : List Bool) (L : List Int) (i : Nat) : List Int := if h.getD i false = true then L ++ [(i : Int) + 1] else L
theorem out_fold (h : List Bool) (n : Nat) : (List.range n).foldl (outStep h) [] = (numL n).filter fun i => h.getD (i - 1).toNat false := by
  unfold numL
  induction n with
  | zero => rfl
  | succ n ih =>
    rw [List.range_succ, List.foldl_append, ih, List.map_append, List.filter_append]
    simp only [List.foldl_cons, List.foldl_nil, List.map_cons, List.map_nil, outStep]
    have e : ((n : Int) + 1 - 1).toNat = n := by omega
    cases hc : h.getD n false with
    | true => simp only [List.filter_cons, e, hc, if_true, List.filter_nil]
    | false => simp only [List.filter_cons, e, hc, Bool.false_eq_true, if_false, List.filter_nil, List.append_nil]
open Classical in
theorem out_reach {x : Dsk} (hn : 0 < x.inos.length) : (List.range x.inos.length).foldl (outStep (hasF x)) [] = reachL x := by
  rw [out_fold]
  unfold reachL
  refine List.filter_congr fun i hi => ?_
  rw [mem_numL] at hi
  have hs : soundB x (has0 x) := ⟨by simp [has0], fun j hj => by rw [((has0_at x j).1 hj).1]; exact .root⟩
  have h1 := (hasN_sound hs x.inos.length).2 (i - 1).toNat
  have e2 : (((i - 1).toNat : Nat) : Int) + 1 = i := by omega
  rw [e2] at h1
  cases hc : (hasF x).getD (i - 1).toNat false with
  | true => exact (decide_eq_true (h1 hc)).symm
  | false =>
    refine (decide_eq_false fun hr => ?_).symm
    rw [hasF_reach hn hr] at hc; cases hc
end Go.Proofs.YtaaajjinpppgeaaGreat
namespace Go.Proofs.YtaaajjinpppgeaaGreat
open Go Go.Abs
set_option maxRecDepth 100000
theorem gszc {α : Type} {enc : α → AV} {s n f k : Nat} {ok : α → Prop} {cst : α → Nat} (ht : T k = some (Fsz s n f)) (henc : ∀ x, AV.agg ((enc x).cells.take n) = enc x) (hln : ∀ x, n ≤ (enc x).cells.length) (hcl : ∀ x, (enc x).cells.all closedC = true) (hd : ∀ x, isDef (enc x) = true)
    (hf : ∀ x (r : Int), ok x → 0 ≤ r → r ≤ 1048576 → ∃ v : Int, E T f [enc x, .int .i64 r] [] = some (.int .i64 v, []) ∧ (0 ≤ v → v + (cst x : Nat) ≤ r))
    (l : List α) (c : Int) (h0 : 0 ≤ c) (hn : c ≤ 1048576) (hl : l.length ≤ maxLen) (hok : ∀ x ∈ l, ok x) :
    ∃ r : Int, E T k [.ro s (l.map enc), .int .i64 c] [] = some (.int .i64 r, []) ∧ (0 ≤ r → r + ((l.map cst).sum : Nat) ≤ c) := by
  rw [E_eq ht (Nat.le_of_ble_eq_true rfl)]
  simp only [Fsz, hsz, go_sem, seval, bnd_ite]
  unfold maxLen at hl
  rw [w_i64 (c - (l.length : Int)) (by omega)]
  by_cases c1 : c - (l.length : Int) < 0
  · rw [if_pos c1]; exact ⟨_, rfl, fun h => by omega⟩
  rw [if_neg c1]
  refine (XL_inv (T := T) (b := 0) (hd := Hsz) (x := Lsz s n f) (β := Int) (fun i r => ⟨[(0, .ro s (l.map enc)), (1, .int .i64 r), (5, .int .i64 (i : Nat))], []⟩)
    (fun i r => 0 ≤ r ∧ r + (((l.take i).map cst).sum : Nat) ≤ c) l.length (fun r => (r.1 = .exit 0 ∧ ∃ v : Int, lookA r.2.env 1 = .int .i64 v ∧ v + ((l.map cst).sum : Nat) ≤ c) ∨ (r.1 = .ret ∧ lookA r.2.env 4 = .int .i64 (-1))) ?step ?last 0 (c - (l.length : Int)) (by omega) ⟨by omega, by simp; omega⟩).elim ?main
  case step =>
    intro i r hi ⟨hI0, hI1⟩
    obtain ⟨p, hp⟩ := get_at hi
    have hi1 : (i : Int) < (l.length : Int) := by omega
    obtain ⟨v, hv, hv1⟩ := hf p r (hok p (List.mem_of_getElem? hp)) hI0 (by omega)
    simp only [XG, Lsz, hsz, go_sem, seval, bnd_ite, hi1, gD_map hp, hln p, henc, hcl, hd, hv, Int.natCast_nonneg, w_i64 ((i : Int) + 1) (by omega)]
    by_cases c : v < 0
    · right; rw [if_pos c]
      exact .mk (by simp) (.inr ⟨rfl, rfl⟩)
    · left; rw [if_neg c]
      refine ⟨v, by simp, by omega, ?_⟩
      have := hv1 (by omega)
      rw [take_snoc hp, List.map_append, List.sum_append]
      simp only [List.map_cons, List.map_nil, List.sum_cons, List.sum_nil]
      omega
  case last =>
    intro r ⟨hI0, hI1⟩
    simp only [XG, Lsz, hsz, go_sem, seval, bnd_ite, Int.lt_irrefl, decide_false]
    exact .mk (by simp) (.inl ⟨rfl, r, rfl, by rwa [List.take_length] at hI1⟩)
  case main =>
  rintro ⟨x, st⟩ ⟨h1, h2, h3⟩
  have hs : (0 : Int) = ((0 : Nat) : Int) := rfl
  rw [hs] at *
  simp only [h1]
  obtain ⟨e, m⟩ := st
  rcases h3 with ⟨hx, v, h4, h5⟩ | ⟨hx, h4⟩
  · simp only at hx h4; subst hx
    simp only [go_sem, seval, h4]
    exact ⟨v, rfl, fun _ => h5⟩
  · simp only at hx h4; subst hx
    simp only [go_sem, seval, h4]
    exact ⟨-1, rfl, fun h => by omega⟩
theorem e169c (x : Ino) (n : Int) (hl : x.ok) (h0 : 0 ≤ n) (hn : n ≤ 1048576) :
    ∃ r : Int, E T 169 [ino x, .int .i64 n] [] = some (.int .i64 r, []) ∧ (0 ≤ r → r + (x.ptrs.length : Nat) ≤ n) := by
  have e231c : ∃ r : Int, E T 231 [.ro 1 (x.ptrs.map iv), .int .i64 n] [] = some (.int .i64 r, []) ∧ (0 ≤ r → r + (x.ptrs.length : Nat) ≤ n) := by
    rw [E_eq t231 (Nat.le_of_ble_eq_true rfl)]
    simp only [F231, go_sem, seval, bnd_ite]
    unfold Ino.ok maxLen at hl
    rw [w_i64 (n - (x.ptrs.length : Int)) (by omega)]
    by_cases c1 : n - (x.ptrs.length : Int) < 0
    · rw [if_pos c1]; exact ⟨_, rfl, fun h => by omega⟩
    rw [if_neg c1]; exact ⟨_, rfl, fun h => by omega⟩
  rw [E_eq t169 (Nat.le_of_ble_eq_true rfl)]
  obtain ⟨r, h1, h2⟩ := e231c
  simp only [ino, F169, go_sem, seval, bnd_ite, h1]
  by_cases c1 : r < 0
  · rw [if_pos c1]; exact ⟨_, rfl, fun h => by omega⟩
  rw [if_neg c1]; exact ⟨_, rfl, h2⟩
def tot (x : Dsk) : Nat := (x.inos.map fun p => p.ptrs.length).sum
theorem e19c (x : Dsk) (n : Int) (h0 : 0 ≤ n) (hn : n ≤ 1048576) (hk : x.ok) :
    ∃ r : Int, E T 19 [dsk x, .int .i64 n] [] = some (.int .i64 r, []) ∧ (0 ≤ r → tot x ≤ 1048576) := by
  rw [E_eq t19 (Nat.le_of_ble_eq_true rfl)]
  obtain ⟨r, h1, h2, h3, h4⟩ := e71 x.used x.taken n h0 hn hk.used hk.taken
  simp only [dsk, F19, go_sem, seval, bnd_ite, h1]
  by_cases c1 : r < 0
  · rw [if_pos c1]; exact ⟨_, rfl, fun h => by omega⟩
  obtain ⟨r2, g1, g2, g3, g4⟩ := e72 x.inos r (by omega) (by omega) hk.inos hk.ino
  obtain ⟨r2', k1, k2⟩ := gszc (ok := Ino.ok) (cst := fun p : Ino => p.ptrs.length) t72 (fun _ => rfl) (fun _ => Nat.le_refl _) (fun _ => rfl) (fun _ => rfl) (fun x r h h0 h1 => e169c x r h h0 h1) x.inos r (by omega) (by omega) hk.inos hk.ino
  have e : r2 = r2' := by
    have := g1.symm.trans k1
    injection this with this; injection this with this; injection this
  subst e
  rw [if_neg c1]
  simp only [go_sem, seval, bnd_ite, g1]
  by_cases c2 : r2 < 0
  · rw [if_pos c2]; exact ⟨_, rfl, fun h => by omega⟩
  obtain ⟨r3, f1, f2, f3, f4⟩ := e73 x.blks r2 (by omega) (by omega) hk.blks hk.blk
  rw [if_neg c2]
  simp only [go_sem, seval, bnd_ite, f1]
  have := k2 (by omega)
  by_cases c3 : r3 < 0
  · rw [if_pos c3]; exact ⟨_, rfl, fun h => by omega⟩
  rw [if_neg c3]; exact ⟨_, rfl, fun h => by unfold tot; omega⟩
theorem e19t (x : Dsk) (hk : x.ok) : ∃ r : Int, E T 19 [dsk x, .int .i64 1048576] [] = some (.int .i64 r, []) ∧ (0 ≤ r → x.sm ∧ tot x ≤ 1048576) := by
  obtain ⟨r, h1, h2, h3, h4⟩ := e19 x 1048576 (by omega) (by omega) hk
  obtain ⟨r2, k1, k2⟩ := e19c x 1048576 (by omega) (by omega) hk
  have e : r = r2 := by
    have := h1.symm.trans k1
    injection this with this; injection this with this; injection this
  subst e
  exact ⟨r, h1, fun h => ⟨h4 h, k2 h⟩⟩
def ptrsSum (x : Dsk) (l : List Int) : Nat := (l.map (ptrsN x)).sum
theorem sum_filter {α : Type} (f : α → Nat) (P : α → Bool) (l : List α) : ((l.filter P).map f).sum ≤ (l.map f).sum := by
  induction l with
  | nil => simp
  | cons a l ih => rw [List.filter_cons]; split <;> simp only [List.map_cons, List.sum_cons] <;> omega
theorem ptrs_reach {x : Dsk} (h : tot x ≤ 1048576) : ptrsSum x (reachL x) ≤ 1048576 := by
  refine Nat.le_trans (sum_filter ..) (Nat.le_trans (Nat.le_of_eq ?_) h)
  unfold tot numL
  congr 1
  refine List.ext_getElem (by simp) fun i h1 h2 => ?_
  simp only [List.length_map, List.length_range] at h1
  simp only [List.getElem_map, List.getElem_range]
  have hc : inside ((i : Int) + 1) 1 x.inos.length = true := by simp only [inside, Bool.and_eq_true, decide_eq_true_eq]; omega
  have := inoOf_mem hc
  have e2 : ((i : Int) + 1 - 1).toNat = i := by omega
  rw [e2, List.getElem?_eq_getElem h1] at this
  injection this with this
  unfold ptrsN; rw [this]
theorem ptrs_one {x : Dsk} (h : x.sm) (i : Int) : ptrsSum x [i] ≤ 1048576 := by
  have := inoOf_sm h i
  unfold Ino.sm at this
  unfold ptrsSum ptrsN; simpa using this
end Go.Proofs.YtaaajjinpppgeaaGreat
namespace Go.Proofs.YtaaajjinpppgeaaGreat
open Go Go.Abs
set_option maxRecDepth 100000
def m179 (x : Dsk) (p : Ino) (L : List Slt) : Mem := [some (4, [dskC x]), some (2, L.map slt), some (3, [.agg [.int .i64 p.kind, .int .i64 p.links, .ro 1 (p.ptrs.map iv)]])]
theorem in179c (x : Dsk) (l : List Int) (i : Nat) (p : Ino) (j : Nat) (b : Blk) (hb : b.sm) (L : List Slt) (hL : L.length ≤ 2199023255552) :
    ∃ r, XL T 0 H183_13 L183_13 ⟨[(2, .ptr 0 0 0), (5, .sl 1 0 L.length), (8, .ptr 2 0 0), (14, .ro 1 (l.map iv)), (15, .int .i64 l.length), (16, .int .i64 i), (24, .ro 1 (p.ptrs.map iv)), (25, .int .i64 p.ptrs.length), (26, .int .i64 j), (43, .ro 2 (b.slots.map slt)), (44, .int .i64 b.slots.length), (45, .int .i64 0)], m179 x p L⟩ = some r ∧
      r.1 = .exit 4 ∧ lookA r.2.env 2 = .ptr 0 0 0 ∧ lookA r.2.env 5 = .sl 1 0 (L ++ b.slots.filter hasName).length ∧ lookA r.2.env 8 = .ptr 2 0 0 ∧ lookA r.2.env 14 = .ro 1 (l.map iv) ∧ lookA r.2.env 15 = .int .i64 l.length ∧ lookA r.2.env 16 = .int .i64 i ∧
        lookA r.2.env 24 = .ro 1 (p.ptrs.map iv) ∧ lookA r.2.env 25 = .int .i64 p.ptrs.length ∧ lookA r.2.env 26 = .int .i64 j ∧ r.2.mem = m179 x p (L ++ b.slots.filter hasName) := by
  unfold Blk.sm at hb
  rw [← pushN_all]
  refine XL_each b.slots pushN (fun k M => ⟨[(2, .ptr 0 0 0), (5, .sl 1 0 M.length), (8, .ptr 2 0 0), (14, .ro 1 (l.map iv)), (15, .int .i64 l.length), (16, .int .i64 i), (24, .ro 1 (p.ptrs.map iv)), (25, .int .i64 p.ptrs.length), (26, .int .i64 j), (43, .ro 2 (b.slots.map slt)), (44, .int .i64 b.slots.length), (45, .int .i64 (k : Nat))], m179 x p M⟩) (fun k M => M.length ≤ L.length + k)
    (fun M r => r.1 = .exit 4 ∧ lookA r.2.env 2 = .ptr 0 0 0 ∧ lookA r.2.env 5 = .sl 1 0 M.length ∧ lookA r.2.env 8 = .ptr 2 0 0 ∧ lookA r.2.env 14 = .ro 1 (l.map iv) ∧ lookA r.2.env 15 = .int .i64 l.length ∧ lookA r.2.env 16 = .int .i64 i ∧
        lookA r.2.env 24 = .ro 1 (p.ptrs.map iv) ∧ lookA r.2.env 25 = .int .i64 p.ptrs.length ∧ lookA r.2.env 26 = .int .i64 j ∧ r.2.mem = m179 x p M) ?step ?last L (by omega)
  case step =>
    intro k M s hs hk hM
    refine ⟨?_, by have := pushN_len M s; omega⟩
    have k1 : (k : Int) < (b.slots.length : Int) := by omega
    have gs : (b.slots.map slt).getD k .undef = .agg [.str s.name, .int .i64 s.ino] := gD_map hs
    have hap : (M.length + 1) * 24 ≤ 140737488355328 := by omega
    have tk : (M.map slt).take M.length = M.map slt := List.take_of_length_le (by simp)
    have hw := w_i64 ((k : Int) + 1) (by omega)
    unfold m179 dskC pushN
    cases hn : hasName s with
    | true =>
      have hn : decide (s.name = ⟨#[]⟩) = false := by simpa [hasName] using hn
      simp only [XG, L183_13, h183_13, go_sem, seval, bnd_ite, k1, gs, hn, hap, tk, hw, Int.natCast_nonneg, decide_true, Bool.not_false, if_true, List.map_append, List.map_cons, List.map_nil, List.length_append]
      rfl
    | false =>
      have hn : decide (s.name = ⟨#[]⟩) = true := by simpa [hasName] using hn
      simp only [XG, L183_13, h183_13, go_sem, seval, bnd_ite, k1, gs, hn, hw, Int.natCast_nonneg, decide_true, Bool.not_true, if_true, Bool.false_eq_true, if_false]
      rfl
  case last =>
    intro M hM
    unfold m179 dskC
    simp only [XG, L183_13, h183_13, go_sem, seval, bnd_ite, Int.lt_irrefl, decide_false]
    exact .mk (by simp) ⟨rfl, rfl, rfl, rfl, rfl, rfl, rfl, rfl, rfl, rfl, rfl⟩
theorem in179b (x : Dsk) (h : x.sm) (l : List Int) (i : Nat) (p : Ino) (hp : p.sm) (L : List Slt) (hL : L.length ≤ 1099511627776) :
    ∃ r, XL T 0 H183_8 L183_8 ⟨[(2, .ptr 0 0 0), (5, .sl 1 0 L.length), (8, .ptr 2 0 0), (14, .ro 1 (l.map iv)), (15, .int .i64 l.length), (16, .int .i64 i), (24, .ro 1 (p.ptrs.map iv)), (25, .int .i64 p.ptrs.length), (26, .int .i64 0)], m179 x p L⟩ = some r ∧
      r.1 = .exit 2 ∧ lookA r.2.env 2 = .ptr 0 0 0 ∧ lookA r.2.env 5 = .sl 1 0 (p.ptrs.foldl (fun L q => if p.kind = 2 then L ++ namedOf (blkOf x q) else L) L).length ∧ lookA r.2.env 14 = .ro 1 (l.map iv) ∧ lookA r.2.env 15 = .int .i64 l.length ∧ lookA r.2.env 16 = .int .i64 i ∧
        r.2.mem = m179 x p (p.ptrs.foldl (fun L q => if p.kind = 2 then L ++ namedOf (blkOf x q) else L) L) := by
  unfold Ino.sm at hp
  refine XL_each p.ptrs (fun L q => if p.kind = 2 then L ++ namedOf (blkOf x q) else L) (fun j M => ⟨[(2, .ptr 0 0 0), (5, .sl 1 0 M.length), (8, .ptr 2 0 0), (14, .ro 1 (l.map iv)), (15, .int .i64 l.length), (16, .int .i64 i), (24, .ro 1 (p.ptrs.map iv)), (25, .int .i64 p.ptrs.length), (26, .int .i64 (j : Nat))], m179 x p M⟩) (fun j M => M.length ≤ L.length + j * 1048576)
    (fun M r => r.1 = .exit 2 ∧ lookA r.2.env 2 = .ptr 0 0 0 ∧ lookA r.2.env 5 = .sl 1 0 M.length ∧ lookA r.2.env 14 = .ro 1 (l.map iv) ∧ lookA r.2.env 15 = .int .i64 l.length ∧ lookA r.2.env 16 = .int .i64 i ∧ r.2.mem = m179 x p M) ?step ?last L (by omega)
  case step =>
    intro j M q hq hj hM
    have hn := namedOf_len h q
    have hle : (if p.kind = 2 then M ++ namedOf (blkOf x q) else M).length ≤ M.length + 1048576 := by
      by_cases hk : p.kind = 2
      · rw [if_pos hk, List.length_append]; exact Nat.add_le_add_left hn _
      · rw [if_neg hk]; exact Nat.le_add_right _ _
    refine ⟨?_, Nat.le_trans hle (by rw [Nat.succ_mul]; exact Nat.le_trans (Nat.add_le_add_right hM _) (Nat.le_of_eq (Nat.add_assoc ..)))⟩
    have j1 : (j : Int) < (p.ptrs.length : Int) := by omega
    have gq : (p.ptrs.map iv).getD j .undef = .int .i64 q := gD_map hq
    have e1 := e111u x h q
    have hbs := blkOf_sm h q
    have hnm : namedOf (blkOf x q) = if (blkOf x q).dir then (blkOf x q).slots.filter hasName else [] := rfl
    generalize blkOf x q = b at *
    unfold dsk at e1
    rw [show blk b = .agg [.bool b.dir, .ro 2 (b.slots.map slt), .str b.text] from rfl] at e1
    have hw := w_i64 ((j : Int) + 1) (by omega)
    by_cases hk : p.kind = 2
    · rw [if_pos hk]
      have hk : decide (p.kind = 2) = true := by simpa using hk
      cases hd : b.dir with
      | false =>
        rw [hd] at hnm e1
        have : M ++ namedOf b = M := by rw [hnm]; simp
        rw [this]
        unfold m179
        simp only [XG, L183_8, h183_8, dskC, go_sem, seval, bnd_ite, j1, gq, e1, hk, hw, Int.natCast_nonneg, decide_true, Bool.not_true, Bool.not_false, Bool.or_true, Bool.or_self, if_true]
        first | done | rfl
      | true =>
        rw [hd] at hnm e1
        rw [hnm, if_pos rfl]
        obtain ⟨⟨y, e, m⟩, k1, kx, k2, k3, k4, k5, k6, k7, k8, k9, k10, km⟩ := in179c x l i p j b hbs M (by omega)
        simp only at kx k2 k3 k4 k5 k6 k7 k8 k9 k10 km; subst kx; subst km
        unfold m179 dskC at k1
        unfold m179
        simp only [XG, L183_8, h183_8, h183_13, dskC, m179, go_sem, seval, bnd_ite, j1, gq, e1, hk, hw, k1, k2, k3, k4, k5, k6, k7, k8, k9, k10, Int.natCast_nonneg, decide_true, Bool.not_true, Bool.or_self, Bool.false_eq_true, if_false]
        first | done | rfl
    · rw [if_neg hk]
      have hk : decide (p.kind = 2) = false := by simpa using hk
      unfold m179
      simp only [XG, L183_8, h183_8, dskC, go_sem, seval, bnd_ite, j1, gq, e1, hk, hw, Int.natCast_nonneg, decide_true, Bool.not_true, Bool.not_false, Bool.true_or, if_true]
      first | done | rfl
  case last =>
    intro M hM
    unfold m179 dskC
    simp only [XG, L183_8, h183_8, go_sem, seval, bnd_ite, Int.lt_irrefl, decide_false]
    exact .mk (by simp) ⟨rfl, rfl, rfl, rfl, rfl, rfl, rfl⟩
theorem slotsAt_fold (x : Dsk) (i : Int) (L : List Slt) : (inoOf x i).ptrs.foldl (fun L q => if (inoOf x i).kind = 2 then L ++ namedOf (blkOf x q) else L) L = L ++ slotsAt x i := by
  unfold slotsAt
  generalize inoOf x i = p
  by_cases hk : p.kind = 2
  · simp only [hk, if_true]
    have : ∀ (l : List Int) (L : List Slt), l.foldl (fun L q => L ++ namedOf (blkOf x q)) L = L ++ l.flatMap fun q => namedOf (blkOf x q) := by
      intro l
      induction l with
      | nil => intro L; simp
      | cons q l ih => intro L; rw [List.foldl_cons, ih]; simp
    exact this _ _
  · simp only [hk, if_false]
    have : ∀ (l : List Int) (L : List Slt), l.foldl (fun L q => L) L = L := by
      intro l
      induction l with
      | nil => intro L; rfl
      | cons q l ih => intro L; exact ih L
    rw [this]; simp
theorem e183 (x : Dsk) (h : x.sm) (l : List Int) (hl : l.length ≤ 1048576) (ht : ptrsSum x l ≤ 1048576) : E T 183 [dsk x, .ro 1 (l.map iv)] [] = some (.own 2 ((l.flatMap (slotsAt x)).map slt), []) := by
  rw [E_eqW t183 (Nat.le_of_ble_eq_true rfl)]
  have hs : l.flatMap (slotsAt x) = l.foldl (fun L i => L ++ slotsAt x i) [] := by
    have : ∀ (l : List Int) (L : List Slt), l.foldl (fun L q => L ++ slotsAt x q) L = L ++ l.flatMap (slotsAt x) := by
      intro l
      induction l with
      | nil => intro L; simp
      | cons q l ih => intro L; rw [List.foldl_cons, ih]; simp
    rw [this]; simp
  have psum : ∀ i p, l[i]? = some p → ptrsSum x (l.take (i + 1)) = ptrsSum x (l.take i) + ptrsN x p := fun i p hp => by
    unfold ptrsSum; rw [take_snoc hp]; simp
  have ple : ∀ i, ptrsSum x (l.take i) ≤ ptrsSum x l := fun i => by
    have : ptrsSum x l = ptrsSum x (l.take i) + ptrsSum x (l.drop i) := by
      unfold ptrsSum; rw [← List.sum_append, ← List.map_append, List.take_append_drop]
    omega
  refine (XL_each (T := T) (b := 0) (hd := H183_3) (x := L183_3) l (fun L i => L ++ slotsAt x i) (fun j L => ⟨[(2, .ptr 0 0 0), (5, .sl 1 0 L.length), (14, .ro 1 (l.map iv)), (15, .int .i64 l.length), (16, .int .i64 (j : Nat))], [some (4, [dskC x]), some (2, L.map slt)]⟩) (fun j L => L.length ≤ ptrsSum x (l.take j) * 1048576)
    (fun L r => r.1 = .exit 0 ∧ lookA r.2.env 5 = .sl 1 0 L.length ∧ r.2.mem = [some (4, [dskC x]), some (2, L.map slt)]) ?step ?last [] (by simp)).elim ?main
  case step =>
    intro j L i hi hj hL
    have hn := slotsAt_len h i
    have hps := psum j i hi
    have hpl := ple (j + 1)
    refine ⟨?_, by rw [hps]; simp only [List.length_append]; omega⟩
    have j1 : (j : Int) < (l.length : Int) := by omega
    have gi : (l.map iv).getD j .undef = .int .i64 i := gD_map hi
    have e1 := e143u x h i
    have hsm := inoOf_sm h i
    have hF := slotsAt_fold x i L
    generalize inoOf x i = p at *
    unfold dsk at e1
    rw [show ino p = .agg [.int .i64 p.kind, .int .i64 p.links, .ro 1 (p.ptrs.map iv)] from rfl] at e1
    obtain ⟨⟨y, e, m⟩, k1, kx, k2, k3, k4, k5, k6, km⟩ := in179b x h l j p hsm L (by omega)
    simp only at kx k2 k3 k4 k5 k6 km; subst kx; subst km
    rw [hF] at k1 k3
    unfold m179 dskC at k1
    have hw := w_i64 ((j : Int) + 1) (by omega)
    simp only [XG, L183_3, h183_3, h183_8, dskC, m179, go_sem, seval, bnd_ite, j1, gi, e1, hw, k1, k2, k3, k4, k5, k6, Int.natCast_nonneg, decide_true]
    first | done | rfl
  case last =>
    intro L hL
    unfold dskC
    simp only [XG, L183_3, h183_3, go_sem, seval, bnd_ite, Int.lt_irrefl, decide_false]
    exact .mk (by simp) ⟨rfl, rfl, rfl⟩
  case main =>
  rintro ⟨y, e, m⟩ ⟨k1, kx, k2, km⟩
  simp only at kx k2 km; subst kx; subst km
  have hs0 : ((0 : Nat) : Int) = 0 := rfl
  simp only [hs0, List.map_nil, List.length_nil] at k1
  rw [← hs] at k1 k2
  unfold dskC at k1
  generalize l.flatMap (slotsAt x) = S at *
  have tk : (S.map slt).take S.length = S.map slt := List.take_of_length_le (by simp)
  simp only [dsk, F183, h183_3, dskC, go_sem, seval, bnd_ite, k1, k2, tk]
end Go.Proofs.YtaaajjinpppgeaaGreat
