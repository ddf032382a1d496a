/- The last part of the texts of a claim, joined by a program of ours; at its end stands the row: the law returns true for every input, and leaves it as it was. No condition. -/
import Derived.Test.YtaaajjinpppgeaaGreatDoorP5aj
import GoSem.ClaimOpenFrom
import GoSem.ClaimJoined
import Derived.JoinedOf
import Derived.ProofKit
import Derived.KernelRfl
import Derived.Test.YtaaajjinpppgeaaGreatDoorRows
import Derived.Test.YtaaajjinpppgeaaGreatDoorCards
import Derived.Test.YtaaajjinpppgeaaGreatDoorTie
import Derived.OpenShut
import Derived.LaidMore
import Derived.Lay
import Derived.SevenTiedAt
import Derived.Stop.Joined
set_option linter.unusedVariables false
set_option linter.unusedSimpArgs false
set_option linter.unusedSectionVars false
namespace Go.Proofs.YtaaajjinpppgeaaGreatDoor
open Go Go.Abs
set_option maxRecDepth 100000
theorem rowsOf {α : Type} {e : Shp} {enc : α → AV} {ok : α → Prop} (h : ∀ cs, Is e cs → ∃ x, e.elem cs = enc x ∧ ok x) : ∀ {css : List (List AV)}, (∀ cs ∈ css, Is e cs) → ∃ xs : List α, css.map e.elem = xs.map enc ∧ xs.length = css.length ∧ ∀ x ∈ xs, ok x := by
  intro css
  induction css with
  | nil => intro _; exact ⟨[], rfl, rfl, fun x hx => by cases hx⟩
  | cons cs css ih =>
    intro hc
    obtain ⟨x, h1, h2⟩ := h cs (hc cs (List.mem_cons_self ..))
    obtain ⟨xs, h3, h4, h5⟩ := ih (fun c hcc => hc c (List.mem_cons_of_mem _ hcc))
    exact ⟨x :: xs, by simp [h1, h3], by simp [h4], fun y hy => by rcases List.mem_cons.1 hy with rfl | hy; exact h2; exact h5 y hy⟩
theorem isSl {α : Type} {s : Nat} {e : Shp} {enc : α → AV} {ok : α → Prop} (h : ∀ cs, Is e cs → ∃ x, e.elem cs = enc x ∧ ok x) {cs : List AV} (hc : Is (.slice s e) cs) : ∃ xs : List α, cs = [.ro s (xs.map enc)] ∧ xs.length ≤ maxLen ∧ ∀ x ∈ xs, ok x := by
  cases hc with | slice h1 hl =>
  obtain ⟨xs, h3, h4, h5⟩ := rowsOf h h1
  exact ⟨xs, by rw [h3], by omega, h5⟩
theorem isIv (cs : List AV) (h : Is (.int .i64) cs) : ∃ x : Int, (Shp.int .i64).elem cs = iv x ∧ True := by cases h; exact ⟨_, rfl, trivial⟩
theorem isBv (cs : List AV) (h : Is .bool cs) : ∃ x : Bool, Shp.bool.elem cs = bv x ∧ True := by cases h; exact ⟨_, rfl, trivial⟩
def shS : Shp := .struct [.str, .int .i64]
def shI : Shp := .struct [.int .i64, .int .i64, .slice 1 (.int .i64)]
def shB : Shp := .struct [.bool, .slice 2 shS, .str]
def shT : Shp := .struct [.slice 1 .bool, .slice 1 .bool]
def shD : Shp := .struct [shT, .slice 3 shI, .slice 3 shB]
theorem isS (cs : List AV) (h : Is shS cs) : ∃ x : Slt, shS.elem cs = slt x ∧ x.ok := by
  cases h with | struct h =>
  cases h with | cons h1 h =>
  cases h with | cons h2 h =>
  cases h
  cases h1; cases h2
  exact ⟨⟨_, _⟩, rfl, by assumption⟩
theorem isI (cs : List AV) (h : Is shI cs) : ∃ x : Ino, shI.elem cs = ino x ∧ x.ok := by
  cases h with | struct h =>
  cases h with | cons h1 h =>
  cases h with | cons h2 h =>
  cases h with | cons h3 h =>
  cases h
  cases h1; cases h2
  obtain ⟨xs, rfl, h4, _⟩ := isSl isIv h3
  exact ⟨⟨_, _, xs⟩, rfl, h4⟩
theorem isB (cs : List AV) (h : Is shB cs) : ∃ x : Blk, shB.elem cs = blk x ∧ x.ok := by
  cases h with | struct h =>
  cases h with | cons h1 h =>
  cases h with | cons h2 h =>
  cases h with | cons h3 h =>
  cases h
  cases h1; cases h3
  obtain ⟨xs, rfl, h4, h5⟩ := isSl isS h2
  exact ⟨⟨_, xs, _⟩, rfl, h4, by assumption, h5⟩
theorem isT (cs : List AV) (h : Is shT cs) : ∃ a b : List Bool, cs = [.ro 1 (a.map bv), .ro 1 (b.map bv)] ∧ a.length ≤ maxLen ∧ b.length ≤ maxLen := by
  cases h with | struct h =>
  cases h with | cons h1 h =>
  cases h with | cons h2 h =>
  cases h
  obtain ⟨a, rfl, a1, _⟩ := isSl isBv h1
  obtain ⟨b, rfl, b1, _⟩ := isSl isBv h2
  exact ⟨a, b, rfl, a1, b1⟩
theorem isDc (cs : List AV) (h : Is shD cs) : ∃ x : Dsk, .agg cs = dsk x ∧ x.ok := by
  cases h with | struct h =>
  cases h with | cons h1 h =>
  cases h with | cons h2 h =>
  cases h with | cons h3 h =>
  cases h
  obtain ⟨a, b, rfl, a1, b1⟩ := isT _ h1
  obtain ⟨c, rfl, c1, c2⟩ := isSl isI h2
  obtain ⟨d, rfl, d1, d2⟩ := isSl isB h3
  exact ⟨⟨a, b, c, d⟩, rfl, ⟨a1, b1, c1, d1, c2, d2⟩⟩
end Go.Proofs.YtaaajjinpppgeaaGreatDoor
namespace Go.Proofs.YtaaajjinpppgeaaGreatDoor
open Go Go.Abs
set_option maxRecDepth 100000
def shP : Shp := .struct [.int .i64, .int .i64, .int .i64, .int .i64, .int .i64, .int .i64, .str, .bool, .bool, .int .i64, .slice 1 (.int .i64)]
def shM : Shp := .struct [shD, .slice 1 .bool, .slice 11 shP, .int .i64]
theorem isP (cs : List AV) (h : Is shP cs) : ∃ x : Dp, shP.elem cs = dp x ∧ x.ok := by
  cases h with | struct h =>
  cases h with | cons h1 h =>
  cases h with | cons h2 h =>
  cases h with | cons h3 h =>
  cases h with | cons h4 h =>
  cases h with | cons h5 h =>
  cases h with | cons h6 h =>
  cases h with | cons h7 h =>
  cases h with | cons h8 h =>
  cases h with | cons h9 h =>
  cases h with | cons h10 h =>
  cases h with | cons h11 h =>
  cases h
  cases h1; cases h2; cases h3; cases h4; cases h5; cases h6; cases h7; cases h8; cases h9; cases h10
  obtain ⟨xs, rfl, h4, _⟩ := isSl isIv h11
  exact ⟨⟨_, _, _, _, _, _, _, _, _, _, xs⟩, rfl, by assumption, h4⟩
theorem dsk_inj {cs : List AV} {x : Dsk} (h : AV.agg cs = dsk x) : cs = [.ro 1 (x.used.map bv), .ro 1 (x.taken.map bv), .ro 3 (x.inos.map ino), .ro 3 (x.blks.map blk)] := by
  unfold dsk at h; injection h
theorem isMc (cs : List AV) (h : Is shM cs) : ∃ x : Mm, .agg cs = mm x ∧ x.ok := by
  cases h with | struct h =>
  cases h with | cons h1 h =>
  cases h with | cons h2 h =>
  cases h with | cons h3 h =>
  cases h with | cons h4 h =>
  cases h
  obtain ⟨d, h5, h6⟩ := isDc _ h1
  have h5 := dsk_inj h5
  subst h5
  obtain ⟨a, rfl, a1, _⟩ := isSl isBv h2
  obtain ⟨b, rfl, b1, b2⟩ := isSl isP h3
  cases h4
  exact ⟨⟨d, a, b, _⟩, rfl, ⟨h6, a1, b1, b2⟩⟩
theorem isM {av : AV} (h : IsA shM av) : ∃ x : Mm, av = mm x ∧ x.ok := by
  obtain ⟨cs, h, rfl⟩ := h
  exact isMc cs h
end Go.Proofs.YtaaajjinpppgeaaGreatDoor
namespace Go.Proofs.YtaaajjinpppgeaaGreatDoor
open Go Go.Abs
set_option maxRecDepth 100000
def sv (s : ByteArray) : AV := .str s
theorem sv_cool (x : ByteArray) : coolX (sv x) = true := rfl
theorem sv_len (x : ByteArray) : (sv x).cells.length = 1 := rfl
theorem sv_mi (g : Bool → Nat → Nat → Nat → AV) (l : List ByteArray) : mapIdL g (l.map sv) = l.map sv := mi_map g sv l sv_cool
theorem sv_is (u : Bool → Nat → Nat → Nat → List Nat) (l : List ByteArray) : idsL u (l.map sv) = [] := is_map u sv l sv_cool
theorem sv_coR (l : List ByteArray) : coolR 1 (l.map sv) = true := coR_map 1 sv l sv_len sv_cool
theorem sv_ice (x : ByteArray) : ice (sv x) = sv x := rfl
theorem sv_ic (l : List ByteArray) : iceL (l.map sv) = l.map sv := by rw [ice_m]; exact List.map_congr_left fun x _ => sv_ice x
theorem sv_rf (x : ByteArray) : (sv x).roFree = true := rfl
theorem sv_rfL (l : List ByteArray) : roFreeL (l.map sv) = true := rf_map sv l sv_rf
theorem sv_no (x : ByteArray) : (sv x).cells.all noOwnC = true := rfl
theorem sv_noL (l : List ByteArray) : (l.map sv).all (fun x => x.cells.all noOwnC) = true := no_map sv l sv_no
attribute [go_sem] sv_mi sv_is sv_coR sv_ic sv_ice sv_rfL sv_noL
theorem XL_to {T : FuncId → Option EF} {b : Nat} {hd : List Vw} {x : EC} {β γ : Type} (S : β → St) (I : β → Prop) (μ : β → Nat) (G : β → γ) (Q : γ → AX × St → Prop)
    (h : ∀ a, I a → (∃ a', XG T b hd x (S a) = some (.normal, S a') ∧ I a' ∧ μ a' < μ a ∧ G a' = G a) ∨ Stops (XG T b hd x (S a)) (Q (G a))) : ∀ a, I a → ∃ r, XL T b hd x (S a) = some r ∧ Q (G a) r := by
  have key : ∀ n a, μ a ≤ n → I a → ∃ r, XL T b hd x (S a) = some r ∧ Q (G a) r := by
    intro n
    induction n with
    | zero =>
      intro a hn ha
      rcases h a ha with ⟨a', _, _, h3, _⟩ | ⟨r, h1, h2, h3⟩
      · omega
      · exact ⟨r, XL_out h1 h2, h3⟩
    | succ n ih =>
      intro a hn ha
      rcases h a ha with ⟨a', h1, h2, h3, h4⟩ | ⟨r, h1, h2, h3⟩
      · obtain ⟨r, k1, k2⟩ := ih a' (by omega) h2
        refine ⟨r, ?_, h4 ▸ k2⟩
        rw [XL_eq, h1]; exact k1
      · exact ⟨r, XL_out h1 h2, h3⟩
  exact fun a => key (μ a) a (Nat.le_refl _)
def ba (l : List UInt8) : ByteArray := ⟨l.toArray⟩
theorem ba_ex (p : ByteArray) (i j : Nat) : p.extract i j = ba ((p.data.toList.take j).drop i) := by
  have h : (p.extract i j).data.toList = (p.data.toList.take j).drop i := by
    rw [ByteArray.data_extract, Array.toList_extract, List.extract_eq_drop_take', List.drop_take]
  unfold ba
  rw [← h]
def scanL (L : List UInt8) (a : Nat × Nat × List ByteArray) : Option (List ByteArray) :=
  if a.1 ≤ L.length then (if ((cutS 47 ((L.take a.1).drop a.2.1) (L.drop a.1)).map ba).all nameOk = true then some (a.2.2 ++ (cutS 47 ((L.take a.1).drop a.2.1) (L.drop a.1)).map ba) else none) else some a.2.2
theorem take_next {L : List UInt8} {i g : Nat} {b : UInt8} (h : L[i]? = some b) (hg : g ≤ i) : (L.take (i + 1)).drop g = (L.take i).drop g ++ [b] := by
  have hi := (List.getElem?_eq_some_iff.1 h).1
  rw [List.take_add_one, h, List.drop_append_of_le_length (by rw [List.length_take]; omega)]
  rfl
theorem drop_here {L : List UInt8} {i : Nat} {b : UInt8} (h : L[i]? = some b) : L.drop i = b :: L.drop (i + 1) := by
  obtain ⟨hi, rfl⟩ := List.getElem?_eq_some_iff.1 h
  exact List.drop_eq_getElem_cons hi
theorem scan_on {L : List UInt8} {i g : Nat} {b : UInt8} {o : List ByteArray} (h : L[i]? = some b) (hb : b ≠ 47) (hg : g ≤ i) : scanL L (i + 1, g, o) = scanL L (i, g, o) := by
  have hi := (List.getElem?_eq_some_iff.1 h).1
  unfold scanL
  rw [if_pos (show i + 1 ≤ L.length by omega), if_pos (show i ≤ L.length by omega)]
  simp only [take_next h hg, drop_here h, cutS, if_neg hb]
theorem scan_cut {L : List UInt8} {i g : Nat} {o : List ByteArray} (h : L[i]? = some 47) (hk : nameOk (ba ((L.take i).drop g)) = true) : scanL L (i + 1, i + 1, o ++ [ba ((L.take i).drop g)]) = scanL L (i, g, o) := by
  have hi := (List.getElem?_eq_some_iff.1 h).1
  unfold scanL
  rw [if_pos (show i + 1 ≤ L.length by omega), if_pos (show i ≤ L.length by omega)]
  have hd : (L.take (i + 1)).drop (i + 1) = [] := List.drop_eq_nil_of_le (by rw [List.length_take]; omega)
  simp only [drop_here h, cutS, if_pos, hd, List.map_cons, List.all_cons, hk, Bool.true_and, List.append_assoc, List.singleton_append]
theorem scan_bad {L : List UInt8} {i g : Nat} {o : List ByteArray} (h : L[i]? = some 47) (hk : nameOk (ba ((L.take i).drop g)) = false) : scanL L (i, g, o) = none := by
  have hi := (List.getElem?_eq_some_iff.1 h).1
  unfold scanL
  rw [if_pos (show i ≤ L.length by omega)]
  simp only [drop_here h, cutS, if_pos, List.map_cons, List.all_cons, hk, Bool.false_and, Bool.false_eq_true, if_false]
theorem scan_end {L : List UInt8} {g : Nat} {o : List ByteArray} (hk : nameOk (ba (L.drop g)) = true) : scanL L (L.length, g, o) = some (o ++ [ba (L.drop g)]) := by
  unfold scanL
  simp only [Nat.le_refl, if_true, List.take_length, List.drop_length, cutS, List.map_cons, List.map_nil, List.all_cons, List.all_nil, hk, Bool.true_and]
theorem scan_out {L : List UInt8} {g : Nat} {o : List ByteArray} : scanL L (L.length + 1, g, o) = some o := by
  unfold scanL
  rw [if_neg (by show ¬ L.length + 1 ≤ L.length; omega)]
theorem scan_last {L : List UInt8} {g : Nat} {o : List ByteArray} (hk : nameOk (ba (L.drop g)) = false) : scanL L (L.length, g, o) = none := by
  unfold scanL
  simp only [Nat.le_refl, if_true, List.take_length, List.drop_length, cutS, List.map_cons, List.map_nil, List.all_cons, List.all_nil, hk, Bool.false_and, Bool.false_eq_true, if_false]
def namesOf (p : ByteArray) : Option (List ByteArray) := match p.data.toList with
  | [] => none
  | b :: r => if b = 47 then (if r = [] then some [] else if (pieces 47 r).all nameOk && decide ((pieces 47 r).length ≤ 4) then some (pieces 47 r) else none) else none
theorem sz_ba (L : List UInt8) : (ba L).size = L.length := by simp [ba, ByteArray.size]
theorem ex_ba (L : List UInt8) (i j : Nat) : (ba L).extract i j = ba ((L.take j).drop i) := by
  have := ba_ex (ba L) i j
  simpa [ba] using this
theorem ba_inj {a b : List UInt8} : ba a = ba b ↔ a = b := by
  constructor
  · intro h; have := congrArg (fun x : ByteArray => x.data.toList) h; simpa [ba] using this
  · intro h; rw [h]
theorem ba_of (s : ByteArray) : s = ba s.data.toList := by cases s; rfl
theorem ba_l (L : List UInt8) : (ba L).data.toList = L := by simp [ba]
theorem sl_ba : (⟨#[47]⟩ : ByteArray) = ba [47] := rfl
theorem ba_nil (r : List UInt8) : (ba r = ⟨#[]⟩) = (r = []) := propext (ba_inj (b := []))
theorem sl_sz : (⟨#[47]⟩ : ByteArray).size = 1 := rfl
def starts (L : List UInt8) : Bool := match L with
  | [] => false
  | b :: _ => decide (b = 47)
theorem e251 (L : List UInt8) (hl : L.length ≤ maxLen) : E T 251 [.str (ba L), .str ⟨#[47]⟩] [] = some (.bool (starts L), []) := by
  rw [E_eq t251 (Nat.le_of_ble_eq_true rfl)]
  unfold maxLen at hl
  cases L with
  | nil =>
    simp only [F251, go_sem, seval, bnd_ite, sz_ba, sl_sz]
    first | done | rfl
  | cons b r =>
    have h1 : (1 : Int) ≤ ((r.length + 1 : Nat) : Int) := by omega
    simp only [F251, go_sem, seval, bnd_ite, sz_ba, sl_sz, List.length_cons, ex_ba, sl_ba, ba_inj]
    rw [if_pos (by omega), if_pos (by omega)]
    simp [starts]
theorem e233 (L : List UInt8) (hl : L.length ≤ maxLen) : E T 233 [.str (ba L), .str ⟨#[47]⟩] [] = some (.tup [.str (if starts L = true then ba (L.drop 1) else ba L), .bool (starts L)], []) := by
  rw [E_eq t233 (Nat.le_of_ble_eq_true rfl)]
  have h := e251 L hl
  unfold maxLen at hl
  simp only [F233, go_sem, seval, bnd_ite, h, sz_ba, sl_sz]
  cases hs : starts L with
  | false => simp
  | true =>
    have h1 : 1 ≤ L.length := by cases L with | nil => simp [starts] at hs | cons b r => simp
    simp only [Bool.not_true, Bool.false_eq_true, if_false, if_true]
    rw [if_pos (by omega), ex_ba, List.take_of_length_le (by first | exact Nat.le_refl _ | omega)]
    first | done | rfl
theorem e180 (L : List UInt8) (hl : L.length ≤ maxLen) : E T 180 [.str (ba L), .str ⟨#[47]⟩] [] = some (.tup [.str (if starts L = true then ba (L.drop 1) else ba L), .bool (starts L)], []) := by
  rw [E_eq t180 (Nat.le_of_ble_eq_true rfl)]
  simp only [F180, go_sem, seval, bnd_ite, e233 L hl]
theorem e181 (r : List UInt8) (h : r.length ≤ 1048576) : E T 181 [.str (ba r), .str ⟨#[47]⟩] [] = some (.own 1 ((pieces 47 r).map sv), []) := by
  rw [E_orc (T := T) (f := 181) (F := ⟨.ret, [], 0, .one, some splitO⟩) (g := splitO) t181 rfl]
  show cond (Nat.blt (ba r).size 4294967281) (some ((AV.own 1 ((pieces 47 (ba r).data.toList).map AV.str) : AV), ([] : Mem))) none = _
  rw [sz_ba, ba_l, show Nat.blt r.length 4294967281 = true by rw [Nat.blt_eq]; omega]
  rfl
theorem cut_le (c : UInt8) : ∀ (r cur : List UInt8), ∀ x ∈ cutS c cur r, x.length ≤ cur.length + r.length
  | [], cur, x, h => by simp [cutS] at h; subst h; simp
  | b :: r, cur, x, h => by
    unfold cutS at h
    split at h
    · rcases List.mem_cons.1 h with rfl | h
      · simp
      · have := cut_le c r [] x h; simp at this ⊢; omega
    · have := cut_le c r (cur ++ [b]) x h; simp at this ⊢; omega
theorem pieces_le {r : List UInt8} {q : ByteArray} (h : q ∈ pieces 47 r) : q.size ≤ r.length := by
  obtain ⟨x, hx, rfl⟩ := List.mem_map.1 h
  have := cut_le 47 r [] x hx
  simpa [ByteArray.size] using this
theorem cut_len (c : UInt8) : ∀ (r cur : List UInt8), (cutS c cur r).length ≤ r.length + 1
  | [], cur => by simp [cutS]
  | b :: r, cur => by
    unfold cutS
    split
    · have := cut_len c r []; simp; omega
    · have := cut_len c r (cur ++ [b]); simp; omega
theorem pieces_len (r : List UInt8) : (pieces 47 r).length ≤ r.length + 1 := by
  unfold pieces; rw [List.length_map]; exact cut_len 47 r []
def outN (o : Option (List ByteArray)) : AV := .tup [.own 1 ((o.getD []).map sv), .bool o.isSome]
theorem e96 (p : ByteArray) (hl : p.size ≤ 1048576) : E T 96 [.str p] [] = some (outN (namesOf p), []) := by
  rw [ba_of p] at hl ⊢
  unfold namesOf
  rw [ba_l]
  rw [sz_ba] at hl
  generalize p.data.toList = L at *
  rw [E_eqW t96 (Nat.le_of_ble_eq_true rfl)]
  have h1 := e180 L (by unfold maxLen; omega)
  cases L with
  | nil =>
    simp only [F96, go_sem, seval, bnd_ite, h1, starts]
    first | done | rfl
  | cons b r =>
    by_cases hb : b = 47
    case neg =>
      simp only [F96, go_sem, seval, bnd_ite, h1, starts, hb, decide_false, if_false]
      first | done | rfl
    case pos =>
    subst hb
    simp only [List.length_cons] at hl
    have h2 := e181 r (by omega)
    have h1' : E T 180 [.str (ba (47 :: r)), .str ⟨#[47]⟩] [] = some (.tup [.str (ba r), .bool true], []) := h1
    simp only [F96, h96_8, go_sem, seval, bnd_ite, h1', h2, ba_nil, if_true]
    by_cases hr : r = []
    · subst hr
      simp only [go_sem, seval, if_true]
      first | done | rfl
    rw [if_neg (by simpa using hr)]
    simp only [hr, if_false, go_sem, seval, bnd_ite]
    have hpl := pieces_len r
    have hps : ∀ q ∈ pieces 47 r, q.size ≤ r.length := fun q hq => pieces_le hq
    generalize pieces 47 r = l at *
    obtain ⟨⟨y, e, m⟩, k1, k2⟩ := XL_all (T := T) (b := 0) (hd := H96_8) (x := L96_8) l nameOk (fun i => ⟨[(6, .sl 0 0 l.length), (20, .sl 0 0 l.length), (21, .int .i64 l.length), (22, .int .i64 (i : Nat))], [some (1, l.map sv)]⟩)
      (fun r => r.1 = .exit 0 ∧ lookA r.2.env 6 = .sl 0 0 l.length ∧ r.2.mem = [some (1, l.map sv)]) (fun r => r.1 = .ret ∧ lookA r.2.env 2 = .nil ∧ lookA r.2.env 3 = .bool false ∧ r.2.mem = [some (1, l.map sv)])
      (by
        intro i q hq hi hp _
        have hi1 : (i : Int) < (l.length : Int) := by omega
        have hz := hps q (List.mem_of_getElem? hq)
        have e1 := e169 q (by unfold maxLen; omega)
        simp only [XG, L96_8, h96_8, go_sem, seval, bnd_ite, hi1, hi, gD_map hq, sv, e1, hp, Int.natCast_nonneg, w_i64 ((i : Int) + 1) (by omega)]
        first | done | rfl)
      (by
        intro i q hq hi hp _
        have hi1 : (i : Int) < (l.length : Int) := by omega
        have hz := hps q (List.mem_of_getElem? hq)
        have e1 := e169 q (by unfold maxLen; omega)
        simp only [XG, L96_8, h96_8, go_sem, seval, bnd_ite, hi1, hi, gD_map hq, sv, e1, hp, Int.natCast_nonneg, w_i64 ((i : Int) + 1) (by omega)]
        exact .mk (by simp) ⟨rfl, rfl, rfl, rfl⟩)
      (by
        intro _
        simp only [XG, L96_8, h96_8, go_sem, seval, bnd_ite, Int.lt_irrefl, decide_false]
        exact .mk (by simp) ⟨rfl, rfl, rfl⟩)
    have hs : ((0 : Nat) : Int) = 0 := rfl
    simp only [hs] at k1
    rcases k2 with ⟨h, q1, q2, q3⟩ | ⟨h, q1, q2, q3, q4⟩ <;> simp only at q1 q2 q3 <;> subst q1
    · subst q3
      simp only [k1, h, go_sem, seval, bnd_ite, q2, Bool.true_and]
      by_cases h4 : l.length ≤ 4
      · have h4' : ¬ (4 : Int) < (l.length : Int) := by omega
        simp only [h4, h4', decide_true, decide_false, if_true, go_sem, seval, bnd_ite, q2]
        first | done | rfl
      · have h4' : (4 : Int) < (l.length : Int) := by omega
        simp only [h4, h4', decide_true, decide_false, if_true, go_sem, seval, bnd_ite, q2]
        first | done | rfl
    · simp only at q4; subst q4
      simp only [k1, h, go_sem, seval, bnd_ite, q2, q3, Bool.false_and]
      first | done | rfl
theorem u8_47 (c : UInt8) : ((c.toNat : Int) = 47) = (c = 47) := by
  apply propext
  constructor
  · intro h
    have : c.toNat = 47 := by omega
    exact UInt8.toNat_inj.1 (this.trans rfl)
  · rintro rfl; rfl
def stS (L : List UInt8) (a : Nat × Nat × List ByteArray) : St := ⟨[(0, .str (ba L)), (4, .sl 0 0 a.2.2.length), (5, .int .i64 (a.2.1 : Nat)), (6, .int .i64 (a.1 : Nat))], [some (1, a.2.2.map sv)]⟩
def okS (L : List UInt8) (a : Nat × Nat × List ByteArray) : Prop := a.2.1 ≤ a.1 ∧ a.1 ≤ L.length + 1 ∧ a.2.2.length ≤ a.1
def endS (g : Option (List ByteArray)) (r : AX × St) : Prop :=
  (r.1 = .exit 0 ∧ ∃ o, g = some o ∧ lookA r.2.env 4 = .sl 0 0 o.length ∧ r.2.mem = [some (1, o.map sv)]) ∨ (r.1 = .ret ∧ g = none ∧ lookA r.2.env 2 = .nil ∧ lookA r.2.env 3 = .bool false ∧ ∃ o : List ByteArray, r.2.mem = [some (1, o.map sv)])
theorem loop45 (L : List UInt8) (hl : L.length ≤ 1048576) (a : Nat × Nat × List ByteArray) (ha : okS L a) : ∃ r, XL T 0 H45_8 L45_8 (stS L a) = some r ∧ endS (scanL L a) r := by
  refine XL_to (T := T) (b := 0) (hd := H45_8) (x := L45_8) (stS L) (okS L) (fun a => L.length + 2 - a.1) (scanL L) endS ?_ a ha
  rintro ⟨i, g, o⟩ ⟨hg, hi, ho⟩
  simp only at hg hi ho
  have wi := w_i64 ((i : Int) + 1) (by omega)
  have hsz : ((ba L).size : Int) = L.length := by rw [sz_ba]
  by_cases h1 : i ≤ L.length
  case neg =>
    right
    have e1 : ¬ (i : Int) ≤ (L.length : Int) := by omega
    have ei : i = L.length + 1 := by omega
    subst ei
    rw [scan_out]
    simp only [XG, L45_8, h45_8, stS, go_sem, seval, bnd_ite, hsz, e1, decide_false]
    exact .mk (by simp) (.inl ⟨rfl, o, rfl, rfl, rfl⟩)
  case pos =>
  have e1 : (i : Int) ≤ (L.length : Int) := by omega
  by_cases h2 : i < L.length
  case pos =>
    obtain ⟨b, hb⟩ := get_at h2
    have e2 : (i : Int) < (L.length : Int) := by omega
    have gc : L.getD i 0 = b := by simp [List.getD, hb]
    by_cases h3 : b = 47
    case neg =>
      left
      refine ⟨(i + 1, g, o), ?_, ⟨by simp; omega, by simp; omega, by simp; omega⟩, by simp; omega, scan_on hb h3 hg⟩
      simp only [XG, L45_8, h45_8, stS, go_sem, seval, bnd_ite, hsz, e1, e2, sz_ba, ba_l, Int.toNat_natCast, gc, u8_47, h3, Int.natCast_nonneg, wi, decide_true, decide_false, Bool.not_false, if_true]
      first | done | rfl
    case pos =>
      subst h3
      have hx := ex_ba L g i
      have hq : (ba ((L.take i).drop g)).size ≤ maxLen := by rw [sz_ba]; unfold maxLen; simp; omega
      have en := e119 (ba ((L.take i).drop g)) hq
      have pr : L.length + 2 - (i + 1) < L.length + 2 - i := by omega
      cases hk : nameOk (ba ((L.take i).drop g)) with
      | true =>
        left
        refine ⟨(i + 1, i + 1, o ++ [ba ((L.take i).drop g)]), ?_, ⟨by simp, by simp; omega, by simp; omega⟩, pr, scan_cut hb hk⟩
        rw [hk] at en
        simp only [XG, L45_8, h45_8, stS, go_sem, seval, bnd_ite, hsz, e1, e2, sz_ba, ba_l, Int.toNat_natCast, gc, u8_47, hx, en, Int.natCast_nonneg, wi, decide_true, decide_false, Bool.not_true, if_true]
        rw [if_pos (by omega), if_pos (by omega), if_pos (by omega), List.map_append]
        first | done | rfl
      | false =>
        right
        rw [scan_bad hb hk]
        rw [hk] at en
        simp only [XG, L45_8, h45_8, stS, go_sem, seval, bnd_ite, hsz, e1, e2, sz_ba, ba_l, Int.toNat_natCast, gc, u8_47, hx, en, Int.natCast_nonneg, wi, decide_true, decide_false, Bool.not_true, if_true]
        rw [if_pos (by omega)]
        exact .mk (by simp) (.inr ⟨rfl, rfl, rfl, rfl, o, rfl⟩)
  case neg =>
    have ei : i = L.length := by omega
    subst ei
    have hx := ex_ba L g L.length
    rw [List.take_length] at hx
    have e2 : ¬ (L.length : Int) < (L.length : Int) := by omega
    have hq : (ba (L.drop g)).size ≤ maxLen := by rw [sz_ba]; unfold maxLen; simp; omega
    have en := e119 (ba (L.drop g)) hq
    have pr : L.length + 2 - (L.length + 1) < L.length + 2 - L.length := by omega
    cases hk : nameOk (ba (L.drop g)) with
    | true =>
      left
      refine ⟨(L.length + 1, L.length + 1, o ++ [ba (L.drop g)]), ?_, ⟨by simp, by simp, by simp; omega⟩, pr, by rw [scan_out, scan_end hk]⟩
      rw [hk] at en
      simp only [XG, L45_8, h45_8, stS, go_sem, seval, bnd_ite, hsz, e1, e2, sz_ba, ba_l, Int.toNat_natCast, hx, en, Int.natCast_nonneg, wi, decide_true, decide_false, Bool.not_true, if_true, Bool.false_eq_true, if_false]
      rw [if_pos (by omega), if_pos (by omega), if_pos (by omega), List.map_append]
      first | done | rfl
    | false =>
      right
      rw [scan_last hk]
      rw [hk] at en
      simp only [XG, L45_8, h45_8, stS, go_sem, seval, bnd_ite, hsz, e1, e2, sz_ba, ba_l, Int.toNat_natCast, hx, en, Int.natCast_nonneg, wi, decide_true, decide_false, Bool.not_true, if_true, Bool.false_eq_true, if_false]
      rw [if_pos (by omega)]
      exact .mk (by simp) (.inr ⟨rfl, rfl, rfl, rfl, o, rfl⟩)
theorem scan_all (b : UInt8) (r : List UInt8) : scanL (b :: r) (1, 1, []) = if (pieces 47 r).all nameOk = true then some (pieces 47 r) else none := by
  unfold scanL
  rw [if_pos (by simp)]
  simp only [List.take_succ_cons, List.take_zero, List.drop_succ_cons, List.drop_nil, List.drop_zero, List.nil_append]
  rfl
theorem e45 (p : ByteArray) (hl : p.size ≤ 1048576) : E T 45 [.str p] [] = some (outN (namesOf p), []) := by
  rw [ba_of p] at hl ⊢
  unfold namesOf
  rw [ba_l]
  rw [sz_ba] at hl
  generalize p.data.toList = L at *
  rw [E_eqW t45 (Nat.le_of_ble_eq_true rfl)]
  cases L with
  | nil =>
    simp only [F45, go_sem, seval, bnd_ite, sz_ba]
    first | done | rfl | trace_state
  | cons b r =>
    have hz : ((ba (b :: r)).size : Int) = (r.length : Int) + 1 := by rw [sz_ba]; simp
    have h0 : ¬ ((r.length : Int) + 1 = 0) := by omega
    have hp : (0 : Int) < (r.length : Int) + 1 := by omega
    have gc : (b :: r).getD 0 0 = b := rfl
    have g0 : (b :: r).getD (0 : Int).toNat 0 = b := rfl
    by_cases hb : b = 47
    case neg =>
      simp only [F45, go_sem, seval, bnd_ite, hz, h0, hp, ba_l, g0, u8_47, hb, decide_false, decide_true, Bool.not_false, if_true, if_false, Bool.or_true]
      first | done | rfl | trace_state
    case pos =>
    subst hb
    simp only [List.length_cons] at hl
    simp only [F45, h45_8, go_sem, seval, bnd_ite, hz, h0, hp, ba_l, g0, u8_47, decide_false, decide_true, Bool.not_true, if_true, if_false, sl_ba, ba_inj, List.cons.injEq, true_and]
    by_cases hr : r = []
    · subst hr
      simp only [go_sem, seval, if_true]
      first | done | rfl | trace_state
    simp only [hr, decide_false, if_false, go_sem, seval, bnd_ite]
    obtain ⟨⟨y, e, m⟩, k1, k2⟩ := loop45 (47 :: r) (by simp; omega) (1, 1, []) ⟨by simp, by simp, by simp⟩
    rw [scan_all] at k2
    have k1' : XL T 0 H45_8 L45_8 ⟨[(0, .str (ba (47 :: r))), (4, .sl 0 0 0), (5, .int .i64 1), (6, .int .i64 1)], [some (1, [])]⟩ = some (y, ⟨e, m⟩) := k1
    rcases k2 with ⟨q1, o, q2, q3, q4⟩ | ⟨q1, q2, q3, q4, o, q5⟩ <;> simp only at q1
    · subst q1
      simp only at q3 q4
      subst q4
      have hall : (pieces 47 r).all nameOk = true := by
        cases h : (pieces 47 r).all nameOk with
        | true => rfl
        | false => rw [h] at q2; simp at q2
      rw [hall] at q2 ⊢
      obtain rfl := Option.some.inj (by simpa using q2)
      generalize pieces 47 r = l at *
      simp only [k1', go_sem, seval, bnd_ite, q3, Bool.true_and]
      by_cases h4 : l.length ≤ 4
      · have h4' : ¬ (4 : Int) < (l.length : Int) := by omega
        simp only [h4, h4', decide_true, decide_false, if_true, go_sem, seval, bnd_ite, q3]
        first | done | rfl | trace_state
      · have h4' : (4 : Int) < (l.length : Int) := by omega
        simp only [h4, h4', decide_true, decide_false, if_true, go_sem, seval, bnd_ite, q3]
        first | done | rfl | trace_state
    · subst q1
      simp only at q3 q4 q5
      subst q5
      have hall : (pieces 47 r).all nameOk = false := by
        cases h : (pieces 47 r).all nameOk with
        | false => rfl
        | true => rw [h] at q2; simp at q2
      simp only [k1', hall, go_sem, seval, bnd_ite, q3, q4, Bool.false_and]
      first | done | rfl | trace_state
theorem names_len (p : ByteArray) : ((namesOf p).getD []).length ≤ 4 := by
  unfold namesOf
  split
  · simp
  · rename_i b r _
    split
    · split
      · simp
      · split
        · rename_i h; simp at h; simpa using h.2
        · simp
    · simp
end Go.Proofs.YtaaajjinpppgeaaGreatDoor
namespace Go.Proofs.YtaaajjinpppgeaaGreatDoor
open Go Go.Abs
set_option maxRecDepth 100000
theorem inoOf_sm {x : Dsk} (h : x.sm) (i : Int) : (inoOf x i).sm := by
  cases hc : inside i 1 x.inos.length with
  | true => exact h.ino _ (List.mem_of_getElem? (inoOf_mem hc))
  | false => unfold inoOf; rw [hc]; exact (by decide : (0 : Nat) ≤ 1048576)
theorem blkOf_sm {x : Dsk} (h : x.sm) (i : Int) : (blkOf x i).sm := by
  cases hc : inside i 1 x.blks.length with
  | true => exact h.blk _ (List.mem_of_getElem? (blkOf_mem hc))
  | false => unfold blkOf; rw [hc]; exact (by decide : (0 : Nat) ≤ 1048576)
def dskC (x : Dsk) : AV := .agg [.ro 1 (x.used.map bv), .ro 1 (x.taken.map bv), .ro 3 (x.inos.map ino), .ro 3 (x.blks.map blk)]
theorem slot_at {l : List Slt} {n : ByteArray} (h : 0 ≤ slotOf l n) : ∃ (k : Nat) (s : Slt), slotOf l n = (k : Nat) ∧ l[k]? = some s ∧ s.name = n ∧ n.size ≠ 0 := by
  unfold slotOf at h ⊢
  by_cases hn : n.size = 0
  · rw [if_pos hn] at h; omega
  · rw [if_neg hn] at h ⊢
    cases hf : l.findIdx? (fun x => decide (x.name = n)) with
    | none => rw [hf] at h; simp only at h; omega
    | some k =>
      obtain ⟨h1, h2, _⟩ := List.findIdx?_eq_some_iff_getElem.1 hf
      exact ⟨k, l[k], rfl, List.getElem?_eq_getElem h1, by simpa using h2, hn⟩
theorem slot_dir {x : Dsk} (hx : DskOk x) {p : Int} {n : ByteArray} (h : 0 ≤ slotOf (blkOf x p).slots n) : (blkOf x p).dir = true ∧ inside p 1 x.blks.length = true := by
  obtain ⟨k, s, _, h2, _⟩ := slot_at h
  cases hc : inside p 1 x.blks.length with
  | false =>
    unfold blkOf at h2; rw [hc] at h2
    simp [blk0] at h2
  | true =>
    refine ⟨?_, rfl⟩
    have hm := List.mem_of_getElem? (blkOf_mem hc)
    have hb := hx.blk _ hm
    generalize blkOf x p = b at *
    unfold blkOk at hb
    cases hd : b.dir with
    | true => rfl
    | false =>
      rw [hd] at hb
      simp at hb
      have : b.slots = [] := List.length_eq_zero_iff.1 (by simpa using hb.1)
      rw [this] at h2; simp at h2
def stepN (x : Dsk) (i : Int) (n : ByteArray) : Option (Int × Int × Int) :=
  if (inoOf x i).kind = 2 then
    match (inoOf x i).ptrs.findIdx? (fun p => decide (0 ≤ slotOf (blkOf x p).slots n)) with
    | some j => some ((inoOf x i).ptrs.getD j 0, slotOf (blkOf x ((inoOf x i).ptrs.getD j 0)).slots n, ((blkOf x ((inoOf x i).ptrs.getD j 0)).slots.getD (slotOf (blkOf x ((inoOf x i).ptrs.getD j 0)).slots n).toNat slt0).ino)
    | none => none
  else none
def walkN (x : Dsk) : Int → List ByteArray → Int
  | i, [] => i
  | i, n :: r => match stepN x i n with
    | some q => walkN x q.2.2 r
    | none => 0
def pair2 (o : Option (Int × Int × Int)) : AV := match o with
  | some q => .tup [.int .i64 q.1, .int .i64 q.2.1]
  | none => .tup [.int .i64 0, .int .i64 0]
theorem e64 (x : Dsk) (h : x.sm) (i : Int) (n : ByteArray) : E T 64 [dsk x, .int .i64 i, .str n] [] = some (pair2 (stepN x i n), []) := by
  rw [E_eq t64 (Nat.le_of_ble_eq_true rfl)]
  have e1 := e59u x h i
  have hp := inoOf_sm h i
  unfold stepN
  generalize inoOf x i = p at *
  obtain ⟨pk, pl, l⟩ := p
  unfold Ino.sm at hp
  simp only at hp
  unfold dsk at e1 ⊢
  rw [show ino ⟨pk, pl, l⟩ = .agg [.int .i64 pk, .int .i64 pl, .ro 1 (l.map iv)] from rfl] at e1
  by_cases hk : pk = 2
  case neg =>
    simp only [F64, go_sem, seval, bnd_ite, e1, hk, decide_false, Bool.not_false, if_true, if_false]
    first | done | rfl
  case pos =>
    simp only [F64, h64_5, go_sem, seval, bnd_ite, e1, hk, decide_true, Bool.not_true, Bool.false_eq_true, if_true, if_false]
    obtain ⟨⟨y, e, m⟩, k1, k2⟩ := XL_find (T := T) (b := 0) (hd := H64_5) (x := L64_5) l (fun q => decide (0 ≤ slotOf (blkOf x q).slots n)) (fun j => ⟨[(2, .str n), (3, .ptr 0 0 0), (19, .ro 1 (l.map iv)), (20, .int .i64 l.length), (21, .int .i64 (j : Nat))], [some (4, [dskC x])]⟩)
      (fun o r => match o with
        | some j => r.1 = .ret ∧ lookA r.2.env 6 = .int .i64 (l.getD j 0) ∧ lookA r.2.env 7 = .int .i64 (slotOf (blkOf x (l.getD j 0)).slots n) ∧ r.2.mem = [some (4, [dskC x])]
        | none => r.1 = .exit 0 ∧ r.2.mem = [some (4, [dskC x])])
      (by
        intro j q hq hj hP _
        have j1 : (j : Int) < (l.length : Int) := by omega
        have gq : (l.map iv).getD j .undef = .int .i64 q := gD_map hq
        have e2 := e134u x h q
        have hb := blkOf_sm h q
        have hw := w_i64 ((j : Int) + 1) (by omega)
        generalize blkOf x q = b at *
        have e3 := e133 b n (by unfold Blk.sm at hb; unfold maxLen; omega)
        unfold dsk at e2
        rw [show blk b = .agg [.bool b.dir, .ro 2 (b.slots.map slt), .str b.text] from rfl] at e2 e3
        have hP : ¬ 0 ≤ slotOf b.slots n := by simpa using hP
        unfold dskC
        simp only [XG, L64_5, h64_5, go_sem, seval, bnd_ite, j1, gq, e2, e3, hP, hw, Int.natCast_nonneg, decide_false, decide_true, if_true, if_false, Bool.false_eq_true]
        first | done | rfl)
      (by
        intro j q hq hj hP _
        have j1 : (j : Int) < (l.length : Int) := by omega
        have gq : (l.map iv).getD j .undef = .int .i64 q := gD_map hq
        have gl : l.getD j 0 = q := getD_at hq
        have e2 := e134u x h q
        have hb := blkOf_sm h q
        have hw := w_i64 ((j : Int) + 1) (by omega)
        simp only [gl]
        generalize blkOf x q = b at *
        have e3 := e133 b n (by unfold Blk.sm at hb; unfold maxLen; omega)
        unfold dsk at e2
        rw [show blk b = .agg [.bool b.dir, .ro 2 (b.slots.map slt), .str b.text] from rfl] at e2 e3
        have hP : 0 ≤ slotOf b.slots n := by simpa using hP
        unfold dskC
        simp only [XG, L64_5, h64_5, go_sem, seval, bnd_ite, j1, gq, e2, e3, hP, hw, Int.natCast_nonneg, decide_false, decide_true, if_true, if_false, Bool.false_eq_true]
        exact .mk (by simp) ⟨rfl, rfl, rfl, rfl⟩)
      (by
        intro _
        unfold dskC
        simp only [XG, L64_5, h64_5, go_sem, seval, bnd_ite, Int.lt_irrefl, decide_false]
        exact .mk (by simp) ⟨rfl, rfl⟩)
    have hs : ((0 : Nat) : Int) = 0 := rfl
    unfold dskC at k1
    simp only [hs] at k1
    cases hf : l.findIdx? (fun q => decide (0 ≤ slotOf (blkOf x q).slots n)) with
    | none =>
      rw [hf] at k2
      obtain ⟨q1, q2⟩ := k2
      simp only at q1 q2
      subst q1
      simp only [k1, go_sem, seval, bnd_ite, q2]
      first | done | rfl
    | some j =>
      rw [hf] at k2
      obtain ⟨q1, q2, q3, q4⟩ := k2
      simp only at q1 q2 q3 q4
      subst q1
      simp only [k1, go_sem, seval, bnd_ite, q2, q3, q4]
      first | done | rfl
theorem drop_at {α : Type} {l : List α} {i : Nat} {a : α} (h : l[i]? = some a) : l.drop i = a :: l.drop (i + 1) := by
  obtain ⟨hi, rfl⟩ := List.getElem?_eq_some_iff.1 h
  exact List.drop_eq_getElem_cons hi
theorem stepN_some {x : Dsk} (hx : DskOk x) {i : Int} {n : ByteArray} {q : Int × Int × Int} (h : stepN x i n = some q) :
    inside q.1 1 x.blks.length = true ∧ (blkOf x q.1).dir = true ∧ ∃ (k : Nat) (s : Slt), q.2.1 = (k : Nat) ∧ (blkOf x q.1).slots[k]? = some s ∧ q.2.2 = s.ino ∧ s.name = n ∧ n.size ≠ 0 := by
  unfold stepN at h
  split at h
  case isFalse => cases h
  split at h
  case h_2 => cases h
  rename_i j hf
  cases h
  obtain ⟨h1, h2, _⟩ := List.findIdx?_eq_some_iff_getElem.1 hf
  have hp : (inoOf x i).ptrs.getD j 0 = (inoOf x i).ptrs[j] := by simp [List.getD, h1]
  have h3 : 0 ≤ slotOf (blkOf x ((inoOf x i).ptrs.getD j 0)).slots n := by rw [hp]; simpa using h2
  obtain ⟨d1, d2⟩ := slot_dir hx h3
  obtain ⟨k, s, s1, s2, s3, s4⟩ := slot_at h3
  refine ⟨d2, d1, k, s, s1, s2, ?_, s3, s4⟩
  show ((blkOf x ((inoOf x i).ptrs.getD j 0)).slots.getD (slotOf (blkOf x ((inoOf x i).ptrs.getD j 0)).slots n).toNat slt0).ino = s.ino
  rw [s1, Int.toNat_natCast, getD_at s2]
theorem stepN_ino {x : Dsk} (hx : DskOk x) {i : Int} {n : ByteArray} {q : Int × Int × Int} (h : stepN x i n = some q) : inside q.2.2 1 8 = true := by
  obtain ⟨h1, h2, k, s, h3, h4, h5, h6, h7⟩ := stepN_some hx h
  have hb := hx.blk _ (List.mem_of_getElem? (blkOf_mem h1))
  unfold blkOk at hb
  rw [if_pos h2] at hb
  simp only [Bool.and_eq_true, List.all_eq_true] at hb
  have hz : (s, k) ∈ (blkOf x q.1).slots.zipIdx := by rw [List.mem_zipIdx_iff_getElem?]; exact h4
  have hs := hb.1 _ hz
  unfold slotOk at hs
  rw [h5]
  cases hbr : bare s with
  | true =>
    unfold bare at hbr
    simp at hbr
    rw [hbr.1] at h6
    rw [← h6] at h7
    exact absurd rfl h7
  | false =>
    simp only [hbr, Bool.false_or, Bool.and_eq_true] at hs
    exact hs.1.2
def endW (x : Dsk) (g : Int) (r : AX × St) : Prop :=
  (r.1 = .exit 0 ∧ lookA r.2.env 5 = .int .i64 g ∧ r.2.mem = [some (4, [dskC x])]) ∨ (r.1 = .ret ∧ g = 0 ∧ lookA r.2.env 4 = .int .i64 0 ∧ r.2.mem = [some (4, [dskC x])])
theorem e58 (x : Dsk) (h : x.sm) (hx : DskOk x) (l : List ByteArray) (hl : l.length ≤ 1048576) : E T 58 [dsk x, .ro 1 (l.map sv)] [] = some (.int .i64 (walkN x 1 l), []) := by
  rw [E_eq t58 (Nat.le_of_ble_eq_true rfl)]
  have hi8 := hx.inos
  have hb16 := hx.blks
  have n0 : ¬ ((x.inos.length : Int) = 0) := by omega
  unfold dsk
  simp only [F58, h58_5, go_sem, seval, bnd_ite, n0, decide_false, Bool.false_eq_true, if_false]
  obtain ⟨⟨y, e, m⟩, k1, k2⟩ := XL_to (T := T) (b := 0) (hd := H58_5) (x := L58_5) (fun a : Nat × Int => ⟨[(2, .ptr 0 0 0), (5, .int .i64 a.2), (14, .ro 1 (l.map sv)), (15, .int .i64 l.length), (16, .int .i64 (a.1 : Nat))], [some (4, [dskC x])]⟩)
    (fun a => a.1 ≤ l.length) (fun a => l.length + 1 - a.1) (fun a => walkN x a.2 (l.drop a.1)) (endW x) (by
      rintro ⟨i, at_⟩ hi
      simp only at hi
      by_cases h1 : i < l.length
      case neg =>
        right
        have ei : i = l.length := by omega
        subst ei
        unfold dskC
        simp only [XG, L58_5, h58_5, go_sem, seval, bnd_ite, Int.lt_irrefl, decide_false, List.drop_length, walkN]
        exact .mk (by simp) (.inl ⟨rfl, rfl, rfl⟩)
      case pos =>
        obtain ⟨n, hn⟩ := get_at h1
        have i1 : (i : Int) < (l.length : Int) := by omega
        have gn : (l.map sv).getD i .undef = .str n := gD_map hn
        have e1 := e64 x h at_ n
        have wi := w_i64 ((i : Int) + 1) (by omega)
        have hd := drop_at hn
        unfold dsk at e1
        cases hq : stepN x at_ n with
        | none =>
          right
          rw [hq] at e1
          unfold pair2 at e1
          simp only at e1
          unfold dskC
          simp only [XG, L58_5, h58_5, go_sem, seval, bnd_ite, i1, gn, e1, Int.natCast_nonneg, decide_true, if_true, hd]
          exact .mk (by simp) (.inr ⟨rfl, by simp [walkN, hq], rfl, rfl⟩)
        | some q =>
          left
          rw [hq] at e1
          obtain ⟨c1, _, k, s, c2, c3, c4, _⟩ := stepN_some hx hq
          obtain ⟨q1, q2, q3⟩ := q
          simp only at c1 c2 c3 c4
          unfold pair2 at e1
          simp only at e1
          have gb : (x.blks.map blk).getD (q1 - 1).toNat .undef = .agg [.bool (blkOf x q1).dir, .ro 2 ((blkOf x q1).slots.map slt), .str (blkOf x q1).text] := gD_map (blkOf_mem c1)
          have hsm := blkOf_sm h q1
          unfold Blk.sm at hsm
          have hk := (List.getElem?_eq_some_iff.1 c3).1
          simp only [inside, Bool.and_eq_true, decide_eq_true_eq] at c1
          have z0 : ¬ q1 = 0 := by omega
          have z1 : 0 ≤ q1 - 1 := by omega
          have z2 : q1 - 1 < (x.blks.length : Int) := by omega
          have wq := w_i64 (q1 - 1) (by omega)
          subst c2
          have z3 : (k : Int) < ((blkOf x q1).slots.length : Int) := by omega
          have gs : ((blkOf x q1).slots.map slt).getD k .undef = .agg [.str s.name, .int .i64 s.ino] := gD_map c3
          refine ⟨(i + 1, q3), ?_, by show i + 1 ≤ l.length; omega, by show l.length + 1 - (i + 1) < l.length + 1 - i; omega, ?_⟩
          · unfold dskC
            simp only [XG, L58_5, h58_5, go_sem, seval, bnd_ite, i1, gn, e1, z0, z1, z2, z3, wq, wi, gb, gs, Int.toNat_natCast, Int.natCast_nonneg, decide_true, decide_false, if_true, if_false, Bool.false_eq_true]
            rw [c4]
            first | done | rfl
          · show walkN x q3 (l.drop (i + 1)) = walkN x at_ (l.drop i)
            rw [hd]; simp [walkN, hq]) (0, 1) (Nat.zero_le _)
  have hs : ((0 : Nat) : Int) = 0 := rfl
  unfold dskC at k1
  simp only [hs] at k1
  simp only [List.drop_zero] at k2
  rcases k2 with ⟨q1, q2, q3⟩ | ⟨q1, q2, q3, q4⟩ <;> simp only at q1 <;> subst q1
  · simp only at q2 q3; subst q3
    simp only [k1, go_sem, seval, bnd_ite, q2]
    first | done | rfl
  · simp only at q3 q4; subst q4
    simp only [k1, go_sem, seval, bnd_ite, q2, q3]
    first | done | rfl
end Go.Proofs.YtaaajjinpppgeaaGreatDoor
namespace Go.Proofs.YtaaajjinpppgeaaGreatDoor
open Go Go.Abs
set_option maxRecDepth 100000
def tri (o : Option (Int × Int × Int)) : AV := match o with
  | some q => .tup [.int .i64 q.1, .int .i64 q.2.1, .int .i64 q.2.2]
  | none => .tup [.int .i64 0, .int .i64 0, .int .i64 0]
theorem e23 (x : Blk) (s : ByteArray) (hl : x.slots.length ≤ maxLen) : E T 23 [blk x, .str s] [] = some (.int .i64 (slotOf x.slots s), []) := by
  rw [E_eq t23 (Nat.le_of_ble_eq_true rfl)]
  unfold maxLen at hl
  rw [show blk x = .agg [.bool x.dir, .ro 2 (x.slots.map slt), .str x.text] from rfl]
  simp only [F23, h23_2, go_sem, seval, bnd_ite]
  obtain ⟨⟨y, e, m⟩, k1, k2⟩ := XL_find (T := T) (b := 0) (hd := H23_2) (x := L23_2) x.slots (fun a => !decide (s = ⟨#[]⟩) && decide (a.name = s)) (fun j => ⟨[(1, .str s), (2, .ptr 0 0 0), (5, .int .i64 (j : Nat))], [some (3, [.agg [.bool x.dir, .ro 2 (x.slots.map slt), .str x.text]])]⟩)
    (fun o r => match o with
      | some j => r.1 = .ret ∧ lookA r.2.env 4 = .int .i64 (j : Nat) ∧ r.2.mem = [some (3, [.agg [.bool x.dir, .ro 2 (x.slots.map slt), .str x.text]])]
      | none => r.1 = .exit 0 ∧ r.2.mem = [some (3, [.agg [.bool x.dir, .ro 2 (x.slots.map slt), .str x.text]])])
    (by
      intro j a ha hj hP _
      have j1 : (j : Int) < (x.slots.length : Int) := by omega
      have ga : (x.slots.map slt).getD j .undef = .agg [.str a.name, .int .i64 a.ino] := gD_map ha
      have hw := w_i64 ((j : Int) + 1) (by omega)
      cases hs : decide (s = ⟨#[]⟩) with
      | true =>
        simp only [XG, L23_2, h23_2, go_sem, seval, bnd_ite, j1, ga, hs, hw, Int.natCast_nonneg, decide_true, Bool.not_true, if_true, if_false, Bool.false_eq_true]
        first | done | rfl
      | false =>
        rw [hs] at hP
        have hP : decide (a.name = s) = false := by simpa using hP
        simp only [XG, L23_2, h23_2, go_sem, seval, bnd_ite, j1, ga, hs, hP, hw, Int.natCast_nonneg, decide_true, Bool.not_false, if_true, if_false, Bool.false_eq_true]
        first | done | rfl)
    (by
      intro j a ha hj hP _
      have j1 : (j : Int) < (x.slots.length : Int) := by omega
      have ga : (x.slots.map slt).getD j .undef = .agg [.str a.name, .int .i64 a.ino] := gD_map ha
      simp only [Bool.and_eq_true, Bool.not_eq_true'] at hP
      simp only [XG, L23_2, h23_2, go_sem, seval, bnd_ite, j1, ga, hP.1, hP.2, Int.natCast_nonneg, decide_true, Bool.not_false, if_true, if_false, Bool.false_eq_true]
      exact .mk (by simp) ⟨rfl, rfl, rfl⟩)
    (by
      intro _
      simp only [XG, L23_2, h23_2, go_sem, seval, bnd_ite, Int.lt_irrefl, decide_false]
      exact .mk (by simp) ⟨rfl, rfl⟩)
  have hs0 : ((0 : Nat) : Int) = 0 := rfl
  simp only [hs0] at k1
  have hf : x.slots.findIdx? (fun a => !decide (s = ⟨#[]⟩) && decide (a.name = s)) = if s.size = 0 then none else x.slots.findIdx? (fun a => decide (a.name = s)) := by
    by_cases h0 : s.size = 0
    · have : s = ⟨#[]⟩ := by cases s with | mk a => congr 1; exact Array.eq_empty_of_size_eq_zero h0
      rw [if_pos h0]; subst this
      simp
    · have : ¬ s = ⟨#[]⟩ := fun hh => h0 (by rw [hh]; rfl)
      rw [if_neg h0]; simp [this]
  rw [hf] at k2
  unfold slotOf
  by_cases h0 : s.size = 0
  · rw [if_pos h0] at k2 ⊢
    obtain ⟨q1, q2⟩ := k2
    simp only at q1 q2; subst q1; subst q2
    simp only [k1, go_sem, seval, bnd_ite]
    first | done | rfl
  · rw [if_neg h0] at k2 ⊢
    cases hfi : x.slots.findIdx? (fun a => decide (a.name = s)) with
    | none =>
      rw [hfi] at k2
      obtain ⟨q1, q2⟩ := k2
      simp only at q1 q2; subst q1; subst q2
      simp only [k1, go_sem, seval, bnd_ite]
      first | done | rfl
    | some j =>
      rw [hfi] at k2
      obtain ⟨q1, q2, q3⟩ := k2
      simp only at q1 q2 q3; subst q1; subst q3
      simp only [k1, go_sem, seval, bnd_ite, q2]
      first | done | rfl
theorem e113 (x : Dsk) (h : x.sm) (hx : DskOk x) (i : Int) (n : ByteArray) : E T 113 [dsk x, .int .i64 i, .str n] [] = some (tri (stepN x i n), []) := by
  rw [E_eq t113 (Nat.le_of_ble_eq_true rfl)]
  have hi8 := hx.inos
  unfold stepN
  cases hc : inside i 1 x.inos.length with
  | false =>
    have e0 : inoOf x i = ino0 := by unfold inoOf; rw [hc]; rfl
    have e1 := e46i i 1 x.inos.length
    rw [hc] at e1
    rw [e0]
    unfold dsk
    simp only [F113, go_sem, seval, bnd_ite, e1, Bool.not_false, if_true]
    first | done | rfl
  | true =>
    have e1 := e46i i 1 x.inos.length
    rw [hc] at e1
    have gi : (x.inos.map ino).getD (i - 1).toNat .undef = .agg [.int .i64 (inoOf x i).kind, .int .i64 (inoOf x i).links, .ro 1 ((inoOf x i).ptrs.map iv)] := gD_map (inoOf_mem hc)
    have hp := inoOf_sm h i
    simp only [inside, Bool.and_eq_true, decide_eq_true_eq] at hc
    have z1 : 0 ≤ i - 1 := by omega
    have z2 : i - 1 < (x.inos.length : Int) := by omega
    have wq := w_i64 (i - 1) (by omega)
    generalize inoOf x i = p at *
    obtain ⟨pk, pl, l⟩ := p
    unfold Ino.sm at hp
    simp only at hp gi
    unfold dsk
    by_cases hk : pk = 2
    case neg =>
      simp only [F113, go_sem, seval, bnd_ite, e1, z1, z2, wq, gi, hk, decide_true, decide_false, Bool.not_true, Bool.not_false, if_true, if_false, Bool.false_eq_true]
      first | done | rfl
    case pos =>
      simp only [F113, h113_5, go_sem, seval, bnd_ite, e1, z1, z2, wq, gi, hk, decide_true, decide_false, Bool.not_true, Bool.not_false, if_true, if_false, Bool.false_eq_true]
      obtain ⟨⟨y, e, m⟩, k1, k2⟩ := XL_find (T := T) (b := 0) (hd := H113_5) (x := L113_5) l (fun q => decide (0 ≤ slotOf (blkOf x q).slots n)) (fun j => ⟨[(2, .str n), (3, .ptr 0 0 0), (9, .ptr 1 0 0), (10, .int .i64 (j : Nat))], [some (4, [dskC x]), some (3, [.agg [.int .i64 2, .int .i64 pl, .ro 1 (l.map iv)]])]⟩)
        (fun o r => match o with
          | some j => r.1 = .ret ∧ lookA r.2.env 6 = .int .i64 (l.getD j 0) ∧ lookA r.2.env 7 = .int .i64 (slotOf (blkOf x (l.getD j 0)).slots n) ∧ lookA r.2.env 8 = .int .i64 ((blkOf x (l.getD j 0)).slots.getD (slotOf (blkOf x (l.getD j 0)).slots n).toNat slt0).ino ∧ ∃ c, r.2.mem = [some (4, [dskC x]), some (3, [.agg [.int .i64 2, .int .i64 pl, .ro 1 (l.map iv)]]), c]
          | none => r.1 = .exit 0 ∧ r.2.mem = [some (4, [dskC x]), some (3, [.agg [.int .i64 2, .int .i64 pl, .ro 1 (l.map iv)]])])
        (by
          intro j q hq hj hP _
          have j1 : (j : Int) < (l.length : Int) := by omega
          have gq : (l.map iv).getD j .undef = .int .i64 q := gD_map hq
          have e2 := e116u x h q
          have hb := blkOf_sm h q
          have hw := w_i64 ((j : Int) + 1) (by omega)
          generalize inside q 1 x.blks.length = ins at *
          generalize blkOf x q = b at *
          have e3 := e23 b n (by unfold Blk.sm at hb; unfold maxLen; omega)
          unfold dsk at e2
          rw [show blk b = .agg [.bool b.dir, .ro 2 (b.slots.map slt), .str b.text] from rfl] at e2 e3
          have hP : decide (0 ≤ slotOf b.slots n) = false := hP
          unfold dskC
          cases ins with
          | false =>
            simp only [XG, L113_5, h113_5, go_sem, seval, bnd_ite, j1, gq, e2, e3, hP, hw, Int.natCast_nonneg, decide_true, if_true, if_false, Bool.false_eq_true]
            first | done | rfl | trace_state
          | true =>
            cases hd : b.dir with
            | false =>
              rw [hd] at e2 e3
              simp only [XG, L113_5, h113_5, go_sem, seval, bnd_ite, j1, gq, e2, e3, hP, hw, Int.natCast_nonneg, decide_true, if_true, if_false, Bool.false_eq_true]
              first | done | rfl | trace_state
            | true =>
              rw [hd] at e2 e3
              simp only [XG, L113_5, h113_5, go_sem, seval, bnd_ite, j1, gq, e2, e3, hP, hw, Int.natCast_nonneg, decide_true, if_true, if_false, Bool.false_eq_true]
              first | done | rfl | trace_state)
        (by
          intro j q hq hj hP _
          have j1 : (j : Int) < (l.length : Int) := by omega
          have gq : (l.map iv).getD j .undef = .int .i64 q := gD_map hq
          have gl : l.getD j 0 = q := getD_at hq
          have e2 := e116u x h q
          have hb := blkOf_sm h q
          have hP : 0 ≤ slotOf (blkOf x q).slots n := by simpa using hP
          obtain ⟨d1, d2⟩ := slot_dir hx hP
          obtain ⟨k, s, s1, s2, _, _⟩ := slot_at hP
          simp only [gl]
          rw [d2] at e2
          generalize blkOf x q = b at *
          have e3 := e23 b n (by unfold Blk.sm at hb; unfold maxLen; omega)
          unfold dsk at e2
          rw [show blk b = .agg [.bool b.dir, .ro 2 (b.slots.map slt), .str b.text] from rfl] at e2 e3
          rw [d1] at e2 e3
          rw [s1] at e3 ⊢
          have gs : (b.slots.map slt).getD k .undef = .agg [.str s.name, .int .i64 s.ino] := gD_map s2
          have gx : b.slots.getD k slt0 = s := getD_at s2
          have hk := (List.getElem?_eq_some_iff.1 s2).1
          have z3 : (k : Int) < (b.slots.length : Int) := by omega
          have z4 : 0 ≤ (k : Int) := by omega
          unfold dskC
          simp only [XG, L113_5, h113_5, go_sem, seval, bnd_ite, j1, gq, e2, e3, gs, gx, z3, z4, Int.toNat_natCast, Int.natCast_nonneg, decide_true, if_true, if_false, Bool.false_eq_true]
          first | exact .mk (by simp) ⟨rfl, rfl, rfl, rfl, _, rfl⟩ | trace_state)
        (by
          intro _
          unfold dskC
          simp only [XG, L113_5, h113_5, go_sem, seval, bnd_ite, Int.lt_irrefl, decide_false]
          exact .mk (by simp) ⟨rfl, rfl⟩)
      have hs : ((0 : Nat) : Int) = 0 := rfl
      unfold dskC at k1
      simp only [hs] at k1
      cases hf : l.findIdx? (fun q => decide (0 ≤ slotOf (blkOf x q).slots n)) with
      | none =>
        rw [hf] at k2
        obtain ⟨q1, q2⟩ := k2
        simp only at q1 q2
        subst q1; subst q2
        simp only [k1, go_sem, seval, bnd_ite]
        first | done | rfl
      | some j =>
        rw [hf] at k2
        obtain ⟨q1, q2, q3, q4, c, q5⟩ := k2
        simp only at q1 q2 q3 q4 q5
        subst q1; subst q5
        simp only [k1, go_sem, seval, bnd_ite, q2, q3, q4]
        first | done | rfl
end Go.Proofs.YtaaajjinpppgeaaGreatDoor
namespace Go.Proofs.YtaaajjinpppgeaaGreatDoor
open Go Go.Abs
set_option maxRecDepth 100000
def pathN (x : Dsk) (p : ByteArray) : Int := match namesOf p with
  | some l => walkN x 1 l
  | none => 0
def endP (x : Dsk) (l : List ByteArray) (g : Int) (r : AX × St) : Prop :=
  (r.1 = .exit 0 ∧ lookA r.2.env 7 = .int .i64 g ∧ r.2.mem = [some (4, [dskC x]), some (1, l.map sv)]) ∨ (r.1 = .ret ∧ g = 0 ∧ lookA r.2.env 4 = .int .i64 0 ∧ r.2.mem = [some (4, [dskC x]), some (1, l.map sv)])
theorem loop37 (x : Dsk) (h : x.sm) (hx : DskOk x) (l : List ByteArray) (hl : l.length ≤ 4) : ∃ r, XL T 0 H37_6 L37_6 ⟨[(2, .ptr 0 0 0), (5, .sl 1 0 l.length), (7, .int .i64 1), (8, .int .i64 0)], [some (4, [dskC x]), some (1, l.map sv)]⟩ = some r ∧ endP x l (walkN x 1 l) r := by
  have hi8 := hx.inos
  refine XL_to (T := T) (b := 0) (hd := H37_6) (x := L37_6) (fun a : Nat × Int => ⟨[(2, .ptr 0 0 0), (5, .sl 1 0 l.length), (7, .int .i64 a.2), (8, .int .i64 (a.1 : Nat))], [some (4, [dskC x]), some (1, l.map sv)]⟩)
    (fun a => a.1 ≤ l.length) (fun a => l.length + 1 - a.1) (fun a => walkN x a.2 (l.drop a.1)) (endP x l) ?_ (0, 1) (Nat.zero_le _)
  rintro ⟨i, at_⟩ hi
  simp only at hi
  by_cases h1 : i < l.length
  case neg =>
    right
    have ei : i = l.length := by omega
    subst ei
    unfold dskC
    simp only [XG, L37_6, h37_6, go_sem, seval, bnd_ite, Int.lt_irrefl, decide_false, List.drop_length, walkN]
    exact .mk (by simp) (.inl ⟨rfl, rfl, rfl⟩)
  case pos =>
    obtain ⟨n, hn⟩ := get_at h1
    have i1 : (i : Int) < (l.length : Int) := by omega
    have gn : (l.map sv).getD i .undef = .str n := gD_map hn
    have e1 := e113 x h hx at_ n
    have wi := w_i64 ((i : Int) + 1) (by omega)
    have hd := drop_at hn
    unfold dsk at e1
    cases hq : stepN x at_ n with
    | none =>
      right
      rw [hq] at e1
      unfold tri at e1
      simp only at e1
      have e2 := e46i 0 1 x.inos.length
      rw [show inside 0 1 (x.inos.length : Int) = false by simp [inside]] at e2
      unfold dskC
      simp only [XG, L37_6, h37_6, go_sem, seval, bnd_ite, i1, h1, gn, e1, e2, Int.natCast_nonneg, decide_true, Bool.not_false, if_true, hd]
      first | exact .mk (by simp) (.inr ⟨rfl, by simp [walkN, hq], rfl, rfl⟩) | trace_state
    | some q =>
      left
      rw [hq] at e1
      have hin := stepN_ino hx hq
      obtain ⟨q1, q2, q3⟩ := q
      simp only at hin
      unfold tri at e1
      simp only at e1
      have e2 : E T 46 [.int .i64 q3, .int .i64 1, .int .i64 8] [] = some (.bool true, []) := by
        have := e46i q3 1 8
        rw [hin] at this; exact this
      refine ⟨(i + 1, q3), ?_, by show i + 1 ≤ l.length; omega, by show l.length + 1 - (i + 1) < l.length + 1 - i; omega, ?_⟩
      · unfold dskC
        simp only [XG, L37_6, h37_6, go_sem, seval, bnd_ite, i1, h1, gn, e1, e2, hi8, wi, Int.natCast_nonneg, decide_true, Bool.not_true, Bool.false_eq_true, if_false, if_true]
        first | done | rfl | trace_state
      · show walkN x q3 (l.drop (i + 1)) = walkN x at_ (l.drop i)
        rw [hd]; simp [walkN, hq]
theorem e37 (x : Dsk) (h : x.sm) (hx : DskOk x) (p : ByteArray) (hp : p.size ≤ 1048576) : E T 37 [dsk x, .str p] [] = some (.int .i64 (pathN x p), []) := by
  rw [E_eq t37 (Nat.le_of_ble_eq_true rfl)]
  have e1 := e45 p hp
  have hn := names_len p
  unfold pathN
  unfold outN at e1
  unfold dsk
  cases hq : namesOf p with
  | none =>
    rw [hq] at e1
    simp only [Option.getD_none, Option.isSome_none, List.map_nil] at e1
    simp only [F37, go_sem, seval, bnd_ite, e1, Bool.not_false, if_true]
    first | done | rfl | trace_state
  | some l =>
    rw [hq] at e1 hn
    simp only [Option.getD_some, Option.isSome_some] at e1 hn
    obtain ⟨⟨y, e, m⟩, k1, k2⟩ := loop37 x h hx l hn
    unfold dskC at k1
    simp only [F37, h37_6, go_sem, seval, bnd_ite, e1, k1, Bool.not_true, Bool.false_eq_true, if_false]
    rcases k2 with ⟨q1, q2, q3⟩ | ⟨q1, q2, q3, q4⟩ <;> simp only at q1 <;> subst q1
    · simp only at q2 q3; subst q3
      simp only [go_sem, seval, bnd_ite, q2]
      first | done | rfl | trace_state
    · simp only at q3 q4; subst q4
      simp only [go_sem, seval, bnd_ite, q2, q3]
      first | done | rfl | trace_state
def unitB (p : Int) : Int := if inside p 1 16 then p + 4 else -1
def unitI (i : Int) : Int := if inside i 1 8 then 1 + (i - 1).tdiv 2 else -1
theorem e98 (p : Int) : E T 98 [.int .i64 p] [] = some (.int .i64 (unitB p), []) := by
  rw [E_eq t98 (Nat.le_of_ble_eq_true rfl)]
  have e1 := e166 p
  unfold unitB
  cases hc : inside p 1 16 with
  | false =>
    rw [hc] at e1
    simp only [F98, go_sem, seval, bnd_ite, e1, Bool.not_false, if_true]
    first | done | rfl
  | true =>
    rw [hc] at e1
    simp only [inside, Bool.and_eq_true, decide_eq_true_eq] at hc
    have w1 := w_i64 (p + 5) (by omega)
    have w2 := w_i64 (p + 5 - 1) (by omega)
    simp only [F98, go_sem, seval, bnd_ite, e1, w1, w2, Bool.not_true, Bool.false_eq_true, if_false, if_true]
    rw [show p + 5 - 1 = p + 4 by omega]
    first | done | rfl
theorem e49 (p : Int) : E T 49 [.int .i64 p] [] = some (.int .i64 (unitB p), []) := by
  rw [E_eq t49 (Nat.le_of_ble_eq_true rfl)]
  have e1 := e46i p 1 16
  unfold unitB
  cases hc : inside p 1 16 with
  | false =>
    rw [hc] at e1
    simp only [F49, go_sem, seval, bnd_ite, e1, Bool.not_false, if_true]
    first | done | rfl
  | true =>
    rw [hc] at e1
    simp only [inside, Bool.and_eq_true, decide_eq_true_eq] at hc
    have w1 := w_i64 (p + 4) (by omega)
    simp only [F49, go_sem, seval, bnd_ite, e1, w1, Bool.not_true, Bool.false_eq_true, if_false, if_true]
    first | done | rfl
theorem e137 (i : Int) : E T 137 [.int .i64 i] [] = some (.int .i64 (unitI i), []) := by
  rw [E_eq t137 (Nat.le_of_ble_eq_true rfl)]
  have e1 := e167 i
  unfold unitI
  cases hc : inside i 1 8 with
  | false =>
    rw [hc] at e1
    simp only [F137, go_sem, seval, bnd_ite, e1, Bool.not_false, if_true]
    first | done | rfl
  | true =>
    rw [hc] at e1
    simp only [inside, Bool.and_eq_true, decide_eq_true_eq] at hc
    have w1 := w_i64 (i - 1) (by omega)
    have hq : (i - 1).tdiv 2 = (i - 1) / 2 := Int.tdiv_eq_ediv_of_nonneg (by omega)
    have w2 := w_i64 ((i - 1) / 2) (by omega)
    have w3 := w_i64 (1 + (i - 1) / 2) (by omega)
    simp only [F137, go_sem, seval, bnd_ite, e1, w1, hq, w2, w3, Bool.not_true, Bool.false_eq_true, if_false, if_true]
    first | done | rfl
theorem e43 (i : Int) : E T 43 [.int .i64 i] [] = some (.int .i64 (unitI i), []) := by
  rw [E_eq t43 (Nat.le_of_ble_eq_true rfl)]
  have e1 := e46i i 1 8
  unfold unitI
  cases hc : inside i 1 8 with
  | false =>
    rw [hc] at e1
    simp only [F43, go_sem, seval, bnd_ite, e1, Bool.not_false, if_true]
    first | done | rfl
  | true =>
    rw [hc] at e1
    simp only [inside, Bool.and_eq_true, decide_eq_true_eq] at hc
    have w1 := w_i64 (i - 1) (by omega)
    have hq : (i - 1).tdiv 2 = (i - 1) / 2 := Int.tdiv_eq_ediv_of_nonneg (by omega)
    have w2 := w_i64 ((i - 1) / 2) (by omega)
    have w3 := w_i64 (1 + (i - 1) / 2) (by omega)
    simp only [F43, go_sem, seval, bnd_ite, e1, w1, hq, w2, w3, Bool.not_true, Bool.false_eq_true, if_false, if_true]
    first | done | rfl
def roomM (x : Mm) : Bool := decide (x.deps.length ≤ 32) && decide (x.next ≤ 99000)
theorem e62 (x : Mm) (h : x.sm) : E T 62 [mm x] [] = some (.bool (!roomM x), []) := by
  rw [E_eq t62 (Nat.le_of_ble_eq_true rfl)]
  unfold roomM
  by_cases h1 : x.deps.length ≤ 32
  · have c1 : ¬ (32 : Int) < (x.deps.length : Int) := by omega
    by_cases h2 : x.next ≤ 99000
    · have c2 : ¬ (99000 : Int) < x.next := by omega
      simp only [mm, F62, go_sem, seval, bnd_ite, c1, c2, h1, h2, decide_true, decide_false, Bool.false_eq_true, if_false, Bool.and_self, Bool.not_true]
      first | done | rfl | trace_state
    · have c2 : (99000 : Int) < x.next := by omega
      simp only [mm, F62, go_sem, seval, bnd_ite, c1, c2, h1, h2, decide_true, decide_false, Bool.false_eq_true, if_false, Bool.and_false, Bool.not_false]
      first | done | rfl | trace_state
  · have c1 : (32 : Int) < (x.deps.length : Int) := by omega
    simp only [mm, F62, go_sem, seval, bnd_ite, c1, h1, decide_true, decide_false, if_true, Bool.false_and, Bool.not_false]
    first | done | rfl | trace_state
end Go.Proofs.YtaaajjinpppgeaaGreatDoor
namespace Go.Proofs.YtaaajjinpppgeaaGreatDoor
open Go Go.Abs
set_option maxRecDepth 100000
def F217 : EF := ⟨(.seq (.region [(.op (.box 7) [(.tmp 0)] (some 1) true),(.op .mv [(.const (.bool false))] (some 2) true)] false) (.seq (.region [(.op (.faddr 5) [(.tmp 1)] (some 3) true),(.op .load1 [(.tmp 3)] (some 4) true),(.op .len [(.tmp 4)] (some 5) true),(.op (.bin .lss) [(.tmp 5),(.const (.int .i64 40))] (some 6) true),(.op .mv [(.tmp 6)] (some 7) true),(.grp 7 true [(.op (.faddr 6) [(.tmp 1)] (some 8) true),(.op .load1 [(.tmp 8)] (some 9) true),(.pc (.const (.fn 87 [])) [(.tmp 9),(.const (.int .i64 1)),(.const (.int .i64 99999))] (some 10) true)] 10 11 true),(.op .mv [(.tmp 11)] (some 2) true)] false) .ret)),[(.tmp 2)],12,.one,none⟩
theorem t217 : T 217 = some F217 := tab Tryz.func217 (by kernel_rfl) rfl
end Go.Proofs.YtaaajjinpppgeaaGreatDoor
namespace Go.Proofs.YtaaajjinpppgeaaGreatDoor
open Go Go.Abs
set_option maxRecDepth 100000
def newB (s : ByteArray) : Blk := ⟨false, [], s⟩
def setB (x : Mm) (b : Int) (s : ByteArray) : Mm := { x with disk := { x.disk with blks := x.disk.blks.set (b - 1).toNat (newB s) }, dirty := x.dirty.set (b + 4).toNat true }
def depN (id i k n : Int) : Dp := ⟨id, 1, i, k, n, 0, ⟨#[]⟩, false, false, 0, []⟩
def growN (x : Mm) (i k : Int) (s : ByteArray) : Mm :=
  { disk := { x.disk with
      used := x.disk.used.set (ffree x.disk.used - 1).toNat true
      inos := x.disk.inos.set (i - 1).toNat { inoOf x.disk i with ptrs := (inoOf x.disk i).ptrs.set k.toNat (ffree x.disk.used) }
      blks := x.disk.blks.set (ffree x.disk.used - 1).toNat (newB s) }
    dirty := ((x.dirty.set 0 true).set (unitI i).toNat true).set (unitB (ffree x.disk.used)).toNat true
    deps := x.deps ++ [depN x.next i k (ffree x.disk.used)], next := x.next + 1 }
def writeR (x : Mm) (p : ByteArray) (k : Int) (s : ByteArray) : Mm × Int :=
  if (memOk x && (namesOf p).isSome && inside k 0 1 && decide (s.size ≤ 16)) = true then
    if pathN x.disk p = 0 then (x, 1)
    else if (inoOf x.disk (pathN x.disk p)).kind ≠ 1 then (x, 3)
    else if 0 < (inoOf x.disk (pathN x.disk p)).ptrs.getD k.toNat 0 then (setB x ((inoOf x.disk (pathN x.disk p)).ptrs.getD k.toNat 0) s, 0)
    else if ffree x.disk.used = 0 ∨ roomM x = false then (x, 4)
    else (growN x (pathN x.disk p) k s, 0)
  else (x, 6)
theorem wid_sl (l : List Slt) : (l.map slt).map (wid .one) = l.map slt := by
  rw [List.map_map]; exact List.map_congr_left fun x _ => rfl
theorem wid_blk (b : Blk) : wid (.agg [.one, .row 2 .one, .one]) (blkO b) = blkO b := by
  show AV.agg [.bool b.dir, .own 2 ((b.slots.map slt).map (wid .one)), .str b.text] = _
  rw [wid_sl]; rfl
theorem wid_blks (l : List Blk) : (l.map blkO).map (wid (.agg [.one, .row 2 .one, .one])) = l.map blkO := by
  rw [List.map_map]; exact List.map_congr_left fun x _ => wid_blk x
theorem wid_set (l : List Blk) (j : Nat) (s : ByteArray) : ((l.map blkO).set j (.agg [.bool false, .nil, .str s])).map (wid (.agg [.one, .row 2 .one, .one])) = (l.set j (newB s)).map blkO := by
  rw [List.map_set, wid_blks, List.map_set]; rfl
theorem e243n : E T 243 [.nil] [] = some (.own 1 [], []) := by
  rw [E_eqW t243 (Nat.le_of_ble_eq_true rfl)]
  simp only [F243, go_sem, seval, bnd_ite]
  first | done | rfl
theorem e213n (id i k n : Int) : E T 213 [.agg [.int .i64 id, .int .i64 1, .int .i64 i, .int .i64 k, .int .i64 n, .int .i64 0, .str ⟨#[]⟩, .bool false, .bool false, .int .i64 0, .nil]] [] = some (.agg [.int .i64 id, .int .i64 1, .int .i64 i, .int .i64 k, .int .i64 n, .int .i64 0, .str ⟨#[]⟩, .bool false, .bool false, .int .i64 0, .own 1 []], []) := by
  rw [E_eq t213 (Nat.le_of_ble_eq_true rfl)]
  simp only [F213, go_sem, seval, bnd_ite, e243n]
  first | done | rfl
theorem x217 (a : AV) : E T 217 [a] [] = bnd (X T 0 F217.body ⟨enumA 0 [a], []⟩) (finE 0 F217.results) := E_eq t217 (Nat.le_of_ble_eq_true rfl)
theorem setiv (l : List Int) (k : Nat) (n : Int) : (l.map iv).set k (.int .i64 n) = (l.set k n).map iv := by rw [List.map_set]; rfl
theorem x99 (a b c d : AV) (mem : Mem) : E T 99 [a, b, c, d] mem = bnd (X T mem.length F99.body ⟨enumA 0 [a, b, c, d], mem⟩) (finE mem.length F99.results) := E_eq t99 (Nat.le_of_ble_eq_true rfl)
theorem e27 (x : Mm) (h : x.sm) (hk : x.ok) (p : ByteArray) (hp : p.size ≤ 1048576) (k : Int) (s : ByteArray) (hz : s.size ≤ 1048576) :
    E T 27 [mm x, .str p, .int .i64 k, .str s] [] = some (.tup [mmO (writeR x p k s).1, .int .i64 (writeR x p k s).2], []) := by
  rw [E_eqW t27 (Nat.le_of_ble_eq_true rfl)]
  have e1 := e55 x h
  have e2 := e96 p hp
  have e3 := e24 x hk
  have e4 := e87i k 0 1
  have hn := names_len p
  unfold outN at e2
  unfold writeR
  have c16 : decide ((16 : Int) < (s.size : Int)) = !decide (s.size ≤ 16) := by
    by_cases hh : s.size ≤ 16
    · simp [hh]; omega
    · simp [hh]; omega
  simp only [mm, mmO] at e1 e3 ⊢
  cases hm : memOk x with
  | false =>
    rw [hm] at e3
    simp only [F27, go_sem, seval, bnd_ite, e1, e2, e3, Bool.false_and, Bool.false_eq_true, if_false, if_true, Bool.not_false, tkO, wid_blks]
    first | done | rfl | trace_state
  | true =>
    rw [hm] at e3
    obtain ⟨hd, hdl, hdp, hn1, hn2⟩ := memHead_use (show memHead x = true by unfold memOk at hm; simp only [Bool.and_eq_true] at hm; exact hm.1)
    have hpn : ∀ l, namesOf p = some l → pathN x.disk p = walkN x.disk 1 l := fun l hl => by unfold pathN; rw [hl]
    cases hq : namesOf p with
    | none =>
      rw [hq] at e2
      simp only [Option.getD_none, Option.isSome_none, List.map_nil] at e2
      simp only [F27, go_sem, seval, bnd_ite, e1, e2, e3, Option.isSome_none, Bool.and_false, Bool.false_and, Bool.false_eq_true, if_false, if_true, Bool.not_false, Bool.not_true, tkO, wid_blks]
      first | done | rfl | trace_state
    | some l =>
      have hpl := hpn l hq
      rw [hq] at e2 hn
      simp only [Option.getD_some, Option.isSome_some] at e2 hn
      rw [hpl]
      have e5 := e58 x.disk h.disk hd l (by omega)
      generalize walkN x.disk 1 l = i at *
      cases hi : inside k 0 1 with
      | false =>
        rw [hi] at e4
        simp only [F27, go_sem, seval, bnd_ite, e1, e2, e3, e4, Option.isSome_some, Bool.and_false, Bool.false_and, Bool.and_true, Bool.false_eq_true, if_false, if_true, Bool.not_false, Bool.not_true, tkO, wid_blks]
        first | done | rfl | trace_state
      | true =>
        rw [hi] at e4
        by_cases h16 : s.size ≤ 16
        case neg =>
          simp only [F27, go_sem, seval, bnd_ite, e1, e2, e3, e4, c16, h16, decide_false, Option.isSome_some, Bool.and_false, Bool.false_and, Bool.and_true, Bool.false_eq_true, if_false, if_true, Bool.not_false, Bool.not_true, tkO, wid_blks]
          first | done | rfl | trace_state
        case pos =>
          have e6 := e59u x.disk h.disk i
          have hqs := inoOf_sm h.disk i
          simp only [dsk, ino] at e5 e6
          by_cases hi0 : i = 0
          · subst hi0
            simp only [F27, go_sem, seval, bnd_ite, e1, e2, e3, e4, e5, e6, c16, h16, decide_true, decide_false, Option.isSome_some, Bool.and_false, Bool.false_and, Bool.and_true, Bool.and_self, Bool.false_eq_true, if_false, if_true, Bool.not_false, Bool.not_true, tkO, wid_blks]
            first | done | rfl | trace_state
          by_cases hk1 : (inoOf x.disk i).kind = 1
          case neg =>
            simp only [F27, go_sem, seval, bnd_ite, e1, e2, e3, e4, e5, e6, c16, h16, hi0, hk1, decide_true, decide_false, Option.isSome_some, Bool.and_false, Bool.false_and, Bool.and_true, Bool.and_self, Bool.false_eq_true, if_false, if_true, Bool.not_false, Bool.not_true, tkO, wid_blks, ne_eq, not_false_eq_true, not_true]
            first | done | rfl | trace_state
          case pos =>
            have hr : inside i 1 x.disk.inos.length = true := by
              cases hc : inside i 1 x.disk.inos.length with
              | true => rfl
              | false => unfold inoOf at hk1; rw [hc] at hk1; simp [ino0] at hk1
            have hq1 := inoOk_iff.1 (hd.ino _ (List.mem_of_getElem? (inoOf_mem hr)))
            have hki := hi
            simp only [inside, Bool.and_eq_true, decide_eq_true_eq] at hki
            have h2 := hq1.two
            have kz : k < ((inoOf x.disk i).ptrs.length : Int) := by omega
            obtain ⟨b, hb⟩ := get_at (show k.toNat < (inoOf x.disk i).ptrs.length by omega)
            have gk : ((inoOf x.disk i).ptrs.map iv).getD k.toNat .undef = .int .i64 b := gD_map hb
            have gb : (inoOf x.disk i).ptrs.getD k.toNat 0 = b := getD_at hb
            have hbr := hq1.ptr b (List.mem_of_getElem? hb)
            rw [gb]
            by_cases hb0 : 0 < b
            case pos =>
              have b1 : 0 ≤ b - 1 := by omega
              have b2 : b - 1 < (x.disk.blks.length : Int) := by have := hd.blks; omega
              have wb := w_i64 (b - 1) (by omega)
              have e7 := e98 b
              have hub : unitB b = b + 4 := by unfold unitB; rw [show inside b 1 16 = true by simp [inside]; omega]; rfl
              rw [hub] at e7
              have e8 := e87i (b + 4) 0 ((x.dirty.length : Int) - 1)
              rw [show inside (b + 4) 0 ((x.dirty.length : Int) - 1) = true by simp [inside]; omega] at e8
              have wd := w_i64 ((x.dirty.length : Int) - 1) (by omega)
              have b3 : (b - 1).toNat < x.disk.blks.length := by omega
              obtain ⟨B, hB⟩ := get_at b3
              have gB : (x.disk.blks.map blkO).getD (b - 1).toNat .undef = .agg [.bool B.dir, .own 2 (B.slots.map slt), .str B.text] := gD_map hB
              have d1 : 0 ≤ b + 4 := by omega
              have d2 : b + 4 < (x.dirty.length : Int) := by omega
              have d3 : (b + 4).toNat < x.dirty.length := by omega
              obtain ⟨v, hv⟩ := get_at d3
              have gv : (x.dirty.map bv).getD (b + 4).toNat .undef = .bool v := gD_map hv
              have tkb : ((x.disk.blks.map blkO).set (b - 1).toNat (.agg [.bool false, .nil, .str s])).take x.disk.blks.length = (x.disk.blks.map blkO).set (b - 1).toNat (.agg [.bool false, .nil, .str s]) := List.take_of_length_le (by simp)
              have tkd : ((x.dirty.set (b + 4).toNat true).map bv).take x.dirty.length = (x.dirty.set (b + 4).toNat true).map bv := List.take_of_length_le (by simp)
              have ln : ∀ z : AV, ((x.disk.blks.map blkO).set (b - 1).toNat z).length = x.disk.blks.length := fun z => by simp
              have isb : ∀ u, idsL u ((x.disk.blks.map blkO).set (b - 1).toNat (.agg [.bool false, .nil, .str s])) = [] := fun u => by
                rw [is_set _ _ _ _ (blkO_is u _)]; split <;> rfl
              unfold setB
              simp only [F27, x97, F97, go_sem, seval, bnd_ite, e1, e2, e3, e4, e5, e6, e7, e8, wb, wd, b1, b2, b3, gB, d1, d2, d3, gv, setv, isb, tkb, tkd, ln, List.length_map, List.length_set, c16, h16, hi0, hk1, hb0, hki.1, kz, gk, decide_true, decide_false, Option.isSome_some, Bool.and_false, Bool.false_and, Bool.and_true, Bool.and_self, Bool.false_eq_true, if_false, if_true, Bool.not_false, Bool.not_true, tkO, wid_blks, wid_set, ne_eq, not_false_eq_true, not_true]
              first | done | rfl | trace_state
            case neg =>
              have e7 := e83 x.disk.used h.disk.used
              have e8 := e62 x h
              simp only [mm] at e8
              by_cases hu : ffree x.disk.used = 0
              · rw [hu] at e7
                simp only [F27, go_sem, seval, bnd_ite, e1, e2, e3, e4, e5, e6, e7, hu, c16, h16, hi0, hk1, hb0, hki.1, kz, gk, decide_true, decide_false, Option.isSome_some, Bool.and_false, Bool.false_and, Bool.and_true, Bool.and_self, Bool.false_eq_true, if_false, if_true, Bool.not_false, Bool.not_true, tkO, wid_blks, wid_set, ne_eq, not_false_eq_true, not_true, true_or]
                first | done | rfl | trace_state
              by_cases hro : roomM x = true
              case neg =>
                have hro : roomM x = false := by simpa using hro
                rw [hro] at e8
                simp only [F27, go_sem, seval, bnd_ite, e1, e2, e3, e4, e5, e6, e7, e8, hu, hro, c16, h16, hi0, hk1, hb0, hki.1, kz, gk, decide_true, decide_false, Option.isSome_some, Bool.and_false, Bool.false_and, Bool.and_true, Bool.and_self, Bool.false_eq_true, if_false, if_true, Bool.not_false, Bool.not_true, tkO, wid_blks, wid_set, ne_eq, not_false_eq_true, not_true, or_true]
                first | done | rfl | trace_state
              case pos =>
                rw [hro] at e8
                have hm1 : ¬ (ffree x.disk.used = 0 ∨ roomM x = false) := by rw [hro]; simp [hu]
                rw [if_neg hm1]
                rcases ffree_le x.disk.used with h0 | ⟨f1, f2⟩
                · exact absurd h0 hu
                generalize hnn : ffree x.disk.used = n at *
                have u16 := hd.used
                have b16 := hd.blks
                have i8 := hd.inos
                have n0 : 0 < n := by omega
                have n1 : 0 ≤ n - 1 := by omega
                have n2 : n - 1 < (x.disk.used.length : Int) := by omega
                have n3 : (n - 1).toNat < x.disk.used.length := by omega
                have n4 : n - 1 < (x.disk.blks.length : Int) := by omega
                have n5 : (n - 1).toNat < x.disk.blks.length := by omega
                have wn := w_i64 (n - 1) (by omega)
                obtain ⟨u, hu1⟩ := get_at n3
                have gu : (x.disk.used.map bv).getD (n - 1).toNat .undef = .bool u := gD_map hu1
                obtain ⟨B, hB⟩ := get_at n5
                have gB : (x.disk.blks.map blkO).getD (n - 1).toNat .undef = .agg [.bool B.dir, .own 2 (B.slots.map slt), .str B.text] := gD_map hB
                have m0 := e87i 0 0 ((x.dirty.length : Int) - 1)
                rw [show inside 0 0 ((x.dirty.length : Int) - 1) = true by simp [inside]; omega] at m0
                have wd := w_i64 ((x.dirty.length : Int) - 1) (by omega)
                have hri := hr
                simp only [inside, Bool.and_eq_true, decide_eq_true_eq] at hri
                have i1 : 0 ≤ i - 1 := by omega
                have i2 : i - 1 < (x.disk.inos.length : Int) := by omega
                have i3 : (i - 1).toNat < x.disk.inos.length := by omega
                have wi := w_i64 (i - 1) (by omega)
                have gi : (x.disk.inos.map inoO).getD (i - 1).toNat .undef = .agg [.int .i64 (inoOf x.disk i).kind, .int .i64 (inoOf x.disk i).links, .own 1 ((inoOf x.disk i).ptrs.map iv)] := gD_map (inoOf_mem hr)
                have dz : 0 < x.dirty.length := by omega
                have dz1 : (0 : Int) < (x.dirty.length : Int) := by omega
                obtain ⟨v0, hv0⟩ := get_at dz
                have gv0 : (x.dirty.map bv).getD 0 .undef = .bool v0 := gD_map hv0
                have eu := e137 i
                have eb := e98 n
                have hui : unitI i = 1 + (i - 1) / 2 := by
                  unfold unitI; rw [show inside i 1 8 = true by simp [inside]; omega]
                  rw [if_pos rfl, Int.tdiv_eq_ediv_of_nonneg (by omega)]
                have hub : unitB n = n + 4 := by unfold unitB; rw [show inside n 1 16 = true by simp [inside]; omega]; rfl
                have ln : ∀ z : AV, ((x.disk.blks.map blkO).set (n - 1).toNat z).length = x.disk.blks.length := fun z => by simp
                have lu : (x.disk.used.set (n - 1).toNat true).length = x.disk.used.length := by simp
                have ld : (x.dirty.set 0 true).length = x.dirty.length := by simp
                have isb : ∀ u, idsL u ((x.disk.blks.map blkO).set (n - 1).toNat (.agg [.bool false, .nil, .str s])) = [] := fun u => by
                  rw [is_set _ _ _ _ (blkO_is u _)]; split <;> rfl
                have tkb : ((x.disk.blks.map blkO).set (n - 1).toNat (.agg [.bool false, .nil, .str s])).take x.disk.blks.length = (x.disk.blks.map blkO).set (n - 1).toNat (.agg [.bool false, .nil, .str s]) := List.take_of_length_le (by simp)
                have kn : k.toNat < (inoOf x.disk i).ptrs.length := by omega
                have hgs : ∀ v : AV, ((x.disk.inos.map inoO).set (i - 1).toNat v).getD (i - 1).toNat .undef = v := fun v => getD_set (by rw [List.length_map]; exact i3) v
                have hls : ∀ v : AV, ((x.disk.inos.map inoO).set (i - 1).toNat v).length = x.disk.inos.length := fun v => by simp
                have tku : List.take x.disk.used.length (List.map bv (x.disk.used.set (n - 1).toNat true)) = List.map bv (x.disk.used.set (n - 1).toNat true) := List.take_of_length_le (by simp)
                have tkd0 : List.take x.dirty.length (List.map bv (x.dirty.set 0 true)) = List.map bv (x.dirty.set 0 true) := List.take_of_length_le (by simp)
                have tkp : List.take (inoOf x.disk i).ptrs.length (List.map iv ((inoOf x.disk i).ptrs.set k.toNat n)) = List.map iv ((inoOf x.disk i).ptrs.set k.toNat n) := List.take_of_length_le (by simp)
                have hio : (x.disk.inos.map inoO).set (i - 1).toNat (.agg [.int .i64 1, .int .i64 (inoOf x.disk i).links, .own 1 (List.map iv ((inoOf x.disk i).ptrs.set k.toNat n))]) = (x.disk.inos.set (i - 1).toNat { inoOf x.disk i with ptrs := (inoOf x.disk i).ptrs.set k.toNat n }).map inoO := by
                  have e : (x.disk.inos.map inoO).set (i - 1).toNat (inoO { inoOf x.disk i with ptrs := (inoOf x.disk i).ptrs.set k.toNat n }) = (x.disk.inos.set (i - 1).toNat { inoOf x.disk i with ptrs := (inoOf x.disk i).ptrs.set k.toNat n }).map inoO := set_map (f := inoO)
                  rw [show inoO { inoOf x.disk i with ptrs := (inoOf x.disk i).ptrs.set k.toNat n } = .agg [.int .i64 1, .int .i64 (inoOf x.disk i).links, .own 1 (List.map iv ((inoOf x.disk i).ptrs.set k.toNat n))] from by
                    show AV.agg [.int .i64 (inoOf x.disk i).kind, .int .i64 (inoOf x.disk i).links, .own 1 (List.map iv ((inoOf x.disk i).ptrs.set k.toNat n))] = _
                    rw [hk1]] at e
                  exact e
                have tki : ∀ P : Ino, List.take x.disk.inos.length ((x.disk.inos.set (i - 1).toNat P).map inoO) = (x.disk.inos.set (i - 1).toNat P).map inoO := fun P => List.take_of_length_le (by simp)
                have cob : coolR 3 ((x.disk.blks.map blkO).set (n - 1).toNat (.agg [.bool false, .nil, .str s])) = true := by
                  rw [coolR_all]
                  have h0 := (coolR_all 3 _).1 (blkO_coR x.disk.blks)
                  refine ⟨fun y hy => ?_, fun y hy => ?_⟩ <;> rcases List.mem_or_eq_of_mem_set hy with hy | rfl
                  · exact h0.1 y hy
                  · rfl
                  · exact h0.2 y hy
                  · rfl
                have isi : ∀ u (z : AV), idsL u ((x.disk.inos.map inoO).set (i - 1).toNat z) = idsV u z := fun u z => by
                  rw [is_set _ _ _ _ (inoO_is u _), if_pos (by rw [List.length_map]; exact i3)]
                have tks : ∀ z : AV, (x.deps.map dpO ++ [z]).take (x.deps.length + 1) = x.deps.map dpO ++ [z] := fun z => List.take_of_length_le (by simp)
                have sn : x.deps.map dpO ++ [.agg [.int .i64 x.next, .int .i64 1, .int .i64 i, .int .i64 k, .int .i64 n, .int .i64 0, .str ⟨#[]⟩, .bool false, .bool false, .int .i64 0, .own 1 []]] = (x.deps ++ [depN x.next i k n]).map dpO := by simp [dpO, depN]
                have ui1 : 0 ≤ unitI i ∧ unitI i < (x.dirty.length : Int) := by rw [hui]; omega
                have ub1 : 0 ≤ unitB n ∧ unitB n < (x.dirty.length : Int) := by rw [hub]; omega
                have m1 := e87i (unitI i) 0 ((x.dirty.length : Int) - 1)
                rw [show inside (unitI i) 0 ((x.dirty.length : Int) - 1) = true by simp [inside]; omega] at m1
                have m2 := e87i (unitB n) 0 ((x.dirty.length : Int) - 1)
                rw [show inside (unitB n) 0 ((x.dirty.length : Int) - 1) = true by simp [inside]; omega] at m2
                have ui2 := ui1.1
                have ui3 := ui1.2
                have ub2 := ub1.1
                have ub3 := ub1.2
                have ui4 : (unitI i).toNat < x.dirty.length := by omega
                have ub4 : (unitB n).toNat < x.dirty.length := by omega
                obtain ⟨v1, hv1⟩ := get_at (show (unitI i).toNat < (x.dirty.set 0 true).length by rw [List.length_set]; exact ui4)
                have gv1 : ((x.dirty.set 0 true).map bv).getD (unitI i).toNat .undef = .bool v1 := gD_map hv1
                obtain ⟨v2, hv2⟩ := get_at (show (unitB n).toNat < ((x.dirty.set 0 true).set (unitI i).toNat true).length by rw [List.length_set, List.length_set]; exact ub4)
                have gv2 : (((x.dirty.set 0 true).set (unitI i).toNat true).map bv).getD (unitB n).toNat .undef = .bool v2 := gD_map hv2
                have tkd1 : List.take x.dirty.length (List.map bv ((x.dirty.set 0 true).set (unitI i).toNat true)) = List.map bv ((x.dirty.set 0 true).set (unitI i).toNat true) := List.take_of_length_le (by simp)
                have tkd2 : List.take x.dirty.length (List.map bv (((x.dirty.set 0 true).set (unitI i).toNat true).set (unitB n).toNat true)) = List.map bv (((x.dirty.set 0 true).set (unitI i).toNat true).set (unitB n).toNat true) := List.take_of_length_le (by simp)
                have tl : ((x.deps ++ [depN x.next i k n]).map dpO).take (x.deps.length + 1) = (x.deps ++ [depN x.next i k n]).map dpO := List.take_of_length_le (by simp)
                have im : i + -1 = i - 1 := rfl
                have hnx : x.next ≤ 99000 := by unfold roomM at hro; simp at hro; exact hro.2
                have hdx : x.deps.length ≤ 32 := by unfold roomM at hro; simp at hro; exact hro.1
                have w1 := w_i64 (x.next + 1) (by omega)
                have q1 : (x.deps.length : Int) < 40 := by omega
                have q2 := e87i x.next 1 99999
                rw [show inside x.next 1 99999 = true by simp [inside]; omega] at q2
                have q3 : (x.deps.length + 1) * 104 ≤ 140737488355328 := by omega
                simp only [F27, x99, F99, x84, F84, x97, F97, x138, F138, x217, F217, e213n, eu, eb, go_sem, seval, bnd_ite, e1, e2, e3, e4, e5, e6, e7, e8, m0, wd, n0, n1, n2, n3, n4, n5, wn, gu, gB, i1, i2, i3, wi, gi, hgs, hls, tku, tkd0, tkp, hio, tki, cob, isi, tks, sn, m1, m2, ui2, ui3, ui4, ub2, ub3, ub4, gv1, gv2, tkd1, tkd2, tl, growN, hnn, im, w1, q1, q2, q3, dz, dz1, gv0, setv, ln, lu, ld, isb, tkb, kn, setiv, List.length_map, List.length_set, hu, c16, h16, hi0, hk1, hb0, hki.1, kz, gk, decide_true, decide_false, Option.isSome_some, Bool.and_false, Bool.false_and, Bool.and_true, Bool.and_self, Bool.false_eq_true, if_false, if_true, Bool.not_false, Bool.not_true, tkO, wid_blks, wid_set, ne_eq, not_false_eq_true, not_true, or_true]
                first | done | rfl
end Go.Proofs.YtaaajjinpppgeaaGreatDoor
namespace Go.Proofs.YtaaajjinpppgeaaGreatDoor
open Go Go.Abs
set_option maxRecDepth 100000
theorem e40 (a b c d e : AV) (l : List Dp) (n : Int) (x : Mm) (hl : l = x.deps) (hn : n = x.next) : E T 40 [.rop [a, b, c, d, e, .ro 11 (l.map dp), .int .i64 n]] [] = some (.bool (roomM x), []) := by
  subst hl; subst hn
  rw [E_eq t40 (Nat.le_of_ble_eq_true rfl)]
  unfold roomM
  by_cases h1 : x.deps.length ≤ 32
  · have c1 : (x.deps.length : Int) ≤ 32 := by omega
    by_cases h2 : x.next ≤ 99000
    · simp only [F40, go_sem, seval, bnd_ite, c1, h1, h2, decide_true, decide_false, Bool.false_eq_true, if_false, if_true, Bool.and_self, Bool.not_true]
      first | done | rfl | trace_state
    · simp only [F40, go_sem, seval, bnd_ite, c1, h1, h2, decide_true, decide_false, Bool.false_eq_true, if_false, if_true, Bool.and_false, Bool.not_false]
      first | done | rfl | trace_state
  · have c1 : ¬ (x.deps.length : Int) ≤ 32 := by omega
    simp only [F40, go_sem, seval, bnd_ite, c1, h1, decide_true, decide_false, if_true, Bool.false_and, Bool.not_false]
    first | done | rfl | trace_state
theorem e48n (x : Mm) (h : x.sm) (hm : may x = true) (i k n : Int) : E T 48 [mm x, .agg [.int .i64 0, .int .i64 1, .int .i64 i, .int .i64 k, .int .i64 n, .int .i64 0, .str ⟨#[]⟩, .bool false, .bool false, .int .i64 0, .nil]] [] = some (.tup [mmO { x with deps := x.deps ++ [depN x.next i k n], next := x.next + 1 }, .int .i64 x.next], []) := by
  rw [E_eq t48 (Nat.le_of_ble_eq_true rfl)]
  have e1 := e34 x h
  have hl := h.deps
  unfold mm mmO at e1
  have hc : x.deps.length < 40 := by have := hm; unfold may at this; simp only [Bool.and_eq_true, decide_eq_true_eq] at this; exact this.1
  have c : decide (40 ≤ (x.deps.length : Int)) = false := decide_eq_false (by omega)
  have hi : inside x.next 1 99999 = true := by
    unfold may at hm
    simp only [Bool.and_eq_true] at hm
    exact hm.2
  have hn := hi
  simp only [inside, Bool.and_eq_true, decide_eq_true_eq] at hn
  have hw := w_i64 (x.next + 1) (by omega)
  have hap : (x.deps.length + 1) * 104 ≤ 140737488355328 := by omega
  have sn : x.deps.map dpO ++ [.agg [.int .i64 x.next, .int .i64 1, .int .i64 i, .int .i64 k, .int .i64 n, .int .i64 0, .str ⟨#[]⟩, .bool false, .bool false, .int .i64 0, .own 1 []]] = (x.deps ++ [depN x.next i k n]).map dpO := by simp [dpO, depN]
  have tl : ((x.deps ++ [depN x.next i k n]).map dpO).take (x.deps.length + 1) = (x.deps ++ [depN x.next i k n]).map dpO := List.take_of_length_le (by simp)
  have tks : ∀ z : AV, (x.deps.map dpO ++ [z]).take (x.deps.length + 1) = x.deps.map dpO ++ [z] := fun z => List.take_of_length_le (by simp)
  simp only [mm, mmO, F48, go_sem, seval, bnd_ite, e1, c, e46i, hi, hap, hw, tks, sn, tl, tkO, Bool.not_true, Bool.not_false, Bool.or_self, Bool.false_eq_true, if_false, if_true, List.map_nil]
  first | done | rfl | trace_state
theorem walk_in {x : Dsk} (hx : DskOk x) : ∀ (l : List ByteArray) (i : Int), inside i 1 8 = true → walkN x i l = 0 ∨ inside (walkN x i l) 1 8 = true
  | [], i, h => .inr h
  | n :: l, i, h => by
    unfold walkN
    cases hq : stepN x i n with
    | none => exact .inl rfl
    | some q => exact walk_in hx l q.2.2 (stepN_ino hx hq)
theorem path_in {x : Dsk} (hx : DskOk x) (p : ByteArray) : pathN x p = 0 ∨ inside (pathN x p) 1 8 = true := by
  unfold pathN
  cases namesOf p with
  | none => exact .inl rfl
  | some l => exact walk_in hx l 1 rfl
theorem e9 (x : Mm) (h : x.sm) (hk : x.ok) (p : ByteArray) (hp : p.size ≤ 1048576) (k : Int) (s : ByteArray) (hz : s.size ≤ 1048576) :
    E T 9 [mm x, .str p, .int .i64 k, .str s] [] = some (.tup [mmO (writeR x p k s).1, .int .i64 (writeR x p k s).2], []) := by
  rw [E_eqW t9 (Nat.le_of_ble_eq_true rfl)]
  have e1 := e34 x h
  have e2 := e45 p hp
  have e3 := e36 x hk
  have e4 := e46i k 0 1
  unfold outN at e2
  unfold writeR
  have c16 : decide ((16 : Int) < (s.size : Int)) = !decide (s.size ≤ 16) := by
    by_cases hh : s.size ≤ 16
    · simp [hh]; omega
    · simp [hh]; omega
  simp only [mm, mmO] at e1 e3 ⊢
  cases hm : memOk x with
  | false =>
    rw [hm] at e3
    simp only [F9, go_sem, seval, bnd_ite, e1, e2, e3, Bool.false_and, Bool.false_eq_true, if_false, if_true, Bool.not_false, tkO, wid_blks]
    first | done | rfl | trace_state
  | true =>
    rw [hm] at e3
    obtain ⟨hd, hdl, hdp, hn1, hn2⟩ := memHead_use (show memHead x = true by unfold memOk at hm; simp only [Bool.and_eq_true] at hm; exact hm.1)
    cases hq : (namesOf p).isSome with
    | false =>
      rw [hq] at e2
      simp only [F9, go_sem, seval, bnd_ite, e1, e2, e3, Bool.and_false, Bool.false_and, Bool.false_eq_true, if_false, if_true, Bool.not_false, Bool.not_true, tkO, wid_blks]
      first | done | rfl | trace_state
    | true =>
      rw [hq] at e2
      cases hi : inside k 0 1 with
      | false =>
        rw [hi] at e4
        simp only [F9, go_sem, seval, bnd_ite, e1, e2, e3, e4, Bool.and_false, Bool.false_and, Bool.and_true, Bool.false_eq_true, if_false, if_true, Bool.not_false, Bool.not_true, tkO, wid_blks]
        first | done | rfl | trace_state
      | true =>
        rw [hi] at e4
        by_cases h16 : s.size ≤ 16
        case neg =>
          simp only [F9, go_sem, seval, bnd_ite, e1, e2, e3, e4, c16, h16, decide_false, Bool.and_false, Bool.false_and, Bool.and_true, Bool.false_eq_true, if_false, if_true, Bool.not_false, Bool.not_true, tkO, wid_blks]
          first | done | rfl | trace_state
        case pos =>
          have e5 := e37 x.disk h.disk hd p hp
          have hpin := path_in hd p
          generalize pathN x.disk p = i at *
          simp only [dsk] at e5
          by_cases hi0 : i = 0
          · subst hi0
            simp only [F9, go_sem, seval, bnd_ite, e1, e2, e3, e4, e5, c16, h16, decide_true, decide_false, Bool.and_false, Bool.false_and, Bool.and_true, Bool.and_self, Bool.false_eq_true, if_false, if_true, Bool.not_false, Bool.not_true, tkO, wid_blks]
            first | done | rfl | trace_state
          have hr8 : inside i 1 8 = true := hpin.resolve_left hi0
          have hr : inside i 1 x.disk.inos.length = true := by rw [hd.inos]; exact hr8
          have hri := hr
          simp only [inside, Bool.and_eq_true, decide_eq_true_eq] at hri
          have i1 : 0 ≤ i - 1 := by omega
          have i2 : i - 1 < (x.disk.inos.length : Int) := by omega
          have i3 : (i - 1).toNat < x.disk.inos.length := by omega
          have wi := w_i64 (i - 1) (by have := hd.inos; omega)
          have gi0 : (x.disk.inos.map ino).getD (i - 1).toNat .undef = .agg [.int .i64 (inoOf x.disk i).kind, .int .i64 (inoOf x.disk i).links, .ro 1 ((inoOf x.disk i).ptrs.map iv)] := gD_map (inoOf_mem hr)
          by_cases hk1 : (inoOf x.disk i).kind = 1
          case neg =>
            simp only [F9, go_sem, seval, bnd_ite, e1, e2, e3, e4, e5, c16, h16, hi0, i1, i2, wi, gi0, hk1, decide_true, decide_false, Bool.and_false, Bool.false_and, Bool.and_true, Bool.and_self, Bool.false_eq_true, if_false, if_true, Bool.not_false, Bool.not_true, tkO, wid_blks, ne_eq, not_false_eq_true, not_true]
            first | done | rfl | trace_state
          case pos =>
            have hq1 := inoOk_iff.1 (hd.ino _ (List.mem_of_getElem? (inoOf_mem hr)))
            have hki := hi
            simp only [inside, Bool.and_eq_true, decide_eq_true_eq] at hki
            have h2 := hq1.two
            have kz : k < ((inoOf x.disk i).ptrs.length : Int) := by omega
            obtain ⟨b, hb⟩ := get_at (show k.toNat < (inoOf x.disk i).ptrs.length by omega)
            have gk : ((inoOf x.disk i).ptrs.map iv).getD k.toNat .undef = .int .i64 b := gD_map hb
            have gb : (inoOf x.disk i).ptrs.getD k.toNat 0 = b := getD_at hb
            have hbr := hq1.ptr b (List.mem_of_getElem? hb)
            rw [gb]
            by_cases hb0 : b = 0
            case neg =>
              have hbp : 0 < b := by omega
              have b1 : 0 ≤ b - 1 := by omega
              have b2 : b - 1 < (x.disk.blks.length : Int) := by have := hd.blks; omega
              have wb := w_i64 (b - 1) (by omega)
              have e7 := e49 b
              have hub : unitB b = b + 4 := by unfold unitB; rw [show inside b 1 16 = true by simp [inside]; omega]; rfl
              rw [hub] at e7
              have b3 : (b - 1).toNat < x.disk.blks.length := by omega
              obtain ⟨B, hB⟩ := get_at b3
              have gB : (x.disk.blks.map blkO).getD (b - 1).toNat .undef = .agg [.bool B.dir, .own 2 (B.slots.map slt), .str B.text] := gD_map hB
              have d1 : 0 ≤ b + 4 := by omega
              have d2 : b + 4 < (x.dirty.length : Int) := by omega
              have d3 : (b + 4).toNat < x.dirty.length := by omega
              obtain ⟨v, hv⟩ := get_at d3
              have gv : (x.dirty.map bv).getD (b + 4).toNat .undef = .bool v := gD_map hv
              have tkb : ((x.disk.blks.map blkO).set (b - 1).toNat (.agg [.bool false, .nil, .str s])).take x.disk.blks.length = (x.disk.blks.map blkO).set (b - 1).toNat (.agg [.bool false, .nil, .str s]) := List.take_of_length_le (by simp)
              have tkd : ((x.dirty.set (b + 4).toNat true).map bv).take x.dirty.length = (x.dirty.set (b + 4).toNat true).map bv := List.take_of_length_le (by simp)
              have ln : ∀ z : AV, ((x.disk.blks.map blkO).set (b - 1).toNat z).length = x.disk.blks.length := fun z => by simp
              have isb : ∀ u, idsL u ((x.disk.blks.map blkO).set (b - 1).toNat (.agg [.bool false, .nil, .str s])) = [] := fun u => by
                rw [is_set _ _ _ _ (blkO_is u _)]; split <;> rfl
              unfold setB
              simp only [F9, x42, F42, go_sem, seval, bnd_ite, e1, e2, e3, e4, e5, e7, wb, b1, b2, b3, gB, d1, d2, d3, gv, setv, isb, tkb, tkd, ln, List.length_map, List.length_set, c16, h16, hi0, hk1, hb0, hbp, i1, i2, wi, gi0, hki.1, kz, gk, decide_true, decide_false, Bool.and_false, Bool.false_and, Bool.and_true, Bool.and_self, Bool.false_eq_true, if_false, if_true, Bool.not_false, Bool.not_true, tkO, wid_blks, wid_set, ne_eq, not_false_eq_true, not_true]
              first | done | rfl | trace_state
            case pos =>
              subst hb0
              have e7 := e47 x h
              have e8 := e40 (.ro 1 (x.disk.used.map bv)) (.ro 1 (x.disk.taken.map bv)) (.ro 3 (x.disk.inos.map ino)) (.ro 3 (x.disk.blks.map blk)) (.ro 1 (x.dirty.map bv)) x.deps x.next x rfl rfl
              have bz : ¬ (0 : Int) < 0 := by omega
              unfold takeU at e7
              by_cases hu : ffree x.disk.used = 0
              · rw [if_pos hu, hu] at e7
                simp only [mm, mmO] at e7
                simp only [F9, go_sem, seval, bnd_ite, e1, e2, e3, e4, e5, e7, hu, bz, c16, h16, hi0, hk1, i1, i2, wi, gi0, hki.1, kz, gk, decide_true, decide_false, Bool.and_false, Bool.false_and, Bool.and_true, Bool.and_self, Bool.false_eq_true, if_false, if_true, Bool.not_false, Bool.not_true, tkO, wid_blks, wid_set, ne_eq, not_false_eq_true, not_true, true_or]
                first | done | rfl | trace_state
              rw [if_neg hu] at e7
              simp only [mm, mmO] at e7
              by_cases hro : roomM x = true
              case neg =>
                have hro : roomM x = false := by simpa using hro
                rw [hro] at e8
                simp only [F9, go_sem, seval, bnd_ite, e1, e2, e3, e4, e5, e7, e8, hu, hro, bz, c16, h16, hi0, hk1, i1, i2, wi, gi0, hki.1, kz, gk, decide_true, decide_false, Bool.and_false, Bool.false_and, Bool.and_true, Bool.and_self, Bool.false_eq_true, if_false, if_true, Bool.not_false, Bool.not_true, tkO, wid_blks, wid_set, ne_eq, not_false_eq_true, not_true, or_true]
                first | done | rfl | trace_state
              case pos =>
                rw [hro] at e8
                have hm1 : ¬ (ffree x.disk.used = 0 ∨ roomM x = false) := by rw [hro]; simp [hu]
                rw [if_neg bz, if_neg hm1]
                rcases ffree_le x.disk.used with h0 | ⟨f1, f2⟩
                · exact absurd h0 hu
                generalize hnn : ffree x.disk.used = n at *
                have u16 := hd.used
                have b16 := hd.blks
                have i8 := hd.inos
                have n0 : 0 < n := by omega
                have n1 : 0 ≤ n - 1 := by omega
                have n2 : n - 1 < (x.disk.used.length : Int) := by omega
                have n3 : (n - 1).toNat < x.disk.used.length := by omega
                have n4 : n - 1 < (x.disk.blks.length : Int) := by omega
                have n5 : (n - 1).toNat < x.disk.blks.length := by omega
                have wn := w_i64 (n - 1) (by omega)
                obtain ⟨u, hu1⟩ := get_at n3
                have gu : (x.disk.used.map bv).getD (n - 1).toNat .undef = .bool u := gD_map hu1
                obtain ⟨B, hB⟩ := get_at n5
                have gB : (x.disk.blks.map blkO).getD (n - 1).toNat .undef = .agg [.bool B.dir, .own 2 (B.slots.map slt), .str B.text] := gD_map hB
                have wd := w_i64 ((x.dirty.length : Int) - 1) (by omega)
                have gi : (x.disk.inos.map inoO).getD (i - 1).toNat .undef = .agg [.int .i64 (inoOf x.disk i).kind, .int .i64 (inoOf x.disk i).links, .own 1 ((inoOf x.disk i).ptrs.map iv)] := gD_map (inoOf_mem hr)
                have dz : 0 < x.dirty.length := by omega
                have dz1 : (0 : Int) < (x.dirty.length : Int) := by omega
                obtain ⟨v0, hv0⟩ := get_at dz
                have gv0 : (x.dirty.map bv).getD 0 .undef = .bool v0 := gD_map hv0
                have eu := e43 i
                have eb := e49 n
                have hui : unitI i = 1 + (i - 1) / 2 := by
                  unfold unitI; rw [show inside i 1 8 = true by simp [inside]; omega]
                  rw [if_pos rfl, Int.tdiv_eq_ediv_of_nonneg (by omega)]
                have hub : unitB n = n + 4 := by unfold unitB; rw [show inside n 1 16 = true by simp [inside]; omega]; rfl
                have ln : ∀ z : AV, ((x.disk.blks.map blkO).set (n - 1).toNat z).length = x.disk.blks.length := fun z => by simp
                have lu : (x.disk.used.set (n - 1).toNat true).length = x.disk.used.length := by simp
                have ld : (x.dirty.set 0 true).length = x.dirty.length := by simp
                have isb : ∀ u, idsL u ((x.disk.blks.map blkO).set (n - 1).toNat (.agg [.bool false, .nil, .str s])) = [] := fun u => by
                  rw [is_set _ _ _ _ (blkO_is u _)]; split <;> rfl
                have tkb : ((x.disk.blks.map blkO).set (n - 1).toNat (.agg [.bool false, .nil, .str s])).take x.disk.blks.length = (x.disk.blks.map blkO).set (n - 1).toNat (.agg [.bool false, .nil, .str s]) := List.take_of_length_le (by simp)
                have kn : k.toNat < (inoOf x.disk i).ptrs.length := by omega
                have hgs : ∀ v : AV, ((x.disk.inos.map inoO).set (i - 1).toNat v).getD (i - 1).toNat .undef = v := fun v => getD_set (by rw [List.length_map]; exact i3) v
                have hls : ∀ v : AV, ((x.disk.inos.map inoO).set (i - 1).toNat v).length = x.disk.inos.length := fun v => by simp
                have tku : List.take x.disk.used.length (List.map bv (x.disk.used.set (n - 1).toNat true)) = List.map bv (x.disk.used.set (n - 1).toNat true) := List.take_of_length_le (by simp)
                have tkd0 : List.take x.dirty.length (List.map bv (x.dirty.set 0 true)) = List.map bv (x.dirty.set 0 true) := List.take_of_length_le (by simp)
                have tkp : List.take (inoOf x.disk i).ptrs.length (List.map iv ((inoOf x.disk i).ptrs.set k.toNat n)) = List.map iv ((inoOf x.disk i).ptrs.set k.toNat n) := List.take_of_length_le (by simp)
                have hio : (x.disk.inos.map inoO).set (i - 1).toNat (.agg [.int .i64 1, .int .i64 (inoOf x.disk i).links, .own 1 (List.map iv ((inoOf x.disk i).ptrs.set k.toNat n))]) = (x.disk.inos.set (i - 1).toNat { inoOf x.disk i with ptrs := (inoOf x.disk i).ptrs.set k.toNat n }).map inoO := by
                  have e : (x.disk.inos.map inoO).set (i - 1).toNat (inoO { inoOf x.disk i with ptrs := (inoOf x.disk i).ptrs.set k.toNat n }) = (x.disk.inos.set (i - 1).toNat { inoOf x.disk i with ptrs := (inoOf x.disk i).ptrs.set k.toNat n }).map inoO := set_map (f := inoO)
                  rw [show inoO { inoOf x.disk i with ptrs := (inoOf x.disk i).ptrs.set k.toNat n } = .agg [.int .i64 1, .int .i64 (inoOf x.disk i).links, .own 1 (List.map iv ((inoOf x.disk i).ptrs.set k.toNat n))] from by
                    show AV.agg [.int .i64 (inoOf x.disk i).kind, .int .i64 (inoOf x.disk i).links, .own 1 (List.map iv ((inoOf x.disk i).ptrs.set k.toNat n))] = _
                    rw [hk1]] at e
                  exact e
                have tki : ∀ P : Ino, List.take x.disk.inos.length ((x.disk.inos.set (i - 1).toNat P).map inoO) = (x.disk.inos.set (i - 1).toNat P).map inoO := fun P => List.take_of_length_le (by simp)
                have cob : coolR 3 ((x.disk.blks.map blkO).set (n - 1).toNat (.agg [.bool false, .nil, .str s])) = true := by
                  rw [coolR_all]
                  have h0 := (coolR_all 3 _).1 (blkO_coR x.disk.blks)
                  refine ⟨fun y hy => ?_, fun y hy => ?_⟩ <;> rcases List.mem_or_eq_of_mem_set hy with hy | rfl
                  · exact h0.1 y hy
                  · rfl
                  · exact h0.2 y hy
                  · rfl
                have isi : ∀ u (z : AV), idsL u ((x.disk.inos.map inoO).set (i - 1).toNat z) = idsV u z := fun u z => by
                  rw [is_set _ _ _ _ (inoO_is u _), if_pos (by rw [List.length_map]; exact i3)]
                have tks : ∀ z : AV, (x.deps.map dpO ++ [z]).take (x.deps.length + 1) = x.deps.map dpO ++ [z] := fun z => List.take_of_length_le (by simp)
                have sn : x.deps.map dpO ++ [.agg [.int .i64 x.next, .int .i64 1, .int .i64 i, .int .i64 k, .int .i64 n, .int .i64 0, .str ⟨#[]⟩, .bool false, .bool false, .int .i64 0, .own 1 []]] = (x.deps ++ [depN x.next i k n]).map dpO := by simp [dpO, depN]
                have ui1 : 0 ≤ unitI i ∧ unitI i < (x.dirty.length : Int) := by rw [hui]; omega
                have ub1 : 0 ≤ unitB n ∧ unitB n < (x.dirty.length : Int) := by rw [hub]; omega
                have m1 := e87i (unitI i) 0 ((x.dirty.length : Int) - 1)
                rw [show inside (unitI i) 0 ((x.dirty.length : Int) - 1) = true by simp [inside]; omega] at m1
                have m2 := e87i (unitB n) 0 ((x.dirty.length : Int) - 1)
                rw [show inside (unitB n) 0 ((x.dirty.length : Int) - 1) = true by simp [inside]; omega] at m2
                have ui2 := ui1.1
                have ui3 := ui1.2
                have ub2 := ub1.1
                have ub3 := ub1.2
                have ui4 : (unitI i).toNat < x.dirty.length := by omega
                have ub4 : (unitB n).toNat < x.dirty.length := by omega
                obtain ⟨v1, hv1⟩ := get_at (show (unitI i).toNat < (x.dirty.set 0 true).length by rw [List.length_set]; exact ui4)
                have gv1 : ((x.dirty.set 0 true).map bv).getD (unitI i).toNat .undef = .bool v1 := gD_map hv1
                obtain ⟨v2, hv2⟩ := get_at (show (unitB n).toNat < ((x.dirty.set 0 true).set (unitI i).toNat true).length by rw [List.length_set, List.length_set]; exact ub4)
                have gv2 : (((x.dirty.set 0 true).set (unitI i).toNat true).map bv).getD (unitB n).toNat .undef = .bool v2 := gD_map hv2
                have tkd1 : List.take x.dirty.length (List.map bv ((x.dirty.set 0 true).set (unitI i).toNat true)) = List.map bv ((x.dirty.set 0 true).set (unitI i).toNat true) := List.take_of_length_le (by simp)
                have tkd2 : List.take x.dirty.length (List.map bv (((x.dirty.set 0 true).set (unitI i).toNat true).set (unitB n).toNat true)) = List.map bv (((x.dirty.set 0 true).set (unitI i).toNat true).set (unitB n).toNat true) := List.take_of_length_le (by simp)
                have tl : ((x.deps ++ [depN x.next i k n]).map dpO).take (x.deps.length + 1) = (x.deps ++ [depN x.next i k n]).map dpO := List.take_of_length_le (by simp)
                have im : i + -1 = i - 1 := rfl
                have hnx : x.next ≤ 99000 := by unfold roomM at hro; simp at hro; exact hro.2
                have hdx : x.deps.length ≤ 32 := by unfold roomM at hro; simp at hro; exact hro.1
                have w1 := w_i64 (x.next + 1) (by omega)
                have q1 : (x.deps.length : Int) < 40 := by omega
                have q2 := e87i x.next 1 99999
                rw [show inside x.next 1 99999 = true by simp [inside]; omega] at q2
                have q3 : (x.deps.length + 1) * 104 ≤ 140737488355328 := by omega
                have hpsm : ({ kind := 1, links := (inoOf x.disk i).links, ptrs := (inoOf x.disk i).ptrs.set k.toNat n } : Ino).sm := by
                  unfold Ino.sm; rw [List.length_set]; exact inoOf_sm h.disk i
                have hy : ({ disk := { used := x.disk.used.set (n - 1).toNat true, taken := x.disk.taken, inos := x.disk.inos.set (i - 1).toNat { kind := 1, links := (inoOf x.disk i).links, ptrs := (inoOf x.disk i).ptrs.set k.toNat n }, blks := x.disk.blks }, dirty := (x.dirty.set 0 true).set (unitI i).toNat true, deps := x.deps, next := x.next } : Mm).sm :=
                  ⟨⟨by simpa using h.disk.used, h.disk.taken, by simpa using h.disk.inos, h.disk.blks, fun q hq => by rcases List.mem_or_eq_of_mem_set hq with hq | rfl; exact h.disk.ino q hq; exact hpsm, h.disk.blk⟩, by simpa using h.dirty, h.deps, h.dep⟩
                have hmy : may ({ disk := { used := x.disk.used.set (n - 1).toNat true, taken := x.disk.taken, inos := x.disk.inos.set (i - 1).toNat { kind := 1, links := (inoOf x.disk i).links, ptrs := (inoOf x.disk i).ptrs.set k.toNat n }, blks := x.disk.blks }, dirty := (x.dirty.set 0 true).set (unitI i).toNat true, deps := x.deps, next := x.next } : Mm) = true := by
                  unfold may; simp [inside]; omega
                have e10 := e48n _ hy hmy i k n
                simp only [mm, mmO] at e10
                simp only [F9, x42, F42, eu, eb, go_sem, seval, bnd_ite, e1, e2, e3, e4, e5, e7, e8, e10, hu, bz, wd, n0, n1, n2, n3, n4, n5, wn, gu, gB, i1, i2, i3, wi, gi, gi0, hgs, hls, isi, tks, sn, tl, growN, hnn, ui2, ui3, ui4, ub2, ub3, ub4, gv1, gv2, tkd1, tkd2, tku, tkd0, tkp, hio, tki, cob, im, w1, q1, q3, dz, dz1, gv0, setv, ln, lu, ld, isb, tkb, kn, setiv, List.length_map, List.length_set, c16, h16, hi0, hk1, hki.1, kz, gk, decide_true, decide_false, Bool.and_false, Bool.false_and, Bool.and_true, Bool.and_self, Bool.false_eq_true, if_false, if_true, Bool.not_false, Bool.not_true, tkO, wid_blks, wid_set, ne_eq, not_false_eq_true, not_true, or_true]
                first | done | rfl
end Go.Proofs.YtaaajjinpppgeaaGreatDoor
namespace Go.Proofs.YtaaajjinpppgeaaGreatDoor
open Go Go.Abs
set_option maxRecDepth 100000
theorem newB_sm (s : ByteArray) : (newB s).sm := by unfold Blk.sm newB; simp
theorem newB_ok {s : ByteArray} (h : s.size ≤ maxLen) : (newB s).ok := ⟨by simp [newB], h, fun _ h => by simp [newB] at h⟩
theorem mem_set' {α : Type} {l : List α} {i : Nat} {a : α} {P : α → Prop} (h : ∀ x ∈ l, P x) (ha : P a) : ∀ x ∈ l.set i a, P x := fun x hx => by
  rcases List.mem_or_eq_of_mem_set hx with hx | rfl
  · exact h x hx
  · exact ha
theorem setB_sm {x : Mm} (h : x.sm) (b : Int) (s : ByteArray) : (setB x b s).sm :=
  ⟨⟨h.disk.used, h.disk.taken, h.disk.inos, by simpa [setB] using h.disk.blks, h.disk.ino, mem_set' h.disk.blk (newB_sm s)⟩, by simpa [setB] using h.dirty, h.deps, h.dep⟩
theorem setB_ok {x : Mm} (h : x.ok) (b : Int) {s : ByteArray} (hs : s.size ≤ maxLen) : (setB x b s).ok :=
  ⟨⟨h.disk.used, h.disk.taken, h.disk.inos, by simpa [setB] using h.disk.blks, h.disk.ino, mem_set' h.disk.blk (newB_ok hs)⟩, by simpa [setB] using h.dirty, h.deps, h.dep⟩
theorem inoOf_ok {x : Dsk} (h : x.ok) (i : Int) : (inoOf x i).ok := by
  cases hc : inside i 1 x.inos.length with
  | true => exact h.ino _ (List.mem_of_getElem? (inoOf_mem hc))
  | false => unfold inoOf; rw [hc]; exact (by decide : (0 : Nat) ≤ maxLen)
theorem growN_sm {x : Mm} (h : x.sm) (i k : Int) (s : ByteArray) (hr : x.deps.length ≤ 32) : (growN x i k s).sm :=
  ⟨⟨by simpa [growN] using h.disk.used, h.disk.taken, by simpa [growN] using h.disk.inos, by simpa [growN] using h.disk.blks,
    mem_set' h.disk.ino (by unfold Ino.sm; simp only [List.length_set]; exact inoOf_sm h.disk i), mem_set' h.disk.blk (newB_sm s)⟩, by simpa [growN] using h.dirty, by simp [growN]; omega, fun d hd => by
    rcases List.mem_append.1 hd with hd | hd
    · exact h.dep d hd
    · cases List.mem_singleton.1 hd; exact (by decide : (0 : Nat) ≤ 1048576)⟩
theorem growN_ok {x : Mm} (h : x.ok) (i k : Int) {s : ByteArray} (hs : s.size ≤ maxLen) (hr : x.deps.length ≤ 32) : (growN x i k s).ok :=
  ⟨⟨by simpa [growN] using h.disk.used, h.disk.taken, by simpa [growN] using h.disk.inos, by simpa [growN] using h.disk.blks,
    mem_set' h.disk.ino (by unfold Ino.ok; simp only [List.length_set]; exact inoOf_ok h.disk i), mem_set' h.disk.blk (newB_ok hs)⟩, by simpa [growN] using h.dirty, by unfold maxLen; simp [growN]; omega, fun d hd => by
    rcases List.mem_append.1 hd with hd | hd
    · exact h.dep d hd
    · cases List.mem_singleton.1 hd; exact ⟨(by decide : (0 : Nat) ≤ maxLen), (by decide : (0 : Nat) ≤ maxLen)⟩⟩
theorem room_len {x : Mm} (h : ¬ (ffree x.disk.used = 0 ∨ roomM x = false)) : x.deps.length ≤ 32 := by
  have : roomM x = true := by
    cases hr : roomM x with
    | true => rfl
    | false => exact absurd (.inr hr) h
  unfold roomM at this
  simp only [Bool.and_eq_true, decide_eq_true_eq] at this
  exact this.1
theorem writeR_sm {x : Mm} (h : x.sm) (p : ByteArray) (k : Int) (s : ByteArray) : (writeR x p k s).1.sm := by
  unfold writeR
  split
  · split
    · exact h
    · split
      · exact h
      · split
        · exact setB_sm h _ s
        · split
          · exact h
          · rename_i hr; exact growN_sm h _ _ s (room_len hr)
  · exact h
theorem writeR_ok {x : Mm} (h : x.ok) (p : ByteArray) (k : Int) {s : ByteArray} (hs : s.size ≤ maxLen) : (writeR x p k s).1.ok := by
  unfold writeR
  split
  · split
    · exact h
    · split
      · exact h
      · split
        · exact setB_ok h _ hs
        · split
          · exact h
          · rename_i hr; exact growN_ok h _ _ hs (room_len hr)
  · exact h
set_option maxHeartbeats 4000000 in
theorem law5 (x : Mm) (h : x.ok) (p : ByteArray) (hp : p.size ≤ maxLen) (k : Int) (s : ByteArray) (hs : s.size ≤ maxLen) : E T 5 [mm x, .str p, .int .i64 k, .str s] [] = some (.bool true, []) := by
  rw [E_eq t5 (Nat.le_of_ble_eq_true rfl)]
  by_cases z1 : (1048576 : Int) < (p.size : Int)
  · simp only [mm, F5, go_sem, seval, bnd_ite, z1, decide_true, if_true]
    first | done | rfl
  by_cases z2 : (1048576 : Int) < (s.size : Int)
  · simp only [mm, F5, go_sem, seval, bnd_ite, z1, z2, decide_true, decide_false, if_true, Bool.false_eq_true, if_false]
    first | done | rfl
  have hp2 : p.size ≤ 1048576 := by omega
  have hs2 : s.size ≤ 1048576 := by omega
  obtain ⟨r, h1, h2, h3, h4⟩ := e25 x 1048576 (by omega) (by omega) h
  have c47 := e28 x x h
  have c45 := fun hh => e26 x hh
  have cA := fun hh => e9 x hh h p hp2 k s hs2
  have cB := fun hh => e27 x hh h p hp2 k s hs2
  have c51 := fun hh => e29 x 1 (by omega) (by omega) hh
  have cs := fun hh => writeR_sm (x := x) hh p k s
  have ck := writeR_ok h p k hs
  generalize (writeR x p k s).1 = N at *
  generalize (writeR x p k s).2 = cd at *
  have c47n := e28 N N ck
  have c51n := fun hh => e29 N 1 (by omega) (by omega) hh
  have c64n := fun hh => e30 N 1 (by omega) (by omega) hh
  simp only [mm, mmO, mmR, dskR, mkMm, mkDsk, List.cons_append, List.nil_append] at h1 c45 c47 c47n cA cB c51 c51n c64n ⊢
  simp only [F5, go_sem, seval, bnd_ite, h1, z1, z2, decide_false, Bool.false_eq_true, if_false]
  by_cases c1 : r < 0
  · rw [if_pos c1]
  rw [if_neg c1]
  have hm := h4 (by omega)
  have hs := cs hm
  have n1 : ¬ (1 + (coMm x : Int)) < 0 := by omega
  have n2 : ¬ (1 + (coMm N : Int)) < 0 := by omega
  simp only [go_sem, seval, bnd_ite, c45 hm, cA hm, cB hm, c47, c47n, c51 hm, c51n hs, c64n hs, mkB_len, mkL_len, tkO, tkN, n1, n2, decide_true, decide_false, Bool.not_true, Bool.false_eq_true, if_false]
  first | done | rfl | trace_state
end Go.Proofs.YtaaajjinpppgeaaGreatDoor
namespace Go.Proofs.YtaaajjinpppgeaaGreatDoor
open Go Go.Abs
def shFnExactWriteText : List Shp := [shM, .str, .int .i64, .str]
theorem isFnExactWriteText {avs : List AV} (h : IsAs shFnExactWriteText avs) : E T 5 avs [] = some (.bool true, []) := by
  cases h with | cons h1 h =>
  cases h with | cons h2 h =>
  cases h with | cons h3 h =>
  cases h with | cons h4 h =>
  cases h
  obtain ⟨x1, rfl, hx1⟩ := isM h1
  obtain ⟨cs2, h2, rfl⟩ := h2
  cases h2 with | str hw2 =>
  obtain ⟨cs3, h3, rfl⟩ := h3
  cases h3 with | int hw3 =>
  obtain ⟨cs4, h4, rfl⟩ := h4
  cases h4 with | str hw4 =>
  exact law5 x1 hx1 _ hw2 _ _ hw4
end Go.Proofs.YtaaajjinpppgeaaGreatDoor
namespace Go.Abs
open Go
def wAcc : List Char → List Char → List (List Char) → List (List Char)
  | [], cur, acc => (cur.reverse :: acc).reverse
  | c :: r, cur, acc => if c.toNat = 32 then wAcc r [] (cur.reverse :: acc) else wAcc r (c :: cur) acc
def joinW (cur : List Char) : List (List Char) → List (List Char)
  | w :: ws => (cur ++ w) :: ws
  | [] => [cur]
theorem ws_c (c : Char) (r : List Char) : wordsSigns (c :: r) = if c.toNat = 32 then [] :: wordsSigns r else joinW [c] (wordsSigns r) := by
  by_cases h : c.toNat = 32
  · rw [if_pos h]
    have : c = Char.ofNat 32 := by
      apply Char.ext
      apply UInt32.toNat_inj.1
      exact h
    subst this; rfl
  · rw [if_neg h]
    rw [wordsSigns.eq_3 _ _ (fun e => h (by rw [e]; rfl))]
    cases wordsSigns r <;> rfl
theorem ws_ne (l : List Char) : wordsSigns l ≠ [] := by
  cases l with
  | nil => simp [wordsSigns]
  | cons c r =>
    rw [ws_c]
    split
    · simp
    · cases wordsSigns r <;> simp [joinW]
theorem wAcc_eq : ∀ (l cur : List Char) (acc : List (List Char)), wAcc l cur acc = acc.reverse ++ joinW cur.reverse (wordsSigns l) := by
  intro l
  induction l with
  | nil => intro cur acc; simp [wAcc, wordsSigns, joinW]
  | cons c r ih =>
    intro cur acc
    simp only [wAcc]
    rw [ws_c]
    by_cases h : c.toNat = 32
    · rw [if_pos h, if_pos h, ih]
      cases hr : wordsSigns r with
      | nil => exact absurd hr (ws_ne r)
      | cons w ws => simp [joinW]
    · rw [if_neg h, if_neg h, ih]
      cases wordsSigns r <;> simp [joinW]
theorem words_eq (l : List Char) : wordsSigns l = wAcc l [] [] := by
  rw [wAcc_eq]
  have := ws_ne l
  cases h : wordsSigns l with
  | nil => exact absurd h this
  | cons w ws => simp [joinW]
theorem strip_cut (r : List (List Char)) : stripLifts liftWords ("cut".toList :: r) = ([], "cut".toList :: r) := by kernel_rfl
theorem lifts_of {P : Program} {r : List (List Char)} (h : behindMainWord (wordsSigns P.initOrder.toList) = "cut".toList :: r) : P.headLifts = [] := by
  unfold Program.headLifts
  rw [h, strip_cut]; kernel_rfl
theorem liftsFinal_of {P : Program} {r : List (List Char)} (h : behindMainWord (wordsSigns P.initOrder.toList) = "cut".toList :: r) : P.liftsFinal = false := by
  unfold Program.liftsFinal
  rw [h, lifts_of h]; kernel_rfl
theorem make_of {P : Program} {r : List (List Char)} (h : behindMainWord (wordsSigns P.initOrder.toList) = "cut".toList :: r) : P.make = some .cut := by
  unfold Program.make
  rw [h]; kernel_rfl
theorem mayEnter_of {P : Program} {r : List (List Char)} (h : behindMainWord (wordsSigns P.initOrder.toList) = "cut".toList :: r) (h1 : P.laysLater = false) (h2 : P.bearsReflect = false) (h3 : P.doorFits [] = true) : P.mayEnter = true := by
  unfold Program.mayEnter
  rw [h]
  simp only [strip_cut, h1, h2, h3]
  kernel_rfl
open Go.RowKit in
theorem facts_of {P : Program} {f : FuncId} {fn : Func} {s : ChangeSpec} {c : OpenClaim} (a1 : c.wf (OpenSpec.ofChange s) = true) (a2 : laidOutB P = true) (a3 : mapsRowed P = true)
    (a4 : fn.params.all (P.readableRec ·) = true) (a5 : namedTie P c.named s.vars = true) (a6 : (c.stops == []) = true) (a7 : (P.stops == []) = true) (a8 : (c.knobs == []) = true) (a9 : (P.stopKnobs == []) = true)
    (a10 : (c.inPlace == P.inPlace f) = true) (a11 : (c.unfollowed == P.unfollowed f) = true) (a12 : (c.recurses == P.recurses f) = true) (a13 : (c.named == P.varsNamed f) = true)
    (a14 : (c.maps == (fn.params.toList ++ s.plain.varTypes P).any (P.mapsRec ·)) = true) (a15 : (c.ifaces == (fn.params.toList ++ s.plain.varTypes P).any (P.ifacesRec ·)) = true) (a16 : (c.mapsOut == P.mapsAmong fn.resultTypes.toList) = true)
    (a17 : (c.loops == (fn.params.toList ++ s.plain.varTypes P).any (P.loopsFrom ·)) = true) (a18 : (c.wideKeys == (fn.params.toList ++ s.plain.varTypes P ++ fn.resultTypes.toList).any (P.wideKeysFrom ·)) = true)
    (a19 : s.vars.all (P.varReadable ·) = true) (a20 : fn.resultTypes.all (fun t => P.readableRec t && decide (t < P.types.size)) = true) (a21 : (c.ifacesOut == fn.resultTypes.toList.any (P.ifacesRec ·)) = true)
    (a22 : (c.loopsOut == fn.resultTypes.toList.any (P.loopsFrom ·)) = true) (a23 : (c.plainKeys == P.plainKeys) = true) (a24 : c.shortTexts.isNone = true) (a25 : P.stopsHeard = true) (a26 : P.mayEnter = true)
    (a27 : (c.lifted == P.liftsFinal) = true) (a28 : (P.make == some c.make) = true)
    (a29 : c.domain.isEmpty = true) (a29' : c.kinds = []) (a30 : (c.pinned == c.pinnedBy) = true)
    (a31 : (c.veiled == (fn.params.toList ++ s.plain.varTypes P ++ fn.resultTypes.toList).any (P.veiledRec ·)) = true) (a32 : c.veiledFits P fn.params.toList (fn.params.toList ++ s.plain.varTypes P ++ fn.resultTypes.toList) = true) :
    joinedFacts P f fn s c = true := by
  unfold joinedFacts
  rw [a1, a2, a3, a4, a5, a6, a7, a8, a9, a10, a11, a12, a13, a14, a15, a16, a17, a18, a19, a20, a21, a22, a23, a24, a25, a26, a27, a28, a29, a29', a30, a31, a32]
  rfl
end Go.Abs
namespace Go.Proofs.YtaaajjinpppgeaaGreatDoor
open Go Go.RowKit
set_option maxRecDepth 100000
def headSigns : List Char := [.ofNat 104,.ofNat 97,.ofNat 114,.ofNat 110,.ofNat 101,.ofNat 115,.ofNat 115,.ofNat 32,.ofNat 53,.ofNat 51,.ofNat 55,.ofNat 98,.ofNat 56,.ofNat 49,.ofNat 55,.ofNat 99,.ofNat 48,.ofNat 51,.ofNat 56,.ofNat 53,.ofNat 53,.ofNat 99,.ofNat 100,.ofNat 51,.ofNat 51,.ofNat 97,.ofNat 57,.ofNat 56,.ofNat 53,.ofNat 99,.ofNat 98,.ofNat 54,.ofNat 51,.ofNat 99,.ofNat 101,.ofNat 97,.ofNat 51,.ofNat 98,.ofNat 98,.ofNat 100,.ofNat 50,.ofNat 54,.ofNat 97,.ofNat 57,.ofNat 102,.ofNat 49,.ofNat 50,.ofNat 99,.ofNat 97,.ofNat 52,.ofNat 99,.ofNat 48,.ofNat 99,.ofNat 49,.ofNat 50,.ofNat 48,.ofNat 52,.ofNat 97,.ofNat 102,.ofNat 57,.ofNat 56,.ofNat 99,.ofNat 52,.ofNat 55,.ofNat 101,.ofNat 49,.ofNat 97,.ofNat 49,.ofNat 99,.ofNat 99,.ofNat 100,.ofNat 101,.ofNat 32,.ofNat 99,.ofNat 117,.ofNat 116,.ofNat 32,.ofNat 97,.ofNat 116,.ofNat 32,.ofNat 108,.ofNat 111,.ofNat 111,.ofNat 112,.ofNat 46,.ofNat 101,.ofNat 120,.ofNat 97,.ofNat 109,.ofNat 112,.ofNat 108,.ofNat 101,.ofNat 47,.ofNat 103,.ofNat 48,.ofNat 48,.ofNat 50,.ofNat 51,.ofNat 53,.ofNat 47,.ofNat 108,.ofNat 97,.ofNat 119,.ofNat 115,.ofNat 46,.ofNat 70,.ofNat 110,.ofNat 84,.ofNat 119,.ofNat 111,.ofNat 77,.ofNat 111,.ofNat 118,.ofNat 101,.ofNat 115,.ofNat 32,.ofNat 108,.ofNat 111,.ofNat 111,.ofNat 112,.ofNat 46,.ofNat 101,.ofNat 120,.ofNat 97,.ofNat 109,.ofNat 112,.ofNat 108,.ofNat 101,.ofNat 47,.ofNat 103,.ofNat 48,.ofNat 48,.ofNat 50,.ofNat 51,.ofNat 53,.ofNat 47,.ofNat 108,.ofNat 97,.ofNat 119,.ofNat 115,.ofNat 46,.ofNat 70,.ofNat 110,.ofNat 66,.ofNat 117,.ofNat 115,.ofNat 121,.ofNat 83,.ofNat 108,.ofNat 111,.ofNat 116,.ofNat 115,.ofNat 32,.ofNat 108,.ofNat 111,.ofNat 111,.ofNat 112,.ofNat 46,.ofNat 101,.ofNat 120,.ofNat 97,.ofNat 109,.ofNat 112,.ofNat 108,.ofNat 101,.ofNat 47,.ofNat 103,.ofNat 48,.ofNat 48,.ofNat 50,.ofNat 51,.ofNat 53,.ofNat 47,.ofNat 108,.ofNat 97,.ofNat 119,.ofNat 115,.ofNat 46,.ofNat 70,.ofNat 110,.ofNat 69,.ofNat 120,.ofNat 97,.ofNat 99,.ofNat 116,.ofNat 87,.ofNat 114,.ofNat 105,.ofNat 116,.ofNat 101,.ofNat 84,.ofNat 101,.ofNat 120,.ofNat 116]
theorem head_text : Tryz.prog.initOrder = String.ofList headSigns := by kernel_rfl
theorem head_words : wordsSigns Tryz.prog.initOrder.toList = Go.Abs.wAcc headSigns [] [] := by
  rw [head_text, String.toList_ofList, Go.Abs.words_eq]
theorem head_behind : behindMainWord (wordsSigns Tryz.prog.initOrder.toList) = "cut".toList :: (Go.Abs.wAcc headSigns [] []).drop 3 := by
  rw [head_words]; kernel_rfl
theorem f_lays : Tryz.prog.laysLater = false := by kernel_rfl
theorem f_refl : Tryz.prog.bearsReflect = false := by kernel_rfl
theorem f_door : Tryz.prog.doorFits [] = true := by kernel_rfl
theorem f_mayEnter : Tryz.prog.mayEnter = true := Go.Abs.mayEnter_of head_behind f_lays f_refl f_door
theorem f_liftsFinal : Tryz.prog.liftsFinal = false := Go.Abs.liftsFinal_of head_behind
theorem f_make : Tryz.prog.make = some .cut := Go.Abs.make_of head_behind
theorem laidOut : laidOutB Tryz.prog = true := by kernel_rfl
theorem f_maps : mapsRowed Tryz.prog = true := by kernel_rfl
theorem f_stops : (Tryz.prog.stops == []) = true := by kernel_rfl
theorem f_knobs : (Tryz.prog.stopKnobs == []) = true := by kernel_rfl
theorem f_plain : (true == Tryz.prog.plainKeys) = true := by kernel_rfl
theorem f_heard : Tryz.prog.stopsHeard = true := by kernel_rfl
theorem own : ownKnob Tryz.prog.godebug = none := by kernel_rfl
end Go.Proofs.YtaaajjinpppgeaaGreatDoor
namespace Go.Proofs.YtaaajjinpppgeaaGreatDoor
open Go Go.Abs Go.ChangeShapes Go.WideShapes Go.ChangeAt Go.RowKit
set_option maxRecDepth 100000 in
theorem liftedFnExactWriteText (os : Os) (started : os.Started) (H : Type) (enc : TypeId × Value → H) :
    ReturnsInHanded {} Tryz.checked os 5 .any (fun w args => (Rows.fnExactWriteTextSpec.pre enc Tryz.prog Tryz.f5 Rows.fnExactWriteTextRow.domain false w args ∧ laidMetH Tryz.prog Rows.fnExactWriteTextRow.laid w) ∧ sizedMet enc Tryz.prog Tryz.f5 (OpenSpec.ofChange Rows.fnExactWriteTextSpec) false w args)
      (Rows.fnExactWriteTextSpec.post enc Tryz.prog Tryz.f5 false true false false) := by
  refine returnsInHanded_of_change_and (C := Tryz.checked) (X := fun w _ => laidMetH Tryz.prog Rows.fnExactWriteTextRow.laid w) (fun _ _ _ hh h => h.of_heap hh) own started (by kernel_rfl) Tryz.func5
    (ChangeSpec.witness_shaped (enc := enc) (C := Tryz.checked) (os := os) (X := fun w _ => laidMetH Tryz.prog Rows.fnExactWriteTextRow.laid w) false (World.laidAll Tryz.prog os Rows.fnExactWriteTextRow.laid) #[.agg #[.slice none 0 0, .slice none 0 0, .slice none 0 0, .slice none 0 0, .slice none 0 0, .slice none 0 0, .int .i64 0], .string ⟨#[]⟩, .int .i64 0, .string ⟨#[]⟩] 8 (World.laidAll_os _ _ _)
      (World.shaped_of_ZipB (by kernel_rfl) (by kernel_rfl)) (by kernel_rfl) (by kernel_rfl) (by kernel_rfl)
      (by rw [MakeChecks.laidMetH_plain _ _ _ (by kernel_rfl)]; exact laidMet_laidAll _ (by kernel_rfl) (by kernel_rfl))) ?_
  intro W base args ds gs before hval hW _ _ _ _
  obtain ⟨p, q, hA, hV, e, _, _⟩ := id hW
  refine (row_calls (P := Tryz.prog) (W := W) (n := 12) (shps := shFnExactWriteText) (fun avs h => calls (isFnExactWriteText h)) (ts := Tryz.f5.params.toList) (by kernel_rfl) (fun j t v h1 h2 => hval j t v (by simpa using h1) h2) hA).mono fun e W' ⟨he, hb⟩ => ?_
  refine ⟨_, he, row_post (tb := Tryz.f5.resultTypes.toList.headD 0) laidOut ?_ rfl (by kernel_rfl) (by kernel_rfl) ?_ hW hb⟩
  · exact List.all_eq_true.1 (show Tryz.f5.params.toList.all (fun t => Tryz.prog.readableRec t && decide (t < Tryz.prog.types.size)) = true by kernel_rfl) |> fun h t ht => by simpa using h t ht
  · have hl := trod_len hA
    match ds, hl with
    | [d0, d1, d2, d3], _ => rfl
set_option maxHeartbeats 4000000 in
theorem factsFnExactWriteText : joinedFacts Tryz.prog 5 Tryz.f5 Rows.fnExactWriteTextSpec Rows.fnExactWriteTextRow = true :=
  facts_of (by kernel_rfl) laidOut f_maps (by kernel_rfl) (by kernel_rfl) rfl f_stops rfl f_knobs (by as_aux_lemma => kernel_rfl) (by as_aux_lemma => kernel_rfl) (by as_aux_lemma => kernel_rfl) (by as_aux_lemma => kernel_rfl)
    (by kernel_rfl) (by kernel_rfl) (by kernel_rfl) (by kernel_rfl) (by kernel_rfl) rfl (by kernel_rfl) (by kernel_rfl) (by kernel_rfl) f_plain rfl f_heard f_mayEnter (by rw [f_liftsFinal]; rfl) (by rw [f_make]; rfl) rfl rfl rfl (by kernel_rfl) (by kernel_rfl)
theorem wrapFnExactWriteText : Tryz.f5.isWrapper Tryz.prog Rows.fnExactWriteTextRow.wrapper Rows.fnExactWriteTextRow.mainSum := by
  unfold Func.isWrapper; rw [if_neg (by decide +kernel)]; exact ⟨rfl, rfl⟩
set_option maxHeartbeats 4000000 in
theorem overFnExactWriteText : Rows.fnExactWriteTextRow.holds Tryz.pinned (OpenSpec.ofChange Rows.fnExactWriteTextSpec) :=
  OpenClaim.holds_of_wide 5 Tryz.f5 rfl rfl rfl rfl rfl rfl rfl ⟨rfl, rfl, rfl, rfl, rfl⟩ rfl rfl rfl rfl rfl (by as_aux_lemma => kernel_rfl) Tryz.func5 factsFnExactWriteText
    (by as_aux_lemma => exact of_decide_eq_true (by kernel_rfl)) wrapFnExactWriteText
    (fun os started H enc _ => liftedFnExactWriteText os started H enc)
theorem FnExactWriteText_holds : Rows.FnExactWriteTextCardSaid :=
  Claim7.holds_tied_plain_at .later [] [.data, .pinned] true (true, "537b817c03855cd33a985cb63cea3bbd26a9f12ca4c0c1204af98c47e1a1ccde") false overFnExactWriteText (fun _ h => by cases h) (by kernel_rfl) (fun _ h => by cases h) fnExactWriteText_row_tie rfl ⟨rfl, rfl⟩ (by kernel_rfl) rfl
    (fun f fn hf hfn => by
      obtain rfl : f = 5 := Option.some.inj ((show Tryz.prog.funcNamed Rows.fnExactWriteTextRow.func = some 5 by kernel_rfl).symm.trans hf) |>.symm
      obtain rfl : fn = Tryz.f5 := (Option.some.inj (Tryz.func5.symm.trans hfn)).symm
      exact ⟨by kernel_rfl, fun j t ht => by
        have hm : t ∈ Tryz.f5.params.toList := by simpa using Array.mem_of_getElem? ht
        have hall : (Tryz.f5.params.toList.all fun u => !Tryz.prog.wantsStandIn u) = true := by kernel_rfl
        exact (show Tryz.prog.wantsStandIn t = false by simpa using List.all_eq_true.1 hall t hm)⟩)
    (by kernel_rfl)
end Go.Proofs.YtaaajjinpppgeaaGreatDoor
