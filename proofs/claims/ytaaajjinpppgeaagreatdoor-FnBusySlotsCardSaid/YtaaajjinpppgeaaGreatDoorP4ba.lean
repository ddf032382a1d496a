/- The last part of the texts of a claim, joined by a program of ours; at its end stands the row: the law returns true for every input, and leaves it as it was. No condition. -/
import Derived.Test.YtaaajjinpppgeaaGreatDoorP4az
import GoSem.ClaimOpenFrom
import GoSem.ClaimJoined
import Derived.JoinedOf
import Derived.ProofKit
import Derived.KernelRfl
import Derived.Test.YtaaajjinpppgeaaGreatDoorRows
import Derived.Test.YtaaajjinpppgeaaGreatDoorCards
import Derived.Test.YtaaajjinpppgeaaGreatDoorTie
import Derived.OpenShut
import Derived.LaidMore
import Derived.Lay
import Derived.SevenTiedAt
import Derived.Stop.Joined
set_option linter.unusedVariables false
set_option linter.unusedSimpArgs false
set_option linter.unusedSectionVars false
namespace Go.Proofs.YtaaajjinpppgeaaGreatDoor
open Go Go.Abs
set_option maxRecDepth 100000
def A28 : List AV := [D36]
def R28 : AV := D42
def tbl28 : List (Nat × CF) := (51, .orc (memoG [(A3, R3), (A4, R4), (A5, R5), (A6, R6), (A7, R7), (A8, R8), (A14, R14), (A15, R15), (A16, R16), (A25, R25), (A26, R26), (A27, R27)])) :: tblB
theorem tbl28_ok : TblOk TB tbl28 := ⟨memo_ok (fun p hp => by simp only [List.mem_cons, List.not_mem_nil, or_false] at hp; rcases hp with rfl | rfl | rfl | rfl | rfl | rfl | rfl | rfl | rfl | rfl | rfl | rfl <;> first | exact m3 | exact m4 | exact m5 | exact m6 | exact m7 | exact m8 | exact m14 | exact m15 | exact m16 | exact m25 | exact m26 | exact m27), tblB_ok⟩
theorem m28 : E TB 10 A28 [] = some (R28, []) := crun_ok tbl28_ok (fuel := 5000) (n := 60) (by kernel_rfl)
end Go.Proofs.YtaaajjinpppgeaaGreatDoor
namespace Go.Proofs.YtaaajjinpppgeaaGreatDoor
open Go Go.Abs
set_option maxRecDepth 100000
def A29 : List AV := [D43]
def R29 : AV := (.bool true)
theorem m29 : E TB 24 A29 [] = some (R29, []) := crun_ok tblB_ok (fuel := 5000) (n := 60) (by kernel_rfl)
end Go.Proofs.YtaaajjinpppgeaaGreatDoor
namespace Go.Proofs.YtaaajjinpppgeaaGreatDoor
open Go Go.Abs
set_option maxRecDepth 100000
def A30 : List AV := [D43, (.str ⟨#[47, 99]⟩), (.int .i64 (.ofNat 1))]
def R30 : AV := D44
def tbl30 : List (Nat × CF) := (24, .orc (memoG [(A10, R10), (A12, R12), (A18, R18), (A20, R20), (A21, R21), (A23, R23), (A29, R29)])) :: tblB
theorem tbl30_ok : TblOk TB tbl30 := ⟨memo_ok (fun p hp => by simp only [List.mem_cons, List.not_mem_nil, or_false] at hp; rcases hp with rfl | rfl | rfl | rfl | rfl | rfl | rfl <;> first | exact m10 | exact m12 | exact m18 | exact m20 | exact m21 | exact m23 | exact m29), tblB_ok⟩
theorem m30 : E TB 22 A30 [] = some (R30, []) := crun_ok tbl30_ok (fuel := 5000) (n := 60) (by kernel_rfl)
end Go.Proofs.YtaaajjinpppgeaaGreatDoor
namespace Go.Proofs.YtaaajjinpppgeaaGreatDoor
open Go Go.Abs
set_option maxRecDepth 100000
def A31 : List AV := [D45]
def R31 : AV := (.bool true)
theorem m31 : E TB 24 A31 [] = some (R31, []) := crun_ok tblB_ok (fuel := 5000) (n := 60) (by kernel_rfl)
end Go.Proofs.YtaaajjinpppgeaaGreatDoor
namespace Go.Proofs.YtaaajjinpppgeaaGreatDoor
open Go Go.Abs
set_option maxRecDepth 100000
def A32 : List AV := [D46]
def R32 : AV := (.bool true)
theorem m32 : E TB 24 A32 [] = some (R32, []) := crun_ok tblB_ok (fuel := 5000) (n := 60) (by kernel_rfl)
end Go.Proofs.YtaaajjinpppgeaaGreatDoor
namespace Go.Proofs.YtaaajjinpppgeaaGreatDoor
open Go Go.Abs
set_option maxRecDepth 100000
def tblE : List (Nat × CF) := (24, .orc (memoG [(A10, R10), (A12, R12), (A18, R18), (A20, R20), (A21, R21), (A23, R23), (A29, R29), (A31, R31), (A32, R32)])) :: (21, .orc (memoG [(A11, R11), (A22, R22)])) :: (22, .orc (memoG [(A13, R13), (A19, R19), (A24, R24), (A30, R30)])) :: (10, .orc (memoG [(A17, R17), (A28, R28)])) :: tblB
theorem tblE_ok : TblOk TB tblE := ⟨memo_ok (fun p hp => by simp only [List.mem_cons, List.not_mem_nil, or_false] at hp; rcases hp with rfl | rfl | rfl | rfl | rfl | rfl | rfl | rfl | rfl <;> first | exact m10 | exact m12 | exact m18 | exact m20 | exact m21 | exact m23 | exact m29 | exact m31 | exact m32), ⟨memo_ok (fun p hp => by simp only [List.mem_cons, List.not_mem_nil, or_false] at hp; rcases hp with rfl | rfl <;> first | exact m11 | exact m22), ⟨memo_ok (fun p hp => by simp only [List.mem_cons, List.not_mem_nil, or_false] at hp; rcases hp with rfl | rfl | rfl | rfl <;> first | exact m13 | exact m19 | exact m24 | exact m30), ⟨memo_ok (fun p hp => by simp only [List.mem_cons, List.not_mem_nil, or_false] at hp; rcases hp with rfl | rfl <;> first | exact m17 | exact m28), tblB_ok⟩⟩⟩⟩
theorem cE : Go.Abs.Comes TB (crun tblE 5000 60) := crun_comes tblE_ok _ _
end Go.Proofs.YtaaajjinpppgeaaGreatDoor
namespace Go.Proofs.YtaaajjinpppgeaaGreatDoor
open Go Go.Abs
set_option maxRecDepth 100000
theorem end0 (L : List AV) (a0 a1 a2 a3 a4 a5 a6 a7 a8 a9 a10 a11 : Int) : bnd (cvC (crun tblE 5000 60) 5000 b8 (V5 L (X12 a0 a1 a2 a3 a4 a5 a6 a7 a8 a9 a10 a11) a0 (.ofNat 0) 0 ⟨#[97]⟩)) (finC 0 C4.results) = some (.bool true, []) := by kernel_rfl
end Go.Proofs.YtaaajjinpppgeaaGreatDoor
namespace Go.Proofs.YtaaajjinpppgeaaGreatDoor
open Go Go.Abs
set_option maxRecDepth 100000
theorem end1 (L : List AV) (a0 a1 a2 a3 a4 a5 a6 a7 a8 a9 a10 a11 : Int) : bnd (cvC (crun tblE 5000 60) 5000 b8 (V5 L (X12 a0 a1 a2 a3 a4 a5 a6 a7 a8 a9 a10 a11) a0 (.ofNat 1) 1 ⟨#[98]⟩)) (finC 0 C4.results) = some (.bool true, []) := by kernel_rfl
end Go.Proofs.YtaaajjinpppgeaaGreatDoor
namespace Go.Proofs.YtaaajjinpppgeaaGreatDoor
open Go Go.Abs
set_option maxRecDepth 100000
theorem end_of (L : List AV) (a0 a1 a2 a3 a4 a5 a6 a7 a8 a9 a10 a11 : Int) (h : E TB 12 [.ro 1 L] [] = some (.own 1 (X12 a0 a1 a2 a3 a4 a5 a6 a7 a8 a9 a10 a11), [])) (h0 : 0 ≤ a0) : ∃ y s', RunC TB 0 b7 (S6 L) y s' ∧ finC 0 C4.results (y, s') = some (.bool true, []) := by
  have h1 := Int.tmod_nonneg 2 h0
  have h2 := Int.tmod_lt_of_pos a0 (show (0 : Int) < 2 by omega)
  have hr : a0.tmod 2 = .ofNat 0 ∨ a0.tmod 2 = .ofNat 1 := by
    have : a0.tmod 2 = 0 ∨ a0.tmod 2 = 1 := by omega
    exact this
  rw [b7_eq]
  rcases hr with hr | hr
  · obtain ⟨y, s', q1, q2⟩ := RunC.tail cE (end0 L a0 a1 a2 a3 a4 a5 a6 a7 a8 a9 a10 a11)
    exact ⟨y, s', .seq (p7_is L a0 a1 a2 a3 a4 a5 a6 a7 a8 a9 a10 a11 h hr (p7_r0 L a0 a1 a2 a3 a4 a5 a6 a7 a8 a9 a10 a11)) q1, q2⟩
  · obtain ⟨y, s', q1, q2⟩ := RunC.tail cE (end1 L a0 a1 a2 a3 a4 a5 a6 a7 a8 a9 a10 a11)
    exact ⟨y, s', .seq (p7_is L a0 a1 a2 a3 a4 a5 a6 a7 a8 a9 a10 a11 h hr (p7_r1 L a0 a1 a2 a3 a4 a5 a6 a7 a8 a9 a10 a11)) q1, q2⟩
theorem e4 (l : List Int) : E TB 4 [by8 l] [] = some (.bool true, []) := by
  unfold by8
  cases hb : decide (((l.map (AV.int .u8)).length : Int) > 1048576) with
  | true =>
    obtain ⟨s', h1, h2⟩ := RunC.tailR cB (p2_big (l.map (AV.int .u8)))
    refine RunC.fin (F := C4) (y := .ret) (s' := s') (tB c4 rfl) rfl rfl rfl ?_ h2
    rw [body4]
    exact .seq (.of cB (p0_run _)) (.stop (.seq (p1_is _ true hb) h1) (by simp))
  | false =>
    have hl : l.length ≤ 1048576 := by
      have := of_decide_eq_false hb
      rw [List.length_map] at this
      omega
    obtain ⟨xs, hx, hr, h12⟩ := e12 l hl
    match xs, hx with
    | [a0, a1, a2, a3, a4, a5, a6, a7, a8, a9, a10, a11], _ =>
    obtain ⟨y, s', h1, h2⟩ := end_of (l.map (AV.int .u8)) a0 a1 a2 a3 a4 a5 a6 a7 a8 a9 a10 a11 h12 (hr a0 (by simp)).1
    refine RunC.fin (F := C4) (y := y) (s' := s') (tB c4 rfl) rfl rfl rfl ?_ h2
    rw [body4]
    exact .seq (.of cB (p0_run _)) (.seq (.seq (p1_is _ false hb) (.of cB (p2_small _))) (mid4_is _ h1))
end Go.Proofs.YtaaajjinpppgeaaGreatDoor
namespace Go.Proofs.YtaaajjinpppgeaaGreatDoor
open Go Go.Abs
theorem u8s : ∀ css : List (List AV), (∀ cs ∈ css, Is (.int .u8) cs) → ∃ l : List Int, css.map (Shp.int .u8).elem = l.map (AV.int .u8)
  | [], _ => ⟨[], rfl⟩
  | cs :: css, h => by
    obtain ⟨l, hl⟩ := u8s css fun c hc => h c (List.mem_cons_of_mem _ hc)
    have h1 := h cs (List.mem_cons_self ..)
    cases h1
    rename_i n hn
    exact ⟨n :: l, by rw [List.map_cons, List.map_cons, hl]; rfl⟩
def shFnBusySlots : List Shp := [.slice 1 (.int .u8)]
theorem isFnBusySlots {avs : List AV} (h : IsAs shFnBusySlots avs) : E TB 4 avs [] = some (.bool true, []) := by
  cases h with | cons h1 h =>
  cases h
  obtain ⟨cs, h1, rfl⟩ := h1
  cases h1 with | slice h1 hl =>
  obtain ⟨l, hl⟩ := u8s _ h1
  show E TB 4 [.ro 1 (List.map _ _)] [] = _
  rw [hl]
  exact e4 l
end Go.Proofs.YtaaajjinpppgeaaGreatDoor
namespace Go.Abs
open Go
def wAcc : List Char → List Char → List (List Char) → List (List Char)
  | [], cur, acc => (cur.reverse :: acc).reverse
  | c :: r, cur, acc => if c.toNat = 32 then wAcc r [] (cur.reverse :: acc) else wAcc r (c :: cur) acc
def joinW (cur : List Char) : List (List Char) → List (List Char)
  | w :: ws => (cur ++ w) :: ws
  | [] => [cur]
theorem ws_c (c : Char) (r : List Char) : wordsSigns (c :: r) = if c.toNat = 32 then [] :: wordsSigns r else joinW [c] (wordsSigns r) := by
  by_cases h : c.toNat = 32
  · rw [if_pos h]
    have : c = Char.ofNat 32 := by
      apply Char.ext
      apply UInt32.toNat_inj.1
      exact h
    subst this; rfl
  · rw [if_neg h]
    rw [wordsSigns.eq_3 _ _ (fun e => h (by rw [e]; rfl))]
    cases wordsSigns r <;> rfl
theorem ws_ne (l : List Char) : wordsSigns l ≠ [] := by
  cases l with
  | nil => simp [wordsSigns]
  | cons c r =>
    rw [ws_c]
    split
    · simp
    · cases wordsSigns r <;> simp [joinW]
theorem wAcc_eq : ∀ (l cur : List Char) (acc : List (List Char)), wAcc l cur acc = acc.reverse ++ joinW cur.reverse (wordsSigns l) := by
  intro l
  induction l with
  | nil => intro cur acc; simp [wAcc, wordsSigns, joinW]
  | cons c r ih =>
    intro cur acc
    simp only [wAcc]
    rw [ws_c]
    by_cases h : c.toNat = 32
    · rw [if_pos h, if_pos h, ih]
      cases hr : wordsSigns r with
      | nil => exact absurd hr (ws_ne r)
      | cons w ws => simp [joinW]
    · rw [if_neg h, if_neg h, ih]
      cases wordsSigns r <;> simp [joinW]
theorem words_eq (l : List Char) : wordsSigns l = wAcc l [] [] := by
  rw [wAcc_eq]
  have := ws_ne l
  cases h : wordsSigns l with
  | nil => exact absurd h this
  | cons w ws => simp [joinW]
theorem strip_cut (r : List (List Char)) : stripLifts liftWords ("cut".toList :: r) = ([], "cut".toList :: r) := by kernel_rfl
theorem lifts_of {P : Program} {r : List (List Char)} (h : behindMainWord (wordsSigns P.initOrder.toList) = "cut".toList :: r) : P.headLifts = [] := by
  unfold Program.headLifts
  rw [h, strip_cut]; kernel_rfl
theorem liftsFinal_of {P : Program} {r : List (List Char)} (h : behindMainWord (wordsSigns P.initOrder.toList) = "cut".toList :: r) : P.liftsFinal = false := by
  unfold Program.liftsFinal
  rw [h, lifts_of h]; kernel_rfl
theorem make_of {P : Program} {r : List (List Char)} (h : behindMainWord (wordsSigns P.initOrder.toList) = "cut".toList :: r) : P.make = some .cut := by
  unfold Program.make
  rw [h]; kernel_rfl
theorem mayEnter_of {P : Program} {r : List (List Char)} (h : behindMainWord (wordsSigns P.initOrder.toList) = "cut".toList :: r) (h1 : P.laysLater = false) (h2 : P.bearsReflect = false) (h3 : P.doorFits [] = true) : P.mayEnter = true := by
  unfold Program.mayEnter
  rw [h]
  simp only [strip_cut, h1, h2, h3]
  kernel_rfl
open Go.RowKit in
theorem facts_of {P : Program} {f : FuncId} {fn : Func} {s : ChangeSpec} {c : OpenClaim} (a1 : c.wf (OpenSpec.ofChange s) = true) (a2 : laidOutB P = true) (a3 : mapsRowed P = true)
    (a4 : fn.params.all (P.readableRec ·) = true) (a5 : namedTie P c.named s.vars = true) (a6 : (c.stops == []) = true) (a7 : (P.stops == []) = true) (a8 : (c.knobs == []) = true) (a9 : (P.stopKnobs == []) = true)
    (a10 : (c.inPlace == P.inPlace f) = true) (a11 : (c.unfollowed == P.unfollowed f) = true) (a12 : (c.recurses == P.recurses f) = true) (a13 : (c.named == P.varsNamed f) = true)
    (a14 : (c.maps == (fn.params.toList ++ s.plain.varTypes P).any (P.mapsRec ·)) = true) (a15 : (c.ifaces == (fn.params.toList ++ s.plain.varTypes P).any (P.ifacesRec ·)) = true) (a16 : (c.mapsOut == P.mapsAmong fn.resultTypes.toList) = true)
    (a17 : (c.loops == (fn.params.toList ++ s.plain.varTypes P).any (P.loopsFrom ·)) = true) (a18 : (c.wideKeys == (fn.params.toList ++ s.plain.varTypes P ++ fn.resultTypes.toList).any (P.wideKeysFrom ·)) = true)
    (a19 : s.vars.all (P.varReadable ·) = true) (a20 : fn.resultTypes.all (fun t => P.readableRec t && decide (t < P.types.size)) = true) (a21 : (c.ifacesOut == fn.resultTypes.toList.any (P.ifacesRec ·)) = true)
    (a22 : (c.loopsOut == fn.resultTypes.toList.any (P.loopsFrom ·)) = true) (a23 : (c.plainKeys == P.plainKeys) = true) (a24 : c.shortTexts.isNone = true) (a25 : P.stopsHeard = true) (a26 : P.mayEnter = true)
    (a27 : (c.lifted == P.liftsFinal) = true) (a28 : (P.make == some c.make) = true)
    (a29 : c.domain.isEmpty = true) (a29' : c.kinds = []) (a30 : (c.pinned == c.pinnedBy) = true)
    (a31 : (c.veiled == (fn.params.toList ++ s.plain.varTypes P ++ fn.resultTypes.toList).any (P.veiledRec ·)) = true) (a32 : c.veiledFits P fn.params.toList (fn.params.toList ++ s.plain.varTypes P ++ fn.resultTypes.toList) = true) :
    joinedFacts P f fn s c = true := by
  unfold joinedFacts
  rw [a1, a2, a3, a4, a5, a6, a7, a8, a9, a10, a11, a12, a13, a14, a15, a16, a17, a18, a19, a20, a21, a22, a23, a24, a25, a26, a27, a28, a29, a29', a30, a31, a32]
  rfl
end Go.Abs
namespace Go.Proofs.YtaaajjinpppgeaaGreatDoor
open Go Go.RowKit
set_option maxRecDepth 100000
def headSigns : List Char := [.ofNat 104,.ofNat 97,.ofNat 114,.ofNat 110,.ofNat 101,.ofNat 115,.ofNat 115,.ofNat 32,.ofNat 53,.ofNat 51,.ofNat 55,.ofNat 98,.ofNat 56,.ofNat 49,.ofNat 55,.ofNat 99,.ofNat 48,.ofNat 51,.ofNat 56,.ofNat 53,.ofNat 53,.ofNat 99,.ofNat 100,.ofNat 51,.ofNat 51,.ofNat 97,.ofNat 57,.ofNat 56,.ofNat 53,.ofNat 99,.ofNat 98,.ofNat 54,.ofNat 51,.ofNat 99,.ofNat 101,.ofNat 97,.ofNat 51,.ofNat 98,.ofNat 98,.ofNat 100,.ofNat 50,.ofNat 54,.ofNat 97,.ofNat 57,.ofNat 102,.ofNat 49,.ofNat 50,.ofNat 99,.ofNat 97,.ofNat 52,.ofNat 99,.ofNat 48,.ofNat 99,.ofNat 49,.ofNat 50,.ofNat 48,.ofNat 52,.ofNat 97,.ofNat 102,.ofNat 57,.ofNat 56,.ofNat 99,.ofNat 52,.ofNat 55,.ofNat 101,.ofNat 49,.ofNat 97,.ofNat 49,.ofNat 99,.ofNat 99,.ofNat 100,.ofNat 101,.ofNat 32,.ofNat 99,.ofNat 117,.ofNat 116,.ofNat 32,.ofNat 97,.ofNat 116,.ofNat 32,.ofNat 108,.ofNat 111,.ofNat 111,.ofNat 112,.ofNat 46,.ofNat 101,.ofNat 120,.ofNat 97,.ofNat 109,.ofNat 112,.ofNat 108,.ofNat 101,.ofNat 47,.ofNat 103,.ofNat 48,.ofNat 48,.ofNat 50,.ofNat 51,.ofNat 53,.ofNat 47,.ofNat 108,.ofNat 97,.ofNat 119,.ofNat 115,.ofNat 46,.ofNat 70,.ofNat 110,.ofNat 84,.ofNat 119,.ofNat 111,.ofNat 77,.ofNat 111,.ofNat 118,.ofNat 101,.ofNat 115,.ofNat 32,.ofNat 108,.ofNat 111,.ofNat 111,.ofNat 112,.ofNat 46,.ofNat 101,.ofNat 120,.ofNat 97,.ofNat 109,.ofNat 112,.ofNat 108,.ofNat 101,.ofNat 47,.ofNat 103,.ofNat 48,.ofNat 48,.ofNat 50,.ofNat 51,.ofNat 53,.ofNat 47,.ofNat 108,.ofNat 97,.ofNat 119,.ofNat 115,.ofNat 46,.ofNat 70,.ofNat 110,.ofNat 66,.ofNat 117,.ofNat 115,.ofNat 121,.ofNat 83,.ofNat 108,.ofNat 111,.ofNat 116,.ofNat 115,.ofNat 32,.ofNat 108,.ofNat 111,.ofNat 111,.ofNat 112,.ofNat 46,.ofNat 101,.ofNat 120,.ofNat 97,.ofNat 109,.ofNat 112,.ofNat 108,.ofNat 101,.ofNat 47,.ofNat 103,.ofNat 48,.ofNat 48,.ofNat 50,.ofNat 51,.ofNat 53,.ofNat 47,.ofNat 108,.ofNat 97,.ofNat 119,.ofNat 115,.ofNat 46,.ofNat 70,.ofNat 110,.ofNat 69,.ofNat 120,.ofNat 97,.ofNat 99,.ofNat 116,.ofNat 87,.ofNat 114,.ofNat 105,.ofNat 116,.ofNat 101,.ofNat 84,.ofNat 101,.ofNat 120,.ofNat 116]
theorem head_text : Tryz.prog.initOrder = String.ofList headSigns := by kernel_rfl
theorem head_words : wordsSigns Tryz.prog.initOrder.toList = Go.Abs.wAcc headSigns [] [] := by
  rw [head_text, String.toList_ofList, Go.Abs.words_eq]
theorem head_behind : behindMainWord (wordsSigns Tryz.prog.initOrder.toList) = "cut".toList :: (Go.Abs.wAcc headSigns [] []).drop 3 := by
  rw [head_words]; kernel_rfl
theorem f_lays : Tryz.prog.laysLater = false := by kernel_rfl
theorem f_refl : Tryz.prog.bearsReflect = false := by kernel_rfl
theorem f_door : Tryz.prog.doorFits [] = true := by kernel_rfl
theorem f_mayEnter : Tryz.prog.mayEnter = true := Go.Abs.mayEnter_of head_behind f_lays f_refl f_door
theorem f_liftsFinal : Tryz.prog.liftsFinal = false := Go.Abs.liftsFinal_of head_behind
theorem f_make : Tryz.prog.make = some .cut := Go.Abs.make_of head_behind
theorem laidOut : laidOutB Tryz.prog = true := by kernel_rfl
theorem f_maps : mapsRowed Tryz.prog = true := by kernel_rfl
theorem f_stops : (Tryz.prog.stops == []) = true := by kernel_rfl
theorem f_knobs : (Tryz.prog.stopKnobs == []) = true := by kernel_rfl
theorem f_plain : (true == Tryz.prog.plainKeys) = true := by kernel_rfl
theorem f_heard : Tryz.prog.stopsHeard = true := by kernel_rfl
theorem own : ownKnob Tryz.prog.godebug = none := by kernel_rfl
end Go.Proofs.YtaaajjinpppgeaaGreatDoor
namespace Go.Proofs.YtaaajjinpppgeaaGreatDoor
open Go Go.Abs Go.ChangeShapes Go.WideShapes Go.ChangeAt Go.RowKit
set_option maxRecDepth 100000 in
theorem liftedFnBusySlots (os : Os) (started : os.Started) (H : Type) (enc : TypeId × Value → H) :
    ReturnsInHanded {} Tryz.checked os 4 .any (fun w args => (Rows.fnBusySlotsSpec.pre enc Tryz.prog Tryz.f4 Rows.fnBusySlotsRow.domain false w args ∧ laidMetH Tryz.prog Rows.fnBusySlotsRow.laid w) ∧ sizedMet enc Tryz.prog Tryz.f4 (OpenSpec.ofChange Rows.fnBusySlotsSpec) false w args)
      (Rows.fnBusySlotsSpec.post enc Tryz.prog Tryz.f4 false true false false) := by
  refine returnsInHanded_of_change_and (C := Tryz.checked) (X := fun w _ => laidMetH Tryz.prog Rows.fnBusySlotsRow.laid w) (fun _ _ _ hh h => h.of_heap hh) own started (by kernel_rfl) Tryz.func4
    (ChangeSpec.witness_shaped (enc := enc) (C := Tryz.checked) (os := os) (X := fun w _ => laidMetH Tryz.prog Rows.fnBusySlotsRow.laid w) false (World.laidAll Tryz.prog os Rows.fnBusySlotsRow.laid) #[.slice none 0 0] 8 (World.laidAll_os _ _ _)
      (World.shaped_of_ZipB (by kernel_rfl) (by kernel_rfl)) (by kernel_rfl) (by kernel_rfl) (by kernel_rfl)
      (by rw [MakeChecks.laidMetH_plain _ _ _ (by kernel_rfl)]; exact laidMet_laidAll _ (by kernel_rfl) (by kernel_rfl))) ?_
  intro W base args ds gs before hval hW _ _ _ _
  obtain ⟨p, q, hA, hV, e, _, _⟩ := id hW
  refine (row_calls (P := Tryz.prog) (W := W) (n := 12) (shps := shFnBusySlots) (fun avs h => callsB (isFnBusySlots h)) (ts := Tryz.f4.params.toList) (by kernel_rfl) (fun j t v h1 h2 => hval j t v (by simpa using h1) h2) hA).mono fun e W' ⟨he, hb⟩ => ?_
  refine ⟨_, he, row_post (tb := Tryz.f4.resultTypes.toList.headD 0) laidOut ?_ rfl (by kernel_rfl) (by kernel_rfl) ?_ hW hb⟩
  · exact List.all_eq_true.1 (show Tryz.f4.params.toList.all (fun t => Tryz.prog.readableRec t && decide (t < Tryz.prog.types.size)) = true by kernel_rfl) |> fun h t ht => by simpa using h t ht
  · have hl := trod_len hA
    match ds, hl with
    | [d0], _ => rfl
set_option maxHeartbeats 4000000 in
theorem factsFnBusySlots : joinedFacts Tryz.prog 4 Tryz.f4 Rows.fnBusySlotsSpec Rows.fnBusySlotsRow = true :=
  facts_of (by kernel_rfl) laidOut f_maps (by kernel_rfl) (by kernel_rfl) rfl f_stops rfl f_knobs (by as_aux_lemma => kernel_rfl) (by as_aux_lemma => kernel_rfl) (by as_aux_lemma => kernel_rfl) (by as_aux_lemma => kernel_rfl)
    (by kernel_rfl) (by kernel_rfl) (by kernel_rfl) (by kernel_rfl) (by kernel_rfl) rfl (by kernel_rfl) (by kernel_rfl) (by kernel_rfl) f_plain rfl f_heard f_mayEnter (by rw [f_liftsFinal]; rfl) (by rw [f_make]; rfl) rfl rfl rfl (by kernel_rfl) (by kernel_rfl)
theorem wrapFnBusySlots : Tryz.f4.isWrapper Tryz.prog Rows.fnBusySlotsRow.wrapper Rows.fnBusySlotsRow.mainSum := by
  unfold Func.isWrapper; rw [if_neg (by decide +kernel)]; exact ⟨rfl, rfl⟩
set_option maxHeartbeats 4000000 in
theorem overFnBusySlots : Rows.fnBusySlotsRow.holds Tryz.pinned (OpenSpec.ofChange Rows.fnBusySlotsSpec) :=
  OpenClaim.holds_of_wide 4 Tryz.f4 rfl rfl rfl rfl rfl rfl rfl ⟨rfl, rfl, rfl, rfl, rfl⟩ rfl rfl rfl rfl rfl (by as_aux_lemma => kernel_rfl) Tryz.func4 factsFnBusySlots
    (by as_aux_lemma => exact of_decide_eq_true (by kernel_rfl)) wrapFnBusySlots
    (fun os started H enc _ => liftedFnBusySlots os started H enc)
theorem FnBusySlots_holds : Rows.FnBusySlotsCardSaid :=
  Claim7.holds_tied_plain_at .later [] [.data, .pinned] true (true, "537b817c03855cd33a985cb63cea3bbd26a9f12ca4c0c1204af98c47e1a1ccde") false overFnBusySlots (fun _ h => by cases h) (by kernel_rfl) (fun _ h => by cases h) fnBusySlots_row_tie rfl ⟨rfl, rfl⟩ (by kernel_rfl) rfl
    (fun f fn hf hfn => by
      obtain rfl : f = 4 := Option.some.inj ((show Tryz.prog.funcNamed Rows.fnBusySlotsRow.func = some 4 by kernel_rfl).symm.trans hf) |>.symm
      obtain rfl : fn = Tryz.f4 := (Option.some.inj (Tryz.func4.symm.trans hfn)).symm
      exact ⟨by kernel_rfl, fun j t ht => by
        have hm : t ∈ Tryz.f4.params.toList := by simpa using Array.mem_of_getElem? ht
        have hall : (Tryz.f4.params.toList.all fun u => !Tryz.prog.wantsStandIn u) = true := by kernel_rfl
        exact (show Tryz.prog.wantsStandIn t = false by simpa using List.all_eq_true.1 hall t hm)⟩)
    (by kernel_rfl)
end Go.Proofs.YtaaajjinpppgeaaGreatDoor
