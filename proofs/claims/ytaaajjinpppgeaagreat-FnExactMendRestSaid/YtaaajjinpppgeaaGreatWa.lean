/- The words of a program's head, split without waste. Own work; no condition. -/
import GoSem.ClaimOpenFrom
import GoSem.ClaimJoined
import Derived.JoinedOf
import Derived.ProofKit
import Derived.KernelRfl
set_option linter.unusedVariables false
set_option linter.unusedSimpArgs false
set_option linter.unusedSectionVars false
namespace Go.Abs
open Go
def wAcc : List Char → List Char → List (List Char) → List (List Char)
  | [], cur, acc => (cur.reverse :: acc).reverse
  | c :: r, cur, acc => if c.toNat = 32 then wAcc r [] (cur.reverse :: acc) else wAcc r (c :: cur) acc
def joinW (cur : List Char) : List (List Char) → List (List Char)
  | w :: ws => (cur ++ w) :: ws
  | [] => [cur]
theorem ws_c (c : Char) (r : List Char) : wordsSigns (c :: r) = if c.toNat = 32 then [] :: wordsSigns r else joinW [c] (wordsSigns r) := by
  by_cases h : c.toNat = 32
  · rw [if_pos h]
    have : c = Char.ofNat 32 := by
      apply Char.ext
      apply UInt32.toNat_inj.1
      exact h
    subst this; rfl
  · rw [if_neg h]
    rw [wordsSigns.eq_3 _ _ (fun e => h (by rw [e]; rfl))]
    cases wordsSigns r <;> rfl
theorem ws_ne (l : List Char) : wordsSigns l ≠ [] := by
  cases l with
  | nil => simp [wordsSigns]
  | cons c r =>
    rw [ws_c]
    split
    · simp
    · cases wordsSigns r <;> simp [joinW]
theorem wAcc_eq : ∀ (l cur : List Char) (acc : List (List Char)), wAcc l cur acc = acc.reverse ++ joinW cur.reverse (wordsSigns l) := by
  intro l
  induction l with
  | nil => intro cur acc; simp [wAcc, wordsSigns, joinW]
  | cons c r ih =>
    intro cur acc
    simp only [wAcc]
    rw [ws_c]
    by_cases h : c.toNat = 32
    · rw [if_pos h, if_pos h, ih]
      cases hr : wordsSigns r with
      | nil => exact absurd hr (ws_ne r)
      | cons w ws => simp [joinW]
    · rw [if_neg h, if_neg h, ih]
      cases wordsSigns r <;> simp [joinW]
theorem words_eq (l : List Char) : wordsSigns l = wAcc l [] [] := by
  rw [wAcc_eq]
  have := ws_ne l
  cases h : wordsSigns l with
  | nil => exact absurd h this
  | cons w ws => simp [joinW]
theorem strip_cut (r : List (List Char)) : stripLifts liftWords ("cut".toList :: r) = ([], "cut".toList :: r) := by kernel_rfl
theorem lifts_of {P : Program} {r : List (List Char)} (h : behindMainWord (wordsSigns P.initOrder.toList) = "cut".toList :: r) : P.headLifts = [] := by
  unfold Program.headLifts
  rw [h, strip_cut]; kernel_rfl
theorem liftsFinal_of {P : Program} {r : List (List Char)} (h : behindMainWord (wordsSigns P.initOrder.toList) = "cut".toList :: r) : P.liftsFinal = false := by
  unfold Program.liftsFinal
  rw [h, lifts_of h]; kernel_rfl
theorem make_of {P : Program} {r : List (List Char)} (h : behindMainWord (wordsSigns P.initOrder.toList) = "cut".toList :: r) : P.make = some .cut := by
  unfold Program.make
  rw [h]; kernel_rfl
theorem mayEnter_of {P : Program} {r : List (List Char)} (h : behindMainWord (wordsSigns P.initOrder.toList) = "cut".toList :: r) (h1 : P.laysLater = false) (h2 : P.bearsReflect = false) (h3 : P.doorFits [] = true) : P.mayEnter = true := by
  unfold Program.mayEnter
  rw [h]
  simp only [strip_cut, h1, h2, h3]
  kernel_rfl
open Go.RowKit in
/-- The closed facts of a row, one by one. -/
theorem facts_of {P : Program} {f : FuncId} {fn : Func} {s : ChangeSpec} {c : OpenClaim} (a1 : c.wf (OpenSpec.ofChange s) = true) (a2 : laidOutB P = true) (a3 : mapsRowed P = true)
    (a4 : fn.params.all (P.readableRec ·) = true) (a5 : namedTie P c.named s.vars = true) (a6 : (c.stops == []) = true) (a7 : (P.stops == []) = true) (a8 : (c.knobs == []) = true) (a9 : (P.stopKnobs == []) = true)
    (a10 : (c.inPlace == P.inPlace f) = true) (a11 : (c.unfollowed == P.unfollowed f) = true) (a12 : (c.recurses == P.recurses f) = true) (a13 : (c.named == P.varsNamed f) = true)
    (a14 : (c.maps == (fn.params.toList ++ s.plain.varTypes P).any (P.mapsRec ·)) = true) (a15 : (c.ifaces == (fn.params.toList ++ s.plain.varTypes P).any (P.ifacesRec ·)) = true) (a16 : (c.mapsOut == P.mapsAmong fn.resultTypes.toList) = true)
    (a17 : (c.loops == (fn.params.toList ++ s.plain.varTypes P).any (P.loopsFrom ·)) = true) (a18 : (c.wideKeys == (fn.params.toList ++ s.plain.varTypes P ++ fn.resultTypes.toList).any (P.wideKeysFrom ·)) = true)
    (a19 : s.vars.all (P.varReadable ·) = true) (a20 : fn.resultTypes.all (fun t => P.readableRec t && decide (t < P.types.size)) = true) (a21 : (c.ifacesOut == fn.resultTypes.toList.any (P.ifacesRec ·)) = true)
    (a22 : (c.loopsOut == fn.resultTypes.toList.any (P.loopsFrom ·)) = true) (a23 : (c.plainKeys == P.plainKeys) = true) (a24 : c.shortTexts.isNone = true) (a25 : P.stopsHeard = true) (a26 : P.mayEnter = true)
    (a27 : (c.lifted == P.liftsFinal) = true) (a28 : (P.make == some c.make) = true)
    (a29 : c.domain.isEmpty = true) (a29' : c.kinds = []) (a30 : (c.pinned == c.pinnedBy) = true)
    (a31 : (c.veiled == (fn.params.toList ++ s.plain.varTypes P ++ fn.resultTypes.toList).any (P.veiledRec ·)) = true) (a32 : c.veiledFits P fn.params.toList (fn.params.toList ++ s.plain.varTypes P ++ fn.resultTypes.toList) = true) :
    joinedFacts P f fn s c = true := by
  unfold joinedFacts
  rw [a1, a2, a3, a4, a5, a6, a7, a8, a9, a10, a11, a12, a13, a14, a15, a16, a17, a18, a19, a20, a21, a22, a23, a24, a25, a26, a27, a28, a29, a29', a30, a31, a32]
  rfl
end Go.Abs
