/-
  DERIVED. GIVEN WITH THE SEED: THE CARDS: each row of YtaaajjinpppgeaaGreatDoorRows.lean that lists a variable, with what it lists TIED to the program's text (the seventh form; the later family's looks); each row that meets fmt, with fmt's text TOLD by the authors' own Lean function (tested against real Go, not proved from fmt's source: count such statements apart). THE CARD IS WHAT COUNTS. Prove the row's statement (the work); the ties are given (YtaaajjinpppgeaaGreatDoorTie.lean); close each card by the builder's one call (the guide's Derived/Test/ToyasCard.lean, 'card_holds'). Laid BY PROGRAM, IN A SANDBOX (cutbox-door.mjs). By AI agents, Wed Nov 11 2026. No macro, syntax, notation, axiom, sorry.
-/
import Derived.Test.YtaaajjinpppgeaaGreatDoorRows
import GoSem.ClaimSeven
namespace Go.Proofs.YtaaajjinpppgeaaGreatDoor
namespace Rows

/-- THE TIED CARD OF 'laws.FnTwoMoves'. -/
def fnTwoMovesCard : Claim7 := { stood := { row := fnTwoMovesRow, standIns := [], harness := (true, "537b817c03855cd33a985cb63cea3bbd26a9f12ca4c0c1204af98c47e1a1ccde"), looks := false }, kinds := [], alts := [], laidByText := true, laidKinds := [.data, .pinned], laidTests := true, laidLooks := .later }
def FnTwoMovesCardSaid : Prop := Claim7.holds Tryz.pinned (.plain (OpenSpec.ofChange fnTwoMovesSpec)) fnTwoMovesCard

/-- THE TIED CARD OF 'laws.FnBusySlots'. -/
def fnBusySlotsCard : Claim7 := { stood := { row := fnBusySlotsRow, standIns := [], harness := (true, "537b817c03855cd33a985cb63cea3bbd26a9f12ca4c0c1204af98c47e1a1ccde"), looks := false }, kinds := [], alts := [], laidByText := true, laidKinds := [.data, .pinned], laidTests := true, laidLooks := .later }
def FnBusySlotsCardSaid : Prop := Claim7.holds Tryz.pinned (.plain (OpenSpec.ofChange fnBusySlotsSpec)) fnBusySlotsCard

/-- THE TIED CARD OF 'laws.FnExactWriteText'. -/
def fnExactWriteTextCard : Claim7 := { stood := { row := fnExactWriteTextRow, standIns := [], harness := (true, "537b817c03855cd33a985cb63cea3bbd26a9f12ca4c0c1204af98c47e1a1ccde"), looks := false }, kinds := [], alts := [], laidByText := true, laidKinds := [.data, .pinned], laidTests := true, laidLooks := .later }
def FnExactWriteTextCardSaid : Prop := Claim7.holds Tryz.pinned (.plain (OpenSpec.ofChange fnExactWriteTextSpec)) fnExactWriteTextCard

/-- THE SECOND FORM's CARD OF 'laws.FnTwoMoves'. -/
def fnTwoMovesUptoCard : Claim7 := { stood := { row := fnTwoMovesUptoRow, standIns := [], harness := (true, "537b817c03855cd33a985cb63cea3bbd26a9f12ca4c0c1204af98c47e1a1ccde"), looks := false }, kinds := [], alts := [], laidByText := true, laidKinds := [.data, .pinned], laidTests := true, laidLooks := .later }
def FnTwoMovesUptoCardSaid : Prop := Claim7.holds Tryz.pinned (.plain (OpenSpec.upto fnTwoMovesSpec)) fnTwoMovesUptoCard

/-- THE SECOND FORM's CARD OF 'laws.FnBusySlots'. -/
def fnBusySlotsUptoCard : Claim7 := { stood := { row := fnBusySlotsUptoRow, standIns := [], harness := (true, "537b817c03855cd33a985cb63cea3bbd26a9f12ca4c0c1204af98c47e1a1ccde"), looks := false }, kinds := [], alts := [], laidByText := true, laidKinds := [.data, .pinned], laidTests := true, laidLooks := .later }
def FnBusySlotsUptoCardSaid : Prop := Claim7.holds Tryz.pinned (.plain (OpenSpec.upto fnBusySlotsSpec)) fnBusySlotsUptoCard

/-- THE SECOND FORM's CARD OF 'laws.FnExactWriteText'. -/
def fnExactWriteTextUptoCard : Claim7 := { stood := { row := fnExactWriteTextUptoRow, standIns := [], harness := (true, "537b817c03855cd33a985cb63cea3bbd26a9f12ca4c0c1204af98c47e1a1ccde"), looks := false }, kinds := [], alts := [], laidByText := true, laidKinds := [.data, .pinned], laidTests := true, laidLooks := .later }
def FnExactWriteTextUptoCardSaid : Prop := Claim7.holds Tryz.pinned (.plain (OpenSpec.upto fnExactWriteTextSpec)) fnExactWriteTextUptoCard
end Rows
end Go.Proofs.YtaaajjinpppgeaaGreatDoor
