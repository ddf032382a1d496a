/-
  DERIVED. GIVEN WITH THE SEED: THE CARDS: each row of YtaaajjinpppgeaaDoorRows.lean that lists a variable, with what it lists TIED to the program's text (the seventh form; the later family's looks); each row that meets fmt, with fmt's text TOLD by the authors' own Lean function (tested against real Go, not proved from fmt's source: count such statements apart). THE CARD IS WHAT COUNTS. Prove the row's statement (the work); the ties are given (YtaaajjinpppgeaaDoorTie.lean); close each card by the builder's one call (the guide's Derived/Test/ToyasCard.lean, 'card_holds'). Laid BY PROGRAM, IN A SANDBOX (cutbox-door.mjs). By AI agents, Wed Nov 11 2026. No macro, syntax, notation, axiom, sorry.
-/
import Derived.Test.YtaaajjinpppgeaaDoorRows
import GoSem.ClaimSeven
namespace Go.Proofs.YtaaajjinpppgeaaDoor
namespace Rows

/-- THE TIED CARD OF 'laws.FnExactSplitPath'. -/
def fnExactSplitPathCard : Claim7 := { stood := { row := fnExactSplitPathRow, standIns := [], harness := (true, "db3a61d88b44c551bbc9b75036230daa035bb80e0c9ee80d645a66a8cc5bad6f"), looks := false }, kinds := [], alts := [], laidByText := true, laidKinds := [.data, .pinned], laidTests := true, laidLooks := .later }
def FnExactSplitPathCardSaid : Prop := Claim7.holds Tryd.pinned (.plain (OpenSpec.ofChange fnExactSplitPathSpec)) fnExactSplitPathCard

/-- THE TIED CARD OF 'laws.FnManyNames'. -/
def fnManyNamesCard : Claim7 := { stood := { row := fnManyNamesRow, standIns := [], harness := (true, "db3a61d88b44c551bbc9b75036230daa035bb80e0c9ee80d645a66a8cc5bad6f"), looks := false }, kinds := [], alts := [], laidByText := true, laidKinds := [.data, .pinned], laidTests := true, laidLooks := .later }
def FnManyNamesCardSaid : Prop := Claim7.holds Tryd.pinned (.plain (OpenSpec.ofChange fnManyNamesSpec)) fnManyNamesCard

/-- THE SECOND FORM's CARD OF 'laws.FnExactSplitPath'. -/
def fnExactSplitPathUptoCard : Claim7 := { stood := { row := fnExactSplitPathUptoRow, standIns := [], harness := (true, "db3a61d88b44c551bbc9b75036230daa035bb80e0c9ee80d645a66a8cc5bad6f"), looks := false }, kinds := [], alts := [], laidByText := true, laidKinds := [.data, .pinned], laidTests := true, laidLooks := .later }
def FnExactSplitPathUptoCardSaid : Prop := Claim7.holds Tryd.pinned (.plain (OpenSpec.upto fnExactSplitPathSpec)) fnExactSplitPathUptoCard

/-- THE SECOND FORM's CARD OF 'laws.FnManyNames'. -/
def fnManyNamesUptoCard : Claim7 := { stood := { row := fnManyNamesUptoRow, standIns := [], harness := (true, "db3a61d88b44c551bbc9b75036230daa035bb80e0c9ee80d645a66a8cc5bad6f"), looks := false }, kinds := [], alts := [], laidByText := true, laidKinds := [.data, .pinned], laidTests := true, laidLooks := .later }
def FnManyNamesUptoCardSaid : Prop := Claim7.holds Tryd.pinned (.plain (OpenSpec.upto fnManyNamesSpec)) fnManyNamesUptoCard
end Rows
end Go.Proofs.YtaaajjinpppgeaaDoor
