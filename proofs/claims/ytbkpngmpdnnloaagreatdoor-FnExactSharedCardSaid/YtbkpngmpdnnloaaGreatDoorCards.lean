/-
  DERIVED. GIVEN WITH THE SEED: THE CARDS: each row of YtbkpngmpdnnloaaGreatDoorRows.lean that lists a variable, with what it lists TIED to the program's text (the seventh form; the later family's looks); each row that meets fmt, with fmt's text TOLD by the authors' own Lean function (tested against real Go, not proved from fmt's source: count such statements apart). THE CARD IS WHAT COUNTS. Prove the row's statement (the work); the ties are given (YtbkpngmpdnnloaaGreatDoorTie.lean); close each card by the builder's one call (the guide's Derived/Test/ToyasCard.lean, 'card_holds'). Laid BY PROGRAM, IN A SANDBOX (cutbox-door.mjs). By AI agents, Wed Nov 11 2026. No macro, syntax, notation, axiom, sorry.
-/
import Derived.Test.YtbkpngmpdnnloaaGreatDoorRows
import GoSem.ClaimSeven
namespace Go.Proofs.YtbkpngmpdnnloaaGreatDoor
namespace Rows

/-- THE TIED CARD OF 'laws.FnExactShared'. -/
def fnExactSharedCard : Claim7 := { stood := { row := fnExactSharedRow, standIns := [], harness := (true, "4794734dace8ad5cc0bcacfe369567c0c34ed1cecf616106dbeee720351f2124"), looks := false }, kinds := [], alts := [], laidByText := true, laidKinds := [.data, .data, .data, .data, .pinned], laidTests := true, laidLooks := .later }
def FnExactSharedCardSaid : Prop := Claim7.holds Tryz.pinned (.plain (OpenSpec.ofChange fnExactSharedSpec)) fnExactSharedCard

/-- THE SECOND FORM's CARD OF 'laws.FnExactShared'. -/
def fnExactSharedUptoCard : Claim7 := { stood := { row := fnExactSharedUptoRow, standIns := [], harness := (true, "4794734dace8ad5cc0bcacfe369567c0c34ed1cecf616106dbeee720351f2124"), looks := false }, kinds := [], alts := [], laidByText := true, laidKinds := [.data, .data, .data, .data, .pinned], laidTests := true, laidLooks := .later }
def FnExactSharedUptoCardSaid : Prop := Claim7.holds Tryz.pinned (.plain (OpenSpec.upto fnExactSharedSpec)) fnExactSharedUptoCard
end Rows
end Go.Proofs.YtbkpngmpdnnloaaGreatDoor
