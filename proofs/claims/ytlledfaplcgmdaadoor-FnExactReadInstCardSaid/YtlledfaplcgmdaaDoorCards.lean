/-
  DERIVED. GIVEN WITH THE SEED: THE CARDS: each row of YtlledfaplcgmdaaDoorRows.lean that lists a variable, with what it lists TIED to the program's text (the seventh form; the later family's looks); each row that meets fmt, with fmt's text TOLD by the authors' own Lean function (tested against real Go, not proved from fmt's source: count such statements apart). THE CARD IS WHAT COUNTS. Prove the row's statement (the work); the ties are given (YtlledfaplcgmdaaDoorTie.lean); close each card by the builder's one call (the guide's Derived/Test/ToyasCard.lean, 'card_holds'). Laid BY PROGRAM, IN A SANDBOX (cutbox-door.mjs). By AI agents, Wed Nov 11 2026. No macro, syntax, notation, axiom, sorry.
-/
import Derived.Test.YtlledfaplcgmdaaDoorRows
import GoSem.ClaimSeven
namespace Go.Proofs.YtlledfaplcgmdaaDoor
namespace Rows

/-- THE TIED CARD OF 'laws.FnExactReadInst'. -/
def fnExactReadInstCard : Claim7 := { stood := { row := fnExactReadInstRow, standIns := [], harness := (true, "ba3ed903bb5898871f1fc02567e74eb8f35d21342137f4360cec322d306f12aa"), looks := true }, kinds := [], alts := [], laidByText := true, laidKinds := [.data, .data, .data, .data, .sentinel, .sentinel, .pinned], laidTests := true, laidLooks := .later }
def FnExactReadInstCardSaid : Prop := Claim7.holds Tryd.pinned (.plain (OpenSpec.ofChange fnExactReadInstSpec)) fnExactReadInstCard

/-- THE SECOND FORM's CARD OF 'laws.FnExactReadInst'. -/
def fnExactReadInstUptoCard : Claim7 := { stood := { row := fnExactReadInstUptoRow, standIns := [], harness := (true, "ba3ed903bb5898871f1fc02567e74eb8f35d21342137f4360cec322d306f12aa"), looks := true }, kinds := [], alts := [], laidByText := true, laidKinds := [.data, .data, .data, .data, .sentinel, .sentinel, .pinned], laidTests := true, laidLooks := .later }
def FnExactReadInstUptoCardSaid : Prop := Claim7.holds Tryd.pinned (.plain (OpenSpec.upto fnExactReadInstSpec)) fnExactReadInstUptoCard
end Rows
end Go.Proofs.YtlledfaplcgmdaaDoor
