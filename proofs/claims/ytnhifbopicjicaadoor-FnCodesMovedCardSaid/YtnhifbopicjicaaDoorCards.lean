/-
  DERIVED. GIVEN WITH THE SEED: THE CARDS: each row of YtnhifbopicjicaaDoorRows.lean that lists a variable, with what it lists TIED to the program's text (the seventh form; the later family's looks); each row that meets fmt, with fmt's text TOLD by the authors' own Lean function (tested against real Go, not proved from fmt's source: count such statements apart). THE CARD IS WHAT COUNTS. Prove the row's statement (the work); the ties are given (YtnhifbopicjicaaDoorTie.lean); close each card by the builder's one call (the guide's Derived/Test/ToyasCard.lean, 'card_holds'). Laid BY PROGRAM, IN A SANDBOX (cutbox-door.mjs). By AI agents, Wed Nov 11 2026. No macro, syntax, notation, axiom, sorry.
-/
import Derived.Test.YtnhifbopicjicaaDoorRows
import GoSem.ClaimSeven
namespace Go.Proofs.YtnhifbopicjicaaDoor
namespace Rows

/-- THE TIED CARD OF 'laws.FnExactNextReflected'. -/
def fnExactNextReflectedCard : Claim7 := { stood := { row := fnExactNextReflectedRow, standIns := [], harness := (true, "09e3e8b9602b2f18d403d6babfd11d8d8555d50c2d7accbcd7fdde317ac8b138"), looks := false }, kinds := [], alts := [], laidByText := true, laidKinds := [.data, .data], laidTests := true, laidLooks := .later }
def FnExactNextReflectedCardSaid : Prop := Claim7.holds Tryd.pinned (.plain (OpenSpec.ofChange fnExactNextReflectedSpec)) fnExactNextReflectedCard

/-- THE TIED CARD OF 'laws.FnExactCountCodes'. -/
def fnExactCountCodesCard : Claim7 := { stood := { row := fnExactCountCodesRow, standIns := [], harness := (true, "09e3e8b9602b2f18d403d6babfd11d8d8555d50c2d7accbcd7fdde317ac8b138"), looks := false }, kinds := [], alts := [], laidByText := true, laidKinds := [.data, .data], laidTests := true, laidLooks := .later }
def FnExactCountCodesCardSaid : Prop := Claim7.holds Tryd.pinned (.plain (OpenSpec.ofChange fnExactCountCodesSpec)) fnExactCountCodesCard

/-- THE TIED CARD OF 'laws.FnExactDeltasOf'. -/
def fnExactDeltasOfCard : Claim7 := { stood := { row := fnExactDeltasOfRow, standIns := [], harness := (true, "09e3e8b9602b2f18d403d6babfd11d8d8555d50c2d7accbcd7fdde317ac8b138"), looks := false }, kinds := [], alts := [], laidByText := true, laidKinds := [.data, .data], laidTests := true, laidLooks := .later }
def FnExactDeltasOfCardSaid : Prop := Claim7.holds Tryd.pinned (.plain (OpenSpec.ofChange fnExactDeltasOfSpec)) fnExactDeltasOfCard

/-- THE TIED CARD OF 'laws.FnExactChangesOf'. -/
def fnExactChangesOfCard : Claim7 := { stood := { row := fnExactChangesOfRow, standIns := [], harness := (true, "09e3e8b9602b2f18d403d6babfd11d8d8555d50c2d7accbcd7fdde317ac8b138"), looks := false }, kinds := [], alts := [], laidByText := true, laidKinds := [.data, .data], laidTests := true, laidLooks := .later }
def FnExactChangesOfCardSaid : Prop := Claim7.holds Tryd.pinned (.plain (OpenSpec.ofChange fnExactChangesOfSpec)) fnExactChangesOfCard

/-- THE TIED CARD OF 'laws.FnExactIsCode'. -/
def fnExactIsCodeCard : Claim7 := { stood := { row := fnExactIsCodeRow, standIns := [], harness := (true, "09e3e8b9602b2f18d403d6babfd11d8d8555d50c2d7accbcd7fdde317ac8b138"), looks := false }, kinds := [], alts := [], laidByText := true, laidKinds := [.data, .data], laidTests := true, laidLooks := .later }
def FnExactIsCodeCardSaid : Prop := Claim7.holds Tryd.pinned (.plain (OpenSpec.ofChange fnExactIsCodeSpec)) fnExactIsCodeCard

/-- THE TIED CARD OF 'laws.FnExactIsRoundCode'. -/
def fnExactIsRoundCodeCard : Claim7 := { stood := { row := fnExactIsRoundCodeRow, standIns := [], harness := (true, "09e3e8b9602b2f18d403d6babfd11d8d8555d50c2d7accbcd7fdde317ac8b138"), looks := false }, kinds := [], alts := [], laidByText := true, laidKinds := [.data, .data], laidTests := true, laidLooks := .later }
def FnExactIsRoundCodeCardSaid : Prop := Claim7.holds Tryd.pinned (.plain (OpenSpec.ofChange fnExactIsRoundCodeSpec)) fnExactIsRoundCodeCard

/-- THE TIED CARD OF 'laws.FnExactLeastRun'. -/
def fnExactLeastRunCard : Claim7 := { stood := { row := fnExactLeastRunRow, standIns := [], harness := (true, "09e3e8b9602b2f18d403d6babfd11d8d8555d50c2d7accbcd7fdde317ac8b138"), looks := false }, kinds := [], alts := [], laidByText := true, laidKinds := [.data, .data], laidTests := true, laidLooks := .later }
def FnExactLeastRunCardSaid : Prop := Claim7.holds Tryd.pinned (.plain (OpenSpec.ofChange fnExactLeastRunSpec)) fnExactLeastRunCard

/-- THE TIED CARD OF 'laws.FnExactIsEvenlyChanged'. -/
def fnExactIsEvenlyChangedCard : Claim7 := { stood := { row := fnExactIsEvenlyChangedRow, standIns := [], harness := (true, "09e3e8b9602b2f18d403d6babfd11d8d8555d50c2d7accbcd7fdde317ac8b138"), looks := false }, kinds := [], alts := [], laidByText := true, laidKinds := [.data, .data], laidTests := true, laidLooks := .later }
def FnExactIsEvenlyChangedCardSaid : Prop := Claim7.holds Tryd.pinned (.plain (OpenSpec.ofChange fnExactIsEvenlyChangedSpec)) fnExactIsEvenlyChangedCard

/-- THE TIED CARD OF 'laws.FnExactPathThrough'. -/
def fnExactPathThroughCard : Claim7 := { stood := { row := fnExactPathThroughRow, standIns := [], harness := (true, "09e3e8b9602b2f18d403d6babfd11d8d8555d50c2d7accbcd7fdde317ac8b138"), looks := false }, kinds := [], alts := [], laidByText := true, laidKinds := [.data, .data], laidTests := true, laidLooks := .later }
def FnExactPathThroughCardSaid : Prop := Claim7.holds Tryd.pinned (.plain (OpenSpec.ofChange fnExactPathThroughSpec)) fnExactPathThroughCard

/-- THE TIED CARD OF 'laws.FnCodes'. -/
def fnCodesCard : Claim7 := { stood := { row := fnCodesRow, standIns := [], harness := (true, "09e3e8b9602b2f18d403d6babfd11d8d8555d50c2d7accbcd7fdde317ac8b138"), looks := false }, kinds := [], alts := [], laidByText := true, laidKinds := [.data, .data], laidTests := true, laidLooks := .later }
def FnCodesCardSaid : Prop := Claim7.holds Tryd.pinned (.plain (OpenSpec.ofChange fnCodesSpec)) fnCodesCard

/-- THE TIED CARD OF 'laws.FnRuns'. -/
def fnRunsCard : Claim7 := { stood := { row := fnRunsRow, standIns := [], harness := (true, "09e3e8b9602b2f18d403d6babfd11d8d8555d50c2d7accbcd7fdde317ac8b138"), looks := false }, kinds := [], alts := [], laidByText := true, laidKinds := [.data, .data], laidTests := true, laidLooks := .later }
def FnRunsCardSaid : Prop := Claim7.holds Tryd.pinned (.plain (OpenSpec.ofChange fnRunsSpec)) fnRunsCard

/-- THE TIED CARD OF 'laws.FnCodesMoved'. -/
def fnCodesMovedCard : Claim7 := { stood := { row := fnCodesMovedRow, standIns := [], harness := (true, "09e3e8b9602b2f18d403d6babfd11d8d8555d50c2d7accbcd7fdde317ac8b138"), looks := false }, kinds := [], alts := [], laidByText := true, laidKinds := [.data, .data], laidTests := true, laidLooks := .later }
def FnCodesMovedCardSaid : Prop := Claim7.holds Tryd.pinned (.plain (OpenSpec.ofChange fnCodesMovedSpec)) fnCodesMovedCard

/-- THE TIED CARD OF 'laws.FnReflected'. -/
def fnReflectedCard : Claim7 := { stood := { row := fnReflectedRow, standIns := [], harness := (true, "09e3e8b9602b2f18d403d6babfd11d8d8555d50c2d7accbcd7fdde317ac8b138"), looks := false }, kinds := [], alts := [], laidByText := true, laidKinds := [.data, .data], laidTests := true, laidLooks := .later }
def FnReflectedCardSaid : Prop := Claim7.holds Tryd.pinned (.plain (OpenSpec.ofChange fnReflectedSpec)) fnReflectedCard

/-- THE TIED CARD OF 'laws.FnPathsThroughWords'. -/
def fnPathsThroughWordsCard : Claim7 := { stood := { row := fnPathsThroughWordsRow, standIns := [], harness := (true, "09e3e8b9602b2f18d403d6babfd11d8d8555d50c2d7accbcd7fdde317ac8b138"), looks := false }, kinds := [], alts := [], laidByText := true, laidKinds := [.data, .data], laidTests := true, laidLooks := .later }
def FnPathsThroughWordsCardSaid : Prop := Claim7.holds Tryd.pinned (.plain (OpenSpec.ofChange fnPathsThroughWordsSpec)) fnPathsThroughWordsCard

/-- THE SECOND FORM's CARD OF 'laws.FnExactNextReflected'. -/
def fnExactNextReflectedUptoCard : Claim7 := { stood := { row := fnExactNextReflectedUptoRow, standIns := [], harness := (true, "09e3e8b9602b2f18d403d6babfd11d8d8555d50c2d7accbcd7fdde317ac8b138"), looks := false }, kinds := [], alts := [], laidByText := true, laidKinds := [.data, .data], laidTests := true, laidLooks := .later }
def FnExactNextReflectedUptoCardSaid : Prop := Claim7.holds Tryd.pinned (.plain (OpenSpec.upto fnExactNextReflectedSpec)) fnExactNextReflectedUptoCard

/-- THE SECOND FORM's CARD OF 'laws.FnExactCountCodes'. -/
def fnExactCountCodesUptoCard : Claim7 := { stood := { row := fnExactCountCodesUptoRow, standIns := [], harness := (true, "09e3e8b9602b2f18d403d6babfd11d8d8555d50c2d7accbcd7fdde317ac8b138"), looks := false }, kinds := [], alts := [], laidByText := true, laidKinds := [.data, .data], laidTests := true, laidLooks := .later }
def FnExactCountCodesUptoCardSaid : Prop := Claim7.holds Tryd.pinned (.plain (OpenSpec.upto fnExactCountCodesSpec)) fnExactCountCodesUptoCard

/-- THE SECOND FORM's CARD OF 'laws.FnExactDeltasOf'. -/
def fnExactDeltasOfUptoCard : Claim7 := { stood := { row := fnExactDeltasOfUptoRow, standIns := [], harness := (true, "09e3e8b9602b2f18d403d6babfd11d8d8555d50c2d7accbcd7fdde317ac8b138"), looks := false }, kinds := [], alts := [], laidByText := true, laidKinds := [.data, .data], laidTests := true, laidLooks := .later }
def FnExactDeltasOfUptoCardSaid : Prop := Claim7.holds Tryd.pinned (.plain (OpenSpec.upto fnExactDeltasOfSpec)) fnExactDeltasOfUptoCard

/-- THE SECOND FORM's CARD OF 'laws.FnExactChangesOf'. -/
def fnExactChangesOfUptoCard : Claim7 := { stood := { row := fnExactChangesOfUptoRow, standIns := [], harness := (true, "09e3e8b9602b2f18d403d6babfd11d8d8555d50c2d7accbcd7fdde317ac8b138"), looks := false }, kinds := [], alts := [], laidByText := true, laidKinds := [.data, .data], laidTests := true, laidLooks := .later }
def FnExactChangesOfUptoCardSaid : Prop := Claim7.holds Tryd.pinned (.plain (OpenSpec.upto fnExactChangesOfSpec)) fnExactChangesOfUptoCard

/-- THE SECOND FORM's CARD OF 'laws.FnExactIsCode'. -/
def fnExactIsCodeUptoCard : Claim7 := { stood := { row := fnExactIsCodeUptoRow, standIns := [], harness := (true, "09e3e8b9602b2f18d403d6babfd11d8d8555d50c2d7accbcd7fdde317ac8b138"), looks := false }, kinds := [], alts := [], laidByText := true, laidKinds := [.data, .data], laidTests := true, laidLooks := .later }
def FnExactIsCodeUptoCardSaid : Prop := Claim7.holds Tryd.pinned (.plain (OpenSpec.upto fnExactIsCodeSpec)) fnExactIsCodeUptoCard

/-- THE SECOND FORM's CARD OF 'laws.FnExactIsRoundCode'. -/
def fnExactIsRoundCodeUptoCard : Claim7 := { stood := { row := fnExactIsRoundCodeUptoRow, standIns := [], harness := (true, "09e3e8b9602b2f18d403d6babfd11d8d8555d50c2d7accbcd7fdde317ac8b138"), looks := false }, kinds := [], alts := [], laidByText := true, laidKinds := [.data, .data], laidTests := true, laidLooks := .later }
def FnExactIsRoundCodeUptoCardSaid : Prop := Claim7.holds Tryd.pinned (.plain (OpenSpec.upto fnExactIsRoundCodeSpec)) fnExactIsRoundCodeUptoCard

/-- THE SECOND FORM's CARD OF 'laws.FnExactLeastRun'. -/
def fnExactLeastRunUptoCard : Claim7 := { stood := { row := fnExactLeastRunUptoRow, standIns := [], harness := (true, "09e3e8b9602b2f18d403d6babfd11d8d8555d50c2d7accbcd7fdde317ac8b138"), looks := false }, kinds := [], alts := [], laidByText := true, laidKinds := [.data, .data], laidTests := true, laidLooks := .later }
def FnExactLeastRunUptoCardSaid : Prop := Claim7.holds Tryd.pinned (.plain (OpenSpec.upto fnExactLeastRunSpec)) fnExactLeastRunUptoCard

/-- THE SECOND FORM's CARD OF 'laws.FnExactIsEvenlyChanged'. -/
def fnExactIsEvenlyChangedUptoCard : Claim7 := { stood := { row := fnExactIsEvenlyChangedUptoRow, standIns := [], harness := (true, "09e3e8b9602b2f18d403d6babfd11d8d8555d50c2d7accbcd7fdde317ac8b138"), looks := false }, kinds := [], alts := [], laidByText := true, laidKinds := [.data, .data], laidTests := true, laidLooks := .later }
def FnExactIsEvenlyChangedUptoCardSaid : Prop := Claim7.holds Tryd.pinned (.plain (OpenSpec.upto fnExactIsEvenlyChangedSpec)) fnExactIsEvenlyChangedUptoCard

/-- THE SECOND FORM's CARD OF 'laws.FnExactPathThrough'. -/
def fnExactPathThroughUptoCard : Claim7 := { stood := { row := fnExactPathThroughUptoRow, standIns := [], harness := (true, "09e3e8b9602b2f18d403d6babfd11d8d8555d50c2d7accbcd7fdde317ac8b138"), looks := false }, kinds := [], alts := [], laidByText := true, laidKinds := [.data, .data], laidTests := true, laidLooks := .later }
def FnExactPathThroughUptoCardSaid : Prop := Claim7.holds Tryd.pinned (.plain (OpenSpec.upto fnExactPathThroughSpec)) fnExactPathThroughUptoCard

/-- THE SECOND FORM's CARD OF 'laws.FnCodes'. -/
def fnCodesUptoCard : Claim7 := { stood := { row := fnCodesUptoRow, standIns := [], harness := (true, "09e3e8b9602b2f18d403d6babfd11d8d8555d50c2d7accbcd7fdde317ac8b138"), looks := false }, kinds := [], alts := [], laidByText := true, laidKinds := [.data, .data], laidTests := true, laidLooks := .later }
def FnCodesUptoCardSaid : Prop := Claim7.holds Tryd.pinned (.plain (OpenSpec.upto fnCodesSpec)) fnCodesUptoCard

/-- THE SECOND FORM's CARD OF 'laws.FnRuns'. -/
def fnRunsUptoCard : Claim7 := { stood := { row := fnRunsUptoRow, standIns := [], harness := (true, "09e3e8b9602b2f18d403d6babfd11d8d8555d50c2d7accbcd7fdde317ac8b138"), looks := false }, kinds := [], alts := [], laidByText := true, laidKinds := [.data, .data], laidTests := true, laidLooks := .later }
def FnRunsUptoCardSaid : Prop := Claim7.holds Tryd.pinned (.plain (OpenSpec.upto fnRunsSpec)) fnRunsUptoCard

/-- THE SECOND FORM's CARD OF 'laws.FnCodesMoved'. -/
def fnCodesMovedUptoCard : Claim7 := { stood := { row := fnCodesMovedUptoRow, standIns := [], harness := (true, "09e3e8b9602b2f18d403d6babfd11d8d8555d50c2d7accbcd7fdde317ac8b138"), looks := false }, kinds := [], alts := [], laidByText := true, laidKinds := [.data, .data], laidTests := true, laidLooks := .later }
def FnCodesMovedUptoCardSaid : Prop := Claim7.holds Tryd.pinned (.plain (OpenSpec.upto fnCodesMovedSpec)) fnCodesMovedUptoCard

/-- THE SECOND FORM's CARD OF 'laws.FnReflected'. -/
def fnReflectedUptoCard : Claim7 := { stood := { row := fnReflectedUptoRow, standIns := [], harness := (true, "09e3e8b9602b2f18d403d6babfd11d8d8555d50c2d7accbcd7fdde317ac8b138"), looks := false }, kinds := [], alts := [], laidByText := true, laidKinds := [.data, .data], laidTests := true, laidLooks := .later }
def FnReflectedUptoCardSaid : Prop := Claim7.holds Tryd.pinned (.plain (OpenSpec.upto fnReflectedSpec)) fnReflectedUptoCard

/-- THE SECOND FORM's CARD OF 'laws.FnPathsThroughWords'. -/
def fnPathsThroughWordsUptoCard : Claim7 := { stood := { row := fnPathsThroughWordsUptoRow, standIns := [], harness := (true, "09e3e8b9602b2f18d403d6babfd11d8d8555d50c2d7accbcd7fdde317ac8b138"), looks := false }, kinds := [], alts := [], laidByText := true, laidKinds := [.data, .data], laidTests := true, laidLooks := .later }
def FnPathsThroughWordsUptoCardSaid : Prop := Claim7.holds Tryd.pinned (.plain (OpenSpec.upto fnPathsThroughWordsSpec)) fnPathsThroughWordsUptoCard
end Rows
end Go.Proofs.YtnhifbopicjicaaDoor
