/-
  DERIVED. GIVEN WITH THE SEED: THE CARDS: each row of YtaeagpakloggfaaDoorRows.lean that lists a variable, with what it lists TIED to the program's text (the seventh form; the later family's looks); each row that meets fmt, with fmt's text TOLD by the authors' own Lean function (tested against real Go, not proved from fmt's source: count such statements apart). THE CARD IS WHAT COUNTS. Prove the row's statement (the work); the ties are given (YtaeagpakloggfaaDoorTie.lean); close each card by the builder's one call (the guide's Derived/Test/ToyasCard.lean, 'card_holds'). Laid BY PROGRAM, IN A SANDBOX (cutbox-door.mjs). By AI agents, Wed Nov 11 2026. No macro, syntax, notation, axiom, sorry.
-/
import Derived.Test.YtaeagpakloggfaaDoorRows
import GoSem.ClaimSeven
namespace Go.Proofs.YtaeagpakloggfaaDoor
namespace Rows

/-- THE TIED CARD OF 'laws.FnExactShowKeep'. -/
def fnExactShowKeepCard : Claim7 := { stood := { row := fnExactShowKeepRow, standIns := [], harness := (true, "ee4e519edcdfd7c91149eccf484235a343a138043f75897e0b3cb7de3de44b71"), looks := false }, kinds := [], alts := [], laidByText := true, laidKinds := [.data, .data, .data], laidTests := true, laidLooks := .later }
def FnExactShowKeepCardSaid : Prop := Claim7.holds Tryd.pinned (.plain (OpenSpec.ofChange fnExactShowKeepSpec)) fnExactShowKeepCard

/-- THE TIED CARD OF 'laws.FnShown'. -/
def fnShownCard : Claim7 := { stood := { row := fnShownRow, standIns := [], harness := (true, "ee4e519edcdfd7c91149eccf484235a343a138043f75897e0b3cb7de3de44b71"), looks := false }, kinds := [], alts := [], laidByText := true, laidKinds := [.data, .data, .data], laidTests := true, laidLooks := .later }
def FnShownCardSaid : Prop := Claim7.holds Tryd.pinned (.plain (OpenSpec.ofChange fnShownSpec)) fnShownCard

/-- THE TIED CARD OF 'laws.FnPutGet'. -/
def fnPutGetCard : Claim7 := { stood := { row := fnPutGetRow, standIns := [], harness := (true, "ee4e519edcdfd7c91149eccf484235a343a138043f75897e0b3cb7de3de44b71"), looks := false }, kinds := [], alts := [], laidByText := true, laidKinds := [.data, .data, .data], laidTests := true, laidLooks := .later }
def FnPutGetCardSaid : Prop := Claim7.holds Tryd.pinned (.plain (OpenSpec.ofChange fnPutGetSpec)) fnPutGetCard

/-- THE TIED CARD OF 'laws.FnSessions'. -/
def fnSessionsCard : Claim7 := { stood := { row := fnSessionsRow, standIns := [], harness := (true, "ee4e519edcdfd7c91149eccf484235a343a138043f75897e0b3cb7de3de44b71"), looks := false }, kinds := [], alts := [], laidByText := true, laidKinds := [.data, .data, .data], laidTests := true, laidLooks := .later }
def FnSessionsCardSaid : Prop := Claim7.holds Tryd.pinned (.plain (OpenSpec.ofChange fnSessionsSpec)) fnSessionsCard

/-- THE TIED CARD OF 'laws.FnExactPerform'. -/
def fnExactPerformCard : Claim7 := { stood := { row := fnExactPerformRow, standIns := [], harness := (true, "ee4e519edcdfd7c91149eccf484235a343a138043f75897e0b3cb7de3de44b71"), looks := false }, kinds := [], alts := [], laidByText := true, laidKinds := [.data, .data, .data], laidTests := true, laidLooks := .later }
def FnExactPerformCardSaid : Prop := Claim7.holds Tryd.pinned (.plain (OpenSpec.ofChange fnExactPerformSpec)) fnExactPerformCard

/-- THE TIED CARD OF 'laws.FnFolds'. -/
def fnFoldsCard : Claim7 := { stood := { row := fnFoldsRow, standIns := [], harness := (true, "ee4e519edcdfd7c91149eccf484235a343a138043f75897e0b3cb7de3de44b71"), looks := false }, kinds := [], alts := [], laidByText := true, laidKinds := [.data, .data, .data], laidTests := true, laidLooks := .later }
def FnFoldsCardSaid : Prop := Claim7.holds Tryd.pinned (.plain (OpenSpec.ofChange fnFoldsSpec)) fnFoldsCard

/-- THE SECOND FORM's CARD OF 'laws.FnExactShowKeep'. -/
def fnExactShowKeepUptoCard : Claim7 := { stood := { row := fnExactShowKeepUptoRow, standIns := [], harness := (true, "ee4e519edcdfd7c91149eccf484235a343a138043f75897e0b3cb7de3de44b71"), looks := false }, kinds := [], alts := [], laidByText := true, laidKinds := [.data, .data, .data], laidTests := true, laidLooks := .later }
def FnExactShowKeepUptoCardSaid : Prop := Claim7.holds Tryd.pinned (.plain (OpenSpec.upto fnExactShowKeepSpec)) fnExactShowKeepUptoCard

/-- THE SECOND FORM's CARD OF 'laws.FnShown'. -/
def fnShownUptoCard : Claim7 := { stood := { row := fnShownUptoRow, standIns := [], harness := (true, "ee4e519edcdfd7c91149eccf484235a343a138043f75897e0b3cb7de3de44b71"), looks := false }, kinds := [], alts := [], laidByText := true, laidKinds := [.data, .data, .data], laidTests := true, laidLooks := .later }
def FnShownUptoCardSaid : Prop := Claim7.holds Tryd.pinned (.plain (OpenSpec.upto fnShownSpec)) fnShownUptoCard

/-- THE SECOND FORM's CARD OF 'laws.FnPutGet'. -/
def fnPutGetUptoCard : Claim7 := { stood := { row := fnPutGetUptoRow, standIns := [], harness := (true, "ee4e519edcdfd7c91149eccf484235a343a138043f75897e0b3cb7de3de44b71"), looks := false }, kinds := [], alts := [], laidByText := true, laidKinds := [.data, .data, .data], laidTests := true, laidLooks := .later }
def FnPutGetUptoCardSaid : Prop := Claim7.holds Tryd.pinned (.plain (OpenSpec.upto fnPutGetSpec)) fnPutGetUptoCard

/-- THE SECOND FORM's CARD OF 'laws.FnSessions'. -/
def fnSessionsUptoCard : Claim7 := { stood := { row := fnSessionsUptoRow, standIns := [], harness := (true, "ee4e519edcdfd7c91149eccf484235a343a138043f75897e0b3cb7de3de44b71"), looks := false }, kinds := [], alts := [], laidByText := true, laidKinds := [.data, .data, .data], laidTests := true, laidLooks := .later }
def FnSessionsUptoCardSaid : Prop := Claim7.holds Tryd.pinned (.plain (OpenSpec.upto fnSessionsSpec)) fnSessionsUptoCard

/-- THE SECOND FORM's CARD OF 'laws.FnExactPerform'. -/
def fnExactPerformUptoCard : Claim7 := { stood := { row := fnExactPerformUptoRow, standIns := [], harness := (true, "ee4e519edcdfd7c91149eccf484235a343a138043f75897e0b3cb7de3de44b71"), looks := false }, kinds := [], alts := [], laidByText := true, laidKinds := [.data, .data, .data], laidTests := true, laidLooks := .later }
def FnExactPerformUptoCardSaid : Prop := Claim7.holds Tryd.pinned (.plain (OpenSpec.upto fnExactPerformSpec)) fnExactPerformUptoCard

/-- THE SECOND FORM's CARD OF 'laws.FnFolds'. -/
def fnFoldsUptoCard : Claim7 := { stood := { row := fnFoldsUptoRow, standIns := [], harness := (true, "ee4e519edcdfd7c91149eccf484235a343a138043f75897e0b3cb7de3de44b71"), looks := false }, kinds := [], alts := [], laidByText := true, laidKinds := [.data, .data, .data], laidTests := true, laidLooks := .later }
def FnFoldsUptoCardSaid : Prop := Claim7.holds Tryd.pinned (.plain (OpenSpec.upto fnFoldsSpec)) fnFoldsUptoCard
end Rows
end Go.Proofs.YtaeagpakloggfaaDoor
