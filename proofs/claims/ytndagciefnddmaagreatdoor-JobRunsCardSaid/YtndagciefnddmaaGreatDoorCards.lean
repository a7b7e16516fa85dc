/-
  DERIVED. GIVEN WITH THE SEED: THE CARDS: each row of YtndagciefnddmaaGreatDoorRows.lean that lists a variable, with what it lists TIED to the program's text (the seventh form; the later family's looks); each row that meets fmt, with fmt's text TOLD by the authors' own Lean function (tested against real Go, not proved from fmt's source: count such statements apart). THE CARD IS WHAT COUNTS. Prove the row's statement (the work); the ties are given (YtndagciefnddmaaGreatDoorTie.lean); close each card by the builder's one call (the guide's Derived/Test/ToyasCard.lean, 'card_holds'). Laid BY PROGRAM, IN A SANDBOX (cutbox-door.mjs). By AI agents, Wed Nov 11 2026. No macro, syntax, notation, axiom, sorry.
-/
import Derived.Test.YtndagciefnddmaaGreatDoorRows
import GoSem.ClaimSeven
namespace Go.Proofs.YtndagciefnddmaaGreatDoor
namespace Rows

/-- THE TIED CARD OF 'maslinlaw20.ReduceTells'. -/
def reduceTellsCard : Claim7 := { stood := { row := reduceTellsRow, standIns := [], harness := (true, "2ef26160bd1abb8d7b833265f08130882c53522e6d4977c3df601ffb0018d6c2"), looks := true }, kinds := [], alts := [], laidByText := true, laidKinds := [.data, .data, .data, .data, .sentinel, .sentinel, .data, .funcs, .pinned], laidTests := true, laidLooks := .later }
def ReduceTellsCardSaid : Prop := Claim7.holds Tryz.pinned (.plain (OpenSpec.ofChange reduceTellsSpec)) reduceTellsCard

/-- THE TIED CARD OF 'maslinlaw18.FoldTells'. -/
def foldTellsCard : Claim7 := { stood := { row := foldTellsRow, standIns := [], harness := (true, "2ef26160bd1abb8d7b833265f08130882c53522e6d4977c3df601ffb0018d6c2"), looks := true }, kinds := [], alts := [], laidByText := true, laidKinds := [.data, .data, .data, .data, .sentinel, .sentinel, .data, .funcs, .pinned], laidTests := true, laidLooks := .later }
def FoldTellsCardSaid : Prop := Claim7.holds Tryz.pinned (.plain (OpenSpec.ofChange foldTellsSpec)) foldTellsCard

/-- THE TIED CARD OF 'maslinlaw15.JobRuns'. -/
def jobRunsCard : Claim7 := { stood := { row := jobRunsRow, standIns := [], harness := (true, "2ef26160bd1abb8d7b833265f08130882c53522e6d4977c3df601ffb0018d6c2"), looks := true }, kinds := [], alts := [], laidByText := true, laidKinds := [.data, .data, .data, .data, .sentinel, .sentinel, .data, .funcs, .pinned], laidTests := true, laidLooks := .later }
def JobRunsCardSaid : Prop := Claim7.holds Tryz.pinned (.plain (OpenSpec.ofChange jobRunsSpec)) jobRunsCard

/-- THE SECOND FORM's CARD OF 'maslinlaw20.ReduceTells'. -/
def reduceTellsUptoCard : Claim7 := { stood := { row := reduceTellsUptoRow, standIns := [], harness := (true, "2ef26160bd1abb8d7b833265f08130882c53522e6d4977c3df601ffb0018d6c2"), looks := true }, kinds := [], alts := [], laidByText := true, laidKinds := [.data, .data, .data, .data, .sentinel, .sentinel, .data, .funcs, .pinned], laidTests := true, laidLooks := .later }
def ReduceTellsUptoCardSaid : Prop := Claim7.holds Tryz.pinned (.plain (OpenSpec.upto reduceTellsSpec)) reduceTellsUptoCard

/-- THE SECOND FORM's CARD OF 'maslinlaw18.FoldTells'. -/
def foldTellsUptoCard : Claim7 := { stood := { row := foldTellsUptoRow, standIns := [], harness := (true, "2ef26160bd1abb8d7b833265f08130882c53522e6d4977c3df601ffb0018d6c2"), looks := true }, kinds := [], alts := [], laidByText := true, laidKinds := [.data, .data, .data, .data, .sentinel, .sentinel, .data, .funcs, .pinned], laidTests := true, laidLooks := .later }
def FoldTellsUptoCardSaid : Prop := Claim7.holds Tryz.pinned (.plain (OpenSpec.upto foldTellsSpec)) foldTellsUptoCard

/-- THE SECOND FORM's CARD OF 'maslinlaw15.JobRuns'. -/
def jobRunsUptoCard : Claim7 := { stood := { row := jobRunsUptoRow, standIns := [], harness := (true, "2ef26160bd1abb8d7b833265f08130882c53522e6d4977c3df601ffb0018d6c2"), looks := true }, kinds := [], alts := [], laidByText := true, laidKinds := [.data, .data, .data, .data, .sentinel, .sentinel, .data, .funcs, .pinned], laidTests := true, laidLooks := .later }
def JobRunsUptoCardSaid : Prop := Claim7.holds Tryz.pinned (.plain (OpenSpec.upto jobRunsSpec)) jobRunsUptoCard
end Rows
end Go.Proofs.YtndagciefnddmaaGreatDoor
