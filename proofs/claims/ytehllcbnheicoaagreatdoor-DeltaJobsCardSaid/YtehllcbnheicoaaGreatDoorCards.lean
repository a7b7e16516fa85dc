/-
  DERIVED. GIVEN WITH THE SEED: THE CARDS: each row of YtehllcbnheicoaaGreatDoorRows.lean that lists a variable, with what it lists TIED to the program's text (the seventh form; the later family's looks); each row that meets fmt, with fmt's text TOLD by the authors' own Lean function (tested against real Go, not proved from fmt's source: count such statements apart). THE CARD IS WHAT COUNTS. Prove the row's statement (the work); the ties are given (YtehllcbnheicoaaGreatDoorTie.lean); close each card by the builder's one call (the guide's Derived/Test/ToyasCard.lean, 'card_holds'). Laid BY PROGRAM, IN A SANDBOX (cutbox-door.mjs). By AI agents, Wed Nov 11 2026. No macro, syntax, notation, axiom, sorry.
-/
import Derived.Test.YtehllcbnheicoaaGreatDoorRows
import GoSem.ClaimSeven
namespace Go.Proofs.YtehllcbnheicoaaGreatDoor
namespace Rows

/-- THE TIED CARD OF 'maslinlaw18.FoldTells'. -/
def foldTellsCard : Claim7 := { stood := { row := foldTellsRow, standIns := [], harness := (true, "2dce168dcbb5f858e966302eb02832051f51d719984665c5aeb10bcc153d162d"), looks := true }, kinds := [], alts := [], laidByText := true, laidKinds := [.data, .data, .data, .data, .sentinel, .sentinel, .data, .funcs, .pinned], laidTests := true, laidLooks := .later }
def FoldTellsCardSaid : Prop := Claim7.holds Tryz.pinned (.plain (OpenSpec.ofChange foldTellsSpec)) foldTellsCard

/-- THE TIED CARD OF 'maslinlaw40.DeltaJobs'. -/
def deltaJobsCard : Claim7 := { stood := { row := deltaJobsRow, standIns := [], harness := (true, "2dce168dcbb5f858e966302eb02832051f51d719984665c5aeb10bcc153d162d"), looks := true }, kinds := [], alts := [], laidByText := true, laidKinds := [.data, .data, .data, .data, .sentinel, .sentinel, .data, .funcs, .pinned], laidTests := true, laidLooks := .later }
def DeltaJobsCardSaid : Prop := Claim7.holds Tryz.pinned (.plain (OpenSpec.ofChange deltaJobsSpec)) deltaJobsCard

/-- THE TIED CARD OF 'maslinlaw19.MapperTells'. -/
def mapperTellsCard : Claim7 := { stood := { row := mapperTellsRow, standIns := [], harness := (true, "2dce168dcbb5f858e966302eb02832051f51d719984665c5aeb10bcc153d162d"), looks := true }, kinds := [], alts := [], laidByText := true, laidKinds := [.data, .data, .data, .data, .sentinel, .sentinel, .data, .funcs, .pinned], laidTests := true, laidLooks := .later }
def MapperTellsCardSaid : Prop := Claim7.holds Tryz.pinned (.plain (OpenSpec.ofChange mapperTellsSpec)) mapperTellsCard

/-- THE SECOND FORM's CARD OF 'maslinlaw18.FoldTells'. -/
def foldTellsUptoCard : Claim7 := { stood := { row := foldTellsUptoRow, standIns := [], harness := (true, "2dce168dcbb5f858e966302eb02832051f51d719984665c5aeb10bcc153d162d"), looks := true }, kinds := [], alts := [], laidByText := true, laidKinds := [.data, .data, .data, .data, .sentinel, .sentinel, .data, .funcs, .pinned], laidTests := true, laidLooks := .later }
def FoldTellsUptoCardSaid : Prop := Claim7.holds Tryz.pinned (.plain (OpenSpec.upto foldTellsSpec)) foldTellsUptoCard

/-- THE SECOND FORM's CARD OF 'maslinlaw40.DeltaJobs'. -/
def deltaJobsUptoCard : Claim7 := { stood := { row := deltaJobsUptoRow, standIns := [], harness := (true, "2dce168dcbb5f858e966302eb02832051f51d719984665c5aeb10bcc153d162d"), looks := true }, kinds := [], alts := [], laidByText := true, laidKinds := [.data, .data, .data, .data, .sentinel, .sentinel, .data, .funcs, .pinned], laidTests := true, laidLooks := .later }
def DeltaJobsUptoCardSaid : Prop := Claim7.holds Tryz.pinned (.plain (OpenSpec.upto deltaJobsSpec)) deltaJobsUptoCard

/-- THE SECOND FORM's CARD OF 'maslinlaw19.MapperTells'. -/
def mapperTellsUptoCard : Claim7 := { stood := { row := mapperTellsUptoRow, standIns := [], harness := (true, "2dce168dcbb5f858e966302eb02832051f51d719984665c5aeb10bcc153d162d"), looks := true }, kinds := [], alts := [], laidByText := true, laidKinds := [.data, .data, .data, .data, .sentinel, .sentinel, .data, .funcs, .pinned], laidTests := true, laidLooks := .later }
def MapperTellsUptoCardSaid : Prop := Claim7.holds Tryz.pinned (.plain (OpenSpec.upto mapperTellsSpec)) mapperTellsUptoCard
end Rows
end Go.Proofs.YtehllcbnheicoaaGreatDoor
