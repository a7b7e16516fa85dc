/-
  DERIVED. GIVEN WITH THE SEED: THE CARDS: each row of YtfjpghgdebpliaaGreatDoorRows.lean that lists a variable, with what it lists TIED to the program's text (the seventh form; the later family's looks); each row that meets fmt, with fmt's text TOLD by the authors' own Lean function (tested against real Go, not proved from fmt's source: count such statements apart). THE CARD IS WHAT COUNTS. Prove the row's statement (the work); the ties are given (YtfjpghgdebpliaaGreatDoorTie.lean); close each card by the builder's one call (the guide's Derived/Test/ToyasCard.lean, 'card_holds'). Laid BY PROGRAM, IN A SANDBOX (cutbox-door.mjs). By AI agents, Wed Nov 11 2026. No macro, syntax, notation, axiom, sorry.
-/
import Derived.Test.YtfjpghgdebpliaaGreatDoorRows
import GoSem.ClaimSeven
namespace Go.Proofs.YtfjpghgdebpliaaGreatDoor
namespace Rows

/-- THE TIED CARD OF 'maslinlaw24.ContractPlays'. -/
def contractPlaysCard : Claim7 := { stood := { row := contractPlaysRow, standIns := [], harness := (true, "11d655002691514089ea8664bf18f7ab1edbb1e28c74396b2bd953f78cbbf92d"), looks := true }, kinds := [], alts := [], laidByText := true, laidKinds := [.data, .data, .data, .data, .sentinel, .sentinel, .data, .funcs, .pinned], laidTests := true, laidLooks := .later }
def ContractPlaysCardSaid : Prop := Claim7.holds Tryz.pinned (.plain (OpenSpec.ofChange contractPlaysSpec)) contractPlaysCard

/-- THE SECOND FORM's CARD OF 'maslinlaw24.ContractPlays'. -/
def contractPlaysUptoCard : Claim7 := { stood := { row := contractPlaysUptoRow, standIns := [], harness := (true, "11d655002691514089ea8664bf18f7ab1edbb1e28c74396b2bd953f78cbbf92d"), looks := true }, kinds := [], alts := [], laidByText := true, laidKinds := [.data, .data, .data, .data, .sentinel, .sentinel, .data, .funcs, .pinned], laidTests := true, laidLooks := .later }
def ContractPlaysUptoCardSaid : Prop := Claim7.holds Tryz.pinned (.plain (OpenSpec.upto contractPlaysSpec)) contractPlaysUptoCard
end Rows
end Go.Proofs.YtfjpghgdebpliaaGreatDoor
