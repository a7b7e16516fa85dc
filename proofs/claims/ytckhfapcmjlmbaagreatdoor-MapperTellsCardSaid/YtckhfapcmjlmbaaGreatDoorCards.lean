/-
  DERIVED. GIVEN WITH THE SEED: THE CARDS: each row of YtckhfapcmjlmbaaGreatDoorRows.lean that lists a variable, with what it lists TIED to the program's text (the seventh form; the later family's looks); each row that meets fmt, with fmt's text TOLD by the authors' own Lean function (tested against real Go, not proved from fmt's source: count such statements apart). THE CARD IS WHAT COUNTS. Prove the row's statement (the work); the ties are given (YtckhfapcmjlmbaaGreatDoorTie.lean); close each card by the builder's one call (the guide's Derived/Test/ToyasCard.lean, 'card_holds'). Laid BY PROGRAM, IN A SANDBOX (cutbox-door.mjs). By AI agents, Wed Nov 11 2026. No macro, syntax, notation, axiom, sorry.
-/
import Derived.Test.YtckhfapcmjlmbaaGreatDoorRows
import GoSem.ClaimSeven
namespace Go.Proofs.YtckhfapcmjlmbaaGreatDoor
namespace Rows

/-- THE TIED CARD OF 'maslinlaw24.ContractPlays'. -/
def contractPlaysCard : Claim7 := { stood := { row := contractPlaysRow, standIns := [], harness := (true, "a4fdc3db833e73b5dbc4a8260fb8189c3931a3ee663e45b8450ad8f9d2e96b32"), looks := true }, kinds := [], alts := [], laidByText := true, laidKinds := [.data, .data, .data, .data, .sentinel, .sentinel, .data, .funcs, .pinned], laidTests := true, laidLooks := .later }
def ContractPlaysCardSaid : Prop := Claim7.holds Tryz.pinned (.plain (OpenSpec.ofChange contractPlaysSpec)) contractPlaysCard

/-- THE TIED CARD OF 'maslinlaw19.MapperTells'. -/
def mapperTellsCard : Claim7 := { stood := { row := mapperTellsRow, standIns := [], harness := (true, "a4fdc3db833e73b5dbc4a8260fb8189c3931a3ee663e45b8450ad8f9d2e96b32"), looks := true }, kinds := [], alts := [], laidByText := true, laidKinds := [.data, .data, .data, .data, .sentinel, .sentinel, .data, .funcs, .pinned], laidTests := true, laidLooks := .later }
def MapperTellsCardSaid : Prop := Claim7.holds Tryz.pinned (.plain (OpenSpec.ofChange mapperTellsSpec)) mapperTellsCard

/-- THE SECOND FORM's CARD OF 'maslinlaw24.ContractPlays'. -/
def contractPlaysUptoCard : Claim7 := { stood := { row := contractPlaysUptoRow, standIns := [], harness := (true, "a4fdc3db833e73b5dbc4a8260fb8189c3931a3ee663e45b8450ad8f9d2e96b32"), looks := true }, kinds := [], alts := [], laidByText := true, laidKinds := [.data, .data, .data, .data, .sentinel, .sentinel, .data, .funcs, .pinned], laidTests := true, laidLooks := .later }
def ContractPlaysUptoCardSaid : Prop := Claim7.holds Tryz.pinned (.plain (OpenSpec.upto contractPlaysSpec)) contractPlaysUptoCard

/-- THE SECOND FORM's CARD OF 'maslinlaw19.MapperTells'. -/
def mapperTellsUptoCard : Claim7 := { stood := { row := mapperTellsUptoRow, standIns := [], harness := (true, "a4fdc3db833e73b5dbc4a8260fb8189c3931a3ee663e45b8450ad8f9d2e96b32"), looks := true }, kinds := [], alts := [], laidByText := true, laidKinds := [.data, .data, .data, .data, .sentinel, .sentinel, .data, .funcs, .pinned], laidTests := true, laidLooks := .later }
def MapperTellsUptoCardSaid : Prop := Claim7.holds Tryz.pinned (.plain (OpenSpec.upto mapperTellsSpec)) mapperTellsUptoCard
end Rows
end Go.Proofs.YtckhfapcmjlmbaaGreatDoor
