/-
  DERIVED. GIVEN WITH THE SEED: THE CARDS: each row of YtahmacnmphjhgaaDoorRows.lean that lists a variable, with what it lists TIED to the program's text (the seventh form; the later family's looks); each row that meets fmt, with fmt's text TOLD by the authors' own Lean function (tested against real Go, not proved from fmt's source: count such statements apart). THE CARD IS WHAT COUNTS. Prove the row's statement (the work); the ties are given (YtahmacnmphjhgaaDoorTie.lean); close each card by the builder's one call (the guide's Derived/Test/ToyasCard.lean, 'card_holds'). Laid BY PROGRAM, IN A SANDBOX (cutbox-door.mjs). By AI agents, Wed Nov 11 2026. No macro, syntax, notation, axiom, sorry.
-/
import Derived.Test.YtahmacnmphjhgaaDoorRows
import GoSem.ClaimSeven
namespace Go.Proofs.YtahmacnmphjhgaaDoor
namespace Rows

/-- THE TIED CARD OF 'maslinlaw13.VerifyStraight'. -/
def verifyStraightCard : Claim7 := { stood := { row := verifyStraightRow, standIns := [], harness := (true, "5c85cce156a43ea25f61590de3665a3438a8d85701f9c77e0912f31f5f962570"), looks := false }, kinds := [], alts := [], laidByText := true, laidKinds := [.data, .data, .pinned], laidTests := true, laidLooks := .later }
def VerifyStraightCardSaid : Prop := Claim7.holds Tryd.pinned (.plain (OpenSpec.ofChange verifyStraightSpec)) verifyStraightCard

/-- THE TIED CARD OF 'maslinlaw13.VerifyOthers'. -/
def verifyOthersCard : Claim7 := { stood := { row := verifyOthersRow, standIns := [], harness := (true, "5c85cce156a43ea25f61590de3665a3438a8d85701f9c77e0912f31f5f962570"), looks := false }, kinds := [], alts := [], laidByText := true, laidKinds := [.data, .data, .pinned], laidTests := true, laidLooks := .later }
def VerifyOthersCardSaid : Prop := Claim7.holds Tryd.pinned (.plain (OpenSpec.ofChange verifyOthersSpec)) verifyOthersCard

/-- THE TIED CARD OF 'maslinlaw13.VerifyTells'. -/
def verifyTellsCard : Claim7 := { stood := { row := verifyTellsRow, standIns := [], harness := (true, "5c85cce156a43ea25f61590de3665a3438a8d85701f9c77e0912f31f5f962570"), looks := false }, kinds := [], alts := [], laidByText := true, laidKinds := [.data, .data, .pinned], laidTests := true, laidLooks := .later }
def VerifyTellsCardSaid : Prop := Claim7.holds Tryd.pinned (.plain (OpenSpec.ofChange verifyTellsSpec)) verifyTellsCard

/-- THE TIED CARD OF 'maslinlaw13.VerifyBlocks'. -/
def verifyBlocksCard : Claim7 := { stood := { row := verifyBlocksRow, standIns := [], harness := (true, "5c85cce156a43ea25f61590de3665a3438a8d85701f9c77e0912f31f5f962570"), looks := false }, kinds := [], alts := [], laidByText := true, laidKinds := [.data, .data, .pinned], laidTests := true, laidLooks := .later }
def VerifyBlocksCardSaid : Prop := Claim7.holds Tryd.pinned (.plain (OpenSpec.ofChange verifyBlocksSpec)) verifyBlocksCard

/-- THE SECOND FORM's CARD OF 'maslinlaw13.VerifyStraight'. -/
def verifyStraightUptoCard : Claim7 := { stood := { row := verifyStraightUptoRow, standIns := [], harness := (true, "5c85cce156a43ea25f61590de3665a3438a8d85701f9c77e0912f31f5f962570"), looks := false }, kinds := [], alts := [], laidByText := true, laidKinds := [.data, .data, .pinned], laidTests := true, laidLooks := .later }
def VerifyStraightUptoCardSaid : Prop := Claim7.holds Tryd.pinned (.plain (OpenSpec.upto verifyStraightSpec)) verifyStraightUptoCard

/-- THE SECOND FORM's CARD OF 'maslinlaw13.VerifyOthers'. -/
def verifyOthersUptoCard : Claim7 := { stood := { row := verifyOthersUptoRow, standIns := [], harness := (true, "5c85cce156a43ea25f61590de3665a3438a8d85701f9c77e0912f31f5f962570"), looks := false }, kinds := [], alts := [], laidByText := true, laidKinds := [.data, .data, .pinned], laidTests := true, laidLooks := .later }
def VerifyOthersUptoCardSaid : Prop := Claim7.holds Tryd.pinned (.plain (OpenSpec.upto verifyOthersSpec)) verifyOthersUptoCard

/-- THE SECOND FORM's CARD OF 'maslinlaw13.VerifyTells'. -/
def verifyTellsUptoCard : Claim7 := { stood := { row := verifyTellsUptoRow, standIns := [], harness := (true, "5c85cce156a43ea25f61590de3665a3438a8d85701f9c77e0912f31f5f962570"), looks := false }, kinds := [], alts := [], laidByText := true, laidKinds := [.data, .data, .pinned], laidTests := true, laidLooks := .later }
def VerifyTellsUptoCardSaid : Prop := Claim7.holds Tryd.pinned (.plain (OpenSpec.upto verifyTellsSpec)) verifyTellsUptoCard

/-- THE SECOND FORM's CARD OF 'maslinlaw13.VerifyBlocks'. -/
def verifyBlocksUptoCard : Claim7 := { stood := { row := verifyBlocksUptoRow, standIns := [], harness := (true, "5c85cce156a43ea25f61590de3665a3438a8d85701f9c77e0912f31f5f962570"), looks := false }, kinds := [], alts := [], laidByText := true, laidKinds := [.data, .data, .pinned], laidTests := true, laidLooks := .later }
def VerifyBlocksUptoCardSaid : Prop := Claim7.holds Tryd.pinned (.plain (OpenSpec.upto verifyBlocksSpec)) verifyBlocksUptoCard
end Rows
end Go.Proofs.YtahmacnmphjhgaaDoor
