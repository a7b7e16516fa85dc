/-
  No cell of these rows narrows 'for every input' (looked for: loops, veiled, ifaces, maps, wideKeys, modest, calm, conditions, laid).
  DERIVED. THE GIVEN ROWS OF THIS SEAT. 11 by the template 'for every input the law returns true; each argument reads behind the call as it read before'; 0 by the template 'total and deterministic' (their statements: YtdebgkjekcppmaaTotals.lean).
  GIVEN WITH THE SEED: the statements are not yours to turn. If you find one false, say at which input.
  Laid BY PROGRAM, IN A SANDBOX (cutbox-rows.mjs): the forced cells as the released guide's own fill.sh prints them over the translation 05667888d2070914… (all of the seat's roots in one cut). By AI agents, Wed Nov 11 2026. No macro, syntax, notation, axiom, sorry.
-/
import Derived.Test.YtdebgkjekcppmaaChecked
import GoSem.Claim
import GoSem.ClaimJoined
import GoSem.ClaimMapViews
import Derived.JoinedTies
import Derived.KernelRfl
namespace Go.Proofs.Ytdebgkjekcppmaa
/- THE CELL 'sum', in the pinned program and in every row, IS THE sha256 OF THE DUMP (.gsa) THAT YtdebgkjekcppmaaProg.lean LOADS. Nothing in Lean hashes anything: it is a label: what it is worth is what the hold of that sum in a sandbox is worth. -/
noncomputable def Try.pinned : Pinned := { name := "ytdebgkjekcppmaa", sum := "05667888d20709149f7918c4c791c345ad85d1413b0e6008f848c0ab4882e29b", checked := Try.checked }
namespace Rows
def none {H : Type} : Left H := { results := [], args := [] }

/-- 'maslinlaw02.ShaSums': WHATEVER THE INPUT: true; the input reads as it did. -/
def shaSumsSpec : ChangeSpec := { name := "shaSums", fn := fun _ => fun
  | [d] => { results := [.lit (.bool true)], args := [d] }
  | _ => none }
def shaSumsRow : OpenClaim := { program := "ytdebgkjekcppmaa", sum := "05667888d20709149f7918c4c791c345ad85d1413b0e6008f848c0ab4882e29b", func := "maslin/maslinlaw02.ShaSums", spec := "shaSums", inPlace := ["internal/abi.NoEscape"], unfollowed := true, recurses := true, apart := false }
def ShaSumsSaid : Prop := shaSumsRow.holds Try.pinned (OpenSpec.ofChange shaSumsSpec)

/-- ITS FALSE NEIGHBOUR: 'it returns false'. Refute it at one input. -/
def shaSumsWrong : ChangeSpec := { name := "shaSums", fn := fun _ => fun
  | [d] => { results := [.lit (.bool false)], args := [d] }
  | _ => none }
def ShaSumsWrongFalsely : Prop := shaSumsRow.holds Try.pinned (OpenSpec.ofChange shaSumsWrong)

/-- 'maslinlaw02.ShaHex': WHATEVER THE INPUT: true; the input reads as it did. -/
def shaHexSpec : ChangeSpec := { name := "shaHex", fn := fun _ => fun
  | [d1, d2] => { results := [.lit (.bool true)], args := [d1, d2] }
  | _ => none }
def shaHexRow : OpenClaim := { program := "ytdebgkjekcppmaa", sum := "05667888d20709149f7918c4c791c345ad85d1413b0e6008f848c0ab4882e29b", func := "maslin/maslinlaw02.ShaHex", spec := "shaHex", inPlace := ["internal/abi.NoEscape"], unfollowed := true, recurses := true, apart := false }
def ShaHexSaid : Prop := shaHexRow.holds Try.pinned (OpenSpec.ofChange shaHexSpec)

/-- ITS FALSE NEIGHBOUR: 'it returns false'. Refute it at one input. -/
def shaHexWrong : ChangeSpec := { name := "shaHex", fn := fun _ => fun
  | [d1, d2] => { results := [.lit (.bool false)], args := [d1, d2] }
  | _ => none }
def ShaHexWrongFalsely : Prop := shaHexRow.holds Try.pinned (OpenSpec.ofChange shaHexWrong)

/-- 'maslinlaw02.ShaPieces': WHATEVER THE INPUT: true; the input reads as it did. -/
def shaPiecesSpec : ChangeSpec := { name := "shaPieces", fn := fun _ => fun
  | [d] => { results := [.lit (.bool true)], args := [d] }
  | _ => none }
def shaPiecesRow : OpenClaim := { program := "ytdebgkjekcppmaa", sum := "05667888d20709149f7918c4c791c345ad85d1413b0e6008f848c0ab4882e29b", func := "maslin/maslinlaw02.ShaPieces", spec := "shaPieces", inPlace := ["internal/abi.NoEscape"], unfollowed := true, recurses := true, apart := false }
def ShaPiecesSaid : Prop := shaPiecesRow.holds Try.pinned (OpenSpec.ofChange shaPiecesSpec)

/-- ITS FALSE NEIGHBOUR: 'it returns false'. Refute it at one input. -/
def shaPiecesWrong : ChangeSpec := { name := "shaPieces", fn := fun _ => fun
  | [d] => { results := [.lit (.bool false)], args := [d] }
  | _ => none }
def ShaPiecesWrongFalsely : Prop := shaPiecesRow.holds Try.pinned (OpenSpec.ofChange shaPiecesWrong)

/-- 'maslinlaw02.ShaBack': WHATEVER THE INPUT: true; the input reads as it did. -/
def shaBackSpec : ChangeSpec := { name := "shaBack", fn := fun _ => fun
  | [d1, d2] => { results := [.lit (.bool true)], args := [d1, d2] }
  | _ => none }
def shaBackRow : OpenClaim := { program := "ytdebgkjekcppmaa", sum := "05667888d20709149f7918c4c791c345ad85d1413b0e6008f848c0ab4882e29b", func := "maslin/maslinlaw02.ShaBack", spec := "shaBack", inPlace := ["internal/abi.NoEscape"], unfollowed := true, recurses := true, apart := false }
def ShaBackSaid : Prop := shaBackRow.holds Try.pinned (OpenSpec.ofChange shaBackSpec)

/-- ITS FALSE NEIGHBOUR: 'it returns false'. Refute it at one input. -/
def shaBackWrong : ChangeSpec := { name := "shaBack", fn := fun _ => fun
  | [d1, d2] => { results := [.lit (.bool false)], args := [d1, d2] }
  | _ => none }
def ShaBackWrongFalsely : Prop := shaBackRow.holds Try.pinned (OpenSpec.ofChange shaBackWrong)

/-- 'maslinlaw16.PairsCode': WHATEVER THE INPUT: true; the input reads as it did. -/
def pairsCodeSpec : ChangeSpec := { name := "pairsCode", fn := fun _ => fun
  | [d1, d2] => { results := [.lit (.bool true)], args := [d1, d2] }
  | _ => none }
def pairsCodeRow : OpenClaim := { program := "ytdebgkjekcppmaa", sum := "05667888d20709149f7918c4c791c345ad85d1413b0e6008f848c0ab4882e29b", func := "maslin/maslinlaw16.PairsCode", spec := "pairsCode", inPlace := ["internal/abi.NoEscape"], unfollowed := true, recurses := true, apart := false }
def PairsCodeSaid : Prop := pairsCodeRow.holds Try.pinned (OpenSpec.ofChange pairsCodeSpec)

/-- ITS FALSE NEIGHBOUR: 'it returns false'. Refute it at one input. -/
def pairsCodeWrong : ChangeSpec := { name := "pairsCode", fn := fun _ => fun
  | [d1, d2] => { results := [.lit (.bool false)], args := [d1, d2] }
  | _ => none }
def PairsCodeWrongFalsely : Prop := pairsCodeRow.holds Try.pinned (OpenSpec.ofChange pairsCodeWrong)

/-- 'maslinlaw16.PairsMerge': WHATEVER THE INPUT: true; the input reads as it did. -/
def pairsMergeSpec : ChangeSpec := { name := "pairsMerge", fn := fun _ => fun
  | [d1, d2] => { results := [.lit (.bool true)], args := [d1, d2] }
  | _ => none }
def pairsMergeRow : OpenClaim := { program := "ytdebgkjekcppmaa", sum := "05667888d20709149f7918c4c791c345ad85d1413b0e6008f848c0ab4882e29b", func := "maslin/maslinlaw16.PairsMerge", spec := "pairsMerge", inPlace := ["internal/abi.NoEscape"], unfollowed := true, recurses := true, apart := false }
def PairsMergeSaid : Prop := pairsMergeRow.holds Try.pinned (OpenSpec.ofChange pairsMergeSpec)

/-- ITS FALSE NEIGHBOUR: 'it returns false'. Refute it at one input. -/
def pairsMergeWrong : ChangeSpec := { name := "pairsMerge", fn := fun _ => fun
  | [d1, d2] => { results := [.lit (.bool false)], args := [d1, d2] }
  | _ => none }
def PairsMergeWrongFalsely : Prop := pairsMergeRow.holds Try.pinned (OpenSpec.ofChange pairsMergeWrong)

/-- 'maslinlaw16.PairsBack': WHATEVER THE INPUT: true; the input reads as it did. -/
def pairsBackSpec : ChangeSpec := { name := "pairsBack", fn := fun _ => fun
  | [d1, d2] => { results := [.lit (.bool true)], args := [d1, d2] }
  | _ => none }
def pairsBackRow : OpenClaim := { program := "ytdebgkjekcppmaa", sum := "05667888d20709149f7918c4c791c345ad85d1413b0e6008f848c0ab4882e29b", func := "maslin/maslinlaw16.PairsBack", spec := "pairsBack", inPlace := ["internal/abi.NoEscape"], unfollowed := true, recurses := true, apart := false }
def PairsBackSaid : Prop := pairsBackRow.holds Try.pinned (OpenSpec.ofChange pairsBackSpec)

/-- ITS FALSE NEIGHBOUR: 'it returns false'. Refute it at one input. -/
def pairsBackWrong : ChangeSpec := { name := "pairsBack", fn := fun _ => fun
  | [d1, d2] => { results := [.lit (.bool false)], args := [d1, d2] }
  | _ => none }
def PairsBackWrongFalsely : Prop := pairsBackRow.holds Try.pinned (OpenSpec.ofChange pairsBackWrong)

/-- 'maslinlaw16.PairsGroup': WHATEVER THE INPUT: true; the input reads as it did. -/
def pairsGroupSpec : ChangeSpec := { name := "pairsGroup", fn := fun _ => fun
  | [d] => { results := [.lit (.bool true)], args := [d] }
  | _ => none }
def pairsGroupRow : OpenClaim := { program := "ytdebgkjekcppmaa", sum := "05667888d20709149f7918c4c791c345ad85d1413b0e6008f848c0ab4882e29b", func := "maslin/maslinlaw16.PairsGroup", spec := "pairsGroup", inPlace := ["internal/abi.NoEscape"], unfollowed := true, recurses := true, apart := false }
def PairsGroupSaid : Prop := pairsGroupRow.holds Try.pinned (OpenSpec.ofChange pairsGroupSpec)

/-- ITS FALSE NEIGHBOUR: 'it returns false'. Refute it at one input. -/
def pairsGroupWrong : ChangeSpec := { name := "pairsGroup", fn := fun _ => fun
  | [d] => { results := [.lit (.bool false)], args := [d] }
  | _ => none }
def PairsGroupWrongFalsely : Prop := pairsGroupRow.holds Try.pinned (OpenSpec.ofChange pairsGroupWrong)

/-- 'maslinlaw17.PartTells': WHATEVER THE INPUT: true; the input reads as it did. -/
def partTellsSpec : ChangeSpec := { name := "partTells", fn := fun _ => fun
  | [d1, d2, d3, d4] => { results := [.lit (.bool true)], args := [d1, d2, d3, d4] }
  | _ => none }
def partTellsRow : OpenClaim := { program := "ytdebgkjekcppmaa", sum := "05667888d20709149f7918c4c791c345ad85d1413b0e6008f848c0ab4882e29b", func := "maslin/maslinlaw17.PartTells", spec := "partTells", inPlace := ["internal/abi.NoEscape"], unfollowed := true, recurses := true, apart := false }
def PartTellsSaid : Prop := partTellsRow.holds Try.pinned (OpenSpec.ofChange partTellsSpec)

/-- ITS FALSE NEIGHBOUR: 'it returns false'. Refute it at one input. -/
def partTellsWrong : ChangeSpec := { name := "partTells", fn := fun _ => fun
  | [d1, d2, d3, d4] => { results := [.lit (.bool false)], args := [d1, d2, d3, d4] }
  | _ => none }
def PartTellsWrongFalsely : Prop := partTellsRow.holds Try.pinned (OpenSpec.ofChange partTellsWrong)

/-- 'maslinlaw17.PartJoins': WHATEVER THE INPUT: true; the input reads as it did. -/
def partJoinsSpec : ChangeSpec := { name := "partJoins", fn := fun _ => fun
  | [d1, d2] => { results := [.lit (.bool true)], args := [d1, d2] }
  | _ => none }
def partJoinsRow : OpenClaim := { program := "ytdebgkjekcppmaa", sum := "05667888d20709149f7918c4c791c345ad85d1413b0e6008f848c0ab4882e29b", func := "maslin/maslinlaw17.PartJoins", spec := "partJoins", inPlace := ["internal/abi.NoEscape"], unfollowed := true, recurses := true, apart := false }
def PartJoinsSaid : Prop := partJoinsRow.holds Try.pinned (OpenSpec.ofChange partJoinsSpec)

/-- ITS FALSE NEIGHBOUR: 'it returns false'. Refute it at one input. -/
def partJoinsWrong : ChangeSpec := { name := "partJoins", fn := fun _ => fun
  | [d1, d2] => { results := [.lit (.bool false)], args := [d1, d2] }
  | _ => none }
def PartJoinsWrongFalsely : Prop := partJoinsRow.holds Try.pinned (OpenSpec.ofChange partJoinsWrong)

/-- 'maslinlaw17.PartAgain': WHATEVER THE INPUT: true; the input reads as it did. -/
def partAgainSpec : ChangeSpec := { name := "partAgain", fn := fun _ => fun
  | [d1, d2, d3] => { results := [.lit (.bool true)], args := [d1, d2, d3] }
  | _ => none }
def partAgainRow : OpenClaim := { program := "ytdebgkjekcppmaa", sum := "05667888d20709149f7918c4c791c345ad85d1413b0e6008f848c0ab4882e29b", func := "maslin/maslinlaw17.PartAgain", spec := "partAgain", inPlace := ["internal/abi.NoEscape"], unfollowed := true, recurses := true, apart := false }
def PartAgainSaid : Prop := partAgainRow.holds Try.pinned (OpenSpec.ofChange partAgainSpec)

/-- ITS FALSE NEIGHBOUR: 'it returns false'. Refute it at one input. -/
def partAgainWrong : ChangeSpec := { name := "partAgain", fn := fun _ => fun
  | [d1, d2, d3] => { results := [.lit (.bool false)], args := [d1, d2, d3] }
  | _ => none }
def PartAgainWrongFalsely : Prop := partAgainRow.holds Try.pinned (OpenSpec.ofChange partAgainWrong)

/- THE SECOND FORM. 'bulk': how many values and letters a reading holds, each counted each time it is reached (what is shared counts as often as it is met; a slice's spare places count too). A statement '..UptoSaid' is the law's where the arguments, and the package variables that the reading takes, are together of bulk at most 1048576: NARROWER than '..Said'. Prove '..Said' where nothing that the law and all that it calls make is longer than what came in: it says more and counts as full. Else prove '..UptoSaid'. A law counts once. -/
mutual
def uptoBulk {H : Type} : DataW H → Nat
  | .lit (.string bytes) => bytes.length + 1
  | .lit _ => 1
  | .nil => 1
  | .ptr d => uptoBulk d + 1
  | .slice elems spare => uptoBulkAll elems + uptoBulkAll spare + 1
  | .agg parts => uptoBulkAll parts + 1
  | .iface _ d => uptoBulk d + 1
  | .map entries => uptoBulkEntries entries + 1
  | .held _ => 1
def uptoBulkAll {H : Type} : List (DataW H) → Nat
  | [] => 0
  | d :: r => uptoBulk d + uptoBulkAll r
def uptoBulkEntries {H : Type} : List (Lit × DataW H) → Nat
  | [] => 0
  | x :: r => uptoBulkEntry x + uptoBulkEntries r
def uptoBulkEntry {H : Type} : Lit × DataW H → Nat
  | (.string bytes, d) => bytes.length + uptoBulk d + 1
  | (_, d) => uptoBulk d + 1
 end
def uptoSmall : (H : Type) → List (DataW H) → Bool := fun _ ds => decide (uptoBulkAll ds ≤ 1048576)
def OpenSpec.upto (s : _root_.Go.ChangeSpec) : _root_.Go.OpenSpec := { _root_.Go.OpenSpec.ofChange s with cond := some uptoSmall }

/-- 'maslinlaw02.ShaSums', WHERE WHAT IT READS IS OF BULK AT MOST 1048576: true; the input reads as it did. -/
def shaSumsUptoRow : OpenClaim := { program := "ytdebgkjekcppmaa", sum := "05667888d20709149f7918c4c791c345ad85d1413b0e6008f848c0ab4882e29b", func := "maslin/maslinlaw02.ShaSums", spec := "shaSums", inPlace := ["internal/abi.NoEscape"], unfollowed := true, recurses := true, apart := false, narrowed := true }
def ShaSumsUptoSaid : Prop := shaSumsUptoRow.holds Try.pinned (OpenSpec.upto shaSumsSpec)

/-- 'maslinlaw02.ShaHex', WHERE WHAT IT READS IS OF BULK AT MOST 1048576: true; the input reads as it did. -/
def shaHexUptoRow : OpenClaim := { program := "ytdebgkjekcppmaa", sum := "05667888d20709149f7918c4c791c345ad85d1413b0e6008f848c0ab4882e29b", func := "maslin/maslinlaw02.ShaHex", spec := "shaHex", inPlace := ["internal/abi.NoEscape"], unfollowed := true, recurses := true, apart := false, narrowed := true }
def ShaHexUptoSaid : Prop := shaHexUptoRow.holds Try.pinned (OpenSpec.upto shaHexSpec)

/-- 'maslinlaw02.ShaPieces', WHERE WHAT IT READS IS OF BULK AT MOST 1048576: true; the input reads as it did. -/
def shaPiecesUptoRow : OpenClaim := { program := "ytdebgkjekcppmaa", sum := "05667888d20709149f7918c4c791c345ad85d1413b0e6008f848c0ab4882e29b", func := "maslin/maslinlaw02.ShaPieces", spec := "shaPieces", inPlace := ["internal/abi.NoEscape"], unfollowed := true, recurses := true, apart := false, narrowed := true }
def ShaPiecesUptoSaid : Prop := shaPiecesUptoRow.holds Try.pinned (OpenSpec.upto shaPiecesSpec)

/-- 'maslinlaw02.ShaBack', WHERE WHAT IT READS IS OF BULK AT MOST 1048576: true; the input reads as it did. -/
def shaBackUptoRow : OpenClaim := { program := "ytdebgkjekcppmaa", sum := "05667888d20709149f7918c4c791c345ad85d1413b0e6008f848c0ab4882e29b", func := "maslin/maslinlaw02.ShaBack", spec := "shaBack", inPlace := ["internal/abi.NoEscape"], unfollowed := true, recurses := true, apart := false, narrowed := true }
def ShaBackUptoSaid : Prop := shaBackUptoRow.holds Try.pinned (OpenSpec.upto shaBackSpec)

/-- 'maslinlaw16.PairsCode', WHERE WHAT IT READS IS OF BULK AT MOST 1048576: true; the input reads as it did. -/
def pairsCodeUptoRow : OpenClaim := { program := "ytdebgkjekcppmaa", sum := "05667888d20709149f7918c4c791c345ad85d1413b0e6008f848c0ab4882e29b", func := "maslin/maslinlaw16.PairsCode", spec := "pairsCode", inPlace := ["internal/abi.NoEscape"], unfollowed := true, recurses := true, apart := false, narrowed := true }
def PairsCodeUptoSaid : Prop := pairsCodeUptoRow.holds Try.pinned (OpenSpec.upto pairsCodeSpec)

/-- 'maslinlaw16.PairsMerge', WHERE WHAT IT READS IS OF BULK AT MOST 1048576: true; the input reads as it did. -/
def pairsMergeUptoRow : OpenClaim := { program := "ytdebgkjekcppmaa", sum := "05667888d20709149f7918c4c791c345ad85d1413b0e6008f848c0ab4882e29b", func := "maslin/maslinlaw16.PairsMerge", spec := "pairsMerge", inPlace := ["internal/abi.NoEscape"], unfollowed := true, recurses := true, apart := false, narrowed := true }
def PairsMergeUptoSaid : Prop := pairsMergeUptoRow.holds Try.pinned (OpenSpec.upto pairsMergeSpec)

/-- 'maslinlaw16.PairsBack', WHERE WHAT IT READS IS OF BULK AT MOST 1048576: true; the input reads as it did. -/
def pairsBackUptoRow : OpenClaim := { program := "ytdebgkjekcppmaa", sum := "05667888d20709149f7918c4c791c345ad85d1413b0e6008f848c0ab4882e29b", func := "maslin/maslinlaw16.PairsBack", spec := "pairsBack", inPlace := ["internal/abi.NoEscape"], unfollowed := true, recurses := true, apart := false, narrowed := true }
def PairsBackUptoSaid : Prop := pairsBackUptoRow.holds Try.pinned (OpenSpec.upto pairsBackSpec)

/-- 'maslinlaw16.PairsGroup', WHERE WHAT IT READS IS OF BULK AT MOST 1048576: true; the input reads as it did. -/
def pairsGroupUptoRow : OpenClaim := { program := "ytdebgkjekcppmaa", sum := "05667888d20709149f7918c4c791c345ad85d1413b0e6008f848c0ab4882e29b", func := "maslin/maslinlaw16.PairsGroup", spec := "pairsGroup", inPlace := ["internal/abi.NoEscape"], unfollowed := true, recurses := true, apart := false, narrowed := true }
def PairsGroupUptoSaid : Prop := pairsGroupUptoRow.holds Try.pinned (OpenSpec.upto pairsGroupSpec)

/-- 'maslinlaw17.PartTells', WHERE WHAT IT READS IS OF BULK AT MOST 1048576: true; the input reads as it did. -/
def partTellsUptoRow : OpenClaim := { program := "ytdebgkjekcppmaa", sum := "05667888d20709149f7918c4c791c345ad85d1413b0e6008f848c0ab4882e29b", func := "maslin/maslinlaw17.PartTells", spec := "partTells", inPlace := ["internal/abi.NoEscape"], unfollowed := true, recurses := true, apart := false, narrowed := true }
def PartTellsUptoSaid : Prop := partTellsUptoRow.holds Try.pinned (OpenSpec.upto partTellsSpec)

/-- 'maslinlaw17.PartJoins', WHERE WHAT IT READS IS OF BULK AT MOST 1048576: true; the input reads as it did. -/
def partJoinsUptoRow : OpenClaim := { program := "ytdebgkjekcppmaa", sum := "05667888d20709149f7918c4c791c345ad85d1413b0e6008f848c0ab4882e29b", func := "maslin/maslinlaw17.PartJoins", spec := "partJoins", inPlace := ["internal/abi.NoEscape"], unfollowed := true, recurses := true, apart := false, narrowed := true }
def PartJoinsUptoSaid : Prop := partJoinsUptoRow.holds Try.pinned (OpenSpec.upto partJoinsSpec)

/-- 'maslinlaw17.PartAgain', WHERE WHAT IT READS IS OF BULK AT MOST 1048576: true; the input reads as it did. -/
def partAgainUptoRow : OpenClaim := { program := "ytdebgkjekcppmaa", sum := "05667888d20709149f7918c4c791c345ad85d1413b0e6008f848c0ab4882e29b", func := "maslin/maslinlaw17.PartAgain", spec := "partAgain", inPlace := ["internal/abi.NoEscape"], unfollowed := true, recurses := true, apart := false, narrowed := true }
def PartAgainUptoSaid : Prop := partAgainUptoRow.holds Try.pinned (OpenSpec.upto partAgainSpec)

end Rows
end Go.Proofs.Ytdebgkjekcppmaa
