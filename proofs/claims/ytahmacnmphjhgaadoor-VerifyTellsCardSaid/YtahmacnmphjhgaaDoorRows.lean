/-
  NARROWER THAN 'FOR EVERY INPUT', by the rows' own cells (each row's printed sentence says how): VerifyStraight: laid · VerifyOthers: laid · VerifyTells: laid · VerifyBlocks: laid.
  DERIVED. THE GIVEN ROWS OF THIS SEAT. 4 by the template 'for every input the law returns true; each argument reads behind the call as it read before'; 0 by the template 'total and deterministic' (their statements: YtahmacnmphjhgaaDoorTotals.lean).
  GIVEN WITH THE SEED: the statements are not yours to turn. If you find one false, say at which input.
  Laid BY PROGRAM, IN A SANDBOX (cutbox-rows.mjs): the forced cells as the released guide's own fill.sh prints them over the translation f0915ca47b466d36… (all of the seat's roots in one cut). By AI agents, Wed Nov 11 2026. No macro, syntax, notation, axiom, sorry.
-/
import Derived.Test.YtahmacnmphjhgaaDoorChecked
import GoSem.PinnedTables
import GoSem.Claim
import GoSem.ClaimJoined
import GoSem.ClaimMapViews
import Derived.JoinedTies
import Derived.KernelRfl
namespace Go.Proofs.YtahmacnmphjhgaaDoor
/- THE CELL 'sum', in the pinned program and in every row, IS THE sha256 OF THE DUMP (.gsa) THAT YtahmacnmphjhgaaDoorProg.lean LOADS. Nothing in Lean hashes anything: it is a label: what it is worth is what the hold of that sum in a sandbox is worth. -/
noncomputable def Tryd.pinned : Pinned := { name := "ytahmacnmphjhgaadoor", sum := "f0915ca47b466d363362a31d26ae05ba294df16066e58858b907f54919c84922", checked := Tryd.checked }
namespace Rows
def none {H : Type} : Left H := { results := [], args := [] }

/- WHAT THE LISTED PACKAGE-LEVEL VARIABLES READ AS WHEN THE CALL BEGINS. Each datum BY PROGRAM (the guide's laid-datum.mjs) off the statement by which the dump's own 'gosem.cut.vars' lays the variable. In a bare row this is a premise. The card (YtahmacnmphjhgaaDoorCards.lean) ties it to the program's text. -/
def laid_unicode_utf8_acceptRanges {H : Type} : DataW H := .agg [.agg [.lit (.int .u8 128), .lit (.int .u8 191)], .agg [.lit (.int .u8 160), .lit (.int .u8 191)], .agg [.lit (.int .u8 128), .lit (.int .u8 159)], .agg [.lit (.int .u8 144), .lit (.int .u8 191)], .agg [.lit (.int .u8 128), .lit (.int .u8 143)], .agg [.lit (.int .u8 0), .lit (.int .u8 0)], .agg [.lit (.int .u8 0), .lit (.int .u8 0)], .agg [.lit (.int .u8 0), .lit (.int .u8 0)], .agg [.lit (.int .u8 0), .lit (.int .u8 0)], .agg [.lit (.int .u8 0), .lit (.int .u8 0)], .agg [.lit (.int .u8 0), .lit (.int .u8 0)], .agg [.lit (.int .u8 0), .lit (.int .u8 0)], .agg [.lit (.int .u8 0), .lit (.int .u8 0)], .agg [.lit (.int .u8 0), .lit (.int .u8 0)], .agg [.lit (.int .u8 0), .lit (.int .u8 0)], .agg [.lit (.int .u8 0), .lit (.int .u8 0)]]
def laid_maslin_verify_effects {H : Type} : DataW H := .agg [.agg [.lit (.string []), .lit (.string [])], .agg [.lit (.string []), .lit (.string [84])], .agg [.lit (.string []), .lit (.string [78])], .agg [.lit (.string []), .lit (.string [84])], .agg [.lit (.string [84, 84]), .lit (.string [84])], .agg [.lit (.string [84]), .lit (.string [78])], .agg [.lit (.string [84, 78, 78]), .lit (.string [84])], .agg [.lit (.string [84]), .lit (.string [78])], .agg [.lit (.string [78]), .lit (.string [84])], .agg [.lit (.string [78, 78]), .lit (.string [78])], .agg [.lit (.string [78, 78]), .lit (.string [78])], .agg [.lit (.string [78, 78]), .lit (.string [78])], .agg [.lit (.string [84, 84]), .lit (.string [78])], .agg [.lit (.string [78]), .lit (.string [78])], .agg [.lit (.string [63]), .lit (.string [])], .agg [.lit (.string [63]), .lit (.string [49, 49])], .agg [.lit (.string [63, 63]), .lit (.string [50, 49])], .agg [.lit (.string []), .lit (.string [82])], .agg [.lit (.string [82]), .lit (.string [])], .agg [.lit (.string [78]), .lit (.string [])], .agg [.lit (.string []), .lit (.string [])], .agg [.lit (.string []), .lit (.string [])], .agg [.lit (.string [84]), .lit (.string [])], .agg [.lit (.string [84, 84]), .lit (.string [])]]
/-- One of Go's own tables, pinned by name: the form's constant. -/
def laid_unicode_utf8_first : DataW Unit := Go.Pinned.utf8First

/-- 'maslinlaw13.VerifyStraight': WHATEVER THE INPUT: true; the input reads as it did. -/
def verifyStraightSpec : ChangeSpec := { name := "verifyStraight", fn := fun _ => fun
  | [d1, d2] => { results := [.lit (.bool true)], args := [d1, d2] }
  | _ => none }
def verifyStraightRow : OpenClaim := { program := "ytahmacnmphjhgaadoor", sum := "f0915ca47b466d363362a31d26ae05ba294df16066e58858b907f54919c84922", func := "maslin/maslinlaw13.VerifyStraight", spec := "verifyStraight", inPlace := ["internal/bytealg.CountString", "internal/bytealg.IndexByteString", "internal/bytealg.IndexString", "internal/abi.NoEscape", "internal/bytealg.MakeNoZero"], unfollowed := true, recurses := true, named := ["maslin/verify.effects", "internal/bytealg.MaxLen", "unicode/utf8.first", "unicode/utf8.acceptRanges"], apart := false, laid := [("unicode/utf8.acceptRanges", laid_unicode_utf8_acceptRanges), ("maslin/verify.effects", laid_maslin_verify_effects), ("unicode/utf8.first", laid_unicode_utf8_first)] }
def VerifyStraightSaid : Prop := verifyStraightRow.holds Tryd.pinned (OpenSpec.ofChange verifyStraightSpec)

/-- ITS FALSE NEIGHBOUR: 'it returns false'. Refute it at one input. -/
def verifyStraightWrong : ChangeSpec := { name := "verifyStraight", fn := fun _ => fun
  | [d1, d2] => { results := [.lit (.bool false)], args := [d1, d2] }
  | _ => none }
def VerifyStraightWrongFalsely : Prop := verifyStraightRow.holds Tryd.pinned (OpenSpec.ofChange verifyStraightWrong)

/-- 'maslinlaw13.VerifyOthers': WHATEVER THE INPUT: true; the input reads as it did. -/
def verifyOthersSpec : ChangeSpec := { name := "verifyOthers", fn := fun _ => fun
  | [d1, d2, d3, d4] => { results := [.lit (.bool true)], args := [d1, d2, d3, d4] }
  | _ => none }
def verifyOthersRow : OpenClaim := { program := "ytahmacnmphjhgaadoor", sum := "f0915ca47b466d363362a31d26ae05ba294df16066e58858b907f54919c84922", func := "maslin/maslinlaw13.VerifyOthers", spec := "verifyOthers", inPlace := ["internal/bytealg.CountString", "internal/bytealg.IndexByteString", "internal/bytealg.IndexString", "internal/abi.NoEscape", "internal/bytealg.MakeNoZero"], unfollowed := true, recurses := true, named := ["maslin/verify.effects", "internal/bytealg.MaxLen", "unicode/utf8.first", "unicode/utf8.acceptRanges"], apart := false, laid := [("unicode/utf8.acceptRanges", laid_unicode_utf8_acceptRanges), ("maslin/verify.effects", laid_maslin_verify_effects), ("unicode/utf8.first", laid_unicode_utf8_first)] }
def VerifyOthersSaid : Prop := verifyOthersRow.holds Tryd.pinned (OpenSpec.ofChange verifyOthersSpec)

/-- ITS FALSE NEIGHBOUR: 'it returns false'. Refute it at one input. -/
def verifyOthersWrong : ChangeSpec := { name := "verifyOthers", fn := fun _ => fun
  | [d1, d2, d3, d4] => { results := [.lit (.bool false)], args := [d1, d2, d3, d4] }
  | _ => none }
def VerifyOthersWrongFalsely : Prop := verifyOthersRow.holds Tryd.pinned (OpenSpec.ofChange verifyOthersWrong)

/-- 'maslinlaw13.VerifyTells': WHATEVER THE INPUT: true; the input reads as it did. -/
def verifyTellsSpec : ChangeSpec := { name := "verifyTells", fn := fun _ => fun
  | [d1, d2] => { results := [.lit (.bool true)], args := [d1, d2] }
  | _ => none }
def verifyTellsRow : OpenClaim := { program := "ytahmacnmphjhgaadoor", sum := "f0915ca47b466d363362a31d26ae05ba294df16066e58858b907f54919c84922", func := "maslin/maslinlaw13.VerifyTells", spec := "verifyTells", inPlace := ["internal/bytealg.CountString", "internal/bytealg.IndexByteString", "internal/bytealg.IndexString", "internal/abi.NoEscape", "internal/bytealg.MakeNoZero"], unfollowed := true, recurses := true, named := ["maslin/verify.effects", "internal/bytealg.MaxLen", "unicode/utf8.first", "unicode/utf8.acceptRanges"], apart := false, laid := [("unicode/utf8.acceptRanges", laid_unicode_utf8_acceptRanges), ("maslin/verify.effects", laid_maslin_verify_effects), ("unicode/utf8.first", laid_unicode_utf8_first)] }
def VerifyTellsSaid : Prop := verifyTellsRow.holds Tryd.pinned (OpenSpec.ofChange verifyTellsSpec)

/-- ITS FALSE NEIGHBOUR: 'it returns false'. Refute it at one input. -/
def verifyTellsWrong : ChangeSpec := { name := "verifyTells", fn := fun _ => fun
  | [d1, d2] => { results := [.lit (.bool false)], args := [d1, d2] }
  | _ => none }
def VerifyTellsWrongFalsely : Prop := verifyTellsRow.holds Tryd.pinned (OpenSpec.ofChange verifyTellsWrong)

/-- 'maslinlaw13.VerifyBlocks': WHATEVER THE INPUT: true; the input reads as it did. -/
def verifyBlocksSpec : ChangeSpec := { name := "verifyBlocks", fn := fun _ => fun
  | [d1, d2] => { results := [.lit (.bool true)], args := [d1, d2] }
  | _ => none }
def verifyBlocksRow : OpenClaim := { program := "ytahmacnmphjhgaadoor", sum := "f0915ca47b466d363362a31d26ae05ba294df16066e58858b907f54919c84922", func := "maslin/maslinlaw13.VerifyBlocks", spec := "verifyBlocks", inPlace := ["internal/bytealg.CountString", "internal/bytealg.IndexByteString", "internal/bytealg.IndexString", "internal/abi.NoEscape", "internal/bytealg.MakeNoZero"], unfollowed := true, recurses := true, named := ["maslin/verify.effects", "internal/bytealg.MaxLen", "unicode/utf8.first", "unicode/utf8.acceptRanges"], apart := false, laid := [("unicode/utf8.acceptRanges", laid_unicode_utf8_acceptRanges), ("maslin/verify.effects", laid_maslin_verify_effects), ("unicode/utf8.first", laid_unicode_utf8_first)] }
def VerifyBlocksSaid : Prop := verifyBlocksRow.holds Tryd.pinned (OpenSpec.ofChange verifyBlocksSpec)

/-- ITS FALSE NEIGHBOUR: 'it returns false'. Refute it at one input. -/
def verifyBlocksWrong : ChangeSpec := { name := "verifyBlocks", fn := fun _ => fun
  | [d1, d2] => { results := [.lit (.bool false)], args := [d1, d2] }
  | _ => none }
def VerifyBlocksWrongFalsely : Prop := verifyBlocksRow.holds Tryd.pinned (OpenSpec.ofChange verifyBlocksWrong)

/- THE SECOND FORM. 'bulk': how many values and letters a reading holds, each counted each time it is reached (what is shared counts as often as it is met; a slice's spare places count too). A statement '..UptoSaid' is the law's where the arguments, and the package variables that the reading takes, are together of bulk at most 1048576: NARROWER than '..Said'. Prove '..Said' where nothing that the law and all that it calls make is longer than what came in: it says more and counts as full. Else prove '..UptoSaid'. A law counts once. -/
mutual
def uptoBulk {H : Type} : DataW H → Nat
  | .lit (.string bytes) => bytes.length + 1
  | .lit _ => 1
  | .nil => 1
  | .ptr d => uptoBulk d + 1
  | .slice elems spare => uptoBulkAll elems + uptoBulkAll spare + 1
  | .agg parts => uptoBulkAll parts + 1
  | .iface _ d => uptoBulk d + 1
  | .map entries => uptoBulkEntries entries + 1
  | .held _ => 1
def uptoBulkAll {H : Type} : List (DataW H) → Nat
  | [] => 0
  | d :: r => uptoBulk d + uptoBulkAll r
def uptoBulkEntries {H : Type} : List (Lit × DataW H) → Nat
  | [] => 0
  | x :: r => uptoBulkEntry x + uptoBulkEntries r
def uptoBulkEntry {H : Type} : Lit × DataW H → Nat
  | (.string bytes, d) => bytes.length + uptoBulk d + 1
  | (_, d) => uptoBulk d + 1
 end
def uptoSmall : (H : Type) → List (DataW H) → Bool := fun _ ds => decide (uptoBulkAll ds ≤ 1048576)
def OpenSpec.upto (s : _root_.Go.ChangeSpec) : _root_.Go.OpenSpec := { _root_.Go.OpenSpec.ofChange s with cond := some uptoSmall }

/-- 'maslinlaw13.VerifyStraight', WHERE WHAT IT READS IS OF BULK AT MOST 1048576: true; the input reads as it did. -/
def verifyStraightUptoRow : OpenClaim := { program := "ytahmacnmphjhgaadoor", sum := "f0915ca47b466d363362a31d26ae05ba294df16066e58858b907f54919c84922", func := "maslin/maslinlaw13.VerifyStraight", spec := "verifyStraight", inPlace := ["internal/bytealg.CountString", "internal/bytealg.IndexByteString", "internal/bytealg.IndexString", "internal/abi.NoEscape", "internal/bytealg.MakeNoZero"], unfollowed := true, recurses := true, named := ["maslin/verify.effects", "internal/bytealg.MaxLen", "unicode/utf8.first", "unicode/utf8.acceptRanges"], apart := false, laid := [("unicode/utf8.acceptRanges", laid_unicode_utf8_acceptRanges), ("maslin/verify.effects", laid_maslin_verify_effects), ("unicode/utf8.first", laid_unicode_utf8_first)], narrowed := true }
def VerifyStraightUptoSaid : Prop := verifyStraightUptoRow.holds Tryd.pinned (OpenSpec.upto verifyStraightSpec)

/-- 'maslinlaw13.VerifyOthers', WHERE WHAT IT READS IS OF BULK AT MOST 1048576: true; the input reads as it did. -/
def verifyOthersUptoRow : OpenClaim := { program := "ytahmacnmphjhgaadoor", sum := "f0915ca47b466d363362a31d26ae05ba294df16066e58858b907f54919c84922", func := "maslin/maslinlaw13.VerifyOthers", spec := "verifyOthers", inPlace := ["internal/bytealg.CountString", "internal/bytealg.IndexByteString", "internal/bytealg.IndexString", "internal/abi.NoEscape", "internal/bytealg.MakeNoZero"], unfollowed := true, recurses := true, named := ["maslin/verify.effects", "internal/bytealg.MaxLen", "unicode/utf8.first", "unicode/utf8.acceptRanges"], apart := false, laid := [("unicode/utf8.acceptRanges", laid_unicode_utf8_acceptRanges), ("maslin/verify.effects", laid_maslin_verify_effects), ("unicode/utf8.first", laid_unicode_utf8_first)], narrowed := true }
def VerifyOthersUptoSaid : Prop := verifyOthersUptoRow.holds Tryd.pinned (OpenSpec.upto verifyOthersSpec)

/-- 'maslinlaw13.VerifyTells', WHERE WHAT IT READS IS OF BULK AT MOST 1048576: true; the input reads as it did. -/
def verifyTellsUptoRow : OpenClaim := { program := "ytahmacnmphjhgaadoor", sum := "f0915ca47b466d363362a31d26ae05ba294df16066e58858b907f54919c84922", func := "maslin/maslinlaw13.VerifyTells", spec := "verifyTells", inPlace := ["internal/bytealg.CountString", "internal/bytealg.IndexByteString", "internal/bytealg.IndexString", "internal/abi.NoEscape", "internal/bytealg.MakeNoZero"], unfollowed := true, recurses := true, named := ["maslin/verify.effects", "internal/bytealg.MaxLen", "unicode/utf8.first", "unicode/utf8.acceptRanges"], apart := false, laid := [("unicode/utf8.acceptRanges", laid_unicode_utf8_acceptRanges), ("maslin/verify.effects", laid_maslin_verify_effects), ("unicode/utf8.first", laid_unicode_utf8_first)], narrowed := true }
def VerifyTellsUptoSaid : Prop := verifyTellsUptoRow.holds Tryd.pinned (OpenSpec.upto verifyTellsSpec)

/-- 'maslinlaw13.VerifyBlocks', WHERE WHAT IT READS IS OF BULK AT MOST 1048576: true; the input reads as it did. -/
def verifyBlocksUptoRow : OpenClaim := { program := "ytahmacnmphjhgaadoor", sum := "f0915ca47b466d363362a31d26ae05ba294df16066e58858b907f54919c84922", func := "maslin/maslinlaw13.VerifyBlocks", spec := "verifyBlocks", inPlace := ["internal/bytealg.CountString", "internal/bytealg.IndexByteString", "internal/bytealg.IndexString", "internal/abi.NoEscape", "internal/bytealg.MakeNoZero"], unfollowed := true, recurses := true, named := ["maslin/verify.effects", "internal/bytealg.MaxLen", "unicode/utf8.first", "unicode/utf8.acceptRanges"], apart := false, laid := [("unicode/utf8.acceptRanges", laid_unicode_utf8_acceptRanges), ("maslin/verify.effects", laid_maslin_verify_effects), ("unicode/utf8.first", laid_unicode_utf8_first)], narrowed := true }
def VerifyBlocksUptoSaid : Prop := verifyBlocksUptoRow.holds Tryd.pinned (OpenSpec.upto verifyBlocksSpec)

end Rows
end Go.Proofs.YtahmacnmphjhgaaDoor
