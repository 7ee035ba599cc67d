/-
  No cell of these rows narrows 'for every input' (looked for: loops, veiled, ifaces, maps, wideKeys, modest, calm, conditions, laid).
  DERIVED. THE GIVEN ROWS OF THIS SEAT. 5 by the template 'for every input the law returns true; each argument reads behind the call as it read before'; 0 by the template 'total and deterministic' (their statements: YtenkbjpjpblccaaTotals.lean).
  GIVEN WITH THE SEED: the statements are not yours to turn. If you find one false, say at which input.
  Laid BY PROGRAM, IN A SANDBOX (cutbox-rows.mjs): the forced cells as the released guide's own fill.sh prints them over the translation 2d639a92b1abe907… (all of the seat's roots in one cut). By AI agents, Wed Nov 11 2026. No macro, syntax, notation, axiom, sorry.
-/
import Derived.Test.YtenkbjpjpblccaaChecked
import GoSem.Claim
import GoSem.ClaimJoined
import GoSem.ClaimMapViews
import Derived.JoinedTies
import Derived.KernelRfl
namespace Go.Proofs.Ytenkbjpjpblccaa
/- THE CELL 'sum', in the pinned program and in every row, IS THE sha256 OF THE DUMP (.gsa) THAT YtenkbjpjpblccaaProg.lean LOADS. Nothing in Lean hashes anything: it is a label: what it is worth is what the hold of that sum in a sandbox is worth. -/
noncomputable def Try.pinned : Pinned := { name := "ytenkbjpjpblccaa", sum := "2d639a92b1abe907eb73b9eb08c3bceb96a9b65195aad5a1d4ca170adceb80cb", checked := Try.checked }
namespace Rows
def none {H : Type} : Left H := { results := [], args := [] }

/-- 'truchmanlaw10.LexerBlanks': WHATEVER THE INPUT: true; the input reads as it did. -/
def lexerBlanksSpec : ChangeSpec := { name := "lexerBlanks", fn := fun _ => fun
  | [d1, d2] => { results := [.lit (.bool true)], args := [d1, d2] }
  | _ => none }
def lexerBlanksRow : OpenClaim := { program := "ytenkbjpjpblccaa", sum := "2d639a92b1abe907eb73b9eb08c3bceb96a9b65195aad5a1d4ca170adceb80cb", func := "truchman/truchmanlaw10.LexerBlanks", spec := "lexerBlanks", inPlace := ["internal/bytealg.IndexByteString", "internal/abi.NoEscape", "math/bits.Add64"], apart := false }
def LexerBlanksSaid : Prop := lexerBlanksRow.holds Try.pinned (OpenSpec.ofChange lexerBlanksSpec)

/-- ITS FALSE NEIGHBOUR: 'it returns false'. Refute it at one input. -/
def lexerBlanksWrong : ChangeSpec := { name := "lexerBlanks", fn := fun _ => fun
  | [d1, d2] => { results := [.lit (.bool false)], args := [d1, d2] }
  | _ => none }
def LexerBlanksWrongFalsely : Prop := lexerBlanksRow.holds Try.pinned (OpenSpec.ofChange lexerBlanksWrong)

/-- 'truchmanlaw10.LexerWords': WHATEVER THE INPUT: true; the input reads as it did. -/
def lexerWordsSpec : ChangeSpec := { name := "lexerWords", fn := fun _ => fun
  | [d1, d2, d3] => { results := [.lit (.bool true)], args := [d1, d2, d3] }
  | _ => none }
def lexerWordsRow : OpenClaim := { program := "ytenkbjpjpblccaa", sum := "2d639a92b1abe907eb73b9eb08c3bceb96a9b65195aad5a1d4ca170adceb80cb", func := "truchman/truchmanlaw10.LexerWords", spec := "lexerWords", inPlace := ["internal/bytealg.IndexByteString", "internal/abi.NoEscape", "math/bits.Add64"], apart := false }
def LexerWordsSaid : Prop := lexerWordsRow.holds Try.pinned (OpenSpec.ofChange lexerWordsSpec)

/-- ITS FALSE NEIGHBOUR: 'it returns false'. Refute it at one input. -/
def lexerWordsWrong : ChangeSpec := { name := "lexerWords", fn := fun _ => fun
  | [d1, d2, d3] => { results := [.lit (.bool false)], args := [d1, d2, d3] }
  | _ => none }
def LexerWordsWrongFalsely : Prop := lexerWordsRow.holds Try.pinned (OpenSpec.ofChange lexerWordsWrong)

/-- 'truchmanlaw10.LexerStrings': WHATEVER THE INPUT: true; the input reads as it did. -/
def lexerStringsSpec : ChangeSpec := { name := "lexerStrings", fn := fun _ => fun
  | [d1, d2] => { results := [.lit (.bool true)], args := [d1, d2] }
  | _ => none }
def lexerStringsRow : OpenClaim := { program := "ytenkbjpjpblccaa", sum := "2d639a92b1abe907eb73b9eb08c3bceb96a9b65195aad5a1d4ca170adceb80cb", func := "truchman/truchmanlaw10.LexerStrings", spec := "lexerStrings", inPlace := ["internal/bytealg.IndexByteString", "internal/abi.NoEscape", "math/bits.Add64"], apart := false }
def LexerStringsSaid : Prop := lexerStringsRow.holds Try.pinned (OpenSpec.ofChange lexerStringsSpec)

/-- ITS FALSE NEIGHBOUR: 'it returns false'. Refute it at one input. -/
def lexerStringsWrong : ChangeSpec := { name := "lexerStrings", fn := fun _ => fun
  | [d1, d2] => { results := [.lit (.bool false)], args := [d1, d2] }
  | _ => none }
def LexerStringsWrongFalsely : Prop := lexerStringsRow.holds Try.pinned (OpenSpec.ofChange lexerStringsWrong)

/-- 'truchmanlaw10.LexerNumbers': WHATEVER THE INPUT: true; the input reads as it did. -/
def lexerNumbersSpec : ChangeSpec := { name := "lexerNumbers", fn := fun _ => fun
  | [d1, d2] => { results := [.lit (.bool true)], args := [d1, d2] }
  | _ => none }
def lexerNumbersRow : OpenClaim := { program := "ytenkbjpjpblccaa", sum := "2d639a92b1abe907eb73b9eb08c3bceb96a9b65195aad5a1d4ca170adceb80cb", func := "truchman/truchmanlaw10.LexerNumbers", spec := "lexerNumbers", inPlace := ["internal/bytealg.IndexByteString", "internal/abi.NoEscape", "math/bits.Add64"], apart := false }
def LexerNumbersSaid : Prop := lexerNumbersRow.holds Try.pinned (OpenSpec.ofChange lexerNumbersSpec)

/-- ITS FALSE NEIGHBOUR: 'it returns false'. Refute it at one input. -/
def lexerNumbersWrong : ChangeSpec := { name := "lexerNumbers", fn := fun _ => fun
  | [d1, d2] => { results := [.lit (.bool false)], args := [d1, d2] }
  | _ => none }
def LexerNumbersWrongFalsely : Prop := lexerNumbersRow.holds Try.pinned (OpenSpec.ofChange lexerNumbersWrong)

/-- 'truchmanlaw10.LexerOpens': WHATEVER THE INPUT: true; the input reads as it did. -/
def lexerOpensSpec : ChangeSpec := { name := "lexerOpens", fn := fun _ => fun
  | [d1, d2] => { results := [.lit (.bool true)], args := [d1, d2] }
  | _ => none }
def lexerOpensRow : OpenClaim := { program := "ytenkbjpjpblccaa", sum := "2d639a92b1abe907eb73b9eb08c3bceb96a9b65195aad5a1d4ca170adceb80cb", func := "truchman/truchmanlaw10.LexerOpens", spec := "lexerOpens", inPlace := ["internal/bytealg.IndexByteString", "internal/abi.NoEscape", "math/bits.Add64"], apart := false }
def LexerOpensSaid : Prop := lexerOpensRow.holds Try.pinned (OpenSpec.ofChange lexerOpensSpec)

/-- ITS FALSE NEIGHBOUR: 'it returns false'. Refute it at one input. -/
def lexerOpensWrong : ChangeSpec := { name := "lexerOpens", fn := fun _ => fun
  | [d1, d2] => { results := [.lit (.bool false)], args := [d1, d2] }
  | _ => none }
def LexerOpensWrongFalsely : Prop := lexerOpensRow.holds Try.pinned (OpenSpec.ofChange lexerOpensWrong)

/- THE SECOND FORM. 'bulk': how many values and letters a reading holds, each counted each time it is reached (what is shared counts as often as it is met; a slice's spare places count too). A statement '..UptoSaid' is the law's where the arguments, and the package variables that the reading takes, are together of bulk at most 1048576: NARROWER than '..Said'. Prove '..Said' where nothing that the law and all that it calls make is longer than what came in: it says more and counts as full. Else prove '..UptoSaid'. A law counts once. -/
mutual
def uptoBulk {H : Type} : DataW H → Nat
  | .lit (.string bytes) => bytes.length + 1
  | .lit _ => 1
  | .nil => 1
  | .ptr d => uptoBulk d + 1
  | .slice elems spare => uptoBulkAll elems + uptoBulkAll spare + 1
  | .agg parts => uptoBulkAll parts + 1
  | .iface _ d => uptoBulk d + 1
  | .map entries => uptoBulkEntries entries + 1
  | .held _ => 1
def uptoBulkAll {H : Type} : List (DataW H) → Nat
  | [] => 0
  | d :: r => uptoBulk d + uptoBulkAll r
def uptoBulkEntries {H : Type} : List (Lit × DataW H) → Nat
  | [] => 0
  | x :: r => uptoBulkEntry x + uptoBulkEntries r
def uptoBulkEntry {H : Type} : Lit × DataW H → Nat
  | (.string bytes, d) => bytes.length + uptoBulk d + 1
  | (_, d) => uptoBulk d + 1
 end
def uptoSmall : (H : Type) → List (DataW H) → Bool := fun _ ds => decide (uptoBulkAll ds ≤ 1048576)
def OpenSpec.upto (s : _root_.Go.ChangeSpec) : _root_.Go.OpenSpec := { _root_.Go.OpenSpec.ofChange s with cond := some uptoSmall }

/-- 'truchmanlaw10.LexerBlanks', WHERE WHAT IT READS IS OF BULK AT MOST 1048576: true; the input reads as it did. -/
def lexerBlanksUptoRow : OpenClaim := { program := "ytenkbjpjpblccaa", sum := "2d639a92b1abe907eb73b9eb08c3bceb96a9b65195aad5a1d4ca170adceb80cb", func := "truchman/truchmanlaw10.LexerBlanks", spec := "lexerBlanks", inPlace := ["internal/bytealg.IndexByteString", "internal/abi.NoEscape", "math/bits.Add64"], apart := false, narrowed := true }
def LexerBlanksUptoSaid : Prop := lexerBlanksUptoRow.holds Try.pinned (OpenSpec.upto lexerBlanksSpec)

/-- 'truchmanlaw10.LexerWords', WHERE WHAT IT READS IS OF BULK AT MOST 1048576: true; the input reads as it did. -/
def lexerWordsUptoRow : OpenClaim := { program := "ytenkbjpjpblccaa", sum := "2d639a92b1abe907eb73b9eb08c3bceb96a9b65195aad5a1d4ca170adceb80cb", func := "truchman/truchmanlaw10.LexerWords", spec := "lexerWords", inPlace := ["internal/bytealg.IndexByteString", "internal/abi.NoEscape", "math/bits.Add64"], apart := false, narrowed := true }
def LexerWordsUptoSaid : Prop := lexerWordsUptoRow.holds Try.pinned (OpenSpec.upto lexerWordsSpec)

/-- 'truchmanlaw10.LexerStrings', WHERE WHAT IT READS IS OF BULK AT MOST 1048576: true; the input reads as it did. -/
def lexerStringsUptoRow : OpenClaim := { program := "ytenkbjpjpblccaa", sum := "2d639a92b1abe907eb73b9eb08c3bceb96a9b65195aad5a1d4ca170adceb80cb", func := "truchman/truchmanlaw10.LexerStrings", spec := "lexerStrings", inPlace := ["internal/bytealg.IndexByteString", "internal/abi.NoEscape", "math/bits.Add64"], apart := false, narrowed := true }
def LexerStringsUptoSaid : Prop := lexerStringsUptoRow.holds Try.pinned (OpenSpec.upto lexerStringsSpec)

/-- 'truchmanlaw10.LexerNumbers', WHERE WHAT IT READS IS OF BULK AT MOST 1048576: true; the input reads as it did. -/
def lexerNumbersUptoRow : OpenClaim := { program := "ytenkbjpjpblccaa", sum := "2d639a92b1abe907eb73b9eb08c3bceb96a9b65195aad5a1d4ca170adceb80cb", func := "truchman/truchmanlaw10.LexerNumbers", spec := "lexerNumbers", inPlace := ["internal/bytealg.IndexByteString", "internal/abi.NoEscape", "math/bits.Add64"], apart := false, narrowed := true }
def LexerNumbersUptoSaid : Prop := lexerNumbersUptoRow.holds Try.pinned (OpenSpec.upto lexerNumbersSpec)

/-- 'truchmanlaw10.LexerOpens', WHERE WHAT IT READS IS OF BULK AT MOST 1048576: true; the input reads as it did. -/
def lexerOpensUptoRow : OpenClaim := { program := "ytenkbjpjpblccaa", sum := "2d639a92b1abe907eb73b9eb08c3bceb96a9b65195aad5a1d4ca170adceb80cb", func := "truchman/truchmanlaw10.LexerOpens", spec := "lexerOpens", inPlace := ["internal/bytealg.IndexByteString", "internal/abi.NoEscape", "math/bits.Add64"], apart := false, narrowed := true }
def LexerOpensUptoSaid : Prop := lexerOpensUptoRow.holds Try.pinned (OpenSpec.upto lexerOpensSpec)

end Rows
end Go.Proofs.Ytenkbjpjpblccaa
