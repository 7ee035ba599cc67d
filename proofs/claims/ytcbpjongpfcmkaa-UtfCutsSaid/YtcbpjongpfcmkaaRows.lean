/-
  No cell of these rows narrows 'for every input' (looked for: loops, veiled, ifaces, maps, wideKeys, modest, calm, conditions, laid).
  DERIVED. THE GIVEN ROWS OF THIS SEAT. 6 by the template 'for every input the law returns true; each argument reads behind the call as it read before'; 0 by the template 'total and deterministic' (their statements: YtcbpjongpfcmkaaTotals.lean).
  GIVEN WITH THE SEED: the statements are not yours to turn. If you find one false, say at which input.
  Laid BY PROGRAM, IN A SANDBOX (cutbox-rows.mjs): the forced cells as the released guide's own fill.sh prints them over the translation 617d8d4c68e56e51… (all of the seat's roots in one cut). By AI agents, Wed Nov 11 2026. No macro, syntax, notation, axiom, sorry.
-/
import Derived.Test.YtcbpjongpfcmkaaChecked
import GoSem.Claim
import GoSem.ClaimJoined
import GoSem.ClaimMapViews
import Derived.JoinedTies
import Derived.KernelRfl
namespace Go.Proofs.Ytcbpjongpfcmkaa
/- THE CELL 'sum', in the pinned program and in every row, IS THE sha256 OF THE DUMP (.gsa) THAT YtcbpjongpfcmkaaProg.lean LOADS. Nothing in Lean hashes anything: it is a label: what it is worth is what the hold of that sum in a sandbox is worth. -/
noncomputable def Try.pinned : Pinned := { name := "ytcbpjongpfcmkaa", sum := "617d8d4c68e56e513d726c9ae8459d826ac19afa89e5525e62ce33d9a557cb44", checked := Try.checked }
namespace Rows
def none {H : Type} : Left H := { results := [], args := [] }

/-- 'truchmanlaw4.UtfCuts': WHATEVER THE INPUT: true; the input reads as it did. -/
def utfCutsSpec : ChangeSpec := { name := "utfCuts", fn := fun _ => fun
  | [d1, d2] => { results := [.lit (.bool true)], args := [d1, d2] }
  | _ => none }
def utfCutsRow : OpenClaim := { program := "ytcbpjongpfcmkaa", sum := "617d8d4c68e56e513d726c9ae8459d826ac19afa89e5525e62ce33d9a557cb44", func := "truchman/truchmanlaw4.UtfCuts", spec := "utfCuts", apart := false }
def UtfCutsSaid : Prop := utfCutsRow.holds Try.pinned (OpenSpec.ofChange utfCutsSpec)

/-- ITS FALSE NEIGHBOUR: 'it returns false'. Refute it at one input. -/
def utfCutsWrong : ChangeSpec := { name := "utfCuts", fn := fun _ => fun
  | [d1, d2] => { results := [.lit (.bool false)], args := [d1, d2] }
  | _ => none }
def UtfCutsWrongFalsely : Prop := utfCutsRow.holds Try.pinned (OpenSpec.ofChange utfCutsWrong)

/-- 'truchmanlaw4.UtfLengths': WHATEVER THE INPUT: true; the input reads as it did. -/
def utfLengthsSpec : ChangeSpec := { name := "utfLengths", fn := fun _ => fun
  | [d1, d2] => { results := [.lit (.bool true)], args := [d1, d2] }
  | _ => none }
def utfLengthsRow : OpenClaim := { program := "ytcbpjongpfcmkaa", sum := "617d8d4c68e56e513d726c9ae8459d826ac19afa89e5525e62ce33d9a557cb44", func := "truchman/truchmanlaw4.UtfLengths", spec := "utfLengths", apart := false }
def UtfLengthsSaid : Prop := utfLengthsRow.holds Try.pinned (OpenSpec.ofChange utfLengthsSpec)

/-- ITS FALSE NEIGHBOUR: 'it returns false'. Refute it at one input. -/
def utfLengthsWrong : ChangeSpec := { name := "utfLengths", fn := fun _ => fun
  | [d1, d2] => { results := [.lit (.bool false)], args := [d1, d2] }
  | _ => none }
def UtfLengthsWrongFalsely : Prop := utfLengthsRow.holds Try.pinned (OpenSpec.ofChange utfLengthsWrong)

/-- 'truchmanlaw4.UtfBad': WHATEVER THE INPUT: true; the input reads as it did. -/
def utfBadSpec : ChangeSpec := { name := "utfBad", fn := fun _ => fun
  | [d1, d2, d3] => { results := [.lit (.bool true)], args := [d1, d2, d3] }
  | _ => none }
def utfBadRow : OpenClaim := { program := "ytcbpjongpfcmkaa", sum := "617d8d4c68e56e513d726c9ae8459d826ac19afa89e5525e62ce33d9a557cb44", func := "truchman/truchmanlaw4.UtfBad", spec := "utfBad", apart := false }
def UtfBadSaid : Prop := utfBadRow.holds Try.pinned (OpenSpec.ofChange utfBadSpec)

/-- ITS FALSE NEIGHBOUR: 'it returns false'. Refute it at one input. -/
def utfBadWrong : ChangeSpec := { name := "utfBad", fn := fun _ => fun
  | [d1, d2, d3] => { results := [.lit (.bool false)], args := [d1, d2, d3] }
  | _ => none }
def UtfBadWrongFalsely : Prop := utfBadRow.holds Try.pinned (OpenSpec.ofChange utfBadWrong)

/-- 'truchmanlaw4.UtfTells': WHATEVER THE INPUT: true; the input reads as it did. -/
def utfTellsSpec : ChangeSpec := { name := "utfTells", fn := fun _ => fun
  | [d1, d2] => { results := [.lit (.bool true)], args := [d1, d2] }
  | _ => none }
def utfTellsRow : OpenClaim := { program := "ytcbpjongpfcmkaa", sum := "617d8d4c68e56e513d726c9ae8459d826ac19afa89e5525e62ce33d9a557cb44", func := "truchman/truchmanlaw4.UtfTells", spec := "utfTells", apart := false }
def UtfTellsSaid : Prop := utfTellsRow.holds Try.pinned (OpenSpec.ofChange utfTellsSpec)

/-- ITS FALSE NEIGHBOUR: 'it returns false'. Refute it at one input. -/
def utfTellsWrong : ChangeSpec := { name := "utfTells", fn := fun _ => fun
  | [d1, d2] => { results := [.lit (.bool false)], args := [d1, d2] }
  | _ => none }
def UtfTellsWrongFalsely : Prop := utfTellsRow.holds Try.pinned (OpenSpec.ofChange utfTellsWrong)

/-- 'truchmanlaw4.UtfRunes': WHATEVER THE INPUT: true; the input reads as it did. -/
def utfRunesSpec : ChangeSpec := { name := "utfRunes", fn := fun _ => fun
  | [d1, d2, d3] => { results := [.lit (.bool true)], args := [d1, d2, d3] }
  | _ => none }
def utfRunesRow : OpenClaim := { program := "ytcbpjongpfcmkaa", sum := "617d8d4c68e56e513d726c9ae8459d826ac19afa89e5525e62ce33d9a557cb44", func := "truchman/truchmanlaw4.UtfRunes", spec := "utfRunes", apart := false }
def UtfRunesSaid : Prop := utfRunesRow.holds Try.pinned (OpenSpec.ofChange utfRunesSpec)

/-- ITS FALSE NEIGHBOUR: 'it returns false'. Refute it at one input. -/
def utfRunesWrong : ChangeSpec := { name := "utfRunes", fn := fun _ => fun
  | [d1, d2, d3] => { results := [.lit (.bool false)], args := [d1, d2, d3] }
  | _ => none }
def UtfRunesWrongFalsely : Prop := utfRunesRow.holds Try.pinned (OpenSpec.ofChange utfRunesWrong)

/-- 'truchmanlaw4.UtfAscii': WHATEVER THE INPUT: true; the input reads as it did. -/
def utfAsciiSpec : ChangeSpec := { name := "utfAscii", fn := fun _ => fun
  | [d] => { results := [.lit (.bool true)], args := [d] }
  | _ => none }
def utfAsciiRow : OpenClaim := { program := "ytcbpjongpfcmkaa", sum := "617d8d4c68e56e513d726c9ae8459d826ac19afa89e5525e62ce33d9a557cb44", func := "truchman/truchmanlaw4.UtfAscii", spec := "utfAscii", apart := false }
def UtfAsciiSaid : Prop := utfAsciiRow.holds Try.pinned (OpenSpec.ofChange utfAsciiSpec)

/-- ITS FALSE NEIGHBOUR: 'it returns false'. Refute it at one input. -/
def utfAsciiWrong : ChangeSpec := { name := "utfAscii", fn := fun _ => fun
  | [d] => { results := [.lit (.bool false)], args := [d] }
  | _ => none }
def UtfAsciiWrongFalsely : Prop := utfAsciiRow.holds Try.pinned (OpenSpec.ofChange utfAsciiWrong)

/- THE SECOND FORM. 'bulk': how many values and letters a reading holds, each counted each time it is reached (what is shared counts as often as it is met; a slice's spare places count too). A statement '..UptoSaid' is the law's where the arguments, and the package variables that the reading takes, are together of bulk at most 1048576: NARROWER than '..Said'. Prove '..Said' where nothing that the law and all that it calls make is longer than what came in: it says more and counts as full. Else prove '..UptoSaid'. A law counts once. -/
mutual
def uptoBulk {H : Type} : DataW H → Nat
  | .lit (.string bytes) => bytes.length + 1
  | .lit _ => 1
  | .nil => 1
  | .ptr d => uptoBulk d + 1
  | .slice elems spare => uptoBulkAll elems + uptoBulkAll spare + 1
  | .agg parts => uptoBulkAll parts + 1
  | .iface _ d => uptoBulk d + 1
  | .map entries => uptoBulkEntries entries + 1
  | .held _ => 1
def uptoBulkAll {H : Type} : List (DataW H) → Nat
  | [] => 0
  | d :: r => uptoBulk d + uptoBulkAll r
def uptoBulkEntries {H : Type} : List (Lit × DataW H) → Nat
  | [] => 0
  | x :: r => uptoBulkEntry x + uptoBulkEntries r
def uptoBulkEntry {H : Type} : Lit × DataW H → Nat
  | (.string bytes, d) => bytes.length + uptoBulk d + 1
  | (_, d) => uptoBulk d + 1
 end
def uptoSmall : (H : Type) → List (DataW H) → Bool := fun _ ds => decide (uptoBulkAll ds ≤ 1048576)
def OpenSpec.upto (s : _root_.Go.ChangeSpec) : _root_.Go.OpenSpec := { _root_.Go.OpenSpec.ofChange s with cond := some uptoSmall }

/-- 'truchmanlaw4.UtfCuts', WHERE WHAT IT READS IS OF BULK AT MOST 1048576: true; the input reads as it did. -/
def utfCutsUptoRow : OpenClaim := { program := "ytcbpjongpfcmkaa", sum := "617d8d4c68e56e513d726c9ae8459d826ac19afa89e5525e62ce33d9a557cb44", func := "truchman/truchmanlaw4.UtfCuts", spec := "utfCuts", apart := false, narrowed := true }
def UtfCutsUptoSaid : Prop := utfCutsUptoRow.holds Try.pinned (OpenSpec.upto utfCutsSpec)

/-- 'truchmanlaw4.UtfLengths', WHERE WHAT IT READS IS OF BULK AT MOST 1048576: true; the input reads as it did. -/
def utfLengthsUptoRow : OpenClaim := { program := "ytcbpjongpfcmkaa", sum := "617d8d4c68e56e513d726c9ae8459d826ac19afa89e5525e62ce33d9a557cb44", func := "truchman/truchmanlaw4.UtfLengths", spec := "utfLengths", apart := false, narrowed := true }
def UtfLengthsUptoSaid : Prop := utfLengthsUptoRow.holds Try.pinned (OpenSpec.upto utfLengthsSpec)

/-- 'truchmanlaw4.UtfBad', WHERE WHAT IT READS IS OF BULK AT MOST 1048576: true; the input reads as it did. -/
def utfBadUptoRow : OpenClaim := { program := "ytcbpjongpfcmkaa", sum := "617d8d4c68e56e513d726c9ae8459d826ac19afa89e5525e62ce33d9a557cb44", func := "truchman/truchmanlaw4.UtfBad", spec := "utfBad", apart := false, narrowed := true }
def UtfBadUptoSaid : Prop := utfBadUptoRow.holds Try.pinned (OpenSpec.upto utfBadSpec)

/-- 'truchmanlaw4.UtfTells', WHERE WHAT IT READS IS OF BULK AT MOST 1048576: true; the input reads as it did. -/
def utfTellsUptoRow : OpenClaim := { program := "ytcbpjongpfcmkaa", sum := "617d8d4c68e56e513d726c9ae8459d826ac19afa89e5525e62ce33d9a557cb44", func := "truchman/truchmanlaw4.UtfTells", spec := "utfTells", apart := false, narrowed := true }
def UtfTellsUptoSaid : Prop := utfTellsUptoRow.holds Try.pinned (OpenSpec.upto utfTellsSpec)

/-- 'truchmanlaw4.UtfRunes', WHERE WHAT IT READS IS OF BULK AT MOST 1048576: true; the input reads as it did. -/
def utfRunesUptoRow : OpenClaim := { program := "ytcbpjongpfcmkaa", sum := "617d8d4c68e56e513d726c9ae8459d826ac19afa89e5525e62ce33d9a557cb44", func := "truchman/truchmanlaw4.UtfRunes", spec := "utfRunes", apart := false, narrowed := true }
def UtfRunesUptoSaid : Prop := utfRunesUptoRow.holds Try.pinned (OpenSpec.upto utfRunesSpec)

/-- 'truchmanlaw4.UtfAscii', WHERE WHAT IT READS IS OF BULK AT MOST 1048576: true; the input reads as it did. -/
def utfAsciiUptoRow : OpenClaim := { program := "ytcbpjongpfcmkaa", sum := "617d8d4c68e56e513d726c9ae8459d826ac19afa89e5525e62ce33d9a557cb44", func := "truchman/truchmanlaw4.UtfAscii", spec := "utfAscii", apart := false, narrowed := true }
def UtfAsciiUptoSaid : Prop := utfAsciiUptoRow.holds Try.pinned (OpenSpec.upto utfAsciiSpec)

end Rows
end Go.Proofs.Ytcbpjongpfcmkaa
