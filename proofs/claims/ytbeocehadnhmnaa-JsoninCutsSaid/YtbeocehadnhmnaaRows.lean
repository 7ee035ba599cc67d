/-
  No cell of these rows narrows 'for every input' (looked for: loops, veiled, ifaces, maps, wideKeys, modest, calm, conditions, laid).
  DERIVED. THE GIVEN ROWS OF THIS SEAT. 6 by the template 'for every input the law returns true; each argument reads behind the call as it read before'; 0 by the template 'total and deterministic' (their statements: YtbeocehadnhmnaaTotals.lean).
  GIVEN WITH THE SEED: the statements are not yours to turn. If you find one false, say at which input.
  Laid BY PROGRAM, IN A SANDBOX (cutbox-rows.mjs): the forced cells as the released guide's own fill.sh prints them over the translation b20f7046a07c4334… (all of the seat's roots in one cut). By AI agents, Wed Nov 11 2026. No macro, syntax, notation, axiom, sorry.
-/
import Derived.Test.YtbeocehadnhmnaaChecked
import GoSem.Claim
import GoSem.ClaimJoined
import GoSem.ClaimMapViews
import Derived.JoinedTies
import Derived.KernelRfl
namespace Go.Proofs.Ytbeocehadnhmnaa
/- THE CELL 'sum', in the pinned program and in every row, IS THE sha256 OF THE DUMP (.gsa) THAT YtbeocehadnhmnaaProg.lean LOADS. Nothing in Lean hashes anything: it is a label: what it is worth is what the hold of that sum in a sandbox is worth. -/
noncomputable def Try.pinned : Pinned := { name := "ytbeocehadnhmnaa", sum := "b20f7046a07c4334703d847c2044d5cc106fc7861eee0a6f531de0577568d575", checked := Try.checked }
namespace Rows
def none {H : Type} : Left H := { results := [], args := [] }

/-- 'truchmanlaw11.JsoninBack': WHATEVER THE INPUT: true; the input reads as it did. -/
def jsoninBackSpec : ChangeSpec := { name := "jsoninBack", fn := fun _ => fun
  | [d1, d2] => { results := [.lit (.bool true)], args := [d1, d2] }
  | _ => none }
def jsoninBackRow : OpenClaim := { program := "ytbeocehadnhmnaa", sum := "b20f7046a07c4334703d847c2044d5cc106fc7861eee0a6f531de0577568d575", func := "truchman/truchmanlaw11.JsoninBack", spec := "jsoninBack", inPlace := ["internal/bytealg.IndexByteString", "internal/abi.NoEscape", "math/bits.Add64"], unfollowed := true, recurses := true, apart := false }
def JsoninBackSaid : Prop := jsoninBackRow.holds Try.pinned (OpenSpec.ofChange jsoninBackSpec)

/-- ITS FALSE NEIGHBOUR: 'it returns false'. Refute it at one input. -/
def jsoninBackWrong : ChangeSpec := { name := "jsoninBack", fn := fun _ => fun
  | [d1, d2] => { results := [.lit (.bool false)], args := [d1, d2] }
  | _ => none }
def JsoninBackWrongFalsely : Prop := jsoninBackRow.holds Try.pinned (OpenSpec.ofChange jsoninBackWrong)

/-- 'truchmanlaw11.JsoninDeep': WHATEVER THE INPUT: true; the input reads as it did. -/
def jsoninDeepSpec : ChangeSpec := { name := "jsoninDeep", fn := fun _ => fun
  | [d1, d2, d3] => { results := [.lit (.bool true)], args := [d1, d2, d3] }
  | _ => none }
def jsoninDeepRow : OpenClaim := { program := "ytbeocehadnhmnaa", sum := "b20f7046a07c4334703d847c2044d5cc106fc7861eee0a6f531de0577568d575", func := "truchman/truchmanlaw11.JsoninDeep", spec := "jsoninDeep", inPlace := ["internal/bytealg.IndexByteString", "internal/abi.NoEscape", "math/bits.Add64"], apart := false }
def JsoninDeepSaid : Prop := jsoninDeepRow.holds Try.pinned (OpenSpec.ofChange jsoninDeepSpec)

/-- ITS FALSE NEIGHBOUR: 'it returns false'. Refute it at one input. -/
def jsoninDeepWrong : ChangeSpec := { name := "jsoninDeep", fn := fun _ => fun
  | [d1, d2, d3] => { results := [.lit (.bool false)], args := [d1, d2, d3] }
  | _ => none }
def JsoninDeepWrongFalsely : Prop := jsoninDeepRow.holds Try.pinned (OpenSpec.ofChange jsoninDeepWrong)

/-- 'truchmanlaw11.JsoninCuts': WHATEVER THE INPUT: true; the input reads as it did. -/
def jsoninCutsSpec : ChangeSpec := { name := "jsoninCuts", fn := fun _ => fun
  | [d1, d2, d3] => { results := [.lit (.bool true)], args := [d1, d2, d3] }
  | _ => none }
def jsoninCutsRow : OpenClaim := { program := "ytbeocehadnhmnaa", sum := "b20f7046a07c4334703d847c2044d5cc106fc7861eee0a6f531de0577568d575", func := "truchman/truchmanlaw11.JsoninCuts", spec := "jsoninCuts", inPlace := ["internal/bytealg.IndexByteString", "internal/abi.NoEscape", "math/bits.Add64"], unfollowed := true, recurses := true, apart := false }
def JsoninCutsSaid : Prop := jsoninCutsRow.holds Try.pinned (OpenSpec.ofChange jsoninCutsSpec)

/-- ITS FALSE NEIGHBOUR: 'it returns false'. Refute it at one input. -/
def jsoninCutsWrong : ChangeSpec := { name := "jsoninCuts", fn := fun _ => fun
  | [d1, d2, d3] => { results := [.lit (.bool false)], args := [d1, d2, d3] }
  | _ => none }
def JsoninCutsWrongFalsely : Prop := jsoninCutsRow.holds Try.pinned (OpenSpec.ofChange jsoninCutsWrong)

/-- 'truchmanlaw11.JsoninForms': WHATEVER THE INPUT: true; the input reads as it did. -/
def jsoninFormsSpec : ChangeSpec := { name := "jsoninForms", fn := fun _ => fun
  | [d] => { results := [.lit (.bool true)], args := [d] }
  | _ => none }
def jsoninFormsRow : OpenClaim := { program := "ytbeocehadnhmnaa", sum := "b20f7046a07c4334703d847c2044d5cc106fc7861eee0a6f531de0577568d575", func := "truchman/truchmanlaw11.JsoninForms", spec := "jsoninForms", inPlace := ["internal/bytealg.IndexByteString", "internal/abi.NoEscape", "math/bits.Add64"], apart := false }
def JsoninFormsSaid : Prop := jsoninFormsRow.holds Try.pinned (OpenSpec.ofChange jsoninFormsSpec)

/-- ITS FALSE NEIGHBOUR: 'it returns false'. Refute it at one input. -/
def jsoninFormsWrong : ChangeSpec := { name := "jsoninForms", fn := fun _ => fun
  | [d] => { results := [.lit (.bool false)], args := [d] }
  | _ => none }
def JsoninFormsWrongFalsely : Prop := jsoninFormsRow.holds Try.pinned (OpenSpec.ofChange jsoninFormsWrong)

/-- 'truchmanlaw11.JsoninNumbers': WHATEVER THE INPUT: true; the input reads as it did. -/
def jsoninNumbersSpec : ChangeSpec := { name := "jsoninNumbers", fn := fun _ => fun
  | [d1, d2] => { results := [.lit (.bool true)], args := [d1, d2] }
  | _ => none }
def jsoninNumbersRow : OpenClaim := { program := "ytbeocehadnhmnaa", sum := "b20f7046a07c4334703d847c2044d5cc106fc7861eee0a6f531de0577568d575", func := "truchman/truchmanlaw11.JsoninNumbers", spec := "jsoninNumbers", inPlace := ["internal/bytealg.IndexByteString", "internal/abi.NoEscape", "math/bits.Add64"], apart := false }
def JsoninNumbersSaid : Prop := jsoninNumbersRow.holds Try.pinned (OpenSpec.ofChange jsoninNumbersSpec)

/-- ITS FALSE NEIGHBOUR: 'it returns false'. Refute it at one input. -/
def jsoninNumbersWrong : ChangeSpec := { name := "jsoninNumbers", fn := fun _ => fun
  | [d1, d2] => { results := [.lit (.bool false)], args := [d1, d2] }
  | _ => none }
def JsoninNumbersWrongFalsely : Prop := jsoninNumbersRow.holds Try.pinned (OpenSpec.ofChange jsoninNumbersWrong)

/-- 'truchmanlaw11.JsoninChecks': WHATEVER THE INPUT: true; the input reads as it did. -/
def jsoninChecksSpec : ChangeSpec := { name := "jsoninChecks", fn := fun _ => fun
  | [d1, d2] => { results := [.lit (.bool true)], args := [d1, d2] }
  | _ => none }
def jsoninChecksRow : OpenClaim := { program := "ytbeocehadnhmnaa", sum := "b20f7046a07c4334703d847c2044d5cc106fc7861eee0a6f531de0577568d575", func := "truchman/truchmanlaw11.JsoninChecks", spec := "jsoninChecks", inPlace := ["internal/bytealg.IndexByteString", "internal/abi.NoEscape", "math/bits.Add64"], apart := false }
def JsoninChecksSaid : Prop := jsoninChecksRow.holds Try.pinned (OpenSpec.ofChange jsoninChecksSpec)

/-- ITS FALSE NEIGHBOUR: 'it returns false'. Refute it at one input. -/
def jsoninChecksWrong : ChangeSpec := { name := "jsoninChecks", fn := fun _ => fun
  | [d1, d2] => { results := [.lit (.bool false)], args := [d1, d2] }
  | _ => none }
def JsoninChecksWrongFalsely : Prop := jsoninChecksRow.holds Try.pinned (OpenSpec.ofChange jsoninChecksWrong)

/- THE SECOND FORM. 'bulk': how many values and letters a reading holds, each counted each time it is reached (what is shared counts as often as it is met; a slice's spare places count too). A statement '..UptoSaid' is the law's where the arguments, and the package variables that the reading takes, are together of bulk at most 1048576: NARROWER than '..Said'. Prove '..Said' where nothing that the law and all that it calls make is longer than what came in: it says more and counts as full. Else prove '..UptoSaid'. A law counts once. -/
mutual
def uptoBulk {H : Type} : DataW H → Nat
  | .lit (.string bytes) => bytes.length + 1
  | .lit _ => 1
  | .nil => 1
  | .ptr d => uptoBulk d + 1
  | .slice elems spare => uptoBulkAll elems + uptoBulkAll spare + 1
  | .agg parts => uptoBulkAll parts + 1
  | .iface _ d => uptoBulk d + 1
  | .map entries => uptoBulkEntries entries + 1
  | .held _ => 1
def uptoBulkAll {H : Type} : List (DataW H) → Nat
  | [] => 0
  | d :: r => uptoBulk d + uptoBulkAll r
def uptoBulkEntries {H : Type} : List (Lit × DataW H) → Nat
  | [] => 0
  | x :: r => uptoBulkEntry x + uptoBulkEntries r
def uptoBulkEntry {H : Type} : Lit × DataW H → Nat
  | (.string bytes, d) => bytes.length + uptoBulk d + 1
  | (_, d) => uptoBulk d + 1
 end
def uptoSmall : (H : Type) → List (DataW H) → Bool := fun _ ds => decide (uptoBulkAll ds ≤ 1048576)
def OpenSpec.upto (s : _root_.Go.ChangeSpec) : _root_.Go.OpenSpec := { _root_.Go.OpenSpec.ofChange s with cond := some uptoSmall }

/-- 'truchmanlaw11.JsoninBack', WHERE WHAT IT READS IS OF BULK AT MOST 1048576: true; the input reads as it did. -/
def jsoninBackUptoRow : OpenClaim := { program := "ytbeocehadnhmnaa", sum := "b20f7046a07c4334703d847c2044d5cc106fc7861eee0a6f531de0577568d575", func := "truchman/truchmanlaw11.JsoninBack", spec := "jsoninBack", inPlace := ["internal/bytealg.IndexByteString", "internal/abi.NoEscape", "math/bits.Add64"], unfollowed := true, recurses := true, apart := false, narrowed := true }
def JsoninBackUptoSaid : Prop := jsoninBackUptoRow.holds Try.pinned (OpenSpec.upto jsoninBackSpec)

/-- 'truchmanlaw11.JsoninDeep', WHERE WHAT IT READS IS OF BULK AT MOST 1048576: true; the input reads as it did. -/
def jsoninDeepUptoRow : OpenClaim := { program := "ytbeocehadnhmnaa", sum := "b20f7046a07c4334703d847c2044d5cc106fc7861eee0a6f531de0577568d575", func := "truchman/truchmanlaw11.JsoninDeep", spec := "jsoninDeep", inPlace := ["internal/bytealg.IndexByteString", "internal/abi.NoEscape", "math/bits.Add64"], apart := false, narrowed := true }
def JsoninDeepUptoSaid : Prop := jsoninDeepUptoRow.holds Try.pinned (OpenSpec.upto jsoninDeepSpec)

/-- 'truchmanlaw11.JsoninCuts', WHERE WHAT IT READS IS OF BULK AT MOST 1048576: true; the input reads as it did. -/
def jsoninCutsUptoRow : OpenClaim := { program := "ytbeocehadnhmnaa", sum := "b20f7046a07c4334703d847c2044d5cc106fc7861eee0a6f531de0577568d575", func := "truchman/truchmanlaw11.JsoninCuts", spec := "jsoninCuts", inPlace := ["internal/bytealg.IndexByteString", "internal/abi.NoEscape", "math/bits.Add64"], unfollowed := true, recurses := true, apart := false, narrowed := true }
def JsoninCutsUptoSaid : Prop := jsoninCutsUptoRow.holds Try.pinned (OpenSpec.upto jsoninCutsSpec)

/-- 'truchmanlaw11.JsoninForms', WHERE WHAT IT READS IS OF BULK AT MOST 1048576: true; the input reads as it did. -/
def jsoninFormsUptoRow : OpenClaim := { program := "ytbeocehadnhmnaa", sum := "b20f7046a07c4334703d847c2044d5cc106fc7861eee0a6f531de0577568d575", func := "truchman/truchmanlaw11.JsoninForms", spec := "jsoninForms", inPlace := ["internal/bytealg.IndexByteString", "internal/abi.NoEscape", "math/bits.Add64"], apart := false, narrowed := true }
def JsoninFormsUptoSaid : Prop := jsoninFormsUptoRow.holds Try.pinned (OpenSpec.upto jsoninFormsSpec)

/-- 'truchmanlaw11.JsoninNumbers', WHERE WHAT IT READS IS OF BULK AT MOST 1048576: true; the input reads as it did. -/
def jsoninNumbersUptoRow : OpenClaim := { program := "ytbeocehadnhmnaa", sum := "b20f7046a07c4334703d847c2044d5cc106fc7861eee0a6f531de0577568d575", func := "truchman/truchmanlaw11.JsoninNumbers", spec := "jsoninNumbers", inPlace := ["internal/bytealg.IndexByteString", "internal/abi.NoEscape", "math/bits.Add64"], apart := false, narrowed := true }
def JsoninNumbersUptoSaid : Prop := jsoninNumbersUptoRow.holds Try.pinned (OpenSpec.upto jsoninNumbersSpec)

/-- 'truchmanlaw11.JsoninChecks', WHERE WHAT IT READS IS OF BULK AT MOST 1048576: true; the input reads as it did. -/
def jsoninChecksUptoRow : OpenClaim := { program := "ytbeocehadnhmnaa", sum := "b20f7046a07c4334703d847c2044d5cc106fc7861eee0a6f531de0577568d575", func := "truchman/truchmanlaw11.JsoninChecks", spec := "jsoninChecks", inPlace := ["internal/bytealg.IndexByteString", "internal/abi.NoEscape", "math/bits.Add64"], apart := false, narrowed := true }
def JsoninChecksUptoSaid : Prop := jsoninChecksUptoRow.holds Try.pinned (OpenSpec.upto jsoninChecksSpec)

end Rows
end Go.Proofs.Ytbeocehadnhmnaa
