/-
  No cell of these rows narrows 'for every input' (looked for: loops, veiled, ifaces, maps, wideKeys, modest, calm, conditions, laid).
  DERIVED. THE GIVEN ROWS OF THIS SEAT. 6 by the template 'for every input the law returns true; each argument reads behind the call as it read before'; 0 by the template 'total and deterministic' (their statements: YtdjdbcppabiknaaTotals.lean).
  GIVEN WITH THE SEED: the statements are not yours to turn. If you find one false, say at which input.
  Laid BY PROGRAM, IN A SANDBOX (cutbox-rows.mjs): the forced cells as the released guide's own fill.sh prints them over the translation 87ea58a8ba6ad5da… (all of the seat's roots in one cut). By AI agents, Wed Nov 11 2026. No macro, syntax, notation, axiom, sorry.
-/
import Derived.Test.YtdjdbcppabiknaaChecked
import GoSem.Claim
import GoSem.ClaimJoined
import GoSem.ClaimMapViews
import Derived.JoinedTies
import Derived.KernelRfl
namespace Go.Proofs.Ytdjdbcppabiknaa
/- THE CELL 'sum', in the pinned program and in every row, IS THE sha256 OF THE DUMP (.gsa) THAT YtdjdbcppabiknaaProg.lean LOADS. Nothing in Lean hashes anything: it is a label: what it is worth is what the hold of that sum in a sandbox is worth. -/
noncomputable def Try.pinned : Pinned := { name := "ytdjdbcppabiknaa", sum := "87ea58a8ba6ad5da2dafbfb409c36142731c3ef1dcdf82324130c00beb4124ce", checked := Try.checked }
namespace Rows
def none {H : Type} : Left H := { results := [], args := [] }

/-- 'truchmanlaw9.EventChecks': WHATEVER THE INPUT: true; the input reads as it did. -/
def eventChecksSpec : ChangeSpec := { name := "eventChecks", fn := fun _ => fun
  | [d] => { results := [.lit (.bool true)], args := [d] }
  | _ => none }
def eventChecksRow : OpenClaim := { program := "ytdjdbcppabiknaa", sum := "87ea58a8ba6ad5da2dafbfb409c36142731c3ef1dcdf82324130c00beb4124ce", func := "truchman/truchmanlaw9.EventChecks", spec := "eventChecks", apart := false }
def EventChecksSaid : Prop := eventChecksRow.holds Try.pinned (OpenSpec.ofChange eventChecksSpec)

/-- ITS FALSE NEIGHBOUR: 'it returns false'. Refute it at one input. -/
def eventChecksWrong : ChangeSpec := { name := "eventChecks", fn := fun _ => fun
  | [d] => { results := [.lit (.bool false)], args := [d] }
  | _ => none }
def EventChecksWrongFalsely : Prop := eventChecksRow.holds Try.pinned (OpenSpec.ofChange eventChecksWrong)

/-- 'truchmanlaw9.EventWraps': WHATEVER THE INPUT: true; the input reads as it did. -/
def eventWrapsSpec : ChangeSpec := { name := "eventWraps", fn := fun _ => fun
  | [d1, d2] => { results := [.lit (.bool true)], args := [d1, d2] }
  | _ => none }
def eventWrapsRow : OpenClaim := { program := "ytdjdbcppabiknaa", sum := "87ea58a8ba6ad5da2dafbfb409c36142731c3ef1dcdf82324130c00beb4124ce", func := "truchman/truchmanlaw9.EventWraps", spec := "eventWraps", apart := false }
def EventWrapsSaid : Prop := eventWrapsRow.holds Try.pinned (OpenSpec.ofChange eventWrapsSpec)

/-- ITS FALSE NEIGHBOUR: 'it returns false'. Refute it at one input. -/
def eventWrapsWrong : ChangeSpec := { name := "eventWraps", fn := fun _ => fun
  | [d1, d2] => { results := [.lit (.bool false)], args := [d1, d2] }
  | _ => none }
def EventWrapsWrongFalsely : Prop := eventWrapsRow.holds Try.pinned (OpenSpec.ofChange eventWrapsWrong)

/-- 'truchmanlaw9.EventCuts': WHATEVER THE INPUT: true; the input reads as it did. -/
def eventCutsSpec : ChangeSpec := { name := "eventCuts", fn := fun _ => fun
  | [d1, d2] => { results := [.lit (.bool true)], args := [d1, d2] }
  | _ => none }
def eventCutsRow : OpenClaim := { program := "ytdjdbcppabiknaa", sum := "87ea58a8ba6ad5da2dafbfb409c36142731c3ef1dcdf82324130c00beb4124ce", func := "truchman/truchmanlaw9.EventCuts", spec := "eventCuts", apart := false }
def EventCutsSaid : Prop := eventCutsRow.holds Try.pinned (OpenSpec.ofChange eventCutsSpec)

/-- ITS FALSE NEIGHBOUR: 'it returns false'. Refute it at one input. -/
def eventCutsWrong : ChangeSpec := { name := "eventCuts", fn := fun _ => fun
  | [d1, d2] => { results := [.lit (.bool false)], args := [d1, d2] }
  | _ => none }
def EventCutsWrongFalsely : Prop := eventCutsRow.holds Try.pinned (OpenSpec.ofChange eventCutsWrong)

/-- 'truchmanlaw9.EventDeep': WHATEVER THE INPUT: true; the input reads as it did. -/
def eventDeepSpec : ChangeSpec := { name := "eventDeep", fn := fun _ => fun
  | [d1, d2] => { results := [.lit (.bool true)], args := [d1, d2] }
  | _ => none }
def eventDeepRow : OpenClaim := { program := "ytdjdbcppabiknaa", sum := "87ea58a8ba6ad5da2dafbfb409c36142731c3ef1dcdf82324130c00beb4124ce", func := "truchman/truchmanlaw9.EventDeep", spec := "eventDeep", apart := false }
def EventDeepSaid : Prop := eventDeepRow.holds Try.pinned (OpenSpec.ofChange eventDeepSpec)

/-- ITS FALSE NEIGHBOUR: 'it returns false'. Refute it at one input. -/
def eventDeepWrong : ChangeSpec := { name := "eventDeep", fn := fun _ => fun
  | [d1, d2] => { results := [.lit (.bool false)], args := [d1, d2] }
  | _ => none }
def EventDeepWrongFalsely : Prop := eventDeepRow.holds Try.pinned (OpenSpec.ofChange eventDeepWrong)

/-- 'truchmanlaw9.EventTells': WHATEVER THE INPUT: true; the input reads as it did. -/
def eventTellsSpec : ChangeSpec := { name := "eventTells", fn := fun _ => fun
  | [d1, d2] => { results := [.lit (.bool true)], args := [d1, d2] }
  | _ => none }
def eventTellsRow : OpenClaim := { program := "ytdjdbcppabiknaa", sum := "87ea58a8ba6ad5da2dafbfb409c36142731c3ef1dcdf82324130c00beb4124ce", func := "truchman/truchmanlaw9.EventTells", spec := "eventTells", unfollowed := true, recurses := true, apart := false }
def EventTellsSaid : Prop := eventTellsRow.holds Try.pinned (OpenSpec.ofChange eventTellsSpec)

/-- ITS FALSE NEIGHBOUR: 'it returns false'. Refute it at one input. -/
def eventTellsWrong : ChangeSpec := { name := "eventTells", fn := fun _ => fun
  | [d1, d2] => { results := [.lit (.bool false)], args := [d1, d2] }
  | _ => none }
def EventTellsWrongFalsely : Prop := eventTellsRow.holds Try.pinned (OpenSpec.ofChange eventTellsWrong)

/-- 'truchmanlaw9.EventSame': WHATEVER THE INPUT: true; the input reads as it did. -/
def eventSameSpec : ChangeSpec := { name := "eventSame", fn := fun _ => fun
  | [d1, d2] => { results := [.lit (.bool true)], args := [d1, d2] }
  | _ => none }
def eventSameRow : OpenClaim := { program := "ytdjdbcppabiknaa", sum := "87ea58a8ba6ad5da2dafbfb409c36142731c3ef1dcdf82324130c00beb4124ce", func := "truchman/truchmanlaw9.EventSame", spec := "eventSame", apart := false }
def EventSameSaid : Prop := eventSameRow.holds Try.pinned (OpenSpec.ofChange eventSameSpec)

/-- ITS FALSE NEIGHBOUR: 'it returns false'. Refute it at one input. -/
def eventSameWrong : ChangeSpec := { name := "eventSame", fn := fun _ => fun
  | [d1, d2] => { results := [.lit (.bool false)], args := [d1, d2] }
  | _ => none }
def EventSameWrongFalsely : Prop := eventSameRow.holds Try.pinned (OpenSpec.ofChange eventSameWrong)

/- THE SECOND FORM. 'bulk': how many values and letters a reading holds, each counted each time it is reached (what is shared counts as often as it is met; a slice's spare places count too). A statement '..UptoSaid' is the law's where the arguments, and the package variables that the reading takes, are together of bulk at most 1048576: NARROWER than '..Said'. Prove '..Said' where nothing that the law and all that it calls make is longer than what came in: it says more and counts as full. Else prove '..UptoSaid'. A law counts once. -/
mutual
def uptoBulk {H : Type} : DataW H → Nat
  | .lit (.string bytes) => bytes.length + 1
  | .lit _ => 1
  | .nil => 1
  | .ptr d => uptoBulk d + 1
  | .slice elems spare => uptoBulkAll elems + uptoBulkAll spare + 1
  | .agg parts => uptoBulkAll parts + 1
  | .iface _ d => uptoBulk d + 1
  | .map entries => uptoBulkEntries entries + 1
  | .held _ => 1
def uptoBulkAll {H : Type} : List (DataW H) → Nat
  | [] => 0
  | d :: r => uptoBulk d + uptoBulkAll r
def uptoBulkEntries {H : Type} : List (Lit × DataW H) → Nat
  | [] => 0
  | x :: r => uptoBulkEntry x + uptoBulkEntries r
def uptoBulkEntry {H : Type} : Lit × DataW H → Nat
  | (.string bytes, d) => bytes.length + uptoBulk d + 1
  | (_, d) => uptoBulk d + 1
 end
def uptoSmall : (H : Type) → List (DataW H) → Bool := fun _ ds => decide (uptoBulkAll ds ≤ 1048576)
def OpenSpec.upto (s : _root_.Go.ChangeSpec) : _root_.Go.OpenSpec := { _root_.Go.OpenSpec.ofChange s with cond := some uptoSmall }

/-- 'truchmanlaw9.EventChecks', WHERE WHAT IT READS IS OF BULK AT MOST 1048576: true; the input reads as it did. -/
def eventChecksUptoRow : OpenClaim := { program := "ytdjdbcppabiknaa", sum := "87ea58a8ba6ad5da2dafbfb409c36142731c3ef1dcdf82324130c00beb4124ce", func := "truchman/truchmanlaw9.EventChecks", spec := "eventChecks", apart := false, narrowed := true }
def EventChecksUptoSaid : Prop := eventChecksUptoRow.holds Try.pinned (OpenSpec.upto eventChecksSpec)

/-- 'truchmanlaw9.EventWraps', WHERE WHAT IT READS IS OF BULK AT MOST 1048576: true; the input reads as it did. -/
def eventWrapsUptoRow : OpenClaim := { program := "ytdjdbcppabiknaa", sum := "87ea58a8ba6ad5da2dafbfb409c36142731c3ef1dcdf82324130c00beb4124ce", func := "truchman/truchmanlaw9.EventWraps", spec := "eventWraps", apart := false, narrowed := true }
def EventWrapsUptoSaid : Prop := eventWrapsUptoRow.holds Try.pinned (OpenSpec.upto eventWrapsSpec)

/-- 'truchmanlaw9.EventCuts', WHERE WHAT IT READS IS OF BULK AT MOST 1048576: true; the input reads as it did. -/
def eventCutsUptoRow : OpenClaim := { program := "ytdjdbcppabiknaa", sum := "87ea58a8ba6ad5da2dafbfb409c36142731c3ef1dcdf82324130c00beb4124ce", func := "truchman/truchmanlaw9.EventCuts", spec := "eventCuts", apart := false, narrowed := true }
def EventCutsUptoSaid : Prop := eventCutsUptoRow.holds Try.pinned (OpenSpec.upto eventCutsSpec)

/-- 'truchmanlaw9.EventDeep', WHERE WHAT IT READS IS OF BULK AT MOST 1048576: true; the input reads as it did. -/
def eventDeepUptoRow : OpenClaim := { program := "ytdjdbcppabiknaa", sum := "87ea58a8ba6ad5da2dafbfb409c36142731c3ef1dcdf82324130c00beb4124ce", func := "truchman/truchmanlaw9.EventDeep", spec := "eventDeep", apart := false, narrowed := true }
def EventDeepUptoSaid : Prop := eventDeepUptoRow.holds Try.pinned (OpenSpec.upto eventDeepSpec)

/-- 'truchmanlaw9.EventTells', WHERE WHAT IT READS IS OF BULK AT MOST 1048576: true; the input reads as it did. -/
def eventTellsUptoRow : OpenClaim := { program := "ytdjdbcppabiknaa", sum := "87ea58a8ba6ad5da2dafbfb409c36142731c3ef1dcdf82324130c00beb4124ce", func := "truchman/truchmanlaw9.EventTells", spec := "eventTells", unfollowed := true, recurses := true, apart := false, narrowed := true }
def EventTellsUptoSaid : Prop := eventTellsUptoRow.holds Try.pinned (OpenSpec.upto eventTellsSpec)

/-- 'truchmanlaw9.EventSame', WHERE WHAT IT READS IS OF BULK AT MOST 1048576: true; the input reads as it did. -/
def eventSameUptoRow : OpenClaim := { program := "ytdjdbcppabiknaa", sum := "87ea58a8ba6ad5da2dafbfb409c36142731c3ef1dcdf82324130c00beb4124ce", func := "truchman/truchmanlaw9.EventSame", spec := "eventSame", apart := false, narrowed := true }
def EventSameUptoSaid : Prop := eventSameUptoRow.holds Try.pinned (OpenSpec.upto eventSameSpec)

end Rows
end Go.Proofs.Ytdjdbcppabiknaa
