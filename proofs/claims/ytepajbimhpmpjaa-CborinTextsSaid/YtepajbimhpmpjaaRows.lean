/-
  No cell of these rows narrows 'for every input' (looked for: loops, veiled, ifaces, maps, wideKeys, modest, calm, conditions, laid).
  DERIVED. THE GIVEN ROWS OF THIS SEAT. 10 by the template 'for every input the law returns true; each argument reads behind the call as it read before'; 0 by the template 'total and deterministic' (their statements: YtepajbimhpmpjaaTotals.lean).
  GIVEN WITH THE SEED: the statements are not yours to turn. If you find one false, say at which input.
  Laid BY PROGRAM, IN A SANDBOX (cutbox-rows.mjs): the forced cells as the released guide's own fill.sh prints them over the translation b68f9413fd38d7a2… (all of the seat's roots in one cut). By AI agents, Wed Nov 11 2026. No macro, syntax, notation, axiom, sorry.
-/
import Derived.Test.YtepajbimhpmpjaaChecked
import GoSem.Claim
import GoSem.ClaimJoined
import GoSem.ClaimMapViews
import Derived.JoinedTies
import Derived.KernelRfl
namespace Go.Proofs.Ytepajbimhpmpjaa
/- THE CELL 'sum', in the pinned program and in every row, IS THE sha256 OF THE DUMP (.gsa) THAT YtepajbimhpmpjaaProg.lean LOADS. Nothing in Lean hashes anything: it is a label: what it is worth is what the hold of that sum in a sandbox is worth. -/
noncomputable def Try.pinned : Pinned := { name := "ytepajbimhpmpjaa", sum := "b68f9413fd38d7a29f910e0feca628ac73b1c9789a89001188ad4725e9b9296c", checked := Try.checked }
namespace Rows
def none {H : Type} : Left H := { results := [], args := [] }

/-- 'truchmanlaw13.CborinBack': WHATEVER THE INPUT: true; the input reads as it did. -/
def cborinBackSpec : ChangeSpec := { name := "cborinBack", fn := fun _ => fun
  | [d1, d2, d3] => { results := [.lit (.bool true)], args := [d1, d2, d3] }
  | _ => none }
def cborinBackRow : OpenClaim := { program := "ytepajbimhpmpjaa", sum := "b68f9413fd38d7a29f910e0feca628ac73b1c9789a89001188ad4725e9b9296c", func := "truchman/truchmanlaw13.CborinBack", spec := "cborinBack", unfollowed := true, recurses := true, apart := false }
def CborinBackSaid : Prop := cborinBackRow.holds Try.pinned (OpenSpec.ofChange cborinBackSpec)

/-- ITS FALSE NEIGHBOUR: 'it returns false'. Refute it at one input. -/
def cborinBackWrong : ChangeSpec := { name := "cborinBack", fn := fun _ => fun
  | [d1, d2, d3] => { results := [.lit (.bool false)], args := [d1, d2, d3] }
  | _ => none }
def CborinBackWrongFalsely : Prop := cborinBackRow.holds Try.pinned (OpenSpec.ofChange cborinBackWrong)

/-- 'truchmanlaw13.CborinCuts': WHATEVER THE INPUT: true; the input reads as it did. -/
def cborinCutsSpec : ChangeSpec := { name := "cborinCuts", fn := fun _ => fun
  | [d1, d2, d3] => { results := [.lit (.bool true)], args := [d1, d2, d3] }
  | _ => none }
def cborinCutsRow : OpenClaim := { program := "ytepajbimhpmpjaa", sum := "b68f9413fd38d7a29f910e0feca628ac73b1c9789a89001188ad4725e9b9296c", func := "truchman/truchmanlaw13.CborinCuts", spec := "cborinCuts", unfollowed := true, recurses := true, apart := false }
def CborinCutsSaid : Prop := cborinCutsRow.holds Try.pinned (OpenSpec.ofChange cborinCutsSpec)

/-- ITS FALSE NEIGHBOUR: 'it returns false'. Refute it at one input. -/
def cborinCutsWrong : ChangeSpec := { name := "cborinCuts", fn := fun _ => fun
  | [d1, d2, d3] => { results := [.lit (.bool false)], args := [d1, d2, d3] }
  | _ => none }
def CborinCutsWrongFalsely : Prop := cborinCutsRow.holds Try.pinned (OpenSpec.ofChange cborinCutsWrong)

/-- 'truchmanlaw13.CborinDeep': WHATEVER THE INPUT: true; the input reads as it did. -/
def cborinDeepSpec : ChangeSpec := { name := "cborinDeep", fn := fun _ => fun
  | [d1, d2] => { results := [.lit (.bool true)], args := [d1, d2] }
  | _ => none }
def cborinDeepRow : OpenClaim := { program := "ytepajbimhpmpjaa", sum := "b68f9413fd38d7a29f910e0feca628ac73b1c9789a89001188ad4725e9b9296c", func := "truchman/truchmanlaw13.CborinDeep", spec := "cborinDeep", apart := false }
def CborinDeepSaid : Prop := cborinDeepRow.holds Try.pinned (OpenSpec.ofChange cborinDeepSpec)

/-- ITS FALSE NEIGHBOUR: 'it returns false'. Refute it at one input. -/
def cborinDeepWrong : ChangeSpec := { name := "cborinDeep", fn := fun _ => fun
  | [d1, d2] => { results := [.lit (.bool false)], args := [d1, d2] }
  | _ => none }
def CborinDeepWrongFalsely : Prop := cborinDeepRow.holds Try.pinned (OpenSpec.ofChange cborinDeepWrong)

/-- 'truchmanlaw13.CborinChunks': WHATEVER THE INPUT: true; the input reads as it did. -/
def cborinChunksSpec : ChangeSpec := { name := "cborinChunks", fn := fun _ => fun
  | [d1, d2] => { results := [.lit (.bool true)], args := [d1, d2] }
  | _ => none }
def cborinChunksRow : OpenClaim := { program := "ytepajbimhpmpjaa", sum := "b68f9413fd38d7a29f910e0feca628ac73b1c9789a89001188ad4725e9b9296c", func := "truchman/truchmanlaw13.CborinChunks", spec := "cborinChunks", apart := false }
def CborinChunksSaid : Prop := cborinChunksRow.holds Try.pinned (OpenSpec.ofChange cborinChunksSpec)

/-- ITS FALSE NEIGHBOUR: 'it returns false'. Refute it at one input. -/
def cborinChunksWrong : ChangeSpec := { name := "cborinChunks", fn := fun _ => fun
  | [d1, d2] => { results := [.lit (.bool false)], args := [d1, d2] }
  | _ => none }
def CborinChunksWrongFalsely : Prop := cborinChunksRow.holds Try.pinned (OpenSpec.ofChange cborinChunksWrong)

/-- 'truchmanlaw13.CborinOthers': WHATEVER THE INPUT: true; the input reads as it did. -/
def cborinOthersSpec : ChangeSpec := { name := "cborinOthers", fn := fun _ => fun
  | [d1, d2] => { results := [.lit (.bool true)], args := [d1, d2] }
  | _ => none }
def cborinOthersRow : OpenClaim := { program := "ytepajbimhpmpjaa", sum := "b68f9413fd38d7a29f910e0feca628ac73b1c9789a89001188ad4725e9b9296c", func := "truchman/truchmanlaw13.CborinOthers", spec := "cborinOthers", apart := false }
def CborinOthersSaid : Prop := cborinOthersRow.holds Try.pinned (OpenSpec.ofChange cborinOthersSpec)

/-- ITS FALSE NEIGHBOUR: 'it returns false'. Refute it at one input. -/
def cborinOthersWrong : ChangeSpec := { name := "cborinOthers", fn := fun _ => fun
  | [d1, d2] => { results := [.lit (.bool false)], args := [d1, d2] }
  | _ => none }
def CborinOthersWrongFalsely : Prop := cborinOthersRow.holds Try.pinned (OpenSpec.ofChange cborinOthersWrong)

/-- 'truchmanlaw13.CborinKeys': WHATEVER THE INPUT: true; the input reads as it did. -/
def cborinKeysSpec : ChangeSpec := { name := "cborinKeys", fn := fun _ => fun
  | [d1, d2] => { results := [.lit (.bool true)], args := [d1, d2] }
  | _ => none }
def cborinKeysRow : OpenClaim := { program := "ytepajbimhpmpjaa", sum := "b68f9413fd38d7a29f910e0feca628ac73b1c9789a89001188ad4725e9b9296c", func := "truchman/truchmanlaw13.CborinKeys", spec := "cborinKeys", apart := false }
def CborinKeysSaid : Prop := cborinKeysRow.holds Try.pinned (OpenSpec.ofChange cborinKeysSpec)

/-- ITS FALSE NEIGHBOUR: 'it returns false'. Refute it at one input. -/
def cborinKeysWrong : ChangeSpec := { name := "cborinKeys", fn := fun _ => fun
  | [d1, d2] => { results := [.lit (.bool false)], args := [d1, d2] }
  | _ => none }
def CborinKeysWrongFalsely : Prop := cborinKeysRow.holds Try.pinned (OpenSpec.ofChange cborinKeysWrong)

/-- 'truchmanlaw13.CborinWide': WHATEVER THE INPUT: true; the input reads as it did. -/
def cborinWideSpec : ChangeSpec := { name := "cborinWide", fn := fun _ => fun
  | [d1, d2] => { results := [.lit (.bool true)], args := [d1, d2] }
  | _ => none }
def cborinWideRow : OpenClaim := { program := "ytepajbimhpmpjaa", sum := "b68f9413fd38d7a29f910e0feca628ac73b1c9789a89001188ad4725e9b9296c", func := "truchman/truchmanlaw13.CborinWide", spec := "cborinWide", apart := false }
def CborinWideSaid : Prop := cborinWideRow.holds Try.pinned (OpenSpec.ofChange cborinWideSpec)

/-- ITS FALSE NEIGHBOUR: 'it returns false'. Refute it at one input. -/
def cborinWideWrong : ChangeSpec := { name := "cborinWide", fn := fun _ => fun
  | [d1, d2] => { results := [.lit (.bool false)], args := [d1, d2] }
  | _ => none }
def CborinWideWrongFalsely : Prop := cborinWideRow.holds Try.pinned (OpenSpec.ofChange cborinWideWrong)

/-- 'truchmanlaw13.CborinCounts': WHATEVER THE INPUT: true; the input reads as it did. -/
def cborinCountsSpec : ChangeSpec := { name := "cborinCounts", fn := fun _ => fun
  | [d1, d2, d3] => { results := [.lit (.bool true)], args := [d1, d2, d3] }
  | _ => none }
def cborinCountsRow : OpenClaim := { program := "ytepajbimhpmpjaa", sum := "b68f9413fd38d7a29f910e0feca628ac73b1c9789a89001188ad4725e9b9296c", func := "truchman/truchmanlaw13.CborinCounts", spec := "cborinCounts", apart := false }
def CborinCountsSaid : Prop := cborinCountsRow.holds Try.pinned (OpenSpec.ofChange cborinCountsSpec)

/-- ITS FALSE NEIGHBOUR: 'it returns false'. Refute it at one input. -/
def cborinCountsWrong : ChangeSpec := { name := "cborinCounts", fn := fun _ => fun
  | [d1, d2, d3] => { results := [.lit (.bool false)], args := [d1, d2, d3] }
  | _ => none }
def CborinCountsWrongFalsely : Prop := cborinCountsRow.holds Try.pinned (OpenSpec.ofChange cborinCountsWrong)

/-- 'truchmanlaw13.CborinTexts': WHATEVER THE INPUT: true; the input reads as it did. -/
def cborinTextsSpec : ChangeSpec := { name := "cborinTexts", fn := fun _ => fun
  | [d1, d2, d3] => { results := [.lit (.bool true)], args := [d1, d2, d3] }
  | _ => none }
def cborinTextsRow : OpenClaim := { program := "ytepajbimhpmpjaa", sum := "b68f9413fd38d7a29f910e0feca628ac73b1c9789a89001188ad4725e9b9296c", func := "truchman/truchmanlaw13.CborinTexts", spec := "cborinTexts", apart := false }
def CborinTextsSaid : Prop := cborinTextsRow.holds Try.pinned (OpenSpec.ofChange cborinTextsSpec)

/-- ITS FALSE NEIGHBOUR: 'it returns false'. Refute it at one input. -/
def cborinTextsWrong : ChangeSpec := { name := "cborinTexts", fn := fun _ => fun
  | [d1, d2, d3] => { results := [.lit (.bool false)], args := [d1, d2, d3] }
  | _ => none }
def CborinTextsWrongFalsely : Prop := cborinTextsRow.holds Try.pinned (OpenSpec.ofChange cborinTextsWrong)

/-- 'truchmanlaw13.CborinChecks': WHATEVER THE INPUT: true; the input reads as it did. -/
def cborinChecksSpec : ChangeSpec := { name := "cborinChecks", fn := fun _ => fun
  | [d1, d2] => { results := [.lit (.bool true)], args := [d1, d2] }
  | _ => none }
def cborinChecksRow : OpenClaim := { program := "ytepajbimhpmpjaa", sum := "b68f9413fd38d7a29f910e0feca628ac73b1c9789a89001188ad4725e9b9296c", func := "truchman/truchmanlaw13.CborinChecks", spec := "cborinChecks", apart := false }
def CborinChecksSaid : Prop := cborinChecksRow.holds Try.pinned (OpenSpec.ofChange cborinChecksSpec)

/-- ITS FALSE NEIGHBOUR: 'it returns false'. Refute it at one input. -/
def cborinChecksWrong : ChangeSpec := { name := "cborinChecks", fn := fun _ => fun
  | [d1, d2] => { results := [.lit (.bool false)], args := [d1, d2] }
  | _ => none }
def CborinChecksWrongFalsely : Prop := cborinChecksRow.holds Try.pinned (OpenSpec.ofChange cborinChecksWrong)

/- THE SECOND FORM. 'bulk': how many values and letters a reading holds, each counted each time it is reached (what is shared counts as often as it is met; a slice's spare places count too). A statement '..UptoSaid' is the law's where the arguments, and the package variables that the reading takes, are together of bulk at most 1048576: NARROWER than '..Said'. Prove '..Said' where nothing that the law and all that it calls make is longer than what came in: it says more and counts as full. Else prove '..UptoSaid'. A law counts once. -/
mutual
def uptoBulk {H : Type} : DataW H → Nat
  | .lit (.string bytes) => bytes.length + 1
  | .lit _ => 1
  | .nil => 1
  | .ptr d => uptoBulk d + 1
  | .slice elems spare => uptoBulkAll elems + uptoBulkAll spare + 1
  | .agg parts => uptoBulkAll parts + 1
  | .iface _ d => uptoBulk d + 1
  | .map entries => uptoBulkEntries entries + 1
  | .held _ => 1
def uptoBulkAll {H : Type} : List (DataW H) → Nat
  | [] => 0
  | d :: r => uptoBulk d + uptoBulkAll r
def uptoBulkEntries {H : Type} : List (Lit × DataW H) → Nat
  | [] => 0
  | x :: r => uptoBulkEntry x + uptoBulkEntries r
def uptoBulkEntry {H : Type} : Lit × DataW H → Nat
  | (.string bytes, d) => bytes.length + uptoBulk d + 1
  | (_, d) => uptoBulk d + 1
 end
def uptoSmall : (H : Type) → List (DataW H) → Bool := fun _ ds => decide (uptoBulkAll ds ≤ 1048576)
def OpenSpec.upto (s : _root_.Go.ChangeSpec) : _root_.Go.OpenSpec := { _root_.Go.OpenSpec.ofChange s with cond := some uptoSmall }

/-- 'truchmanlaw13.CborinBack', WHERE WHAT IT READS IS OF BULK AT MOST 1048576: true; the input reads as it did. -/
def cborinBackUptoRow : OpenClaim := { program := "ytepajbimhpmpjaa", sum := "b68f9413fd38d7a29f910e0feca628ac73b1c9789a89001188ad4725e9b9296c", func := "truchman/truchmanlaw13.CborinBack", spec := "cborinBack", unfollowed := true, recurses := true, apart := false, narrowed := true }
def CborinBackUptoSaid : Prop := cborinBackUptoRow.holds Try.pinned (OpenSpec.upto cborinBackSpec)

/-- 'truchmanlaw13.CborinCuts', WHERE WHAT IT READS IS OF BULK AT MOST 1048576: true; the input reads as it did. -/
def cborinCutsUptoRow : OpenClaim := { program := "ytepajbimhpmpjaa", sum := "b68f9413fd38d7a29f910e0feca628ac73b1c9789a89001188ad4725e9b9296c", func := "truchman/truchmanlaw13.CborinCuts", spec := "cborinCuts", unfollowed := true, recurses := true, apart := false, narrowed := true }
def CborinCutsUptoSaid : Prop := cborinCutsUptoRow.holds Try.pinned (OpenSpec.upto cborinCutsSpec)

/-- 'truchmanlaw13.CborinDeep', WHERE WHAT IT READS IS OF BULK AT MOST 1048576: true; the input reads as it did. -/
def cborinDeepUptoRow : OpenClaim := { program := "ytepajbimhpmpjaa", sum := "b68f9413fd38d7a29f910e0feca628ac73b1c9789a89001188ad4725e9b9296c", func := "truchman/truchmanlaw13.CborinDeep", spec := "cborinDeep", apart := false, narrowed := true }
def CborinDeepUptoSaid : Prop := cborinDeepUptoRow.holds Try.pinned (OpenSpec.upto cborinDeepSpec)

/-- 'truchmanlaw13.CborinChunks', WHERE WHAT IT READS IS OF BULK AT MOST 1048576: true; the input reads as it did. -/
def cborinChunksUptoRow : OpenClaim := { program := "ytepajbimhpmpjaa", sum := "b68f9413fd38d7a29f910e0feca628ac73b1c9789a89001188ad4725e9b9296c", func := "truchman/truchmanlaw13.CborinChunks", spec := "cborinChunks", apart := false, narrowed := true }
def CborinChunksUptoSaid : Prop := cborinChunksUptoRow.holds Try.pinned (OpenSpec.upto cborinChunksSpec)

/-- 'truchmanlaw13.CborinOthers', WHERE WHAT IT READS IS OF BULK AT MOST 1048576: true; the input reads as it did. -/
def cborinOthersUptoRow : OpenClaim := { program := "ytepajbimhpmpjaa", sum := "b68f9413fd38d7a29f910e0feca628ac73b1c9789a89001188ad4725e9b9296c", func := "truchman/truchmanlaw13.CborinOthers", spec := "cborinOthers", apart := false, narrowed := true }
def CborinOthersUptoSaid : Prop := cborinOthersUptoRow.holds Try.pinned (OpenSpec.upto cborinOthersSpec)

/-- 'truchmanlaw13.CborinKeys', WHERE WHAT IT READS IS OF BULK AT MOST 1048576: true; the input reads as it did. -/
def cborinKeysUptoRow : OpenClaim := { program := "ytepajbimhpmpjaa", sum := "b68f9413fd38d7a29f910e0feca628ac73b1c9789a89001188ad4725e9b9296c", func := "truchman/truchmanlaw13.CborinKeys", spec := "cborinKeys", apart := false, narrowed := true }
def CborinKeysUptoSaid : Prop := cborinKeysUptoRow.holds Try.pinned (OpenSpec.upto cborinKeysSpec)

/-- 'truchmanlaw13.CborinWide', WHERE WHAT IT READS IS OF BULK AT MOST 1048576: true; the input reads as it did. -/
def cborinWideUptoRow : OpenClaim := { program := "ytepajbimhpmpjaa", sum := "b68f9413fd38d7a29f910e0feca628ac73b1c9789a89001188ad4725e9b9296c", func := "truchman/truchmanlaw13.CborinWide", spec := "cborinWide", apart := false, narrowed := true }
def CborinWideUptoSaid : Prop := cborinWideUptoRow.holds Try.pinned (OpenSpec.upto cborinWideSpec)

/-- 'truchmanlaw13.CborinCounts', WHERE WHAT IT READS IS OF BULK AT MOST 1048576: true; the input reads as it did. -/
def cborinCountsUptoRow : OpenClaim := { program := "ytepajbimhpmpjaa", sum := "b68f9413fd38d7a29f910e0feca628ac73b1c9789a89001188ad4725e9b9296c", func := "truchman/truchmanlaw13.CborinCounts", spec := "cborinCounts", apart := false, narrowed := true }
def CborinCountsUptoSaid : Prop := cborinCountsUptoRow.holds Try.pinned (OpenSpec.upto cborinCountsSpec)

/-- 'truchmanlaw13.CborinTexts', WHERE WHAT IT READS IS OF BULK AT MOST 1048576: true; the input reads as it did. -/
def cborinTextsUptoRow : OpenClaim := { program := "ytepajbimhpmpjaa", sum := "b68f9413fd38d7a29f910e0feca628ac73b1c9789a89001188ad4725e9b9296c", func := "truchman/truchmanlaw13.CborinTexts", spec := "cborinTexts", apart := false, narrowed := true }
def CborinTextsUptoSaid : Prop := cborinTextsUptoRow.holds Try.pinned (OpenSpec.upto cborinTextsSpec)

/-- 'truchmanlaw13.CborinChecks', WHERE WHAT IT READS IS OF BULK AT MOST 1048576: true; the input reads as it did. -/
def cborinChecksUptoRow : OpenClaim := { program := "ytepajbimhpmpjaa", sum := "b68f9413fd38d7a29f910e0feca628ac73b1c9789a89001188ad4725e9b9296c", func := "truchman/truchmanlaw13.CborinChecks", spec := "cborinChecks", apart := false, narrowed := true }
def CborinChecksUptoSaid : Prop := cborinChecksUptoRow.holds Try.pinned (OpenSpec.upto cborinChecksSpec)

end Rows
end Go.Proofs.Ytepajbimhpmpjaa
