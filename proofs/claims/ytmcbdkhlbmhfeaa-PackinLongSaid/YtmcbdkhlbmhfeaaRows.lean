/-
  No cell of these rows narrows 'for every input' (looked for: loops, veiled, ifaces, maps, wideKeys, modest, calm, conditions, laid).
  DERIVED. THE GIVEN ROWS OF THIS SEAT. 4 by the template 'for every input the law returns true; each argument reads behind the call as it read before'; 0 by the template 'total and deterministic' (their statements: YtmcbdkhlbmhfeaaTotals.lean).
  GIVEN WITH THE SEED: the statements are not yours to turn. If you find one false, say at which input.
  Laid BY PROGRAM, IN A SANDBOX (cutbox-rows.mjs): the forced cells as the released guide's own fill.sh prints them over the translation 2929eced5a3023cf… (all of the seat's roots in one cut). By AI agents, Wed Nov 11 2026. No macro, syntax, notation, axiom, sorry.
-/
import Derived.Test.YtmcbdkhlbmhfeaaChecked
import GoSem.Claim
import GoSem.ClaimJoined
import GoSem.ClaimMapViews
import Derived.JoinedTies
import Derived.KernelRfl
namespace Go.Proofs.Ytmcbdkhlbmhfeaa
/- THE CELL 'sum', in the pinned program and in every row, IS THE sha256 OF THE DUMP (.gsa) THAT YtmcbdkhlbmhfeaaProg.lean LOADS. Nothing in Lean hashes anything: it is a label: what it is worth is what the hold of that sum in a sandbox is worth. -/
noncomputable def Try.pinned : Pinned := { name := "ytmcbdkhlbmhfeaa", sum := "2929eced5a3023cf1d19b81858a8b9e634d61369ea23b9291a2c88c7c0054c16", checked := Try.checked }
namespace Rows
def none {H : Type} : Left H := { results := [], args := [] }

/-- 'truchmanlaw15.PackinBack': WHATEVER THE INPUT: true; the input reads as it did. -/
def packinBackSpec : ChangeSpec := { name := "packinBack", fn := fun _ => fun
  | [d1, d2] => { results := [.lit (.bool true)], args := [d1, d2] }
  | _ => none }
def packinBackRow : OpenClaim := { program := "ytmcbdkhlbmhfeaa", sum := "2929eced5a3023cf1d19b81858a8b9e634d61369ea23b9291a2c88c7c0054c16", func := "truchman/truchmanlaw15.PackinBack", spec := "packinBack", unfollowed := true, recurses := true, apart := false }
def PackinBackSaid : Prop := packinBackRow.holds Try.pinned (OpenSpec.ofChange packinBackSpec)

/-- ITS FALSE NEIGHBOUR: 'it returns false'. Refute it at one input. -/
def packinBackWrong : ChangeSpec := { name := "packinBack", fn := fun _ => fun
  | [d1, d2] => { results := [.lit (.bool false)], args := [d1, d2] }
  | _ => none }
def PackinBackWrongFalsely : Prop := packinBackRow.holds Try.pinned (OpenSpec.ofChange packinBackWrong)

/-- 'truchmanlaw15.PackinCuts': WHATEVER THE INPUT: true; the input reads as it did. -/
def packinCutsSpec : ChangeSpec := { name := "packinCuts", fn := fun _ => fun
  | [d1, d2, d3] => { results := [.lit (.bool true)], args := [d1, d2, d3] }
  | _ => none }
def packinCutsRow : OpenClaim := { program := "ytmcbdkhlbmhfeaa", sum := "2929eced5a3023cf1d19b81858a8b9e634d61369ea23b9291a2c88c7c0054c16", func := "truchman/truchmanlaw15.PackinCuts", spec := "packinCuts", unfollowed := true, recurses := true, apart := false }
def PackinCutsSaid : Prop := packinCutsRow.holds Try.pinned (OpenSpec.ofChange packinCutsSpec)

/-- ITS FALSE NEIGHBOUR: 'it returns false'. Refute it at one input. -/
def packinCutsWrong : ChangeSpec := { name := "packinCuts", fn := fun _ => fun
  | [d1, d2, d3] => { results := [.lit (.bool false)], args := [d1, d2, d3] }
  | _ => none }
def PackinCutsWrongFalsely : Prop := packinCutsRow.holds Try.pinned (OpenSpec.ofChange packinCutsWrong)

/-- 'truchmanlaw15.PackinLong': WHATEVER THE INPUT: true; the input reads as it did. -/
def packinLongSpec : ChangeSpec := { name := "packinLong", fn := fun _ => fun
  | [d1, d2, d3] => { results := [.lit (.bool true)], args := [d1, d2, d3] }
  | _ => none }
def packinLongRow : OpenClaim := { program := "ytmcbdkhlbmhfeaa", sum := "2929eced5a3023cf1d19b81858a8b9e634d61369ea23b9291a2c88c7c0054c16", func := "truchman/truchmanlaw15.PackinLong", spec := "packinLong", apart := false }
def PackinLongSaid : Prop := packinLongRow.holds Try.pinned (OpenSpec.ofChange packinLongSpec)

/-- ITS FALSE NEIGHBOUR: 'it returns false'. Refute it at one input. -/
def packinLongWrong : ChangeSpec := { name := "packinLong", fn := fun _ => fun
  | [d1, d2, d3] => { results := [.lit (.bool false)], args := [d1, d2, d3] }
  | _ => none }
def PackinLongWrongFalsely : Prop := packinLongRow.holds Try.pinned (OpenSpec.ofChange packinLongWrong)

/-- 'truchmanlaw15.PackinTexts': WHATEVER THE INPUT: true; the input reads as it did. -/
def packinTextsSpec : ChangeSpec := { name := "packinTexts", fn := fun _ => fun
  | [d1, d2, d3] => { results := [.lit (.bool true)], args := [d1, d2, d3] }
  | _ => none }
def packinTextsRow : OpenClaim := { program := "ytmcbdkhlbmhfeaa", sum := "2929eced5a3023cf1d19b81858a8b9e634d61369ea23b9291a2c88c7c0054c16", func := "truchman/truchmanlaw15.PackinTexts", spec := "packinTexts", apart := false }
def PackinTextsSaid : Prop := packinTextsRow.holds Try.pinned (OpenSpec.ofChange packinTextsSpec)

/-- ITS FALSE NEIGHBOUR: 'it returns false'. Refute it at one input. -/
def packinTextsWrong : ChangeSpec := { name := "packinTexts", fn := fun _ => fun
  | [d1, d2, d3] => { results := [.lit (.bool false)], args := [d1, d2, d3] }
  | _ => none }
def PackinTextsWrongFalsely : Prop := packinTextsRow.holds Try.pinned (OpenSpec.ofChange packinTextsWrong)

/- THE SECOND FORM. 'bulk': how many values and letters a reading holds, each counted each time it is reached (what is shared counts as often as it is met; a slice's spare places count too). A statement '..UptoSaid' is the law's where the arguments, and the package variables that the reading takes, are together of bulk at most 1048576: NARROWER than '..Said'. Prove '..Said' where nothing that the law and all that it calls make is longer than what came in: it says more and counts as full. Else prove '..UptoSaid'. A law counts once. -/
mutual
def uptoBulk {H : Type} : DataW H → Nat
  | .lit (.string bytes) => bytes.length + 1
  | .lit _ => 1
  | .nil => 1
  | .ptr d => uptoBulk d + 1
  | .slice elems spare => uptoBulkAll elems + uptoBulkAll spare + 1
  | .agg parts => uptoBulkAll parts + 1
  | .iface _ d => uptoBulk d + 1
  | .map entries => uptoBulkEntries entries + 1
  | .held _ => 1
def uptoBulkAll {H : Type} : List (DataW H) → Nat
  | [] => 0
  | d :: r => uptoBulk d + uptoBulkAll r
def uptoBulkEntries {H : Type} : List (Lit × DataW H) → Nat
  | [] => 0
  | x :: r => uptoBulkEntry x + uptoBulkEntries r
def uptoBulkEntry {H : Type} : Lit × DataW H → Nat
  | (.string bytes, d) => bytes.length + uptoBulk d + 1
  | (_, d) => uptoBulk d + 1
 end
def uptoSmall : (H : Type) → List (DataW H) → Bool := fun _ ds => decide (uptoBulkAll ds ≤ 1048576)
def OpenSpec.upto (s : _root_.Go.ChangeSpec) : _root_.Go.OpenSpec := { _root_.Go.OpenSpec.ofChange s with cond := some uptoSmall }

/-- 'truchmanlaw15.PackinBack', WHERE WHAT IT READS IS OF BULK AT MOST 1048576: true; the input reads as it did. -/
def packinBackUptoRow : OpenClaim := { program := "ytmcbdkhlbmhfeaa", sum := "2929eced5a3023cf1d19b81858a8b9e634d61369ea23b9291a2c88c7c0054c16", func := "truchman/truchmanlaw15.PackinBack", spec := "packinBack", unfollowed := true, recurses := true, apart := false, narrowed := true }
def PackinBackUptoSaid : Prop := packinBackUptoRow.holds Try.pinned (OpenSpec.upto packinBackSpec)

/-- 'truchmanlaw15.PackinCuts', WHERE WHAT IT READS IS OF BULK AT MOST 1048576: true; the input reads as it did. -/
def packinCutsUptoRow : OpenClaim := { program := "ytmcbdkhlbmhfeaa", sum := "2929eced5a3023cf1d19b81858a8b9e634d61369ea23b9291a2c88c7c0054c16", func := "truchman/truchmanlaw15.PackinCuts", spec := "packinCuts", unfollowed := true, recurses := true, apart := false, narrowed := true }
def PackinCutsUptoSaid : Prop := packinCutsUptoRow.holds Try.pinned (OpenSpec.upto packinCutsSpec)

/-- 'truchmanlaw15.PackinLong', WHERE WHAT IT READS IS OF BULK AT MOST 1048576: true; the input reads as it did. -/
def packinLongUptoRow : OpenClaim := { program := "ytmcbdkhlbmhfeaa", sum := "2929eced5a3023cf1d19b81858a8b9e634d61369ea23b9291a2c88c7c0054c16", func := "truchman/truchmanlaw15.PackinLong", spec := "packinLong", apart := false, narrowed := true }
def PackinLongUptoSaid : Prop := packinLongUptoRow.holds Try.pinned (OpenSpec.upto packinLongSpec)

/-- 'truchmanlaw15.PackinTexts', WHERE WHAT IT READS IS OF BULK AT MOST 1048576: true; the input reads as it did. -/
def packinTextsUptoRow : OpenClaim := { program := "ytmcbdkhlbmhfeaa", sum := "2929eced5a3023cf1d19b81858a8b9e634d61369ea23b9291a2c88c7c0054c16", func := "truchman/truchmanlaw15.PackinTexts", spec := "packinTexts", apart := false, narrowed := true }
def PackinTextsUptoSaid : Prop := packinTextsUptoRow.holds Try.pinned (OpenSpec.upto packinTextsSpec)

end Rows
end Go.Proofs.Ytmcbdkhlbmhfeaa
