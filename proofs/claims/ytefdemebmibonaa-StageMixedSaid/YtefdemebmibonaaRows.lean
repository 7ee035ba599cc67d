/-
  No cell of these rows narrows 'for every input' (looked for: loops, veiled, ifaces, maps, wideKeys, modest, calm, conditions, laid).
  DERIVED. THE GIVEN ROWS OF THIS SEAT. 6 by the template 'for every input the law returns true; each argument reads behind the call as it read before'; 0 by the template 'total and deterministic' (their statements: YtefdemebmibonaaTotals.lean).
  GIVEN WITH THE SEED: the statements are not yours to turn. If you find one false, say at which input.
  Laid BY PROGRAM, IN A SANDBOX (cutbox-rows.mjs): the forced cells as the released guide's own fill.sh prints them over the translation 9c273197211c044e… (all of the seat's roots in one cut). By AI agents, Wed Nov 11 2026. No macro, syntax, notation, axiom, sorry.
-/
import Derived.Test.YtefdemebmibonaaChecked
import GoSem.Claim
import GoSem.ClaimJoined
import GoSem.ClaimMapViews
import Derived.JoinedTies
import Derived.KernelRfl
namespace Go.Proofs.Ytefdemebmibonaa
/- THE CELL 'sum', in the pinned program and in every row, IS THE sha256 OF THE DUMP (.gsa) THAT YtefdemebmibonaaProg.lean LOADS. Nothing in Lean hashes anything: it is a label: what it is worth is what the hold of that sum in a sandbox is worth. -/
noncomputable def Try.pinned : Pinned := { name := "ytefdemebmibonaa", sum := "9c273197211c044edba76ab9408630e8fa2703bbfb8d98b104abf8d1ac3ed737", checked := Try.checked }
namespace Rows
def none {H : Type} : Left H := { results := [], args := [] }

/-- 'truchmanlaw17.StagePasses': WHATEVER THE INPUT: true; the input reads as it did. -/
def stagePassesSpec : ChangeSpec := { name := "stagePasses", fn := fun _ => fun
  | [d1, d2] => { results := [.lit (.bool true)], args := [d1, d2] }
  | _ => none }
def stagePassesRow : OpenClaim := { program := "ytefdemebmibonaa", sum := "9c273197211c044edba76ab9408630e8fa2703bbfb8d98b104abf8d1ac3ed737", func := "truchman/truchmanlaw17.StagePasses", spec := "stagePasses", unfollowed := true, recurses := true, apart := false }
def StagePassesSaid : Prop := stagePassesRow.holds Try.pinned (OpenSpec.ofChange stagePassesSpec)

/-- ITS FALSE NEIGHBOUR: 'it returns false'. Refute it at one input. -/
def stagePassesWrong : ChangeSpec := { name := "stagePasses", fn := fun _ => fun
  | [d1, d2] => { results := [.lit (.bool false)], args := [d1, d2] }
  | _ => none }
def StagePassesWrongFalsely : Prop := stagePassesRow.holds Try.pinned (OpenSpec.ofChange stagePassesWrong)

/-- 'truchmanlaw17.StageLimits': WHATEVER THE INPUT: true; the input reads as it did. -/
def stageLimitsSpec : ChangeSpec := { name := "stageLimits", fn := fun _ => fun
  | [d1, d2] => { results := [.lit (.bool true)], args := [d1, d2] }
  | _ => none }
def stageLimitsRow : OpenClaim := { program := "ytefdemebmibonaa", sum := "9c273197211c044edba76ab9408630e8fa2703bbfb8d98b104abf8d1ac3ed737", func := "truchman/truchmanlaw17.StageLimits", spec := "stageLimits", unfollowed := true, recurses := true, apart := false }
def StageLimitsSaid : Prop := stageLimitsRow.holds Try.pinned (OpenSpec.ofChange stageLimitsSpec)

/-- ITS FALSE NEIGHBOUR: 'it returns false'. Refute it at one input. -/
def stageLimitsWrong : ChangeSpec := { name := "stageLimits", fn := fun _ => fun
  | [d1, d2] => { results := [.lit (.bool false)], args := [d1, d2] }
  | _ => none }
def StageLimitsWrongFalsely : Prop := stageLimitsRow.holds Try.pinned (OpenSpec.ofChange stageLimitsWrong)

/-- 'truchmanlaw17.StageMixed': WHATEVER THE INPUT: true; the input reads as it did. -/
def stageMixedSpec : ChangeSpec := { name := "stageMixed", fn := fun _ => fun
  | [d1, d2] => { results := [.lit (.bool true)], args := [d1, d2] }
  | _ => none }
def stageMixedRow : OpenClaim := { program := "ytefdemebmibonaa", sum := "9c273197211c044edba76ab9408630e8fa2703bbfb8d98b104abf8d1ac3ed737", func := "truchman/truchmanlaw17.StageMixed", spec := "stageMixed", unfollowed := true, recurses := true, apart := false }
def StageMixedSaid : Prop := stageMixedRow.holds Try.pinned (OpenSpec.ofChange stageMixedSpec)

/-- ITS FALSE NEIGHBOUR: 'it returns false'. Refute it at one input. -/
def stageMixedWrong : ChangeSpec := { name := "stageMixed", fn := fun _ => fun
  | [d1, d2] => { results := [.lit (.bool false)], args := [d1, d2] }
  | _ => none }
def StageMixedWrongFalsely : Prop := stageMixedRow.holds Try.pinned (OpenSpec.ofChange stageMixedWrong)

/-- 'truchmanlaw17.StageSizes': WHATEVER THE INPUT: true; the input reads as it did. -/
def stageSizesSpec : ChangeSpec := { name := "stageSizes", fn := fun _ => fun
  | [d1, d2] => { results := [.lit (.bool true)], args := [d1, d2] }
  | _ => none }
def stageSizesRow : OpenClaim := { program := "ytefdemebmibonaa", sum := "9c273197211c044edba76ab9408630e8fa2703bbfb8d98b104abf8d1ac3ed737", func := "truchman/truchmanlaw17.StageSizes", spec := "stageSizes", apart := false }
def StageSizesSaid : Prop := stageSizesRow.holds Try.pinned (OpenSpec.ofChange stageSizesSpec)

/-- ITS FALSE NEIGHBOUR: 'it returns false'. Refute it at one input. -/
def stageSizesWrong : ChangeSpec := { name := "stageSizes", fn := fun _ => fun
  | [d1, d2] => { results := [.lit (.bool false)], args := [d1, d2] }
  | _ => none }
def StageSizesWrongFalsely : Prop := stageSizesRow.holds Try.pinned (OpenSpec.ofChange stageSizesWrong)

/-- 'truchmanlaw17.StageNone': WHATEVER THE INPUT: true; the input reads as it did. -/
def stageNoneSpec : ChangeSpec := { name := "stageNone", fn := fun _ => fun
  | [d1, d2] => { results := [.lit (.bool true)], args := [d1, d2] }
  | _ => none }
def stageNoneRow : OpenClaim := { program := "ytefdemebmibonaa", sum := "9c273197211c044edba76ab9408630e8fa2703bbfb8d98b104abf8d1ac3ed737", func := "truchman/truchmanlaw17.StageNone", spec := "stageNone", apart := false }
def StageNoneSaid : Prop := stageNoneRow.holds Try.pinned (OpenSpec.ofChange stageNoneSpec)

/-- ITS FALSE NEIGHBOUR: 'it returns false'. Refute it at one input. -/
def stageNoneWrong : ChangeSpec := { name := "stageNone", fn := fun _ => fun
  | [d1, d2] => { results := [.lit (.bool false)], args := [d1, d2] }
  | _ => none }
def StageNoneWrongFalsely : Prop := stageNoneRow.holds Try.pinned (OpenSpec.ofChange stageNoneWrong)

/-- 'truchmanlaw17.StageWhole': WHATEVER THE INPUT: true; the input reads as it did. -/
def stageWholeSpec : ChangeSpec := { name := "stageWhole", fn := fun _ => fun
  | [d] => { results := [.lit (.bool true)], args := [d] }
  | _ => none }
def stageWholeRow : OpenClaim := { program := "ytefdemebmibonaa", sum := "9c273197211c044edba76ab9408630e8fa2703bbfb8d98b104abf8d1ac3ed737", func := "truchman/truchmanlaw17.StageWhole", spec := "stageWhole", apart := false }
def StageWholeSaid : Prop := stageWholeRow.holds Try.pinned (OpenSpec.ofChange stageWholeSpec)

/-- ITS FALSE NEIGHBOUR: 'it returns false'. Refute it at one input. -/
def stageWholeWrong : ChangeSpec := { name := "stageWhole", fn := fun _ => fun
  | [d] => { results := [.lit (.bool false)], args := [d] }
  | _ => none }
def StageWholeWrongFalsely : Prop := stageWholeRow.holds Try.pinned (OpenSpec.ofChange stageWholeWrong)

/- THE SECOND FORM. 'bulk': how many values and letters a reading holds, each counted each time it is reached (what is shared counts as often as it is met; a slice's spare places count too). A statement '..UptoSaid' is the law's where the arguments, and the package variables that the reading takes, are together of bulk at most 1048576: NARROWER than '..Said'. Prove '..Said' where nothing that the law and all that it calls make is longer than what came in: it says more and counts as full. Else prove '..UptoSaid'. A law counts once. -/
mutual
def uptoBulk {H : Type} : DataW H → Nat
  | .lit (.string bytes) => bytes.length + 1
  | .lit _ => 1
  | .nil => 1
  | .ptr d => uptoBulk d + 1
  | .slice elems spare => uptoBulkAll elems + uptoBulkAll spare + 1
  | .agg parts => uptoBulkAll parts + 1
  | .iface _ d => uptoBulk d + 1
  | .map entries => uptoBulkEntries entries + 1
  | .held _ => 1
def uptoBulkAll {H : Type} : List (DataW H) → Nat
  | [] => 0
  | d :: r => uptoBulk d + uptoBulkAll r
def uptoBulkEntries {H : Type} : List (Lit × DataW H) → Nat
  | [] => 0
  | x :: r => uptoBulkEntry x + uptoBulkEntries r
def uptoBulkEntry {H : Type} : Lit × DataW H → Nat
  | (.string bytes, d) => bytes.length + uptoBulk d + 1
  | (_, d) => uptoBulk d + 1
 end
def uptoSmall : (H : Type) → List (DataW H) → Bool := fun _ ds => decide (uptoBulkAll ds ≤ 1048576)
def OpenSpec.upto (s : _root_.Go.ChangeSpec) : _root_.Go.OpenSpec := { _root_.Go.OpenSpec.ofChange s with cond := some uptoSmall }

/-- 'truchmanlaw17.StagePasses', WHERE WHAT IT READS IS OF BULK AT MOST 1048576: true; the input reads as it did. -/
def stagePassesUptoRow : OpenClaim := { program := "ytefdemebmibonaa", sum := "9c273197211c044edba76ab9408630e8fa2703bbfb8d98b104abf8d1ac3ed737", func := "truchman/truchmanlaw17.StagePasses", spec := "stagePasses", unfollowed := true, recurses := true, apart := false, narrowed := true }
def StagePassesUptoSaid : Prop := stagePassesUptoRow.holds Try.pinned (OpenSpec.upto stagePassesSpec)

/-- 'truchmanlaw17.StageLimits', WHERE WHAT IT READS IS OF BULK AT MOST 1048576: true; the input reads as it did. -/
def stageLimitsUptoRow : OpenClaim := { program := "ytefdemebmibonaa", sum := "9c273197211c044edba76ab9408630e8fa2703bbfb8d98b104abf8d1ac3ed737", func := "truchman/truchmanlaw17.StageLimits", spec := "stageLimits", unfollowed := true, recurses := true, apart := false, narrowed := true }
def StageLimitsUptoSaid : Prop := stageLimitsUptoRow.holds Try.pinned (OpenSpec.upto stageLimitsSpec)

/-- 'truchmanlaw17.StageMixed', WHERE WHAT IT READS IS OF BULK AT MOST 1048576: true; the input reads as it did. -/
def stageMixedUptoRow : OpenClaim := { program := "ytefdemebmibonaa", sum := "9c273197211c044edba76ab9408630e8fa2703bbfb8d98b104abf8d1ac3ed737", func := "truchman/truchmanlaw17.StageMixed", spec := "stageMixed", unfollowed := true, recurses := true, apart := false, narrowed := true }
def StageMixedUptoSaid : Prop := stageMixedUptoRow.holds Try.pinned (OpenSpec.upto stageMixedSpec)

/-- 'truchmanlaw17.StageSizes', WHERE WHAT IT READS IS OF BULK AT MOST 1048576: true; the input reads as it did. -/
def stageSizesUptoRow : OpenClaim := { program := "ytefdemebmibonaa", sum := "9c273197211c044edba76ab9408630e8fa2703bbfb8d98b104abf8d1ac3ed737", func := "truchman/truchmanlaw17.StageSizes", spec := "stageSizes", apart := false, narrowed := true }
def StageSizesUptoSaid : Prop := stageSizesUptoRow.holds Try.pinned (OpenSpec.upto stageSizesSpec)

/-- 'truchmanlaw17.StageNone', WHERE WHAT IT READS IS OF BULK AT MOST 1048576: true; the input reads as it did. -/
def stageNoneUptoRow : OpenClaim := { program := "ytefdemebmibonaa", sum := "9c273197211c044edba76ab9408630e8fa2703bbfb8d98b104abf8d1ac3ed737", func := "truchman/truchmanlaw17.StageNone", spec := "stageNone", apart := false, narrowed := true }
def StageNoneUptoSaid : Prop := stageNoneUptoRow.holds Try.pinned (OpenSpec.upto stageNoneSpec)

/-- 'truchmanlaw17.StageWhole', WHERE WHAT IT READS IS OF BULK AT MOST 1048576: true; the input reads as it did. -/
def stageWholeUptoRow : OpenClaim := { program := "ytefdemebmibonaa", sum := "9c273197211c044edba76ab9408630e8fa2703bbfb8d98b104abf8d1ac3ed737", func := "truchman/truchmanlaw17.StageWhole", spec := "stageWhole", apart := false, narrowed := true }
def StageWholeUptoSaid : Prop := stageWholeUptoRow.holds Try.pinned (OpenSpec.upto stageWholeSpec)

end Rows
end Go.Proofs.Ytefdemebmibonaa
