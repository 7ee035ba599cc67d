/-
  map[int]bool that the call makes: which numbers are marked.
-/
import Derived.Test.YtcbpjongpfcmkaaRows
import Derived.Test.YtcbpjongpfcmkaaTru
import Derived.Maps.OwnOps
import Derived.Maps.Views
namespace Go.Proofs.Ytcbpjongpfcmkaa
open Go.RowKit Go.Tru
open Go.Maps (Keyed)

/-- Block b is a map of at most n entries in which just these numbers are true. -/
def Marks (w : World) (b n : Nat) (S : List Int) : Prop :=
  ∃ D : DataW Unit, w.ownsMap Try.prog 3 (plainElem Try.prog 4) b n D ∧ Maps.IsMap D ∧ ∀ k : Int, D.atKey (.int .i64 k) (.lit (.bool false)) = .lit (.bool (decide (k ∈ S)))

theorem Marks.lt {w : World} {b n : Nat} {S : List Int} (h : Marks w b n S) : b < w.heap.size := by
  obtain ⟨D, h, _⟩ := h
  exact h.lt

theorem Marks.keeps {w w' : World} {b n : Nat} {S : List Int} (h : Marks w b n S) (k : Keeps [] w w') : Marks w' b n S := by
  obtain ⟨D, h, r⟩ := h
  exact ⟨D, h.kept (row := none) ⟨k.os, k.tape, k.output, k.size, fun i hi _ => k.block i hi (by simp)⟩ (by simp), r⟩

theorem Marks.keep1 {w w' : World} {b n c : Nat} {S : List Int} (h : Marks w b n S) (k : Keeps [c] w w') (hc : b ≠ c) : Marks w' b n S := by
  obtain ⟨D, h, r⟩ := h
  exact ⟨D, h.kept (row := some c) ⟨k.os, k.tape, k.output, k.size, fun i hi hne => k.block i hi (by simp; intro e; exact hne (by rw [e]))⟩ (by simp [hc]), r⟩

theorem Marks.made (w : World) : Marks (w.alloc (.map #[] 0)) w.heap.size 0 [] :=
  ⟨.map [], World.ownsMap_made _ _ _ _, Maps.isMap_empty, fun k => by simp [DataW.atKey]⟩

theorem keyLaw : Keyed Try.prog 3 := Maps.int_keyed Try.underlying3
theorem zeroBool (w : World) : (zeroValue 4).run Try.prog w = .ok (.bool false) w := by kernel_rfl

theorem lookup_marks {w : World} {b n : Nat} {S : List Int} (h : Marks w b n S) {key : Int} (hk : -9223372036854775808 ≤ key ∧ key ≤ 9223372036854775807) :
    (Instr.lookup 24 (.map (some b)) (.int .i64 key) false).run Try.prog w = .ok (.bool (decide (key ∈ S))) w := by
  obtain ⟨D, h1, _, h3⟩ := h
  obtain ⟨v, ps, hrun, hv⟩ := h1.lookup keyLaw Try.underlying24 (zeroBool w) (plainElem_bool Try.underlying4 false) (Maps.keyOf_int_mk Try.underlying3 (WalkArith.wf_i64 hk))
  rw [h3] at hv
  obtain rfl : v = .bool (decide (key ∈ S)) := by
    unfold plainElem at hv
    rw [Try.underlying4] at hv
    cases v <;> simp at hv
    rw [hv.1]
  exact hrun

theorem store_marks {w : World} {b n : Nat} {S : List Int} (h : Marks w b n S) (hn : n < 1000000) {key : Int} (hk : -9223372036854775808 ≤ key ∧ key ≤ 9223372036854775807) :
    ∃ w', (Instr.mapUpdate 24 (.map (some b)) (.int .i64 key) (.bool true)).run Try.prog w = .ok () w' ∧ Marks w' b (n + 1) (key :: S) ∧ Keeps [b] w w' := by
  obtain ⟨D, h1, h2, h3⟩ := h
  obtain ⟨w', hrun, h1', hg'⟩ := h1.update keyLaw Try.underlying24 (by unfold maxLen; omega) (Maps.keyOf_int_mk Try.underlying3 (WalkArith.wf_i64 hk)) (plainElem_bool Try.underlying4 true)
  refine ⟨w', hrun, ⟨_, h1', h2.put _ _, fun k => ?_⟩, ⟨hg'.os, hg'.tape, hg'.output, hg'.size, fun i hi hne => hg'.block i hi (by simpa using hne)⟩⟩
  by_cases e : k = key
  · subst e
    rw [Maps.atKey_put_same (k := .int .i64 k) h2 trivial]
    simp
  · rw [Maps.atKey_put_other (by intro h; exact e (by injection h)), h3]
    simp [e]
end Go.Proofs.Ytcbpjongpfcmkaa
