/-
  event.Size, Same, MustWord: their contracts; two parts compared.
-/
import Derived.Test.YtmhkgfddlkdmgaaEvIn
import Derived.Lib.Strings
namespace Go.Tru
/-- are two parts alike, field by field? -/
def Ev.same (a b : Ev) : Bool := decide (a.kind = b.kind ∧ a.yes = b.yes ∧ a.mag = b.mag ∧ a.text.data.toList = b.text.data.toList ∧ a.count = b.count)
theorem text_ext {s t : ByteArray} (h : s.data.toList = t.data.toList) : s = t := by
  have : s.data = t.data := Array.ext' h
  cases s; cases t; simp_all
theorem same_iff {a b : Ev} : a.same b = true ↔ a = b := by
  obtain ⟨k, y, m, t, c⟩ := a
  obtain ⟨k', y', m', t', c'⟩ := b
  simp only [Ev.same, decide_eq_true_eq, Ev.mk.injEq]
  constructor
  · rintro ⟨h1, h2, h3, h4, h5⟩; exact ⟨h1, h2, h3, text_ext h4, h5⟩
  · rintro ⟨h1, h2, h3, h4, h5⟩; exact ⟨h1, h2, h3, by rw [h4], h5⟩
theorem same_self (a : Ev) : a.same a = true := same_iff.2 rfl
def Ev.size (e : Ev) : Int := 1 + e.text.size
end Go.Tru
namespace Go.Proofs.Ytmhkgfddlkdmgaa
open Go.RowKit Go.Tru

@[go_sem] theorem must_word (s : ByteArray) (w : World) : (Instr.typeAssert (.iface 58 (.string s)) 20 58 false).run Try.prog w = .ok (.string s) w := by kernel_rfl

theorem eql_ev (a b : Ev) (w : World) : (binOp .eql 34 a.val b.val).run Try.prog w = .ok (.bool (a.same b)) w := by
  obtain ⟨k, y, m, t, c⟩ := a
  obtain ⟨k', y', m', t', c'⟩ := b
  simp only [Ev.val, Ev.cells, Ev.same]
  go_simp
  simp only [Lib.toList_data]
  repeat' split
  all_goals simp_all

theorem size_any (p : Ev) (h : Clear p) (hs : p.text.size ≤ maxLen - 1) (w : World) :
    Calls Try.prog 23 #[p.part] w fun r w' => r = .returned (.int .i64 p.size) ∧ Keeps [] w w' := by
  unfold maxLen at hs
  go_enter Try.func23, Try.ntmps23
  go_wp2_with fail
  refine (plain_any p h w).mono ?_
  rintro e w1 ⟨rfl, k1⟩
  have K1 := Lib.hid k1
  clear k1
  simp only [Ev.val, Ev.cells]
  go_wp2_with fail
  go_ret
  exact ⟨ret_int (by unfold Ev.size; omega), K1.out.alloc _⟩



/-- what is no part -/
def noEv : Value := .agg #[.int .i64 0, .bool false, .int .u64 0, .string ⟨#[]⟩, .int .i64 0]

theorem plain_int_no (x : Value) (w : World) :
    Calls Try.prog 14 #[.iface 3 x] w fun r w' => r = .returned (.tuple #[noEv, .bool false]) ∧ Keeps [] w w' := by
  go_enter Try.func14, Try.ntmps14
  go_wp2
  refine bodyPost_ret (v := .tuple #[noEv, .bool false]) (by simp [results, Try.results14, go_sem]; rfl) rfl ⟨rfl, ?_⟩
  repeat first | exact Keeps.refl _ _ | apply Keeps.alloc
theorem plain_string_no (x : Value) (w : World) :
    Calls Try.prog 14 #[.iface 9 x] w fun r w' => r = .returned (.tuple #[noEv, .bool false]) ∧ Keeps [] w w' := by
  go_enter Try.func14, Try.ntmps14
  go_wp2
  refine bodyPost_ret (v := .tuple #[noEv, .bool false]) (by simp [results, Try.results14, go_sem]; rfl) rfl ⟨rfl, ?_⟩
  repeat first | exact Keeps.refl _ _ | apply Keeps.alloc


end Go.Proofs.Ytmhkgfddlkdmgaa
