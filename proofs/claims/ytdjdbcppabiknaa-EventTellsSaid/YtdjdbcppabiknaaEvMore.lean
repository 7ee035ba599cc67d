/-
  event.Size, Same, MustWord: their contracts; two parts compared.
-/
import Derived.Test.YtdjdbcppabiknaaEvIn
import Derived.Lib.Strings
namespace Go.Tru
/-- are two parts alike, field by field? -/
def Ev.same (a b : Ev) : Bool := decide (a.kind = b.kind ∧ a.yes = b.yes ∧ a.mag = b.mag ∧ a.text.data.toList = b.text.data.toList ∧ a.count = b.count)
theorem text_ext {s t : ByteArray} (h : s.data.toList = t.data.toList) : s = t := by
  have : s.data = t.data := Array.ext' h
  cases s; cases t; simp_all
theorem same_iff {a b : Ev} : a.same b = true ↔ a = b := by
  obtain ⟨k, y, m, t, c⟩ := a
  obtain ⟨k', y', m', t', c'⟩ := b
  simp only [Ev.same, decide_eq_true_eq, Ev.mk.injEq]
  constructor
  · rintro ⟨h1, h2, h3, h4, h5⟩; exact ⟨h1, h2, h3, text_ext h4, h5⟩
  · rintro ⟨h1, h2, h3, h4, h5⟩; exact ⟨h1, h2, h3, by rw [h4], h5⟩
theorem same_self (a : Ev) : a.same a = true := same_iff.2 rfl
def Ev.size (e : Ev) : Int := 1 + e.text.size
end Go.Tru
namespace Go.Proofs.Ytdjdbcppabiknaa
open Go.RowKit Go.Tru

@[go_sem] theorem must_word (s : ByteArray) (w : World) : (Instr.typeAssert (.iface 53 (.string s)) 20 53 false).run Try.prog w = .ok (.string s) w := by kernel_rfl

theorem eql_ev (a b : Ev) (w : World) : (binOp .eql 32 a.val b.val).run Try.prog w = .ok (.bool (a.same b)) w := by
  obtain ⟨k, y, m, t, c⟩ := a
  obtain ⟨k', y', m', t', c'⟩ := b
  simp only [Ev.val, Ev.cells, Ev.same]
  go_simp
  simp only [Lib.toList_data]
  repeat' split
  all_goals simp_all

theorem size_any (p : Ev) (h : Clear p) (hs : p.text.size ≤ maxLen - 1) (w : World) :
    Calls Try.prog 19 #[p.part] w fun r w' => r = .returned (.int .i64 p.size) ∧ Keeps [] w w' := by
  unfold maxLen at hs
  go_enter Try.func19, Try.ntmps19
  go_wp2_with fail
  refine (plain_any p h w).mono ?_
  rintro e w1 ⟨rfl, k1⟩
  have K1 := Lib.hid k1
  clear k1
  simp only [Ev.val, Ev.cells]
  go_wp2_with fail
  go_ret
  exact ⟨ret_int (by unfold Ev.size; omega), K1.out.alloc _⟩

theorem mustWord_yes (s : ByteArray) (w : World) :
    Calls Try.prog 22 #[(evText s).part] w fun r w' => r = .returned (.string s) ∧ w = w' := by
  rw [part_text]
  go_enter Try.func22, Try.ntmps22
  go_wp2_with fail
  go_ret
  exact ⟨rfl, rfl⟩

theorem same_any (p q : Ev) (hp : Clear p) (hq : Clear q) (w : World) :
    Calls Try.prog 18 #[p.part, q.part] w fun r w' => r = .returned (.bool (p.same q)) ∧ Keeps [] w w' := by
  go_enter Try.func18, Try.ntmps18
  go_wp2_with fail
  refine (plain_any p hp w).mono ?_
  rintro e w1 ⟨rfl, k1⟩
  have K1 := Lib.hid k1
  clear k1
  simp only [Ev.val, Ev.cells]
  go_wp2_with fail
  refine (plain_any q hq _).mono ?_
  rintro e w2 ⟨rfl, k2⟩
  have K2 := Lib.hid k2
  have hz := k2.size
  simp only [World.size_alloc] at hz
  have hz' : w1.heap.size < w2.heap.size := hz
  clear hz
  have hc : ∀ i, w2.cell? ⟨w1.heap.size, i, none⟩ = p.cells[i]? := ((Has.new w1 p.cells 32).keeps k2 (by simp)).cell
  have hc0 := hc 0
  have hc1 := hc 1
  have hc2 := hc 2
  have hc3 := hc 3
  have hc4 := hc 4
  simp only [Ev.cells, List.getElem?_cons_zero, List.getElem?_cons_succ] at hc0 hc1 hc2 hc3 hc4
  have heq : ∀ W, (binOp .eql 32 (.agg #[.int .i64 p.kind, .bool p.yes, .int .u64 p.mag, .string p.text, .int .i64 p.count]) (.agg #[.int .i64 q.kind, .bool q.yes, .int .u64 q.mag, .string q.text, .int .i64 q.count])).run Try.prog W = .ok (.bool (p.same q)) W := fun W => eql_ev p q W
  clear k2 hc
  simp only [Ev.val, Ev.cells]
  go_wp2_with fail
  go_ret
  exact ⟨rfl, ((K1.out.alloc _).trans K2.out).alloc _⟩

/-- what is no part -/
def noEv : Value := .agg #[.int .i64 0, .bool false, .int .u64 0, .string ⟨#[]⟩, .int .i64 0]

theorem plain_int_no (x : Value) (w : World) :
    Calls Try.prog 16 #[.iface 3 x] w fun r w' => r = .returned (.tuple #[noEv, .bool false]) ∧ Keeps [] w w' := by
  go_enter Try.func16, Try.ntmps16
  go_wp2
  refine bodyPost_ret (v := .tuple #[noEv, .bool false]) (by simp [results, Try.results16, go_sem]; rfl) rfl ⟨rfl, ?_⟩
  repeat first | exact Keeps.refl _ _ | apply Keeps.alloc
theorem plain_string_no (x : Value) (w : World) :
    Calls Try.prog 16 #[.iface 9 x] w fun r w' => r = .returned (.tuple #[noEv, .bool false]) ∧ Keeps [] w w' := by
  go_enter Try.func16, Try.ntmps16
  go_wp2
  refine bodyPost_ret (v := .tuple #[noEv, .bool false]) (by simp [results, Try.results16, go_sem]; rfl) rfl ⟨rfl, ?_⟩
  repeat first | exact Keeps.refl _ _ | apply Keeps.alloc

theorem same_int (p : Ev) (hp : Clear p) (x : Value) (w : World) :
    Calls Try.prog 18 #[p.part, .iface 3 x] w fun r w' => r = .returned (.bool false) ∧ Keeps [] w w' := by
  go_enter Try.func18, Try.ntmps18
  go_wp2_with fail
  refine (plain_any p hp w).mono ?_
  rintro e w1 ⟨rfl, k1⟩
  have K1 := Lib.hid k1
  clear k1
  simp only [Ev.val, Ev.cells]
  go_wp2_with fail
  refine (plain_int_no x _).mono ?_
  rintro e w2 ⟨rfl, k2⟩
  have K2 := Lib.hid k2
  clear k2
  simp only [noEv]
  go_wp2_with fail
  go_ret
  exact ⟨rfl, ((K1.out.alloc _).trans K2.out).alloc _⟩

theorem same_string (x y : Value) (w : World) :
    Calls Try.prog 18 #[.iface 9 x, .iface 9 y] w fun r w' => r = .returned (.bool false) ∧ Keeps [] w w' := by
  go_enter Try.func18, Try.ntmps18
  go_wp2_with fail
  refine (plain_string_no x w).mono ?_
  rintro e w1 ⟨rfl, k1⟩
  have K1 := Lib.hid k1
  clear k1
  simp only [noEv]
  go_wp2_with fail
  refine (plain_string_no y _).mono ?_
  rintro e w2 ⟨rfl, k2⟩
  have K2 := Lib.hid k2
  clear k2
  simp only [noEv]
  go_wp2_with fail
  go_ret
  exact ⟨rfl, ((K1.out.alloc _).trans K2.out).alloc _⟩
end Go.Proofs.Ytdjdbcppabiknaa
