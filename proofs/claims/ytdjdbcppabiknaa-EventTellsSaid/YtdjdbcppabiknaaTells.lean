/-
  A failed v.(T) panics.
-/
import Derived.Test.YtdjdbcppabiknaaEvMore
import Derived.Test.YtdjdbcppabiknaaRefMay
import Derived.Recover
import Derived.Defers
namespace Go.Proofs.Ytdjdbcppabiknaa
open Go.RowKit Go.Tru

def haltT : Result Value → TypeId
  | .halt (.panic (.iface t _)) _ => t
  | _ => 0
def haltV : Result Value → Value
  | .halt (.panic (.iface _ v)) _ => v
  | _ => .nilIface
def haltO : Result Value → Obj
  | .halt _ w => w.heap.toList.getLastD (.cells #[] 0 (0, 0))
  | _ => .cells #[] 0 (0, 0)

theorem fail_nil (w : World) : ∃ T pv o, (Instr.typeAssert .nilIface 20 53 false).run Try.prog w = .halt (.panic (.iface T pv)) (w.alloc o) :=
  ⟨haltT ((Instr.typeAssert .nilIface 20 53 false).run Try.prog w), haltV ((Instr.typeAssert .nilIface 20 53 false).run Try.prog w), haltO ((Instr.typeAssert .nilIface 20 53 false).run Try.prog ⟨#[], w.tape, 0, w.os, #[]⟩), by kernel_rfl⟩
theorem fail_bool (v : Value) (w : World) : ∃ T pv o, (Instr.typeAssert (.iface 4 v) 20 53 false).run Try.prog w = .halt (.panic (.iface T pv)) (w.alloc o) :=
  ⟨haltT ((Instr.typeAssert (.iface 4 v) 20 53 false).run Try.prog w), haltV ((Instr.typeAssert (.iface 4 v) 20 53 false).run Try.prog w), haltO ((Instr.typeAssert (.iface 4 v) 20 53 false).run Try.prog ⟨#[], w.tape, 0, w.os, #[]⟩), by kernel_rfl⟩
theorem fail_Whole (v : Value) (w : World) : ∃ T pv o, (Instr.typeAssert (.iface 62 v) 20 53 false).run Try.prog w = .halt (.panic (.iface T pv)) (w.alloc o) :=
  ⟨haltT ((Instr.typeAssert (.iface 62 v) 20 53 false).run Try.prog w), haltV ((Instr.typeAssert (.iface 62 v) 20 53 false).run Try.prog w), haltO ((Instr.typeAssert (.iface 62 v) 20 53 false).run Try.prog ⟨#[], w.tape, 0, w.os, #[]⟩), by kernel_rfl⟩
theorem fail_Blob (v : Value) (w : World) : ∃ T pv o, (Instr.typeAssert (.iface 63 v) 20 53 false).run Try.prog w = .halt (.panic (.iface T pv)) (w.alloc o) :=
  ⟨haltT ((Instr.typeAssert (.iface 63 v) 20 53 false).run Try.prog w), haltV ((Instr.typeAssert (.iface 63 v) 20 53 false).run Try.prog w), haltO ((Instr.typeAssert (.iface 63 v) 20 53 false).run Try.prog ⟨#[], w.tape, 0, w.os, #[]⟩), by kernel_rfl⟩
theorem fail_Begin (v : Value) (w : World) : ∃ T pv o, (Instr.typeAssert (.iface 56 v) 20 53 false).run Try.prog w = .halt (.panic (.iface T pv)) (w.alloc o) :=
  ⟨haltT ((Instr.typeAssert (.iface 56 v) 20 53 false).run Try.prog w), haltV ((Instr.typeAssert (.iface 56 v) 20 53 false).run Try.prog w), haltO ((Instr.typeAssert (.iface 56 v) 20 53 false).run Try.prog ⟨#[], w.tape, 0, w.os, #[]⟩), by kernel_rfl⟩
theorem fail_Close (v : Value) (w : World) : ∃ T pv o, (Instr.typeAssert (.iface 49 v) 20 53 false).run Try.prog w = .halt (.panic (.iface T pv)) (w.alloc o) :=
  ⟨haltT ((Instr.typeAssert (.iface 49 v) 20 53 false).run Try.prog w), haltV ((Instr.typeAssert (.iface 49 v) 20 53 false).run Try.prog w), haltO ((Instr.typeAssert (.iface 49 v) 20 53 false).run Try.prog ⟨#[], w.tape, 0, w.os, #[]⟩), by kernel_rfl⟩

theorem fail_any {p : Ev} (h : Clear p) (h3 : p.kind ≠ 3) (w : World) : ∃ T pv o, (Instr.typeAssert p.part 20 53 false).run Try.prog w = .halt (.panic (.iface T pv)) (w.alloc o) := by
  rcases h with rfl | ⟨b, rfl⟩ | ⟨n, m, rfl⟩ | ⟨s, rfl⟩ | ⟨s, rfl⟩ | ⟨n, hn, rfl⟩ | ⟨n, hn, rfl⟩ | rfl
  · rw [part_null]; exact fail_nil _
  · rw [part_bool]; exact fail_bool _ _
  · rw [part_int]; exact fail_Whole _ _
  · simp [evText] at h3
  · rw [part_bytes]; exact fail_Blob _ _
  · rw [part_arr]; exact fail_Begin _ _
  · rw [part_map]; exact fail_Begin _ _
  · rw [part_end]; exact fail_Close _ _

theorem mustWord_no {p : Ev} (h : Clear p) (h3 : p.kind ≠ 3) (w : World) :
    Calls Try.prog 22 #[p.part] w fun r w' => (∃ T pv, r = .panicked [{ v := .iface T pv, recovered := false }]) ∧ Keeps [] w w' := by
  obtain ⟨T, pv, o, hrun⟩ := fail_any h h3 w
  generalize p.part = v at hrun ⊢
  go_enter Try.func22, Try.ntmps22
  go_wp2
  exact ⟨rfl, ⟨T, pv, rfl⟩, (Keeps.refl _ _).alloc _⟩

theorem catch_panicking (p : Addr) (x : Bool) (u : TypeId) (pv : Value) (older : List PanicEntry) (w : World) (hc : w.cell? p = some (.bool x)) (hz : w.frozen? p = false) :
    CallsD Try.prog 26 #[.pointer (some p)] (.panicking ({ v := .iface u pv, recovered := false } :: older)) w fun e u' w' =>
      e = .returned (.tuple #[]) ∧ u' = .panicking ({ v := .iface u pv, recovered := true } :: older) ∧ w' = w.setCell p (.bool true) := by
  refine callsD_of_wpS Try.func26 rfl fun c₀ cs hu => ?_
  apply wpS_region
  simp [wpOpsS, go_sem, recoverD, hu, Try.ntmps26, hc, hz, bodyPostS, results, Try.results26]

theorem catch_idle (p : Addr) (x : Bool) (w : World) (hc : w.cell? p = some (.bool x)) (hz : w.frozen? p = false) :
    CallsD Try.prog 26 #[.pointer (some p)] .returning w fun e u' w' => e = .returned (.tuple #[]) ∧ u' = .returning ∧ w' = w.setCell p (.bool false) := by
  refine callsD_of_wpS Try.func26 rfl fun c₀ cs hu => ?_
  apply wpS_region
  simp [wpOpsS, go_sem, recoverD, hu, Try.ntmps26, hc, hz, bodyPostS, results, Try.results26]
  cases c₀
  simp_all

theorem mustWord_text (s : ByteArray) (w : World) :
    Calls Try.prog 22 #[(evText s).part] w fun r w' => (∃ v, r = .returned v) ∧ Keeps [] w w' :=
  (mustWord_yes s w).mono fun _ _ ⟨h1, h2⟩ => ⟨⟨_, h1⟩, h2 ▸ Keeps.refl _ _⟩

theorem panics_no (s : ByteArray) (w : World) :
    Calls Try.prog 21 #[(evText s).part] w fun r w' => r = .returned (.bool false) ∧ Keeps [] w w' := by
  have hmf : ∀ (fn : Fn) (first cap : Array Value) (w : World), (Instr.makeFunc fn first cap).run Try.prog w = .ok (.func fn first cap) w := fun _ _ _ _ => rfl
  go_enter_defers Try.func21, Try.ntmps21
  go_wp2_with fail
  refine (mustWord_text s _).mono ?_
  rintro e w1 ⟨⟨v, rfl⟩, k1⟩
  have hc : w1.cell? ⟨w.heap.size, 0, none⟩ = some (.bool false) := k1.cell (by simp [World.cell?_alloc_new]) (by simp)
  have hh : Has w1 w.heap.size [.bool false] 4 := (Has.new w [.bool false] 4).keeps k1 (by simp)
  have hz := hh.free 0
  have K1 := Lib.hid k1
  clear k1
  go_wp2_with fail
  refine leaves_cons (f := 26) (args := #[.pointer (some ⟨w.heap.size, 0, none⟩)]) (by simp) (by simp [go_sem]) ?_
  refine (catch_idle ⟨w.heap.size, 0, none⟩ false _ hc hz).mono ?_
  rintro e u' w'' ⟨rfl, rfl, rfl⟩
  have hcell : (w1.setCell ⟨w.heap.size, 0, none⟩ (.bool false)).cell? ⟨w.heap.size, 0, none⟩ = some (.bool false) := by rw [(hh.set 0 (.bool false)).cell]; rfl
  simp [Leaves, settle, results, Try.results21, go_sem, hcell]
  exact (((Keeps.refl _ _).alloc _).trans K1.out).setCell (Or.inr (Nat.le_refl _)) _

theorem panics_yes {p : Ev} (h : Clear p) (h3 : p.kind ≠ 3) (w : World) :
    Calls Try.prog 21 #[p.part] w fun r w' => r = .returned (.bool true) ∧ Keeps [] w w' := by
  have hmf : ∀ (fn : Fn) (first cap : Array Value) (w : World), (Instr.makeFunc fn first cap).run Try.prog w = .ok (.func fn first cap) w := fun _ _ _ _ => rfl
  have hcall := fun W => mustWord_no h h3 W
  generalize p.part = pv at hcall ⊢
  have HC := Lib.hid hcall
  clear hcall
  go_enter_defers Try.func21, Try.ntmps21
  go_wp2_with fail
  refine (HC.out _).mono ?_
  rintro e w1 ⟨⟨T, q, rfl⟩, k1⟩
  have hc : w1.cell? ⟨w.heap.size, 0, none⟩ = some (.bool false) := k1.cell (by simp [World.cell?_alloc_new]) (by simp)
  have hh : Has w1 w.heap.size [.bool false] 4 := (Has.new w [.bool false] 4).keeps k1 (by simp)
  have hz := hh.free 0
  have K1 := Lib.hid k1
  clear k1
  go_wp2_with fail
  refine leaves_cons (f := 26) (args := #[.pointer (some ⟨w.heap.size, 0, none⟩)]) (by simp) (by simp [go_sem]) ?_
  refine (catch_panicking ⟨w.heap.size, 0, none⟩ false _ _ [] _ hc hz).mono ?_
  rintro e u' w'' ⟨rfl, rfl, rfl⟩
  have hcell : (w1.setCell ⟨w.heap.size, 0, none⟩ (.bool true)).cell? ⟨w.heap.size, 0, none⟩ = some (.bool true) := by rw [(hh.set 0 (.bool true)).cell]; rfl
  simp [Leaves, settle, results, Try.results21, go_sem, hcell]
  exact (((Keeps.refl _ _).alloc _).trans K1.out).setCell (Or.inr (Nat.le_refl _)) _
end Go.Proofs.Ytdjdbcppabiknaa
