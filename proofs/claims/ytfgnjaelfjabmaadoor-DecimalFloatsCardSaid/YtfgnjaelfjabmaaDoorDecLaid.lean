/-
  What the listed tables give a walk; a world that meets the condition.
-/
import Derived.Test.YtfgnjaelfjabmaaDoorWholeLaw
import Derived.Test.YtfgnjaelfjabmaaDoorTie
import Derived.ProofKit
import Derived.LaidMore
import Derived.OpenShut
import Derived.Stop.Joined
import Derived.Lib.LaidTab
import Derived.Lib.ItoaNum
import Derived.MakeChecks
namespace Go.Proofs.YtfgnjaelfjabmaaDoor
open Go.RowKit Go.Tru Go.ChangeShapes Go.WideShapes Go.ChangeAt

def seatLaid : List (String × DataW Unit) := [("math/bits.deBruijn32tab", Rows.laid_math_bits_deBruijn32tab), ("math/bits.deBruijn64tab", Rows.laid_math_bits_deBruijn64tab), ("internal/strconv.uint64pow10", Rows.laid_internal_strconv_uint64pow10)]

set_option maxRecDepth 100000 in
theorem door_met (os : Os) (args : Array Value) : laidMetH Tryd.prog seatLaid ((World.doorLaid Tryd.prog 4000 os).forCall (fun _ _ => 0) ⟨#[], args, []⟩).memory :=
  laidMetH_of_parts3 (fuel := 8) (laidMet_of_run' 8 (by kernel_rfl) (by kernel_rfl)) (by kernel_rfl) (by kernel_rfl)

/-- the table of the powers of ten -/
abbrev PowTab (w : World) : Prop := Lib.TabIs Tryd.prog w "internal/strconv.uint64pow10" .u64 Lib.pow10Tab

theorem pow_global : Tryd.prog.globalNamed "internal/strconv.uint64pow10" = some 0 := by kernel_rfl
theorem pow_type : (Tryd.prog.globals[0]?).map (·.type) = some 57 := by kernel_rfl
theorem pow_elem : Tryd.prog.cellsOf 22 = 1 := by kernel_rfl
theorem pow_cells : Tryd.prog.cellsOf 57 = 20 := by kernel_rfl
theorem pow_data : Rows.laid_internal_strconv_uint64pow10 = (Lib.tabData .u64 Lib.pow10Tab : DataW Unit) := by kernel_rfl

theorem pow_of_laid {W : World} (h : laidMetH Tryd.prog seatLaid W) : PowTab W := by
  rw [MakeChecks.laidMetH_plain _ _ _ (by kernel_rfl)] at h
  obtain ⟨ps, ⟨g0, t0, cs0, f0, p0, q0, hg0, ht0, hv0, hd0, ⟨g1, t1, cs1, f1, p1, q1, hg1, ht1, hv1, hd1, ⟨g2, t2, cs2, f2, p2, q2, hg2, ht2, hv2, hd2, _, _⟩, _⟩, _⟩, _⟩ := h
  obtain rfl := Option.some.inj (pow_global.symm.trans hg2)
  obtain rfl := Option.some.inj (pow_type.symm.trans ht2)
  rw [pow_data] at hd2
  have := Lib.cells_of_tab Tryd.underlying57 Tryd.underlying22 pow_elem pow_cells hd2
  show Lib.TabIs _ _ _ _ _
  unfold Lib.TabIs
  rw [hv2, ← this]
end Go.Proofs.YtfgnjaelfjabmaaDoor
