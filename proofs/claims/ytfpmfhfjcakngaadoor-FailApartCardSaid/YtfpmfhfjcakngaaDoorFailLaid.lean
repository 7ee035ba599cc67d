/-
  What the listed table gives a walk; a world that meets the condition.
-/
import Derived.Test.YtfpmfhfjcakngaaDoorLaw
import Derived.Test.YtfpmfhfjcakngaaDoorTie
import Derived.ProofKit
import Derived.LaidMore
import Derived.OpenShut
import Derived.Stop.Joined
import Derived.Lib.LaidTab
import Derived.Lib.Space
import Derived.MakeChecks
namespace Go.Proofs.YtfpmfhfjcakngaaDoor
open Go.RowKit Go.Tru Go.ChangeShapes Go.WideShapes Go.ChangeAt

def seatLaid : List (String × DataW Unit) := [("unicode.White_Space", Rows.laid_unicode_White_Space), ("strings.asciiSpace", Rows.laid_strings_asciiSpace)]

set_option maxRecDepth 100000 in
theorem door_met (os : Os) (args : Array Value) : laidMetH Tryd.prog seatLaid ((World.doorLaid Tryd.prog 4000 os).forCall (fun _ _ => 0) ⟨#[], args, []⟩).memory :=
  laidMetH_of_parts3 (fuel := 8) (laidMet_of_run' 8 (by kernel_rfl) (by kernel_rfl)) (by kernel_rfl) (by kernel_rfl)

/-- the table of the ASCII spaces -/
abbrev PowTab (w : World) : Prop := Lib.TabIs Tryd.prog w "strings.asciiSpace" .u8 Lib.asciiSpaceTab

theorem pow_global : Tryd.prog.globalNamed "strings.asciiSpace" = some 0 := by kernel_rfl
theorem pow_type : (Tryd.prog.globals[0]?).map (·.type) = some 47 := by kernel_rfl
theorem pow_elem : Tryd.prog.cellsOf 5 = 1 := by kernel_rfl
theorem pow_cells : Tryd.prog.cellsOf 47 = 256 := by kernel_rfl
theorem pow_data : Rows.laid_strings_asciiSpace = (Lib.tabData .u8 Lib.asciiSpaceTab : DataW Unit) := by kernel_rfl

theorem pow_of_laid {W : World} (h : laidMetH Tryd.prog seatLaid W) : PowTab W := by
  rw [MakeChecks.laidMetH_plain _ _ _ (by kernel_rfl)] at h
  obtain ⟨ps, ⟨g0, t0, cs0, f0, p0, q0, hg0, ht0, hv0, hd0, ⟨g2, t2, cs2, f2, p2, q2, hg2, ht2, hv2, hd2, _, _⟩, _⟩, _⟩ := h
  obtain rfl := Option.some.inj (pow_global.symm.trans hg2)
  obtain rfl := Option.some.inj (pow_type.symm.trans ht2)
  rw [pow_data] at hd2
  have := Lib.cells_of_tab Tryd.underlying47 Tryd.underlying5 pow_elem pow_cells hd2
  show Lib.TabIs _ _ _ _ _
  unfold Lib.TabIs
  rw [hv2, ← this]
end Go.Proofs.YtfpmfhfjcakngaaDoor
