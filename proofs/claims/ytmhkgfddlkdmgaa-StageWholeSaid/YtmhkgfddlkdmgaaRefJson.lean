/-
  truchmanref1.Json: what it tells of a text without an error is what the tokens tell jsonin's Parser (as plain data).
-/
import Derived.Test.YtmhkgfddlkdmgaaRefJsonA
import Derived.Test.YtmhkgfddlkdmgaaRefJsonB
import Derived.Test.YtmhkgfddlkdmgaaRefJsonC
import Derived.Test.YtmhkgfddlkdmgaaRefJsonD
import Derived.Test.YtmhkgfddlkdmgaaRefJsonE
import Derived.Test.YtmhkgfddlkdmgaaRefJsonF
import Derived.Test.YtmhkgfddlkdmgaaRefJsonG
import Derived.Test.YtmhkgfddlkdmgaaRefJsonH
namespace Go.Proofs.Ytmhkgfddlkdmgaa
open Go.RowKit Go.Tru
theorem json_any (s : ByteArray) (hs : s.size ≤ 1000) (w : World) : Calls Try.prog 5 #[.string s, .int .i64 16, .bool true] w (JsonPost s w) :=
  json_plan.main ⟨jarm_close⟩ ⟨jarm_comma⟩ ⟨jarm_colon⟩ ⟨jarm_str⟩ ⟨jarm_arr⟩ ⟨jarm_map⟩ ⟨jarm_num⟩ ⟨jarm_yes⟩ ⟨jarm_no⟩ ⟨jarm_null⟩ ⟨jarm_other⟩ ⟨jarm_end⟩ s hs w
end Go.Proofs.Ytmhkgfddlkdmgaa
