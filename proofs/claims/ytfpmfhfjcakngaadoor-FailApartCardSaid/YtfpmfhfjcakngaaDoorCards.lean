/-
  DERIVED. GIVEN WITH THE SEED: THE CARDS: each row of YtfpmfhfjcakngaaDoorRows.lean that lists a variable, with what it lists TIED to the program's text (the seventh form; the later family's looks); each row that meets fmt, with fmt's text TOLD by the authors' own Lean function (tested against real Go, not proved from fmt's source: count such statements apart). THE CARD IS WHAT COUNTS. Prove the row's statement (the work); the ties are given (YtfpmfhfjcakngaaDoorTie.lean); close each card by the builder's one call (the guide's Derived/Test/ToyasCard.lean, 'card_holds'). Laid BY PROGRAM, IN A SANDBOX (cutbox-door.mjs). By AI agents, Wed Nov 11 2026. No macro, syntax, notation, axiom, sorry.
-/
import Derived.Test.YtfpmfhfjcakngaaDoorRows
import GoSem.ClaimSeven
namespace Go.Proofs.YtfpmfhfjcakngaaDoor
namespace Rows

/-- THE TIED CARD OF 'truchmanlaw1.FailSums'. -/
def failSumsCard : Claim7 := { stood := { row := failSumsRow, standIns := [], harness := (true, "90e0587adb63ac00a6da1435183ca46f127576cd7fff417dad66b012cc5eac51"), looks := true }, kinds := [], alts := [], laidByText := true, laidKinds := [.listed, .data], laidTests := true, laidLooks := .later }
def FailSumsCardSaid : Prop := Claim7.holds Tryd.pinned (.plain (OpenSpec.ofChange failSumsSpec)) failSumsCard

/-- THE TIED CARD OF 'truchmanlaw1.FailNames'. -/
def failNamesCard : Claim7 := { stood := { row := failNamesRow, standIns := [], harness := (true, "90e0587adb63ac00a6da1435183ca46f127576cd7fff417dad66b012cc5eac51"), looks := true }, kinds := [], alts := [], laidByText := true, laidKinds := [.listed, .data], laidTests := true, laidLooks := .later }
def FailNamesCardSaid : Prop := Claim7.holds Tryd.pinned (.plain (OpenSpec.ofChange failNamesSpec)) failNamesCard

/-- THE TIED CARD OF 'truchmanlaw1.FailWords'. -/
def failWordsCard : Claim7 := { stood := { row := failWordsRow, standIns := [], harness := (true, "90e0587adb63ac00a6da1435183ca46f127576cd7fff417dad66b012cc5eac51"), looks := true }, kinds := [], alts := [], laidByText := true, laidKinds := [.listed, .data], laidTests := true, laidLooks := .later }
def FailWordsCardSaid : Prop := Claim7.holds Tryd.pinned (.plain (OpenSpec.ofChange failWordsSpec)) failWordsCard

/-- THE TIED CARD OF 'truchmanlaw1.FailTells'. -/
def failTellsCard : Claim7 := { stood := { row := failTellsRow, standIns := [], harness := (true, "90e0587adb63ac00a6da1435183ca46f127576cd7fff417dad66b012cc5eac51"), looks := true }, kinds := [], alts := [], laidByText := true, laidKinds := [.listed, .data], laidTests := true, laidLooks := .later }
def FailTellsCardSaid : Prop := Claim7.holds Tryd.pinned (.plain (OpenSpec.ofChange failTellsSpec)) failTellsCard

/-- THE TIED CARD OF 'truchmanlaw1.FailApart'. -/
def failApartCard : Claim7 := { stood := { row := failApartRow, standIns := [], harness := (true, "90e0587adb63ac00a6da1435183ca46f127576cd7fff417dad66b012cc5eac51"), looks := true }, kinds := [], alts := [], laidByText := true, laidKinds := [.listed, .data], laidTests := true, laidLooks := .later }
def FailApartCardSaid : Prop := Claim7.holds Tryd.pinned (.plain (OpenSpec.ofChange failApartSpec)) failApartCard

/-- THE SECOND FORM's CARD OF 'truchmanlaw1.FailSums'. -/
def failSumsUptoCard : Claim7 := { stood := { row := failSumsUptoRow, standIns := [], harness := (true, "90e0587adb63ac00a6da1435183ca46f127576cd7fff417dad66b012cc5eac51"), looks := true }, kinds := [], alts := [], laidByText := true, laidKinds := [.listed, .data], laidTests := true, laidLooks := .later }
def FailSumsUptoCardSaid : Prop := Claim7.holds Tryd.pinned (.plain (OpenSpec.upto failSumsSpec)) failSumsUptoCard

/-- THE SECOND FORM's CARD OF 'truchmanlaw1.FailNames'. -/
def failNamesUptoCard : Claim7 := { stood := { row := failNamesUptoRow, standIns := [], harness := (true, "90e0587adb63ac00a6da1435183ca46f127576cd7fff417dad66b012cc5eac51"), looks := true }, kinds := [], alts := [], laidByText := true, laidKinds := [.listed, .data], laidTests := true, laidLooks := .later }
def FailNamesUptoCardSaid : Prop := Claim7.holds Tryd.pinned (.plain (OpenSpec.upto failNamesSpec)) failNamesUptoCard

/-- THE SECOND FORM's CARD OF 'truchmanlaw1.FailWords'. -/
def failWordsUptoCard : Claim7 := { stood := { row := failWordsUptoRow, standIns := [], harness := (true, "90e0587adb63ac00a6da1435183ca46f127576cd7fff417dad66b012cc5eac51"), looks := true }, kinds := [], alts := [], laidByText := true, laidKinds := [.listed, .data], laidTests := true, laidLooks := .later }
def FailWordsUptoCardSaid : Prop := Claim7.holds Tryd.pinned (.plain (OpenSpec.upto failWordsSpec)) failWordsUptoCard

/-- THE SECOND FORM's CARD OF 'truchmanlaw1.FailTells'. -/
def failTellsUptoCard : Claim7 := { stood := { row := failTellsUptoRow, standIns := [], harness := (true, "90e0587adb63ac00a6da1435183ca46f127576cd7fff417dad66b012cc5eac51"), looks := true }, kinds := [], alts := [], laidByText := true, laidKinds := [.listed, .data], laidTests := true, laidLooks := .later }
def FailTellsUptoCardSaid : Prop := Claim7.holds Tryd.pinned (.plain (OpenSpec.upto failTellsSpec)) failTellsUptoCard

/-- THE SECOND FORM's CARD OF 'truchmanlaw1.FailApart'. -/
def failApartUptoCard : Claim7 := { stood := { row := failApartUptoRow, standIns := [], harness := (true, "90e0587adb63ac00a6da1435183ca46f127576cd7fff417dad66b012cc5eac51"), looks := true }, kinds := [], alts := [], laidByText := true, laidKinds := [.listed, .data], laidTests := true, laidLooks := .later }
def FailApartUptoCardSaid : Prop := Claim7.holds Tryd.pinned (.plain (OpenSpec.upto failApartSpec)) failApartUptoCard
end Rows
end Go.Proofs.YtfpmfhfjcakngaaDoor
