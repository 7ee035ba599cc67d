/-
  DERIVED. GIVEN WITH THE SEED: THE CARDS: each row of YtfgnjaelfjabmaaDoorRows.lean that lists a variable, with what it lists TIED to the program's text (the seventh form; the later family's looks); each row that meets fmt, with fmt's text TOLD by the authors' own Lean function (tested against real Go, not proved from fmt's source: count such statements apart). THE CARD IS WHAT COUNTS. Prove the row's statement (the work); the ties are given (YtfgnjaelfjabmaaDoorTie.lean); close each card by the builder's one call (the guide's Derived/Test/ToyasCard.lean, 'card_holds'). Laid BY PROGRAM, IN A SANDBOX (cutbox-door.mjs). By AI agents, Wed Nov 11 2026. No macro, syntax, notation, axiom, sorry.
-/
import Derived.Test.YtfgnjaelfjabmaaDoorRows
import GoSem.ClaimSeven
namespace Go.Proofs.YtfgnjaelfjabmaaDoor
namespace Rows

/-- THE TIED CARD OF 'truchmanlaw6.DecimalBack'. -/
def decimalBackCard : Claim7 := { stood := { row := decimalBackRow, standIns := [], harness := (true, "9ee34d2a591be4b6e13c1b0687fbbad14b753957925e21196247403457061326"), looks := false }, kinds := [], alts := [], laidByText := true, laidKinds := [.data, .data, .data], laidTests := true, laidLooks := .later }
def DecimalBackCardSaid : Prop := Claim7.holds Tryd.pinned (.plain (OpenSpec.ofChange decimalBackSpec)) decimalBackCard

/-- THE TIED CARD OF 'truchmanlaw6.DecimalOrder'. -/
def decimalOrderCard : Claim7 := { stood := { row := decimalOrderRow, standIns := [], harness := (true, "9ee34d2a591be4b6e13c1b0687fbbad14b753957925e21196247403457061326"), looks := false }, kinds := [], alts := [], laidByText := true, laidKinds := [.data, .data, .data], laidTests := true, laidLooks := .later }
def DecimalOrderCardSaid : Prop := Claim7.holds Tryd.pinned (.plain (OpenSpec.ofChange decimalOrderSpec)) decimalOrderCard

/-- THE TIED CARD OF 'truchmanlaw6.DecimalEnds'. -/
def decimalEndsCard : Claim7 := { stood := { row := decimalEndsRow, standIns := [], harness := (true, "9ee34d2a591be4b6e13c1b0687fbbad14b753957925e21196247403457061326"), looks := false }, kinds := [], alts := [], laidByText := true, laidKinds := [.data, .data, .data], laidTests := true, laidLooks := .later }
def DecimalEndsCardSaid : Prop := Claim7.holds Tryd.pinned (.plain (OpenSpec.ofChange decimalEndsSpec)) decimalEndsCard

/-- THE TIED CARD OF 'truchmanlaw6.DecimalFloats'. -/
def decimalFloatsCard : Claim7 := { stood := { row := decimalFloatsRow, standIns := [], harness := (true, "9ee34d2a591be4b6e13c1b0687fbbad14b753957925e21196247403457061326"), looks := false }, kinds := [], alts := [], laidByText := true, laidKinds := [.data, .data, .data], laidTests := true, laidLooks := .later }
def DecimalFloatsCardSaid : Prop := Claim7.holds Tryd.pinned (.plain (OpenSpec.ofChange decimalFloatsSpec)) decimalFloatsCard

/-- THE TIED CARD OF 'truchmanlaw6.DecimalRange'. -/
def decimalRangeCard : Claim7 := { stood := { row := decimalRangeRow, standIns := [], harness := (true, "9ee34d2a591be4b6e13c1b0687fbbad14b753957925e21196247403457061326"), looks := false }, kinds := [], alts := [], laidByText := true, laidKinds := [.data, .data, .data], laidTests := true, laidLooks := .later }
def DecimalRangeCardSaid : Prop := Claim7.holds Tryd.pinned (.plain (OpenSpec.ofChange decimalRangeSpec)) decimalRangeCard

/-- THE TIED CARD OF 'truchmanlaw6.DecimalSigns'. -/
def decimalSignsCard : Claim7 := { stood := { row := decimalSignsRow, standIns := [], harness := (true, "9ee34d2a591be4b6e13c1b0687fbbad14b753957925e21196247403457061326"), looks := false }, kinds := [], alts := [], laidByText := true, laidKinds := [.data, .data, .data], laidTests := true, laidLooks := .later }
def DecimalSignsCardSaid : Prop := Claim7.holds Tryd.pinned (.plain (OpenSpec.ofChange decimalSignsSpec)) decimalSignsCard

/-- THE SECOND FORM's CARD OF 'truchmanlaw6.DecimalBack'. -/
def decimalBackUptoCard : Claim7 := { stood := { row := decimalBackUptoRow, standIns := [], harness := (true, "9ee34d2a591be4b6e13c1b0687fbbad14b753957925e21196247403457061326"), looks := false }, kinds := [], alts := [], laidByText := true, laidKinds := [.data, .data, .data], laidTests := true, laidLooks := .later }
def DecimalBackUptoCardSaid : Prop := Claim7.holds Tryd.pinned (.plain (OpenSpec.upto decimalBackSpec)) decimalBackUptoCard

/-- THE SECOND FORM's CARD OF 'truchmanlaw6.DecimalOrder'. -/
def decimalOrderUptoCard : Claim7 := { stood := { row := decimalOrderUptoRow, standIns := [], harness := (true, "9ee34d2a591be4b6e13c1b0687fbbad14b753957925e21196247403457061326"), looks := false }, kinds := [], alts := [], laidByText := true, laidKinds := [.data, .data, .data], laidTests := true, laidLooks := .later }
def DecimalOrderUptoCardSaid : Prop := Claim7.holds Tryd.pinned (.plain (OpenSpec.upto decimalOrderSpec)) decimalOrderUptoCard

/-- THE SECOND FORM's CARD OF 'truchmanlaw6.DecimalEnds'. -/
def decimalEndsUptoCard : Claim7 := { stood := { row := decimalEndsUptoRow, standIns := [], harness := (true, "9ee34d2a591be4b6e13c1b0687fbbad14b753957925e21196247403457061326"), looks := false }, kinds := [], alts := [], laidByText := true, laidKinds := [.data, .data, .data], laidTests := true, laidLooks := .later }
def DecimalEndsUptoCardSaid : Prop := Claim7.holds Tryd.pinned (.plain (OpenSpec.upto decimalEndsSpec)) decimalEndsUptoCard

/-- THE SECOND FORM's CARD OF 'truchmanlaw6.DecimalFloats'. -/
def decimalFloatsUptoCard : Claim7 := { stood := { row := decimalFloatsUptoRow, standIns := [], harness := (true, "9ee34d2a591be4b6e13c1b0687fbbad14b753957925e21196247403457061326"), looks := false }, kinds := [], alts := [], laidByText := true, laidKinds := [.data, .data, .data], laidTests := true, laidLooks := .later }
def DecimalFloatsUptoCardSaid : Prop := Claim7.holds Tryd.pinned (.plain (OpenSpec.upto decimalFloatsSpec)) decimalFloatsUptoCard

/-- THE SECOND FORM's CARD OF 'truchmanlaw6.DecimalRange'. -/
def decimalRangeUptoCard : Claim7 := { stood := { row := decimalRangeUptoRow, standIns := [], harness := (true, "9ee34d2a591be4b6e13c1b0687fbbad14b753957925e21196247403457061326"), looks := false }, kinds := [], alts := [], laidByText := true, laidKinds := [.data, .data, .data], laidTests := true, laidLooks := .later }
def DecimalRangeUptoCardSaid : Prop := Claim7.holds Tryd.pinned (.plain (OpenSpec.upto decimalRangeSpec)) decimalRangeUptoCard

/-- THE SECOND FORM's CARD OF 'truchmanlaw6.DecimalSigns'. -/
def decimalSignsUptoCard : Claim7 := { stood := { row := decimalSignsUptoRow, standIns := [], harness := (true, "9ee34d2a591be4b6e13c1b0687fbbad14b753957925e21196247403457061326"), looks := false }, kinds := [], alts := [], laidByText := true, laidKinds := [.data, .data, .data], laidTests := true, laidLooks := .later }
def DecimalSignsUptoCardSaid : Prop := Claim7.holds Tryd.pinned (.plain (OpenSpec.upto decimalSignsSpec)) decimalSignsUptoCard
end Rows
end Go.Proofs.YtfgnjaelfjabmaaDoor
