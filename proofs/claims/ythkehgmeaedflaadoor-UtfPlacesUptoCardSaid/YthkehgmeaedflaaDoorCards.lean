/-
  DERIVED. GIVEN WITH THE SEED: THE CARDS: each row of YthkehgmeaedflaaDoorRows.lean that lists a variable, with what it lists TIED to the program's text (the seventh form; the later family's looks); each row that meets fmt, with fmt's text TOLD by the authors' own Lean function (tested against real Go, not proved from fmt's source: count such statements apart). THE CARD IS WHAT COUNTS. Prove the row's statement (the work); the ties are given (YthkehgmeaedflaaDoorTie.lean); close each card by the builder's one call (the guide's Derived/Test/ToyasCard.lean, 'card_holds'). Laid BY PROGRAM, IN A SANDBOX (cutbox-door.mjs). By AI agents, Wed Nov 11 2026. No macro, syntax, notation, axiom, sorry.
-/
import Derived.Test.YthkehgmeaedflaaDoorRows
import GoSem.ClaimSeven
namespace Go.Proofs.YthkehgmeaedflaaDoor
namespace Rows

/-- THE TIED CARD OF 'furrowlaw01.UtfJoined'. -/
def utfJoinedCard : Claim7 := { stood := { row := utfJoinedRow, standIns := [], harness := (true, "65d2c22c9633704797c8f3fe06a23364d1b9bc03718118c340c41d12a5796023"), looks := false }, kinds := [], alts := [], laidByText := true, laidKinds := [.data, .pinned], laidTests := true, laidLooks := .later }
def UtfJoinedCardSaid : Prop := Claim7.holds Tryd.pinned (.plain (OpenSpec.ofChange utfJoinedSpec)) utfJoinedCard

/-- THE TIED CARD OF 'furrowlaw01.UtfOrder'. -/
def utfOrderCard : Claim7 := { stood := { row := utfOrderRow, standIns := [], harness := (true, "65d2c22c9633704797c8f3fe06a23364d1b9bc03718118c340c41d12a5796023"), looks := false }, kinds := [], alts := [], laidByText := true, laidKinds := [.data, .pinned], laidTests := true, laidLooks := .later }
def UtfOrderCardSaid : Prop := Claim7.holds Tryd.pinned (.plain (OpenSpec.ofChange utfOrderSpec)) utfOrderCard

/-- THE TIED CARD OF 'furrowlaw01.UtfNames'. -/
def utfNamesCard : Claim7 := { stood := { row := utfNamesRow, standIns := [], harness := (true, "65d2c22c9633704797c8f3fe06a23364d1b9bc03718118c340c41d12a5796023"), looks := false }, kinds := [], alts := [], laidByText := true, laidKinds := [.data, .pinned], laidTests := true, laidLooks := .later }
def UtfNamesCardSaid : Prop := Claim7.holds Tryd.pinned (.plain (OpenSpec.ofChange utfNamesSpec)) utfNamesCard

/-- THE TIED CARD OF 'furrowlaw01.UtfBack'. -/
def utfBackCard : Claim7 := { stood := { row := utfBackRow, standIns := [], harness := (true, "65d2c22c9633704797c8f3fe06a23364d1b9bc03718118c340c41d12a5796023"), looks := false }, kinds := [], alts := [], laidByText := true, laidKinds := [.data, .pinned], laidTests := true, laidLooks := .later }
def UtfBackCardSaid : Prop := Claim7.holds Tryd.pinned (.plain (OpenSpec.ofChange utfBackSpec)) utfBackCard

/-- THE TIED CARD OF 'furrowlaw01.UtfGo'. -/
def utfGoCard : Claim7 := { stood := { row := utfGoRow, standIns := [], harness := (true, "65d2c22c9633704797c8f3fe06a23364d1b9bc03718118c340c41d12a5796023"), looks := false }, kinds := [], alts := [], laidByText := true, laidKinds := [.data, .pinned], laidTests := true, laidLooks := .later }
def UtfGoCardSaid : Prop := Claim7.holds Tryd.pinned (.plain (OpenSpec.ofChange utfGoSpec)) utfGoCard

/-- THE TIED CARD OF 'furrowlaw01.UtfReads'. -/
def utfReadsCard : Claim7 := { stood := { row := utfReadsRow, standIns := [], harness := (true, "65d2c22c9633704797c8f3fe06a23364d1b9bc03718118c340c41d12a5796023"), looks := false }, kinds := [], alts := [], laidByText := true, laidKinds := [.data, .pinned], laidTests := true, laidLooks := .later }
def UtfReadsCardSaid : Prop := Claim7.holds Tryd.pinned (.plain (OpenSpec.ofChange utfReadsSpec)) utfReadsCard

/-- THE TIED CARD OF 'furrowlaw01.UtfEncodes'. -/
def utfEncodesCard : Claim7 := { stood := { row := utfEncodesRow, standIns := [], harness := (true, "65d2c22c9633704797c8f3fe06a23364d1b9bc03718118c340c41d12a5796023"), looks := false }, kinds := [], alts := [], laidByText := true, laidKinds := [.data, .pinned], laidTests := true, laidLooks := .later }
def UtfEncodesCardSaid : Prop := Claim7.holds Tryd.pinned (.plain (OpenSpec.ofChange utfEncodesSpec)) utfEncodesCard

/-- THE TIED CARD OF 'furrowlaw01.UtfParts'. -/
def utfPartsCard : Claim7 := { stood := { row := utfPartsRow, standIns := [], harness := (true, "65d2c22c9633704797c8f3fe06a23364d1b9bc03718118c340c41d12a5796023"), looks := false }, kinds := [], alts := [], laidByText := true, laidKinds := [.data, .pinned], laidTests := true, laidLooks := .later }
def UtfPartsCardSaid : Prop := Claim7.holds Tryd.pinned (.plain (OpenSpec.ofChange utfPartsSpec)) utfPartsCard

/-- THE TIED CARD OF 'furrowlaw01.UtfChecks'. -/
def utfChecksCard : Claim7 := { stood := { row := utfChecksRow, standIns := [], harness := (true, "65d2c22c9633704797c8f3fe06a23364d1b9bc03718118c340c41d12a5796023"), looks := false }, kinds := [], alts := [], laidByText := true, laidKinds := [.data, .pinned], laidTests := true, laidLooks := .later }
def UtfChecksCardSaid : Prop := Claim7.holds Tryd.pinned (.plain (OpenSpec.ofChange utfChecksSpec)) utfChecksCard

/-- THE TIED CARD OF 'furrowlaw01.UtfPlaces'. -/
def utfPlacesCard : Claim7 := { stood := { row := utfPlacesRow, standIns := [], harness := (true, "65d2c22c9633704797c8f3fe06a23364d1b9bc03718118c340c41d12a5796023"), looks := false }, kinds := [], alts := [], laidByText := true, laidKinds := [.data, .pinned], laidTests := true, laidLooks := .later }
def UtfPlacesCardSaid : Prop := Claim7.holds Tryd.pinned (.plain (OpenSpec.ofChange utfPlacesSpec)) utfPlacesCard

/-- THE TIED CARD OF 'furrowlaw01.UtfNone'. -/
def utfNoneCard : Claim7 := { stood := { row := utfNoneRow, standIns := [], harness := (true, "65d2c22c9633704797c8f3fe06a23364d1b9bc03718118c340c41d12a5796023"), looks := false }, kinds := [], alts := [], laidByText := true, laidKinds := [.data, .pinned], laidTests := true, laidLooks := .later }
def UtfNoneCardSaid : Prop := Claim7.holds Tryd.pinned (.plain (OpenSpec.ofChange utfNoneSpec)) utfNoneCard

/-- THE TIED CARD OF 'furrowlaw01.UtfLost'. -/
def utfLostCard : Claim7 := { stood := { row := utfLostRow, standIns := [], harness := (true, "65d2c22c9633704797c8f3fe06a23364d1b9bc03718118c340c41d12a5796023"), looks := false }, kinds := [], alts := [], laidByText := true, laidKinds := [.data, .pinned], laidTests := true, laidLooks := .later }
def UtfLostCardSaid : Prop := Claim7.holds Tryd.pinned (.plain (OpenSpec.ofChange utfLostSpec)) utfLostCard

/-- THE SECOND FORM's CARD OF 'furrowlaw01.UtfJoined'. -/
def utfJoinedUptoCard : Claim7 := { stood := { row := utfJoinedUptoRow, standIns := [], harness := (true, "65d2c22c9633704797c8f3fe06a23364d1b9bc03718118c340c41d12a5796023"), looks := false }, kinds := [], alts := [], laidByText := true, laidKinds := [.data, .pinned], laidTests := true, laidLooks := .later }
def UtfJoinedUptoCardSaid : Prop := Claim7.holds Tryd.pinned (.plain (OpenSpec.upto utfJoinedSpec)) utfJoinedUptoCard

/-- THE SECOND FORM's CARD OF 'furrowlaw01.UtfOrder'. -/
def utfOrderUptoCard : Claim7 := { stood := { row := utfOrderUptoRow, standIns := [], harness := (true, "65d2c22c9633704797c8f3fe06a23364d1b9bc03718118c340c41d12a5796023"), looks := false }, kinds := [], alts := [], laidByText := true, laidKinds := [.data, .pinned], laidTests := true, laidLooks := .later }
def UtfOrderUptoCardSaid : Prop := Claim7.holds Tryd.pinned (.plain (OpenSpec.upto utfOrderSpec)) utfOrderUptoCard

/-- THE SECOND FORM's CARD OF 'furrowlaw01.UtfNames'. -/
def utfNamesUptoCard : Claim7 := { stood := { row := utfNamesUptoRow, standIns := [], harness := (true, "65d2c22c9633704797c8f3fe06a23364d1b9bc03718118c340c41d12a5796023"), looks := false }, kinds := [], alts := [], laidByText := true, laidKinds := [.data, .pinned], laidTests := true, laidLooks := .later }
def UtfNamesUptoCardSaid : Prop := Claim7.holds Tryd.pinned (.plain (OpenSpec.upto utfNamesSpec)) utfNamesUptoCard

/-- THE SECOND FORM's CARD OF 'furrowlaw01.UtfBack'. -/
def utfBackUptoCard : Claim7 := { stood := { row := utfBackUptoRow, standIns := [], harness := (true, "65d2c22c9633704797c8f3fe06a23364d1b9bc03718118c340c41d12a5796023"), looks := false }, kinds := [], alts := [], laidByText := true, laidKinds := [.data, .pinned], laidTests := true, laidLooks := .later }
def UtfBackUptoCardSaid : Prop := Claim7.holds Tryd.pinned (.plain (OpenSpec.upto utfBackSpec)) utfBackUptoCard

/-- THE SECOND FORM's CARD OF 'furrowlaw01.UtfGo'. -/
def utfGoUptoCard : Claim7 := { stood := { row := utfGoUptoRow, standIns := [], harness := (true, "65d2c22c9633704797c8f3fe06a23364d1b9bc03718118c340c41d12a5796023"), looks := false }, kinds := [], alts := [], laidByText := true, laidKinds := [.data, .pinned], laidTests := true, laidLooks := .later }
def UtfGoUptoCardSaid : Prop := Claim7.holds Tryd.pinned (.plain (OpenSpec.upto utfGoSpec)) utfGoUptoCard

/-- THE SECOND FORM's CARD OF 'furrowlaw01.UtfReads'. -/
def utfReadsUptoCard : Claim7 := { stood := { row := utfReadsUptoRow, standIns := [], harness := (true, "65d2c22c9633704797c8f3fe06a23364d1b9bc03718118c340c41d12a5796023"), looks := false }, kinds := [], alts := [], laidByText := true, laidKinds := [.data, .pinned], laidTests := true, laidLooks := .later }
def UtfReadsUptoCardSaid : Prop := Claim7.holds Tryd.pinned (.plain (OpenSpec.upto utfReadsSpec)) utfReadsUptoCard

/-- THE SECOND FORM's CARD OF 'furrowlaw01.UtfEncodes'. -/
def utfEncodesUptoCard : Claim7 := { stood := { row := utfEncodesUptoRow, standIns := [], harness := (true, "65d2c22c9633704797c8f3fe06a23364d1b9bc03718118c340c41d12a5796023"), looks := false }, kinds := [], alts := [], laidByText := true, laidKinds := [.data, .pinned], laidTests := true, laidLooks := .later }
def UtfEncodesUptoCardSaid : Prop := Claim7.holds Tryd.pinned (.plain (OpenSpec.upto utfEncodesSpec)) utfEncodesUptoCard

/-- THE SECOND FORM's CARD OF 'furrowlaw01.UtfParts'. -/
def utfPartsUptoCard : Claim7 := { stood := { row := utfPartsUptoRow, standIns := [], harness := (true, "65d2c22c9633704797c8f3fe06a23364d1b9bc03718118c340c41d12a5796023"), looks := false }, kinds := [], alts := [], laidByText := true, laidKinds := [.data, .pinned], laidTests := true, laidLooks := .later }
def UtfPartsUptoCardSaid : Prop := Claim7.holds Tryd.pinned (.plain (OpenSpec.upto utfPartsSpec)) utfPartsUptoCard

/-- THE SECOND FORM's CARD OF 'furrowlaw01.UtfChecks'. -/
def utfChecksUptoCard : Claim7 := { stood := { row := utfChecksUptoRow, standIns := [], harness := (true, "65d2c22c9633704797c8f3fe06a23364d1b9bc03718118c340c41d12a5796023"), looks := false }, kinds := [], alts := [], laidByText := true, laidKinds := [.data, .pinned], laidTests := true, laidLooks := .later }
def UtfChecksUptoCardSaid : Prop := Claim7.holds Tryd.pinned (.plain (OpenSpec.upto utfChecksSpec)) utfChecksUptoCard

/-- THE SECOND FORM's CARD OF 'furrowlaw01.UtfPlaces'. -/
def utfPlacesUptoCard : Claim7 := { stood := { row := utfPlacesUptoRow, standIns := [], harness := (true, "65d2c22c9633704797c8f3fe06a23364d1b9bc03718118c340c41d12a5796023"), looks := false }, kinds := [], alts := [], laidByText := true, laidKinds := [.data, .pinned], laidTests := true, laidLooks := .later }
def UtfPlacesUptoCardSaid : Prop := Claim7.holds Tryd.pinned (.plain (OpenSpec.upto utfPlacesSpec)) utfPlacesUptoCard

/-- THE SECOND FORM's CARD OF 'furrowlaw01.UtfNone'. -/
def utfNoneUptoCard : Claim7 := { stood := { row := utfNoneUptoRow, standIns := [], harness := (true, "65d2c22c9633704797c8f3fe06a23364d1b9bc03718118c340c41d12a5796023"), looks := false }, kinds := [], alts := [], laidByText := true, laidKinds := [.data, .pinned], laidTests := true, laidLooks := .later }
def UtfNoneUptoCardSaid : Prop := Claim7.holds Tryd.pinned (.plain (OpenSpec.upto utfNoneSpec)) utfNoneUptoCard

/-- THE SECOND FORM's CARD OF 'furrowlaw01.UtfLost'. -/
def utfLostUptoCard : Claim7 := { stood := { row := utfLostUptoRow, standIns := [], harness := (true, "65d2c22c9633704797c8f3fe06a23364d1b9bc03718118c340c41d12a5796023"), looks := false }, kinds := [], alts := [], laidByText := true, laidKinds := [.data, .pinned], laidTests := true, laidLooks := .later }
def UtfLostUptoCardSaid : Prop := Claim7.holds Tryd.pinned (.plain (OpenSpec.upto utfLostSpec)) utfLostUptoCard
end Rows
end Go.Proofs.YthkehgmeaedflaaDoor
