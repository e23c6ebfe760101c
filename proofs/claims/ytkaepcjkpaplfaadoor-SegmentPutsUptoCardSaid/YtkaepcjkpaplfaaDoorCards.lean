/-
  DERIVED. GIVEN WITH THE SEED: THE CARDS: each row of YtkaepcjkpaplfaaDoorRows.lean that lists a variable, with what it lists TIED to the program's text (the seventh form; the later family's looks); each row that meets fmt, with fmt's text TOLD by the authors' own Lean function (tested against real Go, not proved from fmt's source: count such statements apart). THE CARD IS WHAT COUNTS. Prove the row's statement (the work); the ties are given (YtkaepcjkpaplfaaDoorTie.lean); close each card by the builder's one call (the guide's Derived/Test/ToyasCard.lean, 'card_holds'). Laid BY PROGRAM, IN A SANDBOX (cutbox-door.mjs). By AI agents, Wed Nov 11 2026. No macro, syntax, notation, axiom, sorry.
-/
import Derived.Test.YtkaepcjkpaplfaaDoorRows
import GoSem.ClaimSeven
namespace Go.Proofs.YtkaepcjkpaplfaaDoor
namespace Rows

/-- THE TIED CARD OF 'pneumaticlaw12.SegmentNames'. -/
def segmentNamesCard : Claim7 := { stood := { row := segmentNamesRow, standIns := [], harness := (true, "73bf53dc95fffe11375b0f5924580d747146389d811784c4fb024bb29c8cc29e"), looks := false }, kinds := [], alts := [], laidByText := true, laidKinds := [.data, .pinned], laidTests := true, laidLooks := .later }
def SegmentNamesCardSaid : Prop := Claim7.holds Tryd.pinned (.plain (OpenSpec.ofChange segmentNamesSpec)) segmentNamesCard

/-- THE TIED CARD OF 'pneumaticlaw12.SegmentPuts'. -/
def segmentPutsCard : Claim7 := { stood := { row := segmentPutsRow, standIns := [], harness := (true, "73bf53dc95fffe11375b0f5924580d747146389d811784c4fb024bb29c8cc29e"), looks := false }, kinds := [], alts := [], laidByText := true, laidKinds := [.data, .pinned], laidTests := true, laidLooks := .later }
def SegmentPutsCardSaid : Prop := Claim7.holds Tryd.pinned (.plain (OpenSpec.ofChange segmentPutsSpec)) segmentPutsCard

/-- THE TIED CARD OF 'pneumaticlaw12.SegmentBack'. -/
def segmentBackCard : Claim7 := { stood := { row := segmentBackRow, standIns := [], harness := (true, "73bf53dc95fffe11375b0f5924580d747146389d811784c4fb024bb29c8cc29e"), looks := false }, kinds := [], alts := [], laidByText := true, laidKinds := [.data, .pinned], laidTests := true, laidLooks := .later }
def SegmentBackCardSaid : Prop := Claim7.holds Tryd.pinned (.plain (OpenSpec.ofChange segmentBackSpec)) segmentBackCard

/-- THE TIED CARD OF 'pneumaticlaw12.SegmentTorn'. -/
def segmentTornCard : Claim7 := { stood := { row := segmentTornRow, standIns := [], harness := (true, "73bf53dc95fffe11375b0f5924580d747146389d811784c4fb024bb29c8cc29e"), looks := false }, kinds := [], alts := [], laidByText := true, laidKinds := [.data, .pinned], laidTests := true, laidLooks := .later }
def SegmentTornCardSaid : Prop := Claim7.holds Tryd.pinned (.plain (OpenSpec.ofChange segmentTornSpec)) segmentTornCard

/-- THE TIED CARD OF 'pneumaticlaw12.SegmentKnown'. -/
def segmentKnownCard : Claim7 := { stood := { row := segmentKnownRow, standIns := [], harness := (true, "73bf53dc95fffe11375b0f5924580d747146389d811784c4fb024bb29c8cc29e"), looks := false }, kinds := [], alts := [], laidByText := true, laidKinds := [.data, .pinned], laidTests := true, laidLooks := .later }
def SegmentKnownCardSaid : Prop := Claim7.holds Tryd.pinned (.plain (OpenSpec.ofChange segmentKnownSpec)) segmentKnownCard

/-- THE TIED CARD OF 'pneumaticlaw12.SegmentFrom'. -/
def segmentFromCard : Claim7 := { stood := { row := segmentFromRow, standIns := [], harness := (true, "73bf53dc95fffe11375b0f5924580d747146389d811784c4fb024bb29c8cc29e"), looks := false }, kinds := [], alts := [], laidByText := true, laidKinds := [.data, .pinned], laidTests := true, laidLooks := .later }
def SegmentFromCardSaid : Prop := Claim7.holds Tryd.pinned (.plain (OpenSpec.ofChange segmentFromSpec)) segmentFromCard

/-- THE SECOND FORM's CARD OF 'pneumaticlaw12.SegmentNames'. -/
def segmentNamesUptoCard : Claim7 := { stood := { row := segmentNamesUptoRow, standIns := [], harness := (true, "73bf53dc95fffe11375b0f5924580d747146389d811784c4fb024bb29c8cc29e"), looks := false }, kinds := [], alts := [], laidByText := true, laidKinds := [.data, .pinned], laidTests := true, laidLooks := .later }
def SegmentNamesUptoCardSaid : Prop := Claim7.holds Tryd.pinned (.plain (OpenSpec.upto segmentNamesSpec)) segmentNamesUptoCard

/-- THE SECOND FORM's CARD OF 'pneumaticlaw12.SegmentPuts'. -/
def segmentPutsUptoCard : Claim7 := { stood := { row := segmentPutsUptoRow, standIns := [], harness := (true, "73bf53dc95fffe11375b0f5924580d747146389d811784c4fb024bb29c8cc29e"), looks := false }, kinds := [], alts := [], laidByText := true, laidKinds := [.data, .pinned], laidTests := true, laidLooks := .later }
def SegmentPutsUptoCardSaid : Prop := Claim7.holds Tryd.pinned (.plain (OpenSpec.upto segmentPutsSpec)) segmentPutsUptoCard

/-- THE SECOND FORM's CARD OF 'pneumaticlaw12.SegmentBack'. -/
def segmentBackUptoCard : Claim7 := { stood := { row := segmentBackUptoRow, standIns := [], harness := (true, "73bf53dc95fffe11375b0f5924580d747146389d811784c4fb024bb29c8cc29e"), looks := false }, kinds := [], alts := [], laidByText := true, laidKinds := [.data, .pinned], laidTests := true, laidLooks := .later }
def SegmentBackUptoCardSaid : Prop := Claim7.holds Tryd.pinned (.plain (OpenSpec.upto segmentBackSpec)) segmentBackUptoCard

/-- THE SECOND FORM's CARD OF 'pneumaticlaw12.SegmentTorn'. -/
def segmentTornUptoCard : Claim7 := { stood := { row := segmentTornUptoRow, standIns := [], harness := (true, "73bf53dc95fffe11375b0f5924580d747146389d811784c4fb024bb29c8cc29e"), looks := false }, kinds := [], alts := [], laidByText := true, laidKinds := [.data, .pinned], laidTests := true, laidLooks := .later }
def SegmentTornUptoCardSaid : Prop := Claim7.holds Tryd.pinned (.plain (OpenSpec.upto segmentTornSpec)) segmentTornUptoCard

/-- THE SECOND FORM's CARD OF 'pneumaticlaw12.SegmentKnown'. -/
def segmentKnownUptoCard : Claim7 := { stood := { row := segmentKnownUptoRow, standIns := [], harness := (true, "73bf53dc95fffe11375b0f5924580d747146389d811784c4fb024bb29c8cc29e"), looks := false }, kinds := [], alts := [], laidByText := true, laidKinds := [.data, .pinned], laidTests := true, laidLooks := .later }
def SegmentKnownUptoCardSaid : Prop := Claim7.holds Tryd.pinned (.plain (OpenSpec.upto segmentKnownSpec)) segmentKnownUptoCard

/-- THE SECOND FORM's CARD OF 'pneumaticlaw12.SegmentFrom'. -/
def segmentFromUptoCard : Claim7 := { stood := { row := segmentFromUptoRow, standIns := [], harness := (true, "73bf53dc95fffe11375b0f5924580d747146389d811784c4fb024bb29c8cc29e"), looks := false }, kinds := [], alts := [], laidByText := true, laidKinds := [.data, .pinned], laidTests := true, laidLooks := .later }
def SegmentFromUptoCardSaid : Prop := Claim7.holds Tryd.pinned (.plain (OpenSpec.upto segmentFromSpec)) segmentFromUptoCard
end Rows
end Go.Proofs.YtkaepcjkpaplfaaDoor
