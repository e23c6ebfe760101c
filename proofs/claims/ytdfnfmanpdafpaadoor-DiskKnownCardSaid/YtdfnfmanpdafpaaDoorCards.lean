/-
  DERIVED. GIVEN WITH THE SEED: THE CARDS: each row of YtdfnfmanpdafpaaDoorRows.lean that lists a variable, with what it lists TIED to the program's text (the seventh form; the later family's looks); each row that meets fmt, with fmt's text TOLD by the authors' own Lean function (tested against real Go, not proved from fmt's source: count such statements apart). THE CARD IS WHAT COUNTS. Prove the row's statement (the work); the ties are given (YtdfnfmanpdafpaaDoorTie.lean); close each card by the builder's one call (the guide's Derived/Test/ToyasCard.lean, 'card_holds'). Laid BY PROGRAM, IN A SANDBOX (cutbox-door.mjs). By AI agents, Wed Nov 11 2026. No macro, syntax, notation, axiom, sorry.
-/
import Derived.Test.YtdfnfmanpdafpaaDoorRows
import GoSem.ClaimSeven
namespace Go.Proofs.YtdfnfmanpdafpaaDoor
namespace Rows

/-- THE TIED CARD OF 'pneumaticlaw10.DiskKeeps'. -/
def diskKeepsCard : Claim7 := { stood := { row := diskKeepsRow, standIns := [], harness := (true, "c7f8dff1bf6d71b0b069c8b3973759215a697bf7841090b0fc8194afb4f9ffef"), looks := false }, kinds := [], alts := [], laidByText := true, laidKinds := [.data, .pinned], laidTests := true, laidLooks := .later }
def DiskKeepsCardSaid : Prop := Claim7.holds Tryd.pinned (.plain (OpenSpec.ofChange diskKeepsSpec)) diskKeepsCard

/-- THE TIED CARD OF 'pneumaticlaw10.DiskErrors'. -/
def diskErrorsCard : Claim7 := { stood := { row := diskErrorsRow, standIns := [], harness := (true, "c7f8dff1bf6d71b0b069c8b3973759215a697bf7841090b0fc8194afb4f9ffef"), looks := false }, kinds := [], alts := [], laidByText := true, laidKinds := [.data, .pinned], laidTests := true, laidLooks := .later }
def DiskErrorsCardSaid : Prop := Claim7.holds Tryd.pinned (.plain (OpenSpec.ofChange diskErrorsSpec)) diskErrorsCard

/-- THE TIED CARD OF 'pneumaticlaw10.DiskKnown'. -/
def diskKnownCard : Claim7 := { stood := { row := diskKnownRow, standIns := [], harness := (true, "c7f8dff1bf6d71b0b069c8b3973759215a697bf7841090b0fc8194afb4f9ffef"), looks := false }, kinds := [], alts := [], laidByText := true, laidKinds := [.data, .pinned], laidTests := true, laidLooks := .later }
def DiskKnownCardSaid : Prop := Claim7.holds Tryd.pinned (.plain (OpenSpec.ofChange diskKnownSpec)) diskKnownCard

/-- THE SECOND FORM's CARD OF 'pneumaticlaw10.DiskKeeps'. -/
def diskKeepsUptoCard : Claim7 := { stood := { row := diskKeepsUptoRow, standIns := [], harness := (true, "c7f8dff1bf6d71b0b069c8b3973759215a697bf7841090b0fc8194afb4f9ffef"), looks := false }, kinds := [], alts := [], laidByText := true, laidKinds := [.data, .pinned], laidTests := true, laidLooks := .later }
def DiskKeepsUptoCardSaid : Prop := Claim7.holds Tryd.pinned (.plain (OpenSpec.upto diskKeepsSpec)) diskKeepsUptoCard

/-- THE SECOND FORM's CARD OF 'pneumaticlaw10.DiskErrors'. -/
def diskErrorsUptoCard : Claim7 := { stood := { row := diskErrorsUptoRow, standIns := [], harness := (true, "c7f8dff1bf6d71b0b069c8b3973759215a697bf7841090b0fc8194afb4f9ffef"), looks := false }, kinds := [], alts := [], laidByText := true, laidKinds := [.data, .pinned], laidTests := true, laidLooks := .later }
def DiskErrorsUptoCardSaid : Prop := Claim7.holds Tryd.pinned (.plain (OpenSpec.upto diskErrorsSpec)) diskErrorsUptoCard

/-- THE SECOND FORM's CARD OF 'pneumaticlaw10.DiskKnown'. -/
def diskKnownUptoCard : Claim7 := { stood := { row := diskKnownUptoRow, standIns := [], harness := (true, "c7f8dff1bf6d71b0b069c8b3973759215a697bf7841090b0fc8194afb4f9ffef"), looks := false }, kinds := [], alts := [], laidByText := true, laidKinds := [.data, .pinned], laidTests := true, laidLooks := .later }
def DiskKnownUptoCardSaid : Prop := Claim7.holds Tryd.pinned (.plain (OpenSpec.upto diskKnownSpec)) diskKnownUptoCard
end Rows
end Go.Proofs.YtdfnfmanpdafpaaDoor
