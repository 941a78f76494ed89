/-
  DERIVED. GIVEN WITH THE SEED: THE CARDS: each row of YtoiibjipjlkaeaaDoorRows.lean that lists a variable, with what it lists TIED to the program's text (the seventh form; the later family's looks); each row that meets fmt, with fmt's text TOLD by the authors' own Lean function (tested against real Go, not proved from fmt's source: count such statements apart). THE CARD IS WHAT COUNTS. Prove the row's statement (the work); the ties are given (YtoiibjipjlkaeaaDoorTie.lean); close each card by the builder's one call (the guide's Derived/Test/ToyasCard.lean, 'card_holds'). Laid BY PROGRAM, IN A SANDBOX (cutbox-door.mjs). By AI agents, Wed Nov 11 2026. No macro, syntax, notation, axiom, sorry.
-/
import Derived.Test.YtoiibjipjlkaeaaDoorRows
import GoSem.ClaimSeven
namespace Go.Proofs.YtoiibjipjlkaeaaDoor
namespace Rows

/-- THE TIED CARD OF 'yanklinelaw03.DiskPrefix'. -/
def diskPrefixCard : Claim7 := { stood := { row := diskPrefixRow, standIns := [], harness := (true, "40b28950b93bec0bb6ea0c0371007ee51b265fba2de649b07e750f956e6e17bd"), looks := true }, kinds := [], alts := [], laidByText := true, laidKinds := [.handle], laidTests := true, laidLooks := .later }
def DiskPrefixCardSaid : Prop := Claim7.holds Tryd.pinned (.plain (OpenSpec.ofChange diskPrefixSpec)) diskPrefixCard

/-- THE TIED CARD OF 'yanklinelaw07.VersionTotal'. -/
def versionTotalCard : Claim7 := { stood := { row := versionTotalRow, standIns := [], harness := (true, "40b28950b93bec0bb6ea0c0371007ee51b265fba2de649b07e750f956e6e17bd"), looks := true }, kinds := [], alts := [], laidByText := true, laidKinds := [.data, .data, .data, .data, .sentinel, .sentinel, .pinned], laidTests := true, laidLooks := .later }
def VersionTotalCardSaid : Prop := Claim7.holds Tryd.pinned (.plain (OpenSpec.ofChange versionTotalSpec)) versionTotalCard

/-- THE TIED CARD OF 'yanklinelaw07.VersionOrders'. -/
def versionOrdersCard : Claim7 := { stood := { row := versionOrdersRow, standIns := [], harness := (true, "40b28950b93bec0bb6ea0c0371007ee51b265fba2de649b07e750f956e6e17bd"), looks := true }, kinds := [], alts := [], laidByText := true, laidKinds := [.data, .data, .data, .data, .sentinel, .sentinel, .pinned], laidTests := true, laidLooks := .later }
def VersionOrdersCardSaid : Prop := Claim7.holds Tryd.pinned (.plain (OpenSpec.ofChange versionOrdersSpec)) versionOrdersCard

/-- THE TIED CARD OF 'yanklinelaw07.VersionNexts'. -/
def versionNextsCard : Claim7 := { stood := { row := versionNextsRow, standIns := [], harness := (true, "40b28950b93bec0bb6ea0c0371007ee51b265fba2de649b07e750f956e6e17bd"), looks := true }, kinds := [], alts := [], laidByText := true, laidKinds := [.data, .data, .data, .data, .sentinel, .sentinel, .pinned], laidTests := true, laidLooks := .later }
def VersionNextsCardSaid : Prop := Claim7.holds Tryd.pinned (.plain (OpenSpec.ofChange versionNextsSpec)) versionNextsCard

/-- THE TIED CARD OF 'yanklinelaw07.VersionTexts'. -/
def versionTextsCard : Claim7 := { stood := { row := versionTextsRow, standIns := [], harness := (true, "40b28950b93bec0bb6ea0c0371007ee51b265fba2de649b07e750f956e6e17bd"), looks := true }, kinds := [], alts := [], laidByText := true, laidKinds := [.data, .data, .data, .data, .sentinel, .sentinel, .pinned], laidTests := true, laidLooks := .later }
def VersionTextsCardSaid : Prop := Claim7.holds Tryd.pinned (.plain (OpenSpec.ofChange versionTextsSpec)) versionTextsCard

/-- THE TIED CARD OF 'yanklinelaw07.VersionBack'. -/
def versionBackCard : Claim7 := { stood := { row := versionBackRow, standIns := [], harness := (true, "40b28950b93bec0bb6ea0c0371007ee51b265fba2de649b07e750f956e6e17bd"), looks := true }, kinds := [], alts := [], laidByText := true, laidKinds := [.data, .data, .data, .data, .sentinel, .sentinel, .pinned], laidTests := true, laidLooks := .later }
def VersionBackCardSaid : Prop := Claim7.holds Tryd.pinned (.plain (OpenSpec.ofChange versionBackSpec)) versionBackCard

/-- THE TIED CARD OF 'yanklinelaw30.ScriptWrites'. -/
def scriptWritesCard : Claim7 := { stood := { row := scriptWritesRow, standIns := [], harness := (true, "40b28950b93bec0bb6ea0c0371007ee51b265fba2de649b07e750f956e6e17bd"), looks := true }, kinds := [], alts := [], laidByText := true, laidKinds := [.data, .data, .data, .data, .handle, .sentinel, .sentinel, .pinned], laidTests := true, laidLooks := .later }
def ScriptWritesCardSaid : Prop := Claim7.holds Tryd.pinned (.plain (OpenSpec.ofChange scriptWritesSpec)) scriptWritesCard

/-- THE SECOND FORM's CARD OF 'yanklinelaw03.DiskPrefix'. -/
def diskPrefixUptoCard : Claim7 := { stood := { row := diskPrefixUptoRow, standIns := [], harness := (true, "40b28950b93bec0bb6ea0c0371007ee51b265fba2de649b07e750f956e6e17bd"), looks := true }, kinds := [], alts := [], laidByText := true, laidKinds := [.handle], laidTests := true, laidLooks := .later }
def DiskPrefixUptoCardSaid : Prop := Claim7.holds Tryd.pinned (.plain (OpenSpec.upto diskPrefixSpec)) diskPrefixUptoCard

/-- THE SECOND FORM's CARD OF 'yanklinelaw07.VersionTotal'. -/
def versionTotalUptoCard : Claim7 := { stood := { row := versionTotalUptoRow, standIns := [], harness := (true, "40b28950b93bec0bb6ea0c0371007ee51b265fba2de649b07e750f956e6e17bd"), looks := true }, kinds := [], alts := [], laidByText := true, laidKinds := [.data, .data, .data, .data, .sentinel, .sentinel, .pinned], laidTests := true, laidLooks := .later }
def VersionTotalUptoCardSaid : Prop := Claim7.holds Tryd.pinned (.plain (OpenSpec.upto versionTotalSpec)) versionTotalUptoCard

/-- THE SECOND FORM's CARD OF 'yanklinelaw07.VersionOrders'. -/
def versionOrdersUptoCard : Claim7 := { stood := { row := versionOrdersUptoRow, standIns := [], harness := (true, "40b28950b93bec0bb6ea0c0371007ee51b265fba2de649b07e750f956e6e17bd"), looks := true }, kinds := [], alts := [], laidByText := true, laidKinds := [.data, .data, .data, .data, .sentinel, .sentinel, .pinned], laidTests := true, laidLooks := .later }
def VersionOrdersUptoCardSaid : Prop := Claim7.holds Tryd.pinned (.plain (OpenSpec.upto versionOrdersSpec)) versionOrdersUptoCard

/-- THE SECOND FORM's CARD OF 'yanklinelaw07.VersionNexts'. -/
def versionNextsUptoCard : Claim7 := { stood := { row := versionNextsUptoRow, standIns := [], harness := (true, "40b28950b93bec0bb6ea0c0371007ee51b265fba2de649b07e750f956e6e17bd"), looks := true }, kinds := [], alts := [], laidByText := true, laidKinds := [.data, .data, .data, .data, .sentinel, .sentinel, .pinned], laidTests := true, laidLooks := .later }
def VersionNextsUptoCardSaid : Prop := Claim7.holds Tryd.pinned (.plain (OpenSpec.upto versionNextsSpec)) versionNextsUptoCard

/-- THE SECOND FORM's CARD OF 'yanklinelaw07.VersionTexts'. -/
def versionTextsUptoCard : Claim7 := { stood := { row := versionTextsUptoRow, standIns := [], harness := (true, "40b28950b93bec0bb6ea0c0371007ee51b265fba2de649b07e750f956e6e17bd"), looks := true }, kinds := [], alts := [], laidByText := true, laidKinds := [.data, .data, .data, .data, .sentinel, .sentinel, .pinned], laidTests := true, laidLooks := .later }
def VersionTextsUptoCardSaid : Prop := Claim7.holds Tryd.pinned (.plain (OpenSpec.upto versionTextsSpec)) versionTextsUptoCard

/-- THE SECOND FORM's CARD OF 'yanklinelaw07.VersionBack'. -/
def versionBackUptoCard : Claim7 := { stood := { row := versionBackUptoRow, standIns := [], harness := (true, "40b28950b93bec0bb6ea0c0371007ee51b265fba2de649b07e750f956e6e17bd"), looks := true }, kinds := [], alts := [], laidByText := true, laidKinds := [.data, .data, .data, .data, .sentinel, .sentinel, .pinned], laidTests := true, laidLooks := .later }
def VersionBackUptoCardSaid : Prop := Claim7.holds Tryd.pinned (.plain (OpenSpec.upto versionBackSpec)) versionBackUptoCard

/-- THE SECOND FORM's CARD OF 'yanklinelaw30.ScriptWrites'. -/
def scriptWritesUptoCard : Claim7 := { stood := { row := scriptWritesUptoRow, standIns := [], harness := (true, "40b28950b93bec0bb6ea0c0371007ee51b265fba2de649b07e750f956e6e17bd"), looks := true }, kinds := [], alts := [], laidByText := true, laidKinds := [.data, .data, .data, .data, .handle, .sentinel, .sentinel, .pinned], laidTests := true, laidLooks := .later }
def ScriptWritesUptoCardSaid : Prop := Claim7.holds Tryd.pinned (.plain (OpenSpec.upto scriptWritesSpec)) scriptWritesUptoCard
end Rows
end Go.Proofs.YtoiibjipjlkaeaaDoor
