/-
  DERIVED. GIVEN WITH THE SEED: THE CARDS: each row of YtjbpnhmjnkolbaaDoorRows.lean that lists a variable, with what it lists TIED to the program's text (the seventh form; the later family's looks); each row that meets fmt, with fmt's text TOLD by the authors' own Lean function (tested against real Go, not proved from fmt's source: count such statements apart). THE CARD IS WHAT COUNTS. Prove the row's statement (the work); the ties are given (YtjbpnhmjnkolbaaDoorTie.lean); close each card by the builder's one call (the guide's Derived/Test/ToyasCard.lean, 'card_holds'). Laid BY PROGRAM, IN A SANDBOX (cutbox-door.mjs). By AI agents, Wed Nov 11 2026. No macro, syntax, notation, axiom, sorry.
-/
import Derived.Test.YtjbpnhmjnkolbaaDoorRows
import GoSem.ClaimSeven
namespace Go.Proofs.YtjbpnhmjnkolbaaDoor
namespace Rows

/-- THE TIED CARD OF 'pomacelaw04.VersionParts'. -/
def versionPartsCard : Claim7 := { stood := { row := versionPartsRow, standIns := [], harness := (true, "09acf9857fa34dd6245d716ea4aa863d44c805ba1dcdd0634fe67daff32e59b7"), looks := false }, kinds := [], alts := [], laidByText := true, laidKinds := [.data, .pinned], laidTests := true, laidLooks := .later }
def VersionPartsCardSaid : Prop := Claim7.holds Tryd.pinned (.plain (OpenSpec.ofChange versionPartsSpec)) versionPartsCard

/-- THE TIED CARD OF 'pomacelaw04.VersionCompares'. -/
def versionComparesCard : Claim7 := { stood := { row := versionComparesRow, standIns := [], harness := (true, "09acf9857fa34dd6245d716ea4aa863d44c805ba1dcdd0634fe67daff32e59b7"), looks := false }, kinds := [], alts := [], laidByText := true, laidKinds := [.data, .pinned], laidTests := true, laidLooks := .later }
def VersionComparesCardSaid : Prop := Claim7.holds Tryd.pinned (.plain (OpenSpec.ofChange versionComparesSpec)) versionComparesCard

/-- THE TIED CARD OF 'pomacelaw04.VersionTurns'. -/
def versionTurnsCard : Claim7 := { stood := { row := versionTurnsRow, standIns := [], harness := (true, "09acf9857fa34dd6245d716ea4aa863d44c805ba1dcdd0634fe67daff32e59b7"), looks := false }, kinds := [], alts := [], laidByText := true, laidKinds := [.data, .pinned], laidTests := true, laidLooks := .later }
def VersionTurnsCardSaid : Prop := Claim7.holds Tryd.pinned (.plain (OpenSpec.ofChange versionTurnsSpec)) versionTurnsCard

/-- THE TIED CARD OF 'pomacelaw04.VersionOrder'. -/
def versionOrderCard : Claim7 := { stood := { row := versionOrderRow, standIns := [], harness := (true, "09acf9857fa34dd6245d716ea4aa863d44c805ba1dcdd0634fe67daff32e59b7"), looks := false }, kinds := [], alts := [], laidByText := true, laidKinds := [.data, .pinned], laidTests := true, laidLooks := .later }
def VersionOrderCardSaid : Prop := Claim7.holds Tryd.pinned (.plain (OpenSpec.ofChange versionOrderSpec)) versionOrderCard

/-- THE TIED CARD OF 'pomacelaw04.VersionCanon'. -/
def versionCanonCard : Claim7 := { stood := { row := versionCanonRow, standIns := [], harness := (true, "09acf9857fa34dd6245d716ea4aa863d44c805ba1dcdd0634fe67daff32e59b7"), looks := false }, kinds := [], alts := [], laidByText := true, laidKinds := [.data, .pinned], laidTests := true, laidLooks := .later }
def VersionCanonCardSaid : Prop := Claim7.holds Tryd.pinned (.plain (OpenSpec.ofChange versionCanonSpec)) versionCanonCard

/-- THE TIED CARD OF 'pomacelaw04.VersionNulls'. -/
def versionNullsCard : Claim7 := { stood := { row := versionNullsRow, standIns := [], harness := (true, "09acf9857fa34dd6245d716ea4aa863d44c805ba1dcdd0634fe67daff32e59b7"), looks := false }, kinds := [], alts := [], laidByText := true, laidKinds := [.data, .pinned], laidTests := true, laidLooks := .later }
def VersionNullsCardSaid : Prop := Claim7.holds Tryd.pinned (.plain (OpenSpec.ofChange versionNullsSpec)) versionNullsCard

/-- THE TIED CARD OF 'pomacelaw04.VersionNumbers'. -/
def versionNumbersCard : Claim7 := { stood := { row := versionNumbersRow, standIns := [], harness := (true, "09acf9857fa34dd6245d716ea4aa863d44c805ba1dcdd0634fe67daff32e59b7"), looks := false }, kinds := [], alts := [], laidByText := true, laidKinds := [.data, .pinned], laidTests := true, laidLooks := .later }
def VersionNumbersCardSaid : Prop := Claim7.holds Tryd.pinned (.plain (OpenSpec.ofChange versionNumbersSpec)) versionNumbersCard

/-- THE TIED CARD OF 'pomacelaw04.VersionMays'. -/
def versionMaysCard : Claim7 := { stood := { row := versionMaysRow, standIns := [], harness := (true, "09acf9857fa34dd6245d716ea4aa863d44c805ba1dcdd0634fe67daff32e59b7"), looks := false }, kinds := [], alts := [], laidByText := true, laidKinds := [.data, .pinned], laidTests := true, laidLooks := .later }
def VersionMaysCardSaid : Prop := Claim7.holds Tryd.pinned (.plain (OpenSpec.ofChange versionMaysSpec)) versionMaysCard

/-- THE TIED CARD OF 'pomacelaw04.VersionSorts'. -/
def versionSortsCard : Claim7 := { stood := { row := versionSortsRow, standIns := [], harness := (true, "09acf9857fa34dd6245d716ea4aa863d44c805ba1dcdd0634fe67daff32e59b7"), looks := false }, kinds := [], alts := [], laidByText := true, laidKinds := [.data, .pinned], laidTests := true, laidLooks := .later }
def VersionSortsCardSaid : Prop := Claim7.holds Tryd.pinned (.plain (OpenSpec.ofChange versionSortsSpec)) versionSortsCard

/-- THE SECOND FORM's CARD OF 'pomacelaw04.VersionParts'. -/
def versionPartsUptoCard : Claim7 := { stood := { row := versionPartsUptoRow, standIns := [], harness := (true, "09acf9857fa34dd6245d716ea4aa863d44c805ba1dcdd0634fe67daff32e59b7"), looks := false }, kinds := [], alts := [], laidByText := true, laidKinds := [.data, .pinned], laidTests := true, laidLooks := .later }
def VersionPartsUptoCardSaid : Prop := Claim7.holds Tryd.pinned (.plain (OpenSpec.upto versionPartsSpec)) versionPartsUptoCard

/-- THE SECOND FORM's CARD OF 'pomacelaw04.VersionCompares'. -/
def versionComparesUptoCard : Claim7 := { stood := { row := versionComparesUptoRow, standIns := [], harness := (true, "09acf9857fa34dd6245d716ea4aa863d44c805ba1dcdd0634fe67daff32e59b7"), looks := false }, kinds := [], alts := [], laidByText := true, laidKinds := [.data, .pinned], laidTests := true, laidLooks := .later }
def VersionComparesUptoCardSaid : Prop := Claim7.holds Tryd.pinned (.plain (OpenSpec.upto versionComparesSpec)) versionComparesUptoCard

/-- THE SECOND FORM's CARD OF 'pomacelaw04.VersionTurns'. -/
def versionTurnsUptoCard : Claim7 := { stood := { row := versionTurnsUptoRow, standIns := [], harness := (true, "09acf9857fa34dd6245d716ea4aa863d44c805ba1dcdd0634fe67daff32e59b7"), looks := false }, kinds := [], alts := [], laidByText := true, laidKinds := [.data, .pinned], laidTests := true, laidLooks := .later }
def VersionTurnsUptoCardSaid : Prop := Claim7.holds Tryd.pinned (.plain (OpenSpec.upto versionTurnsSpec)) versionTurnsUptoCard

/-- THE SECOND FORM's CARD OF 'pomacelaw04.VersionOrder'. -/
def versionOrderUptoCard : Claim7 := { stood := { row := versionOrderUptoRow, standIns := [], harness := (true, "09acf9857fa34dd6245d716ea4aa863d44c805ba1dcdd0634fe67daff32e59b7"), looks := false }, kinds := [], alts := [], laidByText := true, laidKinds := [.data, .pinned], laidTests := true, laidLooks := .later }
def VersionOrderUptoCardSaid : Prop := Claim7.holds Tryd.pinned (.plain (OpenSpec.upto versionOrderSpec)) versionOrderUptoCard

/-- THE SECOND FORM's CARD OF 'pomacelaw04.VersionCanon'. -/
def versionCanonUptoCard : Claim7 := { stood := { row := versionCanonUptoRow, standIns := [], harness := (true, "09acf9857fa34dd6245d716ea4aa863d44c805ba1dcdd0634fe67daff32e59b7"), looks := false }, kinds := [], alts := [], laidByText := true, laidKinds := [.data, .pinned], laidTests := true, laidLooks := .later }
def VersionCanonUptoCardSaid : Prop := Claim7.holds Tryd.pinned (.plain (OpenSpec.upto versionCanonSpec)) versionCanonUptoCard

/-- THE SECOND FORM's CARD OF 'pomacelaw04.VersionNulls'. -/
def versionNullsUptoCard : Claim7 := { stood := { row := versionNullsUptoRow, standIns := [], harness := (true, "09acf9857fa34dd6245d716ea4aa863d44c805ba1dcdd0634fe67daff32e59b7"), looks := false }, kinds := [], alts := [], laidByText := true, laidKinds := [.data, .pinned], laidTests := true, laidLooks := .later }
def VersionNullsUptoCardSaid : Prop := Claim7.holds Tryd.pinned (.plain (OpenSpec.upto versionNullsSpec)) versionNullsUptoCard

/-- THE SECOND FORM's CARD OF 'pomacelaw04.VersionNumbers'. -/
def versionNumbersUptoCard : Claim7 := { stood := { row := versionNumbersUptoRow, standIns := [], harness := (true, "09acf9857fa34dd6245d716ea4aa863d44c805ba1dcdd0634fe67daff32e59b7"), looks := false }, kinds := [], alts := [], laidByText := true, laidKinds := [.data, .pinned], laidTests := true, laidLooks := .later }
def VersionNumbersUptoCardSaid : Prop := Claim7.holds Tryd.pinned (.plain (OpenSpec.upto versionNumbersSpec)) versionNumbersUptoCard

/-- THE SECOND FORM's CARD OF 'pomacelaw04.VersionMays'. -/
def versionMaysUptoCard : Claim7 := { stood := { row := versionMaysUptoRow, standIns := [], harness := (true, "09acf9857fa34dd6245d716ea4aa863d44c805ba1dcdd0634fe67daff32e59b7"), looks := false }, kinds := [], alts := [], laidByText := true, laidKinds := [.data, .pinned], laidTests := true, laidLooks := .later }
def VersionMaysUptoCardSaid : Prop := Claim7.holds Tryd.pinned (.plain (OpenSpec.upto versionMaysSpec)) versionMaysUptoCard

/-- THE SECOND FORM's CARD OF 'pomacelaw04.VersionSorts'. -/
def versionSortsUptoCard : Claim7 := { stood := { row := versionSortsUptoRow, standIns := [], harness := (true, "09acf9857fa34dd6245d716ea4aa863d44c805ba1dcdd0634fe67daff32e59b7"), looks := false }, kinds := [], alts := [], laidByText := true, laidKinds := [.data, .pinned], laidTests := true, laidLooks := .later }
def VersionSortsUptoCardSaid : Prop := Claim7.holds Tryd.pinned (.plain (OpenSpec.upto versionSortsSpec)) versionSortsUptoCard
end Rows
end Go.Proofs.YtjbpnhmjnkolbaaDoor
