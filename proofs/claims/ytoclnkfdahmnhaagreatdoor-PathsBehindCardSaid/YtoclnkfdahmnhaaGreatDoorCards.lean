/-
  DERIVED. GIVEN WITH THE SEED: THE CARDS: each row of YtoclnkfdahmnhaaGreatDoorRows.lean that lists a variable, with what it lists TIED to the program's text (the seventh form; the later family's looks); each row that meets fmt, with fmt's text TOLD by the authors' own Lean function (tested against real Go, not proved from fmt's source: count such statements apart). THE CARD IS WHAT COUNTS. Prove the row's statement (the work); the ties are given (YtoclnkfdahmnhaaGreatDoorTie.lean); close each card by the builder's one call (the guide's Derived/Test/ToyasCard.lean, 'card_holds'). Laid BY PROGRAM, IN A SANDBOX (cutbox-door.mjs). By AI agents, Wed Nov 11 2026. No macro, syntax, notation, axiom, sorry.
-/
import Derived.Test.YtoclnkfdahmnhaaGreatDoorRows
import GoSem.ClaimSeven
namespace Go.Proofs.YtoclnkfdahmnhaaGreatDoor
namespace Rows

/-- THE TIED CARD OF 'pomacelaw13.MediateDead'. -/
def mediateDeadCard : Claim7 := { stood := { row := mediateDeadRow, standIns := [], harness := (true, "87ec56aad57e50ea6c12723056e6b8818ace8ed1d866494a794d11f4691941f2"), looks := true }, kinds := [], alts := [], laidByText := true, laidKinds := [.data, .pinned], laidTests := true, laidLooks := .later }
def MediateDeadCardSaid : Prop := Claim7.holds Tryz.pinned (.plain (OpenSpec.ofChange mediateDeadSpec)) mediateDeadCard

/-- THE TIED CARD OF 'pomacelaw13.MediateWider'. -/
def mediateWiderCard : Claim7 := { stood := { row := mediateWiderRow, standIns := [], harness := (true, "87ec56aad57e50ea6c12723056e6b8818ace8ed1d866494a794d11f4691941f2"), looks := true }, kinds := [], alts := [], laidByText := true, laidKinds := [.data, .pinned], laidTests := true, laidLooks := .later }
def MediateWiderCardSaid : Prop := Claim7.holds Tryz.pinned (.plain (OpenSpec.ofChange mediateWiderSpec)) mediateWiderCard

/-- THE TIED CARD OF 'pomacelaw13.MediateChooses'. -/
def mediateChoosesCard : Claim7 := { stood := { row := mediateChoosesRow, standIns := [], harness := (true, "87ec56aad57e50ea6c12723056e6b8818ace8ed1d866494a794d11f4691941f2"), looks := true }, kinds := [], alts := [], laidByText := true, laidKinds := [.data, .pinned], laidTests := true, laidLooks := .later }
def MediateChoosesCardSaid : Prop := Claim7.holds Tryz.pinned (.plain (OpenSpec.ofChange mediateChoosesSpec)) mediateChoosesCard

/-- THE TIED CARD OF 'pomacelaw13.MediateAsks'. -/
def mediateAsksCard : Claim7 := { stood := { row := mediateAsksRow, standIns := [], harness := (true, "87ec56aad57e50ea6c12723056e6b8818ace8ed1d866494a794d11f4691941f2"), looks := true }, kinds := [], alts := [], laidByText := true, laidKinds := [.data, .pinned], laidTests := true, laidLooks := .later }
def MediateAsksCardSaid : Prop := Claim7.holds Tryz.pinned (.plain (OpenSpec.ofChange mediateAsksSpec)) mediateAsksCard

/-- THE TIED CARD OF 'pomacelaw14.PathsFiles'. -/
def pathsFilesCard : Claim7 := { stood := { row := pathsFilesRow, standIns := [], harness := (true, "87ec56aad57e50ea6c12723056e6b8818ace8ed1d866494a794d11f4691941f2"), looks := true }, kinds := [], alts := [], laidByText := true, laidKinds := [.data, .pinned], laidTests := true, laidLooks := .later }
def PathsFilesCardSaid : Prop := Claim7.holds Tryz.pinned (.plain (OpenSpec.ofChange pathsFilesSpec)) pathsFilesCard

/-- THE TIED CARD OF 'pomacelaw14.PathsBehind'. -/
def pathsBehindCard : Claim7 := { stood := { row := pathsBehindRow, standIns := [], harness := (true, "87ec56aad57e50ea6c12723056e6b8818ace8ed1d866494a794d11f4691941f2"), looks := true }, kinds := [], alts := [], laidByText := true, laidKinds := [.data, .pinned], laidTests := true, laidLooks := .later }
def PathsBehindCardSaid : Prop := Claim7.holds Tryz.pinned (.plain (OpenSpec.ofChange pathsBehindSpec)) pathsBehindCard

/-- THE SECOND FORM's CARD OF 'pomacelaw13.MediateDead'. -/
def mediateDeadUptoCard : Claim7 := { stood := { row := mediateDeadUptoRow, standIns := [], harness := (true, "87ec56aad57e50ea6c12723056e6b8818ace8ed1d866494a794d11f4691941f2"), looks := true }, kinds := [], alts := [], laidByText := true, laidKinds := [.data, .pinned], laidTests := true, laidLooks := .later }
def MediateDeadUptoCardSaid : Prop := Claim7.holds Tryz.pinned (.plain (OpenSpec.upto mediateDeadSpec)) mediateDeadUptoCard

/-- THE SECOND FORM's CARD OF 'pomacelaw13.MediateWider'. -/
def mediateWiderUptoCard : Claim7 := { stood := { row := mediateWiderUptoRow, standIns := [], harness := (true, "87ec56aad57e50ea6c12723056e6b8818ace8ed1d866494a794d11f4691941f2"), looks := true }, kinds := [], alts := [], laidByText := true, laidKinds := [.data, .pinned], laidTests := true, laidLooks := .later }
def MediateWiderUptoCardSaid : Prop := Claim7.holds Tryz.pinned (.plain (OpenSpec.upto mediateWiderSpec)) mediateWiderUptoCard

/-- THE SECOND FORM's CARD OF 'pomacelaw13.MediateChooses'. -/
def mediateChoosesUptoCard : Claim7 := { stood := { row := mediateChoosesUptoRow, standIns := [], harness := (true, "87ec56aad57e50ea6c12723056e6b8818ace8ed1d866494a794d11f4691941f2"), looks := true }, kinds := [], alts := [], laidByText := true, laidKinds := [.data, .pinned], laidTests := true, laidLooks := .later }
def MediateChoosesUptoCardSaid : Prop := Claim7.holds Tryz.pinned (.plain (OpenSpec.upto mediateChoosesSpec)) mediateChoosesUptoCard

/-- THE SECOND FORM's CARD OF 'pomacelaw13.MediateAsks'. -/
def mediateAsksUptoCard : Claim7 := { stood := { row := mediateAsksUptoRow, standIns := [], harness := (true, "87ec56aad57e50ea6c12723056e6b8818ace8ed1d866494a794d11f4691941f2"), looks := true }, kinds := [], alts := [], laidByText := true, laidKinds := [.data, .pinned], laidTests := true, laidLooks := .later }
def MediateAsksUptoCardSaid : Prop := Claim7.holds Tryz.pinned (.plain (OpenSpec.upto mediateAsksSpec)) mediateAsksUptoCard

/-- THE SECOND FORM's CARD OF 'pomacelaw14.PathsFiles'. -/
def pathsFilesUptoCard : Claim7 := { stood := { row := pathsFilesUptoRow, standIns := [], harness := (true, "87ec56aad57e50ea6c12723056e6b8818ace8ed1d866494a794d11f4691941f2"), looks := true }, kinds := [], alts := [], laidByText := true, laidKinds := [.data, .pinned], laidTests := true, laidLooks := .later }
def PathsFilesUptoCardSaid : Prop := Claim7.holds Tryz.pinned (.plain (OpenSpec.upto pathsFilesSpec)) pathsFilesUptoCard

/-- THE SECOND FORM's CARD OF 'pomacelaw14.PathsBehind'. -/
def pathsBehindUptoCard : Claim7 := { stood := { row := pathsBehindUptoRow, standIns := [], harness := (true, "87ec56aad57e50ea6c12723056e6b8818ace8ed1d866494a794d11f4691941f2"), looks := true }, kinds := [], alts := [], laidByText := true, laidKinds := [.data, .pinned], laidTests := true, laidLooks := .later }
def PathsBehindUptoCardSaid : Prop := Claim7.holds Tryz.pinned (.plain (OpenSpec.upto pathsBehindSpec)) pathsBehindUptoCard
end Rows
end Go.Proofs.YtoclnkfdahmnhaaGreatDoor
