/-
  DERIVED. GIVEN WITH THE SEED: THE CARDS: each row of YtbpnmkmlicbfoaaDoorRows.lean that lists a variable, with what it lists TIED to the program's text (the seventh form; the later family's looks); each row that meets fmt, with fmt's text TOLD by the authors' own Lean function (tested against real Go, not proved from fmt's source: count such statements apart). THE CARD IS WHAT COUNTS. Prove the row's statement (the work); the ties are given (YtbpnmkmlicbfoaaDoorTie.lean); close each card by the builder's one call (the guide's Derived/Test/ToyasCard.lean, 'card_holds'). Laid BY PROGRAM, IN A SANDBOX (cutbox-door.mjs). By AI agents, Wed Nov 11 2026. No macro, syntax, notation, axiom, sorry.
-/
import Derived.Test.YtbpnmkmlicbfoaaDoorRows
import GoSem.ClaimSeven
namespace Go.Proofs.YtbpnmkmlicbfoaaDoor
namespace Rows

/-- THE TIED CARD OF 'pomacelaw05.BoundsParses'. -/
def boundsParsesCard : Claim7 := { stood := { row := boundsParsesRow, standIns := [], harness := (true, "8cdc91aea900bd5fddcb6d3a06caf1c31615b93214b67db0aff81ac5daef0001"), looks := true }, kinds := [], alts := [], laidByText := true, laidKinds := [.data, .pinned], laidTests := true, laidLooks := .later }
def BoundsParsesCardSaid : Prop := Claim7.holds Tryd.pinned (.plain (OpenSpec.ofChange boundsParsesSpec)) boundsParsesCard

/-- THE TIED CARD OF 'pomacelaw05.BoundsHas'. -/
def boundsHasCard : Claim7 := { stood := { row := boundsHasRow, standIns := [], harness := (true, "8cdc91aea900bd5fddcb6d3a06caf1c31615b93214b67db0aff81ac5daef0001"), looks := true }, kinds := [], alts := [], laidByText := true, laidKinds := [.data, .pinned], laidTests := true, laidLooks := .later }
def BoundsHasCardSaid : Prop := Claim7.holds Tryd.pinned (.plain (OpenSpec.ofChange boundsHasSpec)) boundsHasCard

/-- THE TIED CARD OF 'pomacelaw05.BoundsSame'. -/
def boundsSameCard : Claim7 := { stood := { row := boundsSameRow, standIns := [], harness := (true, "8cdc91aea900bd5fddcb6d3a06caf1c31615b93214b67db0aff81ac5daef0001"), looks := true }, kinds := [], alts := [], laidByText := true, laidKinds := [.data, .pinned], laidTests := true, laidLooks := .later }
def BoundsSameCardSaid : Prop := Claim7.holds Tryd.pinned (.plain (OpenSpec.ofChange boundsSameSpec)) boundsSameCard

/-- THE TIED CARD OF 'pomacelaw05.BoundsPicks'. -/
def boundsPicksCard : Claim7 := { stood := { row := boundsPicksRow, standIns := [], harness := (true, "8cdc91aea900bd5fddcb6d3a06caf1c31615b93214b67db0aff81ac5daef0001"), looks := true }, kinds := [], alts := [], laidByText := true, laidKinds := [.data, .pinned], laidTests := true, laidLooks := .later }
def BoundsPicksCardSaid : Prop := Claim7.holds Tryd.pinned (.plain (OpenSpec.ofChange boundsPicksSpec)) boundsPicksCard

/-- THE TIED CARD OF 'pomacelaw05.BoundsBoth'. -/
def boundsBothCard : Claim7 := { stood := { row := boundsBothRow, standIns := [], harness := (true, "8cdc91aea900bd5fddcb6d3a06caf1c31615b93214b67db0aff81ac5daef0001"), looks := true }, kinds := [], alts := [], laidByText := true, laidKinds := [.data, .pinned], laidTests := true, laidLooks := .later }
def BoundsBothCardSaid : Prop := Claim7.holds Tryd.pinned (.plain (OpenSpec.ofChange boundsBothSpec)) boundsBothCard

/-- THE TIED CARD OF 'pomacelaw05.BoundsBack'. -/
def boundsBackCard : Claim7 := { stood := { row := boundsBackRow, standIns := [], harness := (true, "8cdc91aea900bd5fddcb6d3a06caf1c31615b93214b67db0aff81ac5daef0001"), looks := true }, kinds := [], alts := [], laidByText := true, laidKinds := [.data, .pinned], laidTests := true, laidLooks := .later }
def BoundsBackCardSaid : Prop := Claim7.holds Tryd.pinned (.plain (OpenSpec.ofChange boundsBackSpec)) boundsBackCard

/-- THE SECOND FORM's CARD OF 'pomacelaw05.BoundsParses'. -/
def boundsParsesUptoCard : Claim7 := { stood := { row := boundsParsesUptoRow, standIns := [], harness := (true, "8cdc91aea900bd5fddcb6d3a06caf1c31615b93214b67db0aff81ac5daef0001"), looks := true }, kinds := [], alts := [], laidByText := true, laidKinds := [.data, .pinned], laidTests := true, laidLooks := .later }
def BoundsParsesUptoCardSaid : Prop := Claim7.holds Tryd.pinned (.plain (OpenSpec.upto boundsParsesSpec)) boundsParsesUptoCard

/-- THE SECOND FORM's CARD OF 'pomacelaw05.BoundsHas'. -/
def boundsHasUptoCard : Claim7 := { stood := { row := boundsHasUptoRow, standIns := [], harness := (true, "8cdc91aea900bd5fddcb6d3a06caf1c31615b93214b67db0aff81ac5daef0001"), looks := true }, kinds := [], alts := [], laidByText := true, laidKinds := [.data, .pinned], laidTests := true, laidLooks := .later }
def BoundsHasUptoCardSaid : Prop := Claim7.holds Tryd.pinned (.plain (OpenSpec.upto boundsHasSpec)) boundsHasUptoCard

/-- THE SECOND FORM's CARD OF 'pomacelaw05.BoundsSame'. -/
def boundsSameUptoCard : Claim7 := { stood := { row := boundsSameUptoRow, standIns := [], harness := (true, "8cdc91aea900bd5fddcb6d3a06caf1c31615b93214b67db0aff81ac5daef0001"), looks := true }, kinds := [], alts := [], laidByText := true, laidKinds := [.data, .pinned], laidTests := true, laidLooks := .later }
def BoundsSameUptoCardSaid : Prop := Claim7.holds Tryd.pinned (.plain (OpenSpec.upto boundsSameSpec)) boundsSameUptoCard

/-- THE SECOND FORM's CARD OF 'pomacelaw05.BoundsPicks'. -/
def boundsPicksUptoCard : Claim7 := { stood := { row := boundsPicksUptoRow, standIns := [], harness := (true, "8cdc91aea900bd5fddcb6d3a06caf1c31615b93214b67db0aff81ac5daef0001"), looks := true }, kinds := [], alts := [], laidByText := true, laidKinds := [.data, .pinned], laidTests := true, laidLooks := .later }
def BoundsPicksUptoCardSaid : Prop := Claim7.holds Tryd.pinned (.plain (OpenSpec.upto boundsPicksSpec)) boundsPicksUptoCard

/-- THE SECOND FORM's CARD OF 'pomacelaw05.BoundsBoth'. -/
def boundsBothUptoCard : Claim7 := { stood := { row := boundsBothUptoRow, standIns := [], harness := (true, "8cdc91aea900bd5fddcb6d3a06caf1c31615b93214b67db0aff81ac5daef0001"), looks := true }, kinds := [], alts := [], laidByText := true, laidKinds := [.data, .pinned], laidTests := true, laidLooks := .later }
def BoundsBothUptoCardSaid : Prop := Claim7.holds Tryd.pinned (.plain (OpenSpec.upto boundsBothSpec)) boundsBothUptoCard

/-- THE SECOND FORM's CARD OF 'pomacelaw05.BoundsBack'. -/
def boundsBackUptoCard : Claim7 := { stood := { row := boundsBackUptoRow, standIns := [], harness := (true, "8cdc91aea900bd5fddcb6d3a06caf1c31615b93214b67db0aff81ac5daef0001"), looks := true }, kinds := [], alts := [], laidByText := true, laidKinds := [.data, .pinned], laidTests := true, laidLooks := .later }
def BoundsBackUptoCardSaid : Prop := Claim7.holds Tryd.pinned (.plain (OpenSpec.upto boundsBackSpec)) boundsBackUptoCard
end Rows
end Go.Proofs.YtbpnmkmlicbfoaaDoor
