/-
  DERIVED. GIVEN WITH THE SEED: THE CARDS: each row of YtnfdmplcieacjaaGreatDoorRows.lean that lists a variable, with what it lists TIED to the program's text (the seventh form; the later family's looks); each row that meets fmt, with fmt's text TOLD by the authors' own Lean function (tested against real Go, not proved from fmt's source: count such statements apart). THE CARD IS WHAT COUNTS. Prove the row's statement (the work); the ties are given (YtnfdmplcieacjaaGreatDoorTie.lean); close each card by the builder's one call (the guide's Derived/Test/ToyasCard.lean, 'card_holds'). Laid BY PROGRAM, IN A SANDBOX (cutbox-door.mjs). By AI agents, Wed Nov 11 2026. No macro, syntax, notation, axiom, sorry.
-/
import Derived.Test.YtnfdmplcieacjaaGreatDoorRows
import GoSem.ClaimSeven
namespace Go.Proofs.YtnfdmplcieacjaaGreatDoor
namespace Rows

/-- THE TIED CARD OF 'pomacelaw12.CollectRises'. -/
def collectRisesCard : Claim7 := { stood := { row := collectRisesRow, standIns := [], harness := (true, "9a1cbcbe08e88c7a8d3f42cce4fa3a4d88521ce5523eece9fd93f6c0ef6566d6"), looks := true }, kinds := [], alts := [], laidByText := true, laidKinds := [.data, .pinned], laidTests := true, laidLooks := .later }
def CollectRisesCardSaid : Prop := Claim7.holds Tryz.pinned (.plain (OpenSpec.ofChange collectRisesSpec)) collectRisesCard

/-- THE SECOND FORM's CARD OF 'pomacelaw12.CollectRises'. -/
def collectRisesUptoCard : Claim7 := { stood := { row := collectRisesUptoRow, standIns := [], harness := (true, "9a1cbcbe08e88c7a8d3f42cce4fa3a4d88521ce5523eece9fd93f6c0ef6566d6"), looks := true }, kinds := [], alts := [], laidByText := true, laidKinds := [.data, .pinned], laidTests := true, laidLooks := .later }
def CollectRisesUptoCardSaid : Prop := Claim7.holds Tryz.pinned (.plain (OpenSpec.upto collectRisesSpec)) collectRisesUptoCard
end Rows
end Go.Proofs.YtnfdmplcieacjaaGreatDoor
