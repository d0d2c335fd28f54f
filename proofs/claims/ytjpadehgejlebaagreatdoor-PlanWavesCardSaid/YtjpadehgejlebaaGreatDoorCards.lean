/-
  DERIVED. GIVEN WITH THE SEED: THE CARDS: each row of YtjpadehgejlebaaGreatDoorRows.lean that lists a variable, with what it lists TIED to the program's text (the seventh form; the later family's looks); each row that meets fmt, with fmt's text TOLD by the authors' own Lean function (tested against real Go, not proved from fmt's source: count such statements apart). THE CARD IS WHAT COUNTS. Prove the row's statement (the work); the ties are given (YtjpadehgejlebaaGreatDoorTie.lean); close each card by the builder's one call (the guide's Derived/Test/ToyasCard.lean, 'card_holds'). Laid BY PROGRAM, IN A SANDBOX (cutbox-door.mjs). By AI agents, Wed Nov 11 2026. No macro, syntax, notation, axiom, sorry.
-/
import Derived.Test.YtjpadehgejlebaaGreatDoorRows
import GoSem.ClaimSeven
namespace Go.Proofs.YtjpadehgejlebaaGreatDoor
namespace Rows

/-- THE TIED CARD OF 'pomacelaw30.PlanGraphs'. -/
def planGraphsCard : Claim7 := { stood := { row := planGraphsRow, standIns := [], harness := (true, "ab52d475cff81ddae1b7a47742ba122ecfb9619a092dd623bed4b01bff5d3204"), looks := true }, kinds := [], alts := [], laidByText := true, laidKinds := [.data, .pinned], laidTests := true, laidLooks := .later }
def PlanGraphsCardSaid : Prop := Claim7.holds Tryz.pinned (.plain (OpenSpec.ofChange planGraphsSpec)) planGraphsCard

/-- THE TIED CARD OF 'pomacelaw30.PlanTouches'. -/
def planTouchesCard : Claim7 := { stood := { row := planTouchesRow, standIns := [], harness := (true, "ab52d475cff81ddae1b7a47742ba122ecfb9619a092dd623bed4b01bff5d3204"), looks := true }, kinds := [], alts := [], laidByText := true, laidKinds := [.data, .pinned], laidTests := true, laidLooks := .later }
def PlanTouchesCardSaid : Prop := Claim7.holds Tryz.pinned (.plain (OpenSpec.ofChange planTouchesSpec)) planTouchesCard

/-- THE TIED CARD OF 'pomacelaw30.PlanWaves'. -/
def planWavesCard : Claim7 := { stood := { row := planWavesRow, standIns := [], harness := (true, "ab52d475cff81ddae1b7a47742ba122ecfb9619a092dd623bed4b01bff5d3204"), looks := true }, kinds := [], alts := [], laidByText := true, laidKinds := [.data, .pinned], laidTests := true, laidLooks := .later }
def PlanWavesCardSaid : Prop := Claim7.holds Tryz.pinned (.plain (OpenSpec.ofChange planWavesSpec)) planWavesCard

/-- THE SECOND FORM's CARD OF 'pomacelaw30.PlanGraphs'. -/
def planGraphsUptoCard : Claim7 := { stood := { row := planGraphsUptoRow, standIns := [], harness := (true, "ab52d475cff81ddae1b7a47742ba122ecfb9619a092dd623bed4b01bff5d3204"), looks := true }, kinds := [], alts := [], laidByText := true, laidKinds := [.data, .pinned], laidTests := true, laidLooks := .later }
def PlanGraphsUptoCardSaid : Prop := Claim7.holds Tryz.pinned (.plain (OpenSpec.upto planGraphsSpec)) planGraphsUptoCard

/-- THE SECOND FORM's CARD OF 'pomacelaw30.PlanTouches'. -/
def planTouchesUptoCard : Claim7 := { stood := { row := planTouchesUptoRow, standIns := [], harness := (true, "ab52d475cff81ddae1b7a47742ba122ecfb9619a092dd623bed4b01bff5d3204"), looks := true }, kinds := [], alts := [], laidByText := true, laidKinds := [.data, .pinned], laidTests := true, laidLooks := .later }
def PlanTouchesUptoCardSaid : Prop := Claim7.holds Tryz.pinned (.plain (OpenSpec.upto planTouchesSpec)) planTouchesUptoCard

/-- THE SECOND FORM's CARD OF 'pomacelaw30.PlanWaves'. -/
def planWavesUptoCard : Claim7 := { stood := { row := planWavesUptoRow, standIns := [], harness := (true, "ab52d475cff81ddae1b7a47742ba122ecfb9619a092dd623bed4b01bff5d3204"), looks := true }, kinds := [], alts := [], laidByText := true, laidKinds := [.data, .pinned], laidTests := true, laidLooks := .later }
def PlanWavesUptoCardSaid : Prop := Claim7.holds Tryz.pinned (.plain (OpenSpec.upto planWavesSpec)) planWavesUptoCard
end Rows
end Go.Proofs.YtjpadehgejlebaaGreatDoor
