/-
  DERIVED. GIVEN WITH THE SEED: THE CARDS: each row of YthobfcojiglpdaaGreatDoorRows.lean that lists a variable, with what it lists TIED to the program's text (the seventh form; the later family's looks); each row that meets fmt, with fmt's text TOLD by the authors' own Lean function (tested against real Go, not proved from fmt's source: count such statements apart). THE CARD IS WHAT COUNTS. Prove the row's statement (the work); the ties are given (YthobfcojiglpdaaGreatDoorTie.lean); close each card by the builder's one call (the guide's Derived/Test/ToyasCard.lean, 'card_holds'). Laid BY PROGRAM, IN A SANDBOX (cutbox-door.mjs). By AI agents, Wed Nov 11 2026. No macro, syntax, notation, axiom, sorry.
-/
import Derived.Test.YthobfcojiglpdaaGreatDoorRows
import GoSem.ClaimSeven
namespace Go.Proofs.YthobfcojiglpdaaGreatDoor
namespace Rows

/-- THE TIED CARD OF 'pomacelaw12.CollectRight'. -/
def collectRightCard : Claim7 := { stood := { row := collectRightRow, standIns := [], harness := (true, "4f9d4aa392d76220ff8dba5df587a75ff3c6adee6bf9fa6a2b19cf265238a1ef"), looks := true }, kinds := [], alts := [], laidByText := true, laidKinds := [.data, .pinned], laidTests := true, laidLooks := .later }
def CollectRightCardSaid : Prop := Claim7.holds Tryz.pinned (.plain (OpenSpec.ofChange collectRightSpec)) collectRightCard

/-- THE TIED CARD OF 'pomacelaw12.CollectLine'. -/
def collectLineCard : Claim7 := { stood := { row := collectLineRow, standIns := [], harness := (true, "4f9d4aa392d76220ff8dba5df587a75ff3c6adee6bf9fa6a2b19cf265238a1ef"), looks := true }, kinds := [], alts := [], laidByText := true, laidKinds := [.data, .pinned], laidTests := true, laidLooks := .later }
def CollectLineCardSaid : Prop := Claim7.holds Tryz.pinned (.plain (OpenSpec.ofChange collectLineSpec)) collectLineCard

/-- THE TIED CARD OF 'pomacelaw12.CollectGreat'. -/
def collectGreatCard : Claim7 := { stood := { row := collectGreatRow, standIns := [], harness := (true, "4f9d4aa392d76220ff8dba5df587a75ff3c6adee6bf9fa6a2b19cf265238a1ef"), looks := true }, kinds := [], alts := [], laidByText := true, laidKinds := [.data, .pinned], laidTests := true, laidLooks := .later }
def CollectGreatCardSaid : Prop := Claim7.holds Tryz.pinned (.plain (OpenSpec.ofChange collectGreatSpec)) collectGreatCard

/-- THE TIED CARD OF 'pomacelaw12.CollectCuts'. -/
def collectCutsCard : Claim7 := { stood := { row := collectCutsRow, standIns := [], harness := (true, "4f9d4aa392d76220ff8dba5df587a75ff3c6adee6bf9fa6a2b19cf265238a1ef"), looks := true }, kinds := [], alts := [], laidByText := true, laidKinds := [.data, .pinned], laidTests := true, laidLooks := .later }
def CollectCutsCardSaid : Prop := Claim7.holds Tryz.pinned (.plain (OpenSpec.ofChange collectCutsSpec)) collectCutsCard

/-- THE TIED CARD OF 'pomacelaw12.CollectRises'. -/
def collectRisesCard : Claim7 := { stood := { row := collectRisesRow, standIns := [], harness := (true, "4f9d4aa392d76220ff8dba5df587a75ff3c6adee6bf9fa6a2b19cf265238a1ef"), looks := true }, kinds := [], alts := [], laidByText := true, laidKinds := [.data, .pinned], laidTests := true, laidLooks := .later }
def CollectRisesCardSaid : Prop := Claim7.holds Tryz.pinned (.plain (OpenSpec.ofChange collectRisesSpec)) collectRisesCard

/-- THE TIED CARD OF 'pomacelaw13.MediateNearest'. -/
def mediateNearestCard : Claim7 := { stood := { row := mediateNearestRow, standIns := [], harness := (true, "4f9d4aa392d76220ff8dba5df587a75ff3c6adee6bf9fa6a2b19cf265238a1ef"), looks := true }, kinds := [], alts := [], laidByText := true, laidKinds := [.data, .pinned], laidTests := true, laidLooks := .later }
def MediateNearestCardSaid : Prop := Claim7.holds Tryz.pinned (.plain (OpenSpec.ofChange mediateNearestSpec)) mediateNearestCard

/-- THE TIED CARD OF 'pomacelaw13.MediateDead'. -/
def mediateDeadCard : Claim7 := { stood := { row := mediateDeadRow, standIns := [], harness := (true, "4f9d4aa392d76220ff8dba5df587a75ff3c6adee6bf9fa6a2b19cf265238a1ef"), looks := true }, kinds := [], alts := [], laidByText := true, laidKinds := [.data, .pinned], laidTests := true, laidLooks := .later }
def MediateDeadCardSaid : Prop := Claim7.holds Tryz.pinned (.plain (OpenSpec.ofChange mediateDeadSpec)) mediateDeadCard

/-- THE TIED CARD OF 'pomacelaw13.MediateWider'. -/
def mediateWiderCard : Claim7 := { stood := { row := mediateWiderRow, standIns := [], harness := (true, "4f9d4aa392d76220ff8dba5df587a75ff3c6adee6bf9fa6a2b19cf265238a1ef"), looks := true }, kinds := [], alts := [], laidByText := true, laidKinds := [.data, .pinned], laidTests := true, laidLooks := .later }
def MediateWiderCardSaid : Prop := Claim7.holds Tryz.pinned (.plain (OpenSpec.ofChange mediateWiderSpec)) mediateWiderCard

/-- THE TIED CARD OF 'pomacelaw13.MediateChooses'. -/
def mediateChoosesCard : Claim7 := { stood := { row := mediateChoosesRow, standIns := [], harness := (true, "4f9d4aa392d76220ff8dba5df587a75ff3c6adee6bf9fa6a2b19cf265238a1ef"), looks := true }, kinds := [], alts := [], laidByText := true, laidKinds := [.data, .pinned], laidTests := true, laidLooks := .later }
def MediateChoosesCardSaid : Prop := Claim7.holds Tryz.pinned (.plain (OpenSpec.ofChange mediateChoosesSpec)) mediateChoosesCard

/-- THE TIED CARD OF 'pomacelaw13.MediateAsks'. -/
def mediateAsksCard : Claim7 := { stood := { row := mediateAsksRow, standIns := [], harness := (true, "4f9d4aa392d76220ff8dba5df587a75ff3c6adee6bf9fa6a2b19cf265238a1ef"), looks := true }, kinds := [], alts := [], laidByText := true, laidKinds := [.data, .pinned], laidTests := true, laidLooks := .later }
def MediateAsksCardSaid : Prop := Claim7.holds Tryz.pinned (.plain (OpenSpec.ofChange mediateAsksSpec)) mediateAsksCard

/-- THE SECOND FORM's CARD OF 'pomacelaw12.CollectRight'. -/
def collectRightUptoCard : Claim7 := { stood := { row := collectRightUptoRow, standIns := [], harness := (true, "4f9d4aa392d76220ff8dba5df587a75ff3c6adee6bf9fa6a2b19cf265238a1ef"), looks := true }, kinds := [], alts := [], laidByText := true, laidKinds := [.data, .pinned], laidTests := true, laidLooks := .later }
def CollectRightUptoCardSaid : Prop := Claim7.holds Tryz.pinned (.plain (OpenSpec.upto collectRightSpec)) collectRightUptoCard

/-- THE SECOND FORM's CARD OF 'pomacelaw12.CollectLine'. -/
def collectLineUptoCard : Claim7 := { stood := { row := collectLineUptoRow, standIns := [], harness := (true, "4f9d4aa392d76220ff8dba5df587a75ff3c6adee6bf9fa6a2b19cf265238a1ef"), looks := true }, kinds := [], alts := [], laidByText := true, laidKinds := [.data, .pinned], laidTests := true, laidLooks := .later }
def CollectLineUptoCardSaid : Prop := Claim7.holds Tryz.pinned (.plain (OpenSpec.upto collectLineSpec)) collectLineUptoCard

/-- THE SECOND FORM's CARD OF 'pomacelaw12.CollectGreat'. -/
def collectGreatUptoCard : Claim7 := { stood := { row := collectGreatUptoRow, standIns := [], harness := (true, "4f9d4aa392d76220ff8dba5df587a75ff3c6adee6bf9fa6a2b19cf265238a1ef"), looks := true }, kinds := [], alts := [], laidByText := true, laidKinds := [.data, .pinned], laidTests := true, laidLooks := .later }
def CollectGreatUptoCardSaid : Prop := Claim7.holds Tryz.pinned (.plain (OpenSpec.upto collectGreatSpec)) collectGreatUptoCard

/-- THE SECOND FORM's CARD OF 'pomacelaw12.CollectCuts'. -/
def collectCutsUptoCard : Claim7 := { stood := { row := collectCutsUptoRow, standIns := [], harness := (true, "4f9d4aa392d76220ff8dba5df587a75ff3c6adee6bf9fa6a2b19cf265238a1ef"), looks := true }, kinds := [], alts := [], laidByText := true, laidKinds := [.data, .pinned], laidTests := true, laidLooks := .later }
def CollectCutsUptoCardSaid : Prop := Claim7.holds Tryz.pinned (.plain (OpenSpec.upto collectCutsSpec)) collectCutsUptoCard

/-- THE SECOND FORM's CARD OF 'pomacelaw12.CollectRises'. -/
def collectRisesUptoCard : Claim7 := { stood := { row := collectRisesUptoRow, standIns := [], harness := (true, "4f9d4aa392d76220ff8dba5df587a75ff3c6adee6bf9fa6a2b19cf265238a1ef"), looks := true }, kinds := [], alts := [], laidByText := true, laidKinds := [.data, .pinned], laidTests := true, laidLooks := .later }
def CollectRisesUptoCardSaid : Prop := Claim7.holds Tryz.pinned (.plain (OpenSpec.upto collectRisesSpec)) collectRisesUptoCard

/-- THE SECOND FORM's CARD OF 'pomacelaw13.MediateNearest'. -/
def mediateNearestUptoCard : Claim7 := { stood := { row := mediateNearestUptoRow, standIns := [], harness := (true, "4f9d4aa392d76220ff8dba5df587a75ff3c6adee6bf9fa6a2b19cf265238a1ef"), looks := true }, kinds := [], alts := [], laidByText := true, laidKinds := [.data, .pinned], laidTests := true, laidLooks := .later }
def MediateNearestUptoCardSaid : Prop := Claim7.holds Tryz.pinned (.plain (OpenSpec.upto mediateNearestSpec)) mediateNearestUptoCard

/-- THE SECOND FORM's CARD OF 'pomacelaw13.MediateDead'. -/
def mediateDeadUptoCard : Claim7 := { stood := { row := mediateDeadUptoRow, standIns := [], harness := (true, "4f9d4aa392d76220ff8dba5df587a75ff3c6adee6bf9fa6a2b19cf265238a1ef"), looks := true }, kinds := [], alts := [], laidByText := true, laidKinds := [.data, .pinned], laidTests := true, laidLooks := .later }
def MediateDeadUptoCardSaid : Prop := Claim7.holds Tryz.pinned (.plain (OpenSpec.upto mediateDeadSpec)) mediateDeadUptoCard

/-- THE SECOND FORM's CARD OF 'pomacelaw13.MediateWider'. -/
def mediateWiderUptoCard : Claim7 := { stood := { row := mediateWiderUptoRow, standIns := [], harness := (true, "4f9d4aa392d76220ff8dba5df587a75ff3c6adee6bf9fa6a2b19cf265238a1ef"), looks := true }, kinds := [], alts := [], laidByText := true, laidKinds := [.data, .pinned], laidTests := true, laidLooks := .later }
def MediateWiderUptoCardSaid : Prop := Claim7.holds Tryz.pinned (.plain (OpenSpec.upto mediateWiderSpec)) mediateWiderUptoCard

/-- THE SECOND FORM's CARD OF 'pomacelaw13.MediateChooses'. -/
def mediateChoosesUptoCard : Claim7 := { stood := { row := mediateChoosesUptoRow, standIns := [], harness := (true, "4f9d4aa392d76220ff8dba5df587a75ff3c6adee6bf9fa6a2b19cf265238a1ef"), looks := true }, kinds := [], alts := [], laidByText := true, laidKinds := [.data, .pinned], laidTests := true, laidLooks := .later }
def MediateChoosesUptoCardSaid : Prop := Claim7.holds Tryz.pinned (.plain (OpenSpec.upto mediateChoosesSpec)) mediateChoosesUptoCard

/-- THE SECOND FORM's CARD OF 'pomacelaw13.MediateAsks'. -/
def mediateAsksUptoCard : Claim7 := { stood := { row := mediateAsksUptoRow, standIns := [], harness := (true, "4f9d4aa392d76220ff8dba5df587a75ff3c6adee6bf9fa6a2b19cf265238a1ef"), looks := true }, kinds := [], alts := [], laidByText := true, laidKinds := [.data, .pinned], laidTests := true, laidLooks := .later }
def MediateAsksUptoCardSaid : Prop := Claim7.holds Tryz.pinned (.plain (OpenSpec.upto mediateAsksSpec)) mediateAsksUptoCard
end Rows
end Go.Proofs.YthobfcojiglpdaaGreatDoor
