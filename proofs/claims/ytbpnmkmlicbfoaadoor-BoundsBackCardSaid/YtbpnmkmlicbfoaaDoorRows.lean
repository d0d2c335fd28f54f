/-
  NARROWER THAN 'FOR EVERY INPUT', by the rows' own cells (each row's printed sentence says how): BoundsParses: laid · BoundsHas: laid · BoundsSame: laid · BoundsPicks: laid · BoundsBoth: laid · BoundsBack: laid.
  DERIVED. THE GIVEN ROWS OF THIS SEAT. 6 by the template 'for every input the law returns true; each argument reads behind the call as it read before'; 0 by the template 'total and deterministic' (their statements: YtbpnmkmlicbfoaaDoorTotals.lean).
  GIVEN WITH THE SEED: the statements are not yours to turn. If you find one false, say at which input.
  Laid BY PROGRAM, IN A SANDBOX (cutbox-rows.mjs): the forced cells as the released guide's own fill.sh prints them over the translation 5c70b31148789403… (all of the seat's roots in one cut). By AI agents, Wed Nov 11 2026. No macro, syntax, notation, axiom, sorry.
-/
import Derived.Test.YtbpnmkmlicbfoaaDoorChecked
import GoSem.PinnedTables
import GoSem.Claim
import GoSem.ClaimJoined
import GoSem.ClaimMapViews
import Derived.JoinedTies
import Derived.KernelRfl
namespace Go.Proofs.YtbpnmkmlicbfoaaDoor
/- THE CELL 'sum', in the pinned program and in every row, IS THE sha256 OF THE DUMP (.gsa) THAT YtbpnmkmlicbfoaaDoorProg.lean LOADS. Nothing in Lean hashes anything: it is a label: what it is worth is what the hold of that sum in a sandbox is worth. -/
noncomputable def Tryd.pinned : Pinned := { name := "ytbpnmkmlicbfoaadoor", sum := "5c70b311487894037b72ac0a9f3d84c92a14ab42562585cadb4152c45cd65aab", checked := Tryd.checked }
namespace Rows
def none {H : Type} : Left H := { results := [], args := [] }

/- WHAT THE LISTED PACKAGE-LEVEL VARIABLES READ AS WHEN THE CALL BEGINS. Each datum BY PROGRAM (the guide's laid-datum.mjs) off the statement by which the dump's own 'gosem.cut.vars' lays the variable. In a bare row this is a premise. The card (YtbpnmkmlicbfoaaDoorCards.lean) ties it to the program's text. -/
def laid_unicode_utf8_acceptRanges {H : Type} : DataW H := .agg [.agg [.lit (.int .u8 128), .lit (.int .u8 191)], .agg [.lit (.int .u8 160), .lit (.int .u8 191)], .agg [.lit (.int .u8 128), .lit (.int .u8 159)], .agg [.lit (.int .u8 144), .lit (.int .u8 191)], .agg [.lit (.int .u8 128), .lit (.int .u8 143)], .agg [.lit (.int .u8 0), .lit (.int .u8 0)], .agg [.lit (.int .u8 0), .lit (.int .u8 0)], .agg [.lit (.int .u8 0), .lit (.int .u8 0)], .agg [.lit (.int .u8 0), .lit (.int .u8 0)], .agg [.lit (.int .u8 0), .lit (.int .u8 0)], .agg [.lit (.int .u8 0), .lit (.int .u8 0)], .agg [.lit (.int .u8 0), .lit (.int .u8 0)], .agg [.lit (.int .u8 0), .lit (.int .u8 0)], .agg [.lit (.int .u8 0), .lit (.int .u8 0)], .agg [.lit (.int .u8 0), .lit (.int .u8 0)], .agg [.lit (.int .u8 0), .lit (.int .u8 0)]]
/-- One of Go's own tables, pinned by name: the form's constant. -/
def laid_unicode_utf8_first : DataW Unit := Go.Pinned.utf8First

/-- 'pomacelaw05.BoundsParses': WHATEVER THE INPUT: true; the input reads as it did. -/
def boundsParsesSpec : ChangeSpec := { name := "boundsParses", fn := fun _ => fun
  | [d] => { results := [.lit (.bool true)], args := [d] }
  | _ => none }
def boundsParsesRow : OpenClaim := { program := "ytbpnmkmlicbfoaadoor", sum := "5c70b311487894037b72ac0a9f3d84c92a14ab42562585cadb4152c45cd65aab", func := "pomace/pomacelaw05.BoundsParses", spec := "boundsParses", inPlace := ["internal/bytealg.IndexByteString", "internal/bytealg.IndexString", "internal/bytealg.abigen_runtime_cmpstring"], unfollowed := true, recurses := true, named := ["internal/bytealg.MaxLen", "unicode/utf8.first", "unicode/utf8.acceptRanges"], apart := false, laid := [("unicode/utf8.acceptRanges", laid_unicode_utf8_acceptRanges), ("unicode/utf8.first", laid_unicode_utf8_first)] }
def BoundsParsesSaid : Prop := boundsParsesRow.holds Tryd.pinned (OpenSpec.ofChange boundsParsesSpec)

/-- ITS FALSE NEIGHBOUR: 'it returns false'. Refute it at one input. -/
def boundsParsesWrong : ChangeSpec := { name := "boundsParses", fn := fun _ => fun
  | [d] => { results := [.lit (.bool false)], args := [d] }
  | _ => none }
def BoundsParsesWrongFalsely : Prop := boundsParsesRow.holds Tryd.pinned (OpenSpec.ofChange boundsParsesWrong)

/-- 'pomacelaw05.BoundsHas': WHATEVER THE INPUT: true; the input reads as it did. -/
def boundsHasSpec : ChangeSpec := { name := "boundsHas", fn := fun _ => fun
  | [d1, d2] => { results := [.lit (.bool true)], args := [d1, d2] }
  | _ => none }
def boundsHasRow : OpenClaim := { program := "ytbpnmkmlicbfoaadoor", sum := "5c70b311487894037b72ac0a9f3d84c92a14ab42562585cadb4152c45cd65aab", func := "pomace/pomacelaw05.BoundsHas", spec := "boundsHas", inPlace := ["internal/bytealg.IndexByteString", "internal/bytealg.IndexString", "internal/bytealg.abigen_runtime_cmpstring"], unfollowed := true, recurses := true, named := ["internal/bytealg.MaxLen", "unicode/utf8.first", "unicode/utf8.acceptRanges"], apart := false, laid := [("unicode/utf8.acceptRanges", laid_unicode_utf8_acceptRanges), ("unicode/utf8.first", laid_unicode_utf8_first)] }
def BoundsHasSaid : Prop := boundsHasRow.holds Tryd.pinned (OpenSpec.ofChange boundsHasSpec)

/-- ITS FALSE NEIGHBOUR: 'it returns false'. Refute it at one input. -/
def boundsHasWrong : ChangeSpec := { name := "boundsHas", fn := fun _ => fun
  | [d1, d2] => { results := [.lit (.bool false)], args := [d1, d2] }
  | _ => none }
def BoundsHasWrongFalsely : Prop := boundsHasRow.holds Tryd.pinned (OpenSpec.ofChange boundsHasWrong)

/-- 'pomacelaw05.BoundsSame': WHATEVER THE INPUT: true; the input reads as it did. -/
def boundsSameSpec : ChangeSpec := { name := "boundsSame", fn := fun _ => fun
  | [d1, d2] => { results := [.lit (.bool true)], args := [d1, d2] }
  | _ => none }
def boundsSameRow : OpenClaim := { program := "ytbpnmkmlicbfoaadoor", sum := "5c70b311487894037b72ac0a9f3d84c92a14ab42562585cadb4152c45cd65aab", func := "pomace/pomacelaw05.BoundsSame", spec := "boundsSame", inPlace := ["internal/bytealg.IndexByteString", "internal/bytealg.IndexString", "internal/bytealg.abigen_runtime_cmpstring"], unfollowed := true, recurses := true, named := ["internal/bytealg.MaxLen", "unicode/utf8.first", "unicode/utf8.acceptRanges"], apart := false, laid := [("unicode/utf8.acceptRanges", laid_unicode_utf8_acceptRanges), ("unicode/utf8.first", laid_unicode_utf8_first)] }
def BoundsSameSaid : Prop := boundsSameRow.holds Tryd.pinned (OpenSpec.ofChange boundsSameSpec)

/-- ITS FALSE NEIGHBOUR: 'it returns false'. Refute it at one input. -/
def boundsSameWrong : ChangeSpec := { name := "boundsSame", fn := fun _ => fun
  | [d1, d2] => { results := [.lit (.bool false)], args := [d1, d2] }
  | _ => none }
def BoundsSameWrongFalsely : Prop := boundsSameRow.holds Tryd.pinned (OpenSpec.ofChange boundsSameWrong)

/-- 'pomacelaw05.BoundsPicks': WHATEVER THE INPUT: true; the input reads as it did. -/
def boundsPicksSpec : ChangeSpec := { name := "boundsPicks", fn := fun _ => fun
  | [d1, d2] => { results := [.lit (.bool true)], args := [d1, d2] }
  | _ => none }
def boundsPicksRow : OpenClaim := { program := "ytbpnmkmlicbfoaadoor", sum := "5c70b311487894037b72ac0a9f3d84c92a14ab42562585cadb4152c45cd65aab", func := "pomace/pomacelaw05.BoundsPicks", spec := "boundsPicks", inPlace := ["internal/bytealg.IndexByteString", "internal/bytealg.IndexString", "internal/bytealg.abigen_runtime_cmpstring"], unfollowed := true, recurses := true, named := ["internal/bytealg.MaxLen", "unicode/utf8.first", "unicode/utf8.acceptRanges"], apart := false, laid := [("unicode/utf8.acceptRanges", laid_unicode_utf8_acceptRanges), ("unicode/utf8.first", laid_unicode_utf8_first)] }
def BoundsPicksSaid : Prop := boundsPicksRow.holds Tryd.pinned (OpenSpec.ofChange boundsPicksSpec)

/-- ITS FALSE NEIGHBOUR: 'it returns false'. Refute it at one input. -/
def boundsPicksWrong : ChangeSpec := { name := "boundsPicks", fn := fun _ => fun
  | [d1, d2] => { results := [.lit (.bool false)], args := [d1, d2] }
  | _ => none }
def BoundsPicksWrongFalsely : Prop := boundsPicksRow.holds Tryd.pinned (OpenSpec.ofChange boundsPicksWrong)

/-- 'pomacelaw05.BoundsBoth': WHATEVER THE INPUT: true; the input reads as it did. -/
def boundsBothSpec : ChangeSpec := { name := "boundsBoth", fn := fun _ => fun
  | [d1, d2, d3] => { results := [.lit (.bool true)], args := [d1, d2, d3] }
  | _ => none }
def boundsBothRow : OpenClaim := { program := "ytbpnmkmlicbfoaadoor", sum := "5c70b311487894037b72ac0a9f3d84c92a14ab42562585cadb4152c45cd65aab", func := "pomace/pomacelaw05.BoundsBoth", spec := "boundsBoth", inPlace := ["internal/bytealg.IndexByteString", "internal/bytealg.IndexString", "internal/bytealg.abigen_runtime_cmpstring"], unfollowed := true, recurses := true, named := ["internal/bytealg.MaxLen", "unicode/utf8.first", "unicode/utf8.acceptRanges"], apart := false, laid := [("unicode/utf8.acceptRanges", laid_unicode_utf8_acceptRanges), ("unicode/utf8.first", laid_unicode_utf8_first)] }
def BoundsBothSaid : Prop := boundsBothRow.holds Tryd.pinned (OpenSpec.ofChange boundsBothSpec)

/-- ITS FALSE NEIGHBOUR: 'it returns false'. Refute it at one input. -/
def boundsBothWrong : ChangeSpec := { name := "boundsBoth", fn := fun _ => fun
  | [d1, d2, d3] => { results := [.lit (.bool false)], args := [d1, d2, d3] }
  | _ => none }
def BoundsBothWrongFalsely : Prop := boundsBothRow.holds Tryd.pinned (OpenSpec.ofChange boundsBothWrong)

/-- 'pomacelaw05.BoundsBack': WHATEVER THE INPUT: true; the input reads as it did. -/
def boundsBackSpec : ChangeSpec := { name := "boundsBack", fn := fun _ => fun
  | [d] => { results := [.lit (.bool true)], args := [d] }
  | _ => none }
def boundsBackRow : OpenClaim := { program := "ytbpnmkmlicbfoaadoor", sum := "5c70b311487894037b72ac0a9f3d84c92a14ab42562585cadb4152c45cd65aab", func := "pomace/pomacelaw05.BoundsBack", spec := "boundsBack", inPlace := ["internal/bytealg.IndexByteString", "internal/bytealg.IndexString", "internal/bytealg.abigen_runtime_cmpstring", "internal/abi.NoEscape", "internal/bytealg.MakeNoZero"], unfollowed := true, recurses := true, named := ["internal/bytealg.MaxLen", "unicode/utf8.first", "unicode/utf8.acceptRanges"], apart := false, laid := [("unicode/utf8.acceptRanges", laid_unicode_utf8_acceptRanges), ("unicode/utf8.first", laid_unicode_utf8_first)] }
def BoundsBackSaid : Prop := boundsBackRow.holds Tryd.pinned (OpenSpec.ofChange boundsBackSpec)

/-- ITS FALSE NEIGHBOUR: 'it returns false'. Refute it at one input. -/
def boundsBackWrong : ChangeSpec := { name := "boundsBack", fn := fun _ => fun
  | [d] => { results := [.lit (.bool false)], args := [d] }
  | _ => none }
def BoundsBackWrongFalsely : Prop := boundsBackRow.holds Tryd.pinned (OpenSpec.ofChange boundsBackWrong)

/- THE SECOND FORM. 'bulk': how many values and letters a reading holds, each counted each time it is reached (what is shared counts as often as it is met; a slice's spare places count too). A statement '..UptoSaid' is the law's where the arguments, and the package variables that the reading takes, are together of bulk at most 1048576: NARROWER than '..Said'. Prove '..Said' where nothing that the law and all that it calls make is longer than what came in: it says more and counts as full. Else prove '..UptoSaid'. A law counts once. -/
mutual
def uptoBulk {H : Type} : DataW H → Nat
  | .lit (.string bytes) => bytes.length + 1
  | .lit _ => 1
  | .nil => 1
  | .ptr d => uptoBulk d + 1
  | .slice elems spare => uptoBulkAll elems + uptoBulkAll spare + 1
  | .agg parts => uptoBulkAll parts + 1
  | .iface _ d => uptoBulk d + 1
  | .map entries => uptoBulkEntries entries + 1
  | .held _ => 1
def uptoBulkAll {H : Type} : List (DataW H) → Nat
  | [] => 0
  | d :: r => uptoBulk d + uptoBulkAll r
def uptoBulkEntries {H : Type} : List (Lit × DataW H) → Nat
  | [] => 0
  | x :: r => uptoBulkEntry x + uptoBulkEntries r
def uptoBulkEntry {H : Type} : Lit × DataW H → Nat
  | (.string bytes, d) => bytes.length + uptoBulk d + 1
  | (_, d) => uptoBulk d + 1
 end
def uptoSmall : (H : Type) → List (DataW H) → Bool := fun _ ds => decide (uptoBulkAll ds ≤ 1048576)
def OpenSpec.upto (s : _root_.Go.ChangeSpec) : _root_.Go.OpenSpec := { _root_.Go.OpenSpec.ofChange s with cond := some uptoSmall }

/-- 'pomacelaw05.BoundsParses', WHERE WHAT IT READS IS OF BULK AT MOST 1048576: true; the input reads as it did. -/
def boundsParsesUptoRow : OpenClaim := { program := "ytbpnmkmlicbfoaadoor", sum := "5c70b311487894037b72ac0a9f3d84c92a14ab42562585cadb4152c45cd65aab", func := "pomace/pomacelaw05.BoundsParses", spec := "boundsParses", inPlace := ["internal/bytealg.IndexByteString", "internal/bytealg.IndexString", "internal/bytealg.abigen_runtime_cmpstring"], unfollowed := true, recurses := true, named := ["internal/bytealg.MaxLen", "unicode/utf8.first", "unicode/utf8.acceptRanges"], apart := false, laid := [("unicode/utf8.acceptRanges", laid_unicode_utf8_acceptRanges), ("unicode/utf8.first", laid_unicode_utf8_first)], narrowed := true }
def BoundsParsesUptoSaid : Prop := boundsParsesUptoRow.holds Tryd.pinned (OpenSpec.upto boundsParsesSpec)

/-- 'pomacelaw05.BoundsHas', WHERE WHAT IT READS IS OF BULK AT MOST 1048576: true; the input reads as it did. -/
def boundsHasUptoRow : OpenClaim := { program := "ytbpnmkmlicbfoaadoor", sum := "5c70b311487894037b72ac0a9f3d84c92a14ab42562585cadb4152c45cd65aab", func := "pomace/pomacelaw05.BoundsHas", spec := "boundsHas", inPlace := ["internal/bytealg.IndexByteString", "internal/bytealg.IndexString", "internal/bytealg.abigen_runtime_cmpstring"], unfollowed := true, recurses := true, named := ["internal/bytealg.MaxLen", "unicode/utf8.first", "unicode/utf8.acceptRanges"], apart := false, laid := [("unicode/utf8.acceptRanges", laid_unicode_utf8_acceptRanges), ("unicode/utf8.first", laid_unicode_utf8_first)], narrowed := true }
def BoundsHasUptoSaid : Prop := boundsHasUptoRow.holds Tryd.pinned (OpenSpec.upto boundsHasSpec)

/-- 'pomacelaw05.BoundsSame', WHERE WHAT IT READS IS OF BULK AT MOST 1048576: true; the input reads as it did. -/
def boundsSameUptoRow : OpenClaim := { program := "ytbpnmkmlicbfoaadoor", sum := "5c70b311487894037b72ac0a9f3d84c92a14ab42562585cadb4152c45cd65aab", func := "pomace/pomacelaw05.BoundsSame", spec := "boundsSame", inPlace := ["internal/bytealg.IndexByteString", "internal/bytealg.IndexString", "internal/bytealg.abigen_runtime_cmpstring"], unfollowed := true, recurses := true, named := ["internal/bytealg.MaxLen", "unicode/utf8.first", "unicode/utf8.acceptRanges"], apart := false, laid := [("unicode/utf8.acceptRanges", laid_unicode_utf8_acceptRanges), ("unicode/utf8.first", laid_unicode_utf8_first)], narrowed := true }
def BoundsSameUptoSaid : Prop := boundsSameUptoRow.holds Tryd.pinned (OpenSpec.upto boundsSameSpec)

/-- 'pomacelaw05.BoundsPicks', WHERE WHAT IT READS IS OF BULK AT MOST 1048576: true; the input reads as it did. -/
def boundsPicksUptoRow : OpenClaim := { program := "ytbpnmkmlicbfoaadoor", sum := "5c70b311487894037b72ac0a9f3d84c92a14ab42562585cadb4152c45cd65aab", func := "pomace/pomacelaw05.BoundsPicks", spec := "boundsPicks", inPlace := ["internal/bytealg.IndexByteString", "internal/bytealg.IndexString", "internal/bytealg.abigen_runtime_cmpstring"], unfollowed := true, recurses := true, named := ["internal/bytealg.MaxLen", "unicode/utf8.first", "unicode/utf8.acceptRanges"], apart := false, laid := [("unicode/utf8.acceptRanges", laid_unicode_utf8_acceptRanges), ("unicode/utf8.first", laid_unicode_utf8_first)], narrowed := true }
def BoundsPicksUptoSaid : Prop := boundsPicksUptoRow.holds Tryd.pinned (OpenSpec.upto boundsPicksSpec)

/-- 'pomacelaw05.BoundsBoth', WHERE WHAT IT READS IS OF BULK AT MOST 1048576: true; the input reads as it did. -/
def boundsBothUptoRow : OpenClaim := { program := "ytbpnmkmlicbfoaadoor", sum := "5c70b311487894037b72ac0a9f3d84c92a14ab42562585cadb4152c45cd65aab", func := "pomace/pomacelaw05.BoundsBoth", spec := "boundsBoth", inPlace := ["internal/bytealg.IndexByteString", "internal/bytealg.IndexString", "internal/bytealg.abigen_runtime_cmpstring"], unfollowed := true, recurses := true, named := ["internal/bytealg.MaxLen", "unicode/utf8.first", "unicode/utf8.acceptRanges"], apart := false, laid := [("unicode/utf8.acceptRanges", laid_unicode_utf8_acceptRanges), ("unicode/utf8.first", laid_unicode_utf8_first)], narrowed := true }
def BoundsBothUptoSaid : Prop := boundsBothUptoRow.holds Tryd.pinned (OpenSpec.upto boundsBothSpec)

/-- 'pomacelaw05.BoundsBack', WHERE WHAT IT READS IS OF BULK AT MOST 1048576: true; the input reads as it did. -/
def boundsBackUptoRow : OpenClaim := { program := "ytbpnmkmlicbfoaadoor", sum := "5c70b311487894037b72ac0a9f3d84c92a14ab42562585cadb4152c45cd65aab", func := "pomace/pomacelaw05.BoundsBack", spec := "boundsBack", inPlace := ["internal/bytealg.IndexByteString", "internal/bytealg.IndexString", "internal/bytealg.abigen_runtime_cmpstring", "internal/abi.NoEscape", "internal/bytealg.MakeNoZero"], unfollowed := true, recurses := true, named := ["internal/bytealg.MaxLen", "unicode/utf8.first", "unicode/utf8.acceptRanges"], apart := false, laid := [("unicode/utf8.acceptRanges", laid_unicode_utf8_acceptRanges), ("unicode/utf8.first", laid_unicode_utf8_first)], narrowed := true }
def BoundsBackUptoSaid : Prop := boundsBackUptoRow.holds Tryd.pinned (OpenSpec.upto boundsBackSpec)

end Rows
end Go.Proofs.YtbpnmkmlicbfoaaDoor
