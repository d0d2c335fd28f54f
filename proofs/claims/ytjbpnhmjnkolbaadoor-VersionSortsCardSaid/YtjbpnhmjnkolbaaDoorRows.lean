/-
  NARROWER THAN 'FOR EVERY INPUT', by the rows' own cells (each row's printed sentence says how): VersionParts: laid · VersionCompares: laid · VersionTurns: laid · VersionOrder: laid · VersionCanon: laid · VersionNulls: laid · VersionNumbers: laid · VersionMays: laid · VersionSorts: laid.
  DERIVED. THE GIVEN ROWS OF THIS SEAT. 9 by the template 'for every input the law returns true; each argument reads behind the call as it read before'; 0 by the template 'total and deterministic' (their statements: YtjbpnhmjnkolbaaDoorTotals.lean).
  GIVEN WITH THE SEED: the statements are not yours to turn. If you find one false, say at which input.
  Laid BY PROGRAM, IN A SANDBOX (cutbox-rows.mjs): the forced cells as the released guide's own fill.sh prints them over the translation 75f10a02109e7169… (all of the seat's roots in one cut). By AI agents, Wed Nov 11 2026. No macro, syntax, notation, axiom, sorry.
-/
import Derived.Test.YtjbpnhmjnkolbaaDoorChecked
import GoSem.PinnedTables
import GoSem.Claim
import GoSem.ClaimJoined
import GoSem.ClaimMapViews
import Derived.JoinedTies
import Derived.KernelRfl
namespace Go.Proofs.YtjbpnhmjnkolbaaDoor
/- THE CELL 'sum', in the pinned program and in every row, IS THE sha256 OF THE DUMP (.gsa) THAT YtjbpnhmjnkolbaaDoorProg.lean LOADS. Nothing in Lean hashes anything: it is a label: what it is worth is what the hold of that sum in a sandbox is worth. -/
noncomputable def Tryd.pinned : Pinned := { name := "ytjbpnhmjnkolbaadoor", sum := "75f10a02109e7169cb6a0065714c4a5dabf6de19952a0954f33dba471b820334", checked := Tryd.checked }
namespace Rows
def none {H : Type} : Left H := { results := [], args := [] }

/- WHAT THE LISTED PACKAGE-LEVEL VARIABLES READ AS WHEN THE CALL BEGINS. Each datum BY PROGRAM (the guide's laid-datum.mjs) off the statement by which the dump's own 'gosem.cut.vars' lays the variable. In a bare row this is a premise. The card (YtjbpnhmjnkolbaaDoorCards.lean) ties it to the program's text. -/
def laid_unicode_utf8_acceptRanges {H : Type} : DataW H := .agg [.agg [.lit (.int .u8 128), .lit (.int .u8 191)], .agg [.lit (.int .u8 160), .lit (.int .u8 191)], .agg [.lit (.int .u8 128), .lit (.int .u8 159)], .agg [.lit (.int .u8 144), .lit (.int .u8 191)], .agg [.lit (.int .u8 128), .lit (.int .u8 143)], .agg [.lit (.int .u8 0), .lit (.int .u8 0)], .agg [.lit (.int .u8 0), .lit (.int .u8 0)], .agg [.lit (.int .u8 0), .lit (.int .u8 0)], .agg [.lit (.int .u8 0), .lit (.int .u8 0)], .agg [.lit (.int .u8 0), .lit (.int .u8 0)], .agg [.lit (.int .u8 0), .lit (.int .u8 0)], .agg [.lit (.int .u8 0), .lit (.int .u8 0)], .agg [.lit (.int .u8 0), .lit (.int .u8 0)], .agg [.lit (.int .u8 0), .lit (.int .u8 0)], .agg [.lit (.int .u8 0), .lit (.int .u8 0)], .agg [.lit (.int .u8 0), .lit (.int .u8 0)]]
/-- One of Go's own tables, pinned by name: the form's constant. -/
def laid_unicode_utf8_first : DataW Unit := Go.Pinned.utf8First

/-- 'pomacelaw04.VersionParts': WHATEVER THE INPUT: true; the input reads as it did. -/
def versionPartsSpec : ChangeSpec := { name := "versionParts", fn := fun _ => fun
  | [d] => { results := [.lit (.bool true)], args := [d] }
  | _ => none }
def versionPartsRow : OpenClaim := { program := "ytjbpnhmjnkolbaadoor", sum := "75f10a02109e7169cb6a0065714c4a5dabf6de19952a0954f33dba471b820334", func := "pomace/pomacelaw04.VersionParts", spec := "versionParts", inPlace := ["internal/bytealg.IndexByteString", "internal/bytealg.IndexString", "internal/abi.NoEscape", "internal/bytealg.abigen_runtime_cmpstring"], named := ["unicode/utf8.first", "unicode/utf8.acceptRanges", "internal/bytealg.MaxLen"], apart := false, laid := [("unicode/utf8.acceptRanges", laid_unicode_utf8_acceptRanges), ("unicode/utf8.first", laid_unicode_utf8_first)] }
def VersionPartsSaid : Prop := versionPartsRow.holds Tryd.pinned (OpenSpec.ofChange versionPartsSpec)

/-- ITS FALSE NEIGHBOUR: 'it returns false'. Refute it at one input. -/
def versionPartsWrong : ChangeSpec := { name := "versionParts", fn := fun _ => fun
  | [d] => { results := [.lit (.bool false)], args := [d] }
  | _ => none }
def VersionPartsWrongFalsely : Prop := versionPartsRow.holds Tryd.pinned (OpenSpec.ofChange versionPartsWrong)

/-- 'pomacelaw04.VersionCompares': WHATEVER THE INPUT: true; the input reads as it did. -/
def versionComparesSpec : ChangeSpec := { name := "versionCompares", fn := fun _ => fun
  | [d1, d2] => { results := [.lit (.bool true)], args := [d1, d2] }
  | _ => none }
def versionComparesRow : OpenClaim := { program := "ytjbpnhmjnkolbaadoor", sum := "75f10a02109e7169cb6a0065714c4a5dabf6de19952a0954f33dba471b820334", func := "pomace/pomacelaw04.VersionCompares", spec := "versionCompares", inPlace := ["internal/bytealg.IndexByteString", "internal/bytealg.IndexString", "internal/bytealg.abigen_runtime_cmpstring", "internal/abi.NoEscape"], named := ["unicode/utf8.first", "unicode/utf8.acceptRanges", "internal/bytealg.MaxLen"], apart := false, laid := [("unicode/utf8.acceptRanges", laid_unicode_utf8_acceptRanges), ("unicode/utf8.first", laid_unicode_utf8_first)] }
def VersionComparesSaid : Prop := versionComparesRow.holds Tryd.pinned (OpenSpec.ofChange versionComparesSpec)

/-- ITS FALSE NEIGHBOUR: 'it returns false'. Refute it at one input. -/
def versionComparesWrong : ChangeSpec := { name := "versionCompares", fn := fun _ => fun
  | [d1, d2] => { results := [.lit (.bool false)], args := [d1, d2] }
  | _ => none }
def VersionComparesWrongFalsely : Prop := versionComparesRow.holds Tryd.pinned (OpenSpec.ofChange versionComparesWrong)

/-- 'pomacelaw04.VersionTurns': WHATEVER THE INPUT: true; the input reads as it did. -/
def versionTurnsSpec : ChangeSpec := { name := "versionTurns", fn := fun _ => fun
  | [d1, d2] => { results := [.lit (.bool true)], args := [d1, d2] }
  | _ => none }
def versionTurnsRow : OpenClaim := { program := "ytjbpnhmjnkolbaadoor", sum := "75f10a02109e7169cb6a0065714c4a5dabf6de19952a0954f33dba471b820334", func := "pomace/pomacelaw04.VersionTurns", spec := "versionTurns", inPlace := ["internal/bytealg.IndexByteString", "internal/bytealg.IndexString", "internal/bytealg.abigen_runtime_cmpstring", "internal/abi.NoEscape"], named := ["unicode/utf8.first", "unicode/utf8.acceptRanges", "internal/bytealg.MaxLen"], apart := false, laid := [("unicode/utf8.acceptRanges", laid_unicode_utf8_acceptRanges), ("unicode/utf8.first", laid_unicode_utf8_first)] }
def VersionTurnsSaid : Prop := versionTurnsRow.holds Tryd.pinned (OpenSpec.ofChange versionTurnsSpec)

/-- ITS FALSE NEIGHBOUR: 'it returns false'. Refute it at one input. -/
def versionTurnsWrong : ChangeSpec := { name := "versionTurns", fn := fun _ => fun
  | [d1, d2] => { results := [.lit (.bool false)], args := [d1, d2] }
  | _ => none }
def VersionTurnsWrongFalsely : Prop := versionTurnsRow.holds Tryd.pinned (OpenSpec.ofChange versionTurnsWrong)

/-- 'pomacelaw04.VersionOrder': WHATEVER THE INPUT: true; the input reads as it did. -/
def versionOrderSpec : ChangeSpec := { name := "versionOrder", fn := fun _ => fun
  | [d1, d2, d3] => { results := [.lit (.bool true)], args := [d1, d2, d3] }
  | _ => none }
def versionOrderRow : OpenClaim := { program := "ytjbpnhmjnkolbaadoor", sum := "75f10a02109e7169cb6a0065714c4a5dabf6de19952a0954f33dba471b820334", func := "pomace/pomacelaw04.VersionOrder", spec := "versionOrder", inPlace := ["internal/bytealg.IndexByteString", "internal/bytealg.IndexString", "internal/bytealg.abigen_runtime_cmpstring", "internal/abi.NoEscape"], named := ["unicode/utf8.first", "unicode/utf8.acceptRanges", "internal/bytealg.MaxLen"], apart := false, laid := [("unicode/utf8.acceptRanges", laid_unicode_utf8_acceptRanges), ("unicode/utf8.first", laid_unicode_utf8_first)] }
def VersionOrderSaid : Prop := versionOrderRow.holds Tryd.pinned (OpenSpec.ofChange versionOrderSpec)

/-- ITS FALSE NEIGHBOUR: 'it returns false'. Refute it at one input. -/
def versionOrderWrong : ChangeSpec := { name := "versionOrder", fn := fun _ => fun
  | [d1, d2, d3] => { results := [.lit (.bool false)], args := [d1, d2, d3] }
  | _ => none }
def VersionOrderWrongFalsely : Prop := versionOrderRow.holds Tryd.pinned (OpenSpec.ofChange versionOrderWrong)

/-- 'pomacelaw04.VersionCanon': WHATEVER THE INPUT: true; the input reads as it did. -/
def versionCanonSpec : ChangeSpec := { name := "versionCanon", fn := fun _ => fun
  | [d] => { results := [.lit (.bool true)], args := [d] }
  | _ => none }
def versionCanonRow : OpenClaim := { program := "ytjbpnhmjnkolbaadoor", sum := "75f10a02109e7169cb6a0065714c4a5dabf6de19952a0954f33dba471b820334", func := "pomace/pomacelaw04.VersionCanon", spec := "versionCanon", inPlace := ["internal/bytealg.IndexByteString", "internal/bytealg.IndexString", "internal/bytealg.abigen_runtime_cmpstring", "internal/abi.NoEscape"], named := ["unicode/utf8.first", "unicode/utf8.acceptRanges", "internal/bytealg.MaxLen"], apart := false, laid := [("unicode/utf8.acceptRanges", laid_unicode_utf8_acceptRanges), ("unicode/utf8.first", laid_unicode_utf8_first)] }
def VersionCanonSaid : Prop := versionCanonRow.holds Tryd.pinned (OpenSpec.ofChange versionCanonSpec)

/-- ITS FALSE NEIGHBOUR: 'it returns false'. Refute it at one input. -/
def versionCanonWrong : ChangeSpec := { name := "versionCanon", fn := fun _ => fun
  | [d] => { results := [.lit (.bool false)], args := [d] }
  | _ => none }
def VersionCanonWrongFalsely : Prop := versionCanonRow.holds Tryd.pinned (OpenSpec.ofChange versionCanonWrong)

/-- 'pomacelaw04.VersionNulls': WHATEVER THE INPUT: true; the input reads as it did. -/
def versionNullsSpec : ChangeSpec := { name := "versionNulls", fn := fun _ => fun
  | [d1, d2] => { results := [.lit (.bool true)], args := [d1, d2] }
  | _ => none }
def versionNullsRow : OpenClaim := { program := "ytjbpnhmjnkolbaadoor", sum := "75f10a02109e7169cb6a0065714c4a5dabf6de19952a0954f33dba471b820334", func := "pomace/pomacelaw04.VersionNulls", spec := "versionNulls", inPlace := ["internal/bytealg.IndexByteString", "internal/bytealg.IndexString", "internal/bytealg.abigen_runtime_cmpstring", "internal/abi.NoEscape"], named := ["unicode/utf8.first", "unicode/utf8.acceptRanges", "internal/bytealg.MaxLen"], apart := false, laid := [("unicode/utf8.acceptRanges", laid_unicode_utf8_acceptRanges), ("unicode/utf8.first", laid_unicode_utf8_first)] }
def VersionNullsSaid : Prop := versionNullsRow.holds Tryd.pinned (OpenSpec.ofChange versionNullsSpec)

/-- ITS FALSE NEIGHBOUR: 'it returns false'. Refute it at one input. -/
def versionNullsWrong : ChangeSpec := { name := "versionNulls", fn := fun _ => fun
  | [d1, d2] => { results := [.lit (.bool false)], args := [d1, d2] }
  | _ => none }
def VersionNullsWrongFalsely : Prop := versionNullsRow.holds Tryd.pinned (OpenSpec.ofChange versionNullsWrong)

/-- 'pomacelaw04.VersionNumbers': WHATEVER THE INPUT: true; the input reads as it did. -/
def versionNumbersSpec : ChangeSpec := { name := "versionNumbers", fn := fun _ => fun
  | [d1, d2, d3] => { results := [.lit (.bool true)], args := [d1, d2, d3] }
  | _ => none }
def versionNumbersRow : OpenClaim := { program := "ytjbpnhmjnkolbaadoor", sum := "75f10a02109e7169cb6a0065714c4a5dabf6de19952a0954f33dba471b820334", func := "pomace/pomacelaw04.VersionNumbers", spec := "versionNumbers", inPlace := ["internal/bytealg.IndexByteString", "internal/bytealg.IndexString", "internal/bytealg.abigen_runtime_cmpstring", "internal/abi.NoEscape"], recurses := true, named := ["unicode/utf8.first", "unicode/utf8.acceptRanges", "internal/bytealg.MaxLen"], apart := false, laid := [("unicode/utf8.acceptRanges", laid_unicode_utf8_acceptRanges), ("unicode/utf8.first", laid_unicode_utf8_first)] }
def VersionNumbersSaid : Prop := versionNumbersRow.holds Tryd.pinned (OpenSpec.ofChange versionNumbersSpec)

/-- ITS FALSE NEIGHBOUR: 'it returns false'. Refute it at one input. -/
def versionNumbersWrong : ChangeSpec := { name := "versionNumbers", fn := fun _ => fun
  | [d1, d2, d3] => { results := [.lit (.bool false)], args := [d1, d2, d3] }
  | _ => none }
def VersionNumbersWrongFalsely : Prop := versionNumbersRow.holds Tryd.pinned (OpenSpec.ofChange versionNumbersWrong)

/-- 'pomacelaw04.VersionMays': WHATEVER THE INPUT: true; the input reads as it did. -/
def versionMaysSpec : ChangeSpec := { name := "versionMays", fn := fun _ => fun
  | [d] => { results := [.lit (.bool true)], args := [d] }
  | _ => none }
def versionMaysRow : OpenClaim := { program := "ytjbpnhmjnkolbaadoor", sum := "75f10a02109e7169cb6a0065714c4a5dabf6de19952a0954f33dba471b820334", func := "pomace/pomacelaw04.VersionMays", spec := "versionMays", inPlace := ["internal/bytealg.IndexByteString", "internal/bytealg.IndexString", "internal/bytealg.abigen_runtime_cmpstring", "internal/abi.NoEscape"], named := ["internal/bytealg.MaxLen", "unicode/utf8.first", "unicode/utf8.acceptRanges"], apart := false, laid := [("unicode/utf8.acceptRanges", laid_unicode_utf8_acceptRanges), ("unicode/utf8.first", laid_unicode_utf8_first)] }
def VersionMaysSaid : Prop := versionMaysRow.holds Tryd.pinned (OpenSpec.ofChange versionMaysSpec)

/-- ITS FALSE NEIGHBOUR: 'it returns false'. Refute it at one input. -/
def versionMaysWrong : ChangeSpec := { name := "versionMays", fn := fun _ => fun
  | [d] => { results := [.lit (.bool false)], args := [d] }
  | _ => none }
def VersionMaysWrongFalsely : Prop := versionMaysRow.holds Tryd.pinned (OpenSpec.ofChange versionMaysWrong)

/-- 'pomacelaw04.VersionSorts': WHATEVER THE INPUT: true; the input reads as it did. -/
def versionSortsSpec : ChangeSpec := { name := "versionSorts", fn := fun _ => fun
  | [d] => { results := [.lit (.bool true)], args := [d] }
  | _ => none }
def versionSortsRow : OpenClaim := { program := "ytjbpnhmjnkolbaadoor", sum := "75f10a02109e7169cb6a0065714c4a5dabf6de19952a0954f33dba471b820334", func := "pomace/pomacelaw04.VersionSorts", spec := "versionSorts", inPlace := ["internal/bytealg.IndexByteString", "internal/bytealg.IndexString", "internal/bytealg.abigen_runtime_cmpstring", "internal/abi.NoEscape"], unfollowed := true, recurses := true, named := ["unicode/utf8.first", "unicode/utf8.acceptRanges", "internal/bytealg.MaxLen"], apart := false, laid := [("unicode/utf8.acceptRanges", laid_unicode_utf8_acceptRanges), ("unicode/utf8.first", laid_unicode_utf8_first)] }
def VersionSortsSaid : Prop := versionSortsRow.holds Tryd.pinned (OpenSpec.ofChange versionSortsSpec)

/-- ITS FALSE NEIGHBOUR: 'it returns false'. Refute it at one input. -/
def versionSortsWrong : ChangeSpec := { name := "versionSorts", fn := fun _ => fun
  | [d] => { results := [.lit (.bool false)], args := [d] }
  | _ => none }
def VersionSortsWrongFalsely : Prop := versionSortsRow.holds Tryd.pinned (OpenSpec.ofChange versionSortsWrong)

/- THE SECOND FORM. 'bulk': how many values and letters a reading holds, each counted each time it is reached (what is shared counts as often as it is met; a slice's spare places count too). A statement '..UptoSaid' is the law's where the arguments, and the package variables that the reading takes, are together of bulk at most 1048576: NARROWER than '..Said'. Prove '..Said' where nothing that the law and all that it calls make is longer than what came in: it says more and counts as full. Else prove '..UptoSaid'. A law counts once. -/
mutual
def uptoBulk {H : Type} : DataW H → Nat
  | .lit (.string bytes) => bytes.length + 1
  | .lit _ => 1
  | .nil => 1
  | .ptr d => uptoBulk d + 1
  | .slice elems spare => uptoBulkAll elems + uptoBulkAll spare + 1
  | .agg parts => uptoBulkAll parts + 1
  | .iface _ d => uptoBulk d + 1
  | .map entries => uptoBulkEntries entries + 1
  | .held _ => 1
def uptoBulkAll {H : Type} : List (DataW H) → Nat
  | [] => 0
  | d :: r => uptoBulk d + uptoBulkAll r
def uptoBulkEntries {H : Type} : List (Lit × DataW H) → Nat
  | [] => 0
  | x :: r => uptoBulkEntry x + uptoBulkEntries r
def uptoBulkEntry {H : Type} : Lit × DataW H → Nat
  | (.string bytes, d) => bytes.length + uptoBulk d + 1
  | (_, d) => uptoBulk d + 1
 end
def uptoSmall : (H : Type) → List (DataW H) → Bool := fun _ ds => decide (uptoBulkAll ds ≤ 1048576)
def OpenSpec.upto (s : _root_.Go.ChangeSpec) : _root_.Go.OpenSpec := { _root_.Go.OpenSpec.ofChange s with cond := some uptoSmall }

/-- 'pomacelaw04.VersionParts', WHERE WHAT IT READS IS OF BULK AT MOST 1048576: true; the input reads as it did. -/
def versionPartsUptoRow : OpenClaim := { program := "ytjbpnhmjnkolbaadoor", sum := "75f10a02109e7169cb6a0065714c4a5dabf6de19952a0954f33dba471b820334", func := "pomace/pomacelaw04.VersionParts", spec := "versionParts", inPlace := ["internal/bytealg.IndexByteString", "internal/bytealg.IndexString", "internal/abi.NoEscape", "internal/bytealg.abigen_runtime_cmpstring"], named := ["unicode/utf8.first", "unicode/utf8.acceptRanges", "internal/bytealg.MaxLen"], apart := false, laid := [("unicode/utf8.acceptRanges", laid_unicode_utf8_acceptRanges), ("unicode/utf8.first", laid_unicode_utf8_first)], narrowed := true }
def VersionPartsUptoSaid : Prop := versionPartsUptoRow.holds Tryd.pinned (OpenSpec.upto versionPartsSpec)

/-- 'pomacelaw04.VersionCompares', WHERE WHAT IT READS IS OF BULK AT MOST 1048576: true; the input reads as it did. -/
def versionComparesUptoRow : OpenClaim := { program := "ytjbpnhmjnkolbaadoor", sum := "75f10a02109e7169cb6a0065714c4a5dabf6de19952a0954f33dba471b820334", func := "pomace/pomacelaw04.VersionCompares", spec := "versionCompares", inPlace := ["internal/bytealg.IndexByteString", "internal/bytealg.IndexString", "internal/bytealg.abigen_runtime_cmpstring", "internal/abi.NoEscape"], named := ["unicode/utf8.first", "unicode/utf8.acceptRanges", "internal/bytealg.MaxLen"], apart := false, laid := [("unicode/utf8.acceptRanges", laid_unicode_utf8_acceptRanges), ("unicode/utf8.first", laid_unicode_utf8_first)], narrowed := true }
def VersionComparesUptoSaid : Prop := versionComparesUptoRow.holds Tryd.pinned (OpenSpec.upto versionComparesSpec)

/-- 'pomacelaw04.VersionTurns', WHERE WHAT IT READS IS OF BULK AT MOST 1048576: true; the input reads as it did. -/
def versionTurnsUptoRow : OpenClaim := { program := "ytjbpnhmjnkolbaadoor", sum := "75f10a02109e7169cb6a0065714c4a5dabf6de19952a0954f33dba471b820334", func := "pomace/pomacelaw04.VersionTurns", spec := "versionTurns", inPlace := ["internal/bytealg.IndexByteString", "internal/bytealg.IndexString", "internal/bytealg.abigen_runtime_cmpstring", "internal/abi.NoEscape"], named := ["unicode/utf8.first", "unicode/utf8.acceptRanges", "internal/bytealg.MaxLen"], apart := false, laid := [("unicode/utf8.acceptRanges", laid_unicode_utf8_acceptRanges), ("unicode/utf8.first", laid_unicode_utf8_first)], narrowed := true }
def VersionTurnsUptoSaid : Prop := versionTurnsUptoRow.holds Tryd.pinned (OpenSpec.upto versionTurnsSpec)

/-- 'pomacelaw04.VersionOrder', WHERE WHAT IT READS IS OF BULK AT MOST 1048576: true; the input reads as it did. -/
def versionOrderUptoRow : OpenClaim := { program := "ytjbpnhmjnkolbaadoor", sum := "75f10a02109e7169cb6a0065714c4a5dabf6de19952a0954f33dba471b820334", func := "pomace/pomacelaw04.VersionOrder", spec := "versionOrder", inPlace := ["internal/bytealg.IndexByteString", "internal/bytealg.IndexString", "internal/bytealg.abigen_runtime_cmpstring", "internal/abi.NoEscape"], named := ["unicode/utf8.first", "unicode/utf8.acceptRanges", "internal/bytealg.MaxLen"], apart := false, laid := [("unicode/utf8.acceptRanges", laid_unicode_utf8_acceptRanges), ("unicode/utf8.first", laid_unicode_utf8_first)], narrowed := true }
def VersionOrderUptoSaid : Prop := versionOrderUptoRow.holds Tryd.pinned (OpenSpec.upto versionOrderSpec)

/-- 'pomacelaw04.VersionCanon', WHERE WHAT IT READS IS OF BULK AT MOST 1048576: true; the input reads as it did. -/
def versionCanonUptoRow : OpenClaim := { program := "ytjbpnhmjnkolbaadoor", sum := "75f10a02109e7169cb6a0065714c4a5dabf6de19952a0954f33dba471b820334", func := "pomace/pomacelaw04.VersionCanon", spec := "versionCanon", inPlace := ["internal/bytealg.IndexByteString", "internal/bytealg.IndexString", "internal/bytealg.abigen_runtime_cmpstring", "internal/abi.NoEscape"], named := ["unicode/utf8.first", "unicode/utf8.acceptRanges", "internal/bytealg.MaxLen"], apart := false, laid := [("unicode/utf8.acceptRanges", laid_unicode_utf8_acceptRanges), ("unicode/utf8.first", laid_unicode_utf8_first)], narrowed := true }
def VersionCanonUptoSaid : Prop := versionCanonUptoRow.holds Tryd.pinned (OpenSpec.upto versionCanonSpec)

/-- 'pomacelaw04.VersionNulls', WHERE WHAT IT READS IS OF BULK AT MOST 1048576: true; the input reads as it did. -/
def versionNullsUptoRow : OpenClaim := { program := "ytjbpnhmjnkolbaadoor", sum := "75f10a02109e7169cb6a0065714c4a5dabf6de19952a0954f33dba471b820334", func := "pomace/pomacelaw04.VersionNulls", spec := "versionNulls", inPlace := ["internal/bytealg.IndexByteString", "internal/bytealg.IndexString", "internal/bytealg.abigen_runtime_cmpstring", "internal/abi.NoEscape"], named := ["unicode/utf8.first", "unicode/utf8.acceptRanges", "internal/bytealg.MaxLen"], apart := false, laid := [("unicode/utf8.acceptRanges", laid_unicode_utf8_acceptRanges), ("unicode/utf8.first", laid_unicode_utf8_first)], narrowed := true }
def VersionNullsUptoSaid : Prop := versionNullsUptoRow.holds Tryd.pinned (OpenSpec.upto versionNullsSpec)

/-- 'pomacelaw04.VersionNumbers', WHERE WHAT IT READS IS OF BULK AT MOST 1048576: true; the input reads as it did. -/
def versionNumbersUptoRow : OpenClaim := { program := "ytjbpnhmjnkolbaadoor", sum := "75f10a02109e7169cb6a0065714c4a5dabf6de19952a0954f33dba471b820334", func := "pomace/pomacelaw04.VersionNumbers", spec := "versionNumbers", inPlace := ["internal/bytealg.IndexByteString", "internal/bytealg.IndexString", "internal/bytealg.abigen_runtime_cmpstring", "internal/abi.NoEscape"], recurses := true, named := ["unicode/utf8.first", "unicode/utf8.acceptRanges", "internal/bytealg.MaxLen"], apart := false, laid := [("unicode/utf8.acceptRanges", laid_unicode_utf8_acceptRanges), ("unicode/utf8.first", laid_unicode_utf8_first)], narrowed := true }
def VersionNumbersUptoSaid : Prop := versionNumbersUptoRow.holds Tryd.pinned (OpenSpec.upto versionNumbersSpec)

/-- 'pomacelaw04.VersionMays', WHERE WHAT IT READS IS OF BULK AT MOST 1048576: true; the input reads as it did. -/
def versionMaysUptoRow : OpenClaim := { program := "ytjbpnhmjnkolbaadoor", sum := "75f10a02109e7169cb6a0065714c4a5dabf6de19952a0954f33dba471b820334", func := "pomace/pomacelaw04.VersionMays", spec := "versionMays", inPlace := ["internal/bytealg.IndexByteString", "internal/bytealg.IndexString", "internal/bytealg.abigen_runtime_cmpstring", "internal/abi.NoEscape"], named := ["internal/bytealg.MaxLen", "unicode/utf8.first", "unicode/utf8.acceptRanges"], apart := false, laid := [("unicode/utf8.acceptRanges", laid_unicode_utf8_acceptRanges), ("unicode/utf8.first", laid_unicode_utf8_first)], narrowed := true }
def VersionMaysUptoSaid : Prop := versionMaysUptoRow.holds Tryd.pinned (OpenSpec.upto versionMaysSpec)

/-- 'pomacelaw04.VersionSorts', WHERE WHAT IT READS IS OF BULK AT MOST 1048576: true; the input reads as it did. -/
def versionSortsUptoRow : OpenClaim := { program := "ytjbpnhmjnkolbaadoor", sum := "75f10a02109e7169cb6a0065714c4a5dabf6de19952a0954f33dba471b820334", func := "pomace/pomacelaw04.VersionSorts", spec := "versionSorts", inPlace := ["internal/bytealg.IndexByteString", "internal/bytealg.IndexString", "internal/bytealg.abigen_runtime_cmpstring", "internal/abi.NoEscape"], unfollowed := true, recurses := true, named := ["unicode/utf8.first", "unicode/utf8.acceptRanges", "internal/bytealg.MaxLen"], apart := false, laid := [("unicode/utf8.acceptRanges", laid_unicode_utf8_acceptRanges), ("unicode/utf8.first", laid_unicode_utf8_first)], narrowed := true }
def VersionSortsUptoSaid : Prop := versionSortsUptoRow.holds Tryd.pinned (OpenSpec.upto versionSortsSpec)

end Rows
end Go.Proofs.YtjbpnhmjnkolbaaDoor
