/-
  NARROWER THAN 'FOR EVERY INPUT', by the rows' own cells (each row's printed sentence says how): SegmentNames: laid · SegmentPuts: laid · SegmentBack: laid · SegmentTorn: laid · SegmentKnown: laid · SegmentFrom: laid.
  DERIVED. THE GIVEN ROWS OF THIS SEAT. 6 by the template 'for every input the law returns true; each argument reads behind the call as it read before'; 0 by the template 'total and deterministic' (their statements: YtkaepcjkpaplfaaDoorTotals.lean).
  GIVEN WITH THE SEED: the statements are not yours to turn. If you find one false, say at which input.
  Laid BY PROGRAM, IN A SANDBOX (cutbox-rows.mjs): the forced cells as the released guide's own fill.sh prints them over the translation ac49d391b31c1449… (all of the seat's roots in one cut). By AI agents, Wed Nov 11 2026. No macro, syntax, notation, axiom, sorry.
-/
import Derived.Test.YtkaepcjkpaplfaaDoorChecked
import GoSem.PinnedTables
import GoSem.Claim
import GoSem.ClaimJoined
import GoSem.ClaimMapViews
import Derived.JoinedTies
import Derived.KernelRfl
namespace Go.Proofs.YtkaepcjkpaplfaaDoor
/- THE CELL 'sum', in the pinned program and in every row, IS THE sha256 OF THE DUMP (.gsa) THAT YtkaepcjkpaplfaaDoorProg.lean LOADS. Nothing in Lean hashes anything: it is a label: what it is worth is what the hold of that sum in a sandbox is worth. -/
noncomputable def Tryd.pinned : Pinned := { name := "ytkaepcjkpaplfaadoor", sum := "ac49d391b31c144964c07a5db4221c40c796428a892d3f2cc1b6a1d6e89e3647", checked := Tryd.checked }
namespace Rows
def none {H : Type} : Left H := { results := [], args := [] }

/- WHAT THE LISTED PACKAGE-LEVEL VARIABLES READ AS WHEN THE CALL BEGINS. Each datum BY PROGRAM (the guide's laid-datum.mjs) off the statement by which the dump's own 'gosem.cut.vars' lays the variable. In a bare row this is a premise. The card (YtkaepcjkpaplfaaDoorCards.lean) ties it to the program's text. -/
def laid_unicode_utf8_acceptRanges {H : Type} : DataW H := .agg [.agg [.lit (.int .u8 128), .lit (.int .u8 191)], .agg [.lit (.int .u8 160), .lit (.int .u8 191)], .agg [.lit (.int .u8 128), .lit (.int .u8 159)], .agg [.lit (.int .u8 144), .lit (.int .u8 191)], .agg [.lit (.int .u8 128), .lit (.int .u8 143)], .agg [.lit (.int .u8 0), .lit (.int .u8 0)], .agg [.lit (.int .u8 0), .lit (.int .u8 0)], .agg [.lit (.int .u8 0), .lit (.int .u8 0)], .agg [.lit (.int .u8 0), .lit (.int .u8 0)], .agg [.lit (.int .u8 0), .lit (.int .u8 0)], .agg [.lit (.int .u8 0), .lit (.int .u8 0)], .agg [.lit (.int .u8 0), .lit (.int .u8 0)], .agg [.lit (.int .u8 0), .lit (.int .u8 0)], .agg [.lit (.int .u8 0), .lit (.int .u8 0)], .agg [.lit (.int .u8 0), .lit (.int .u8 0)], .agg [.lit (.int .u8 0), .lit (.int .u8 0)]]
/-- One of Go's own tables, pinned by name: the form's constant. -/
def laid_unicode_utf8_first : DataW Unit := Go.Pinned.utf8First

/-- 'pneumaticlaw12.SegmentNames': WHATEVER THE INPUT: true; the input reads as it did. -/
def segmentNamesSpec : ChangeSpec := { name := "segmentNames", fn := fun _ => fun
  | [d1, d2, d3] => { results := [.lit (.bool true)], args := [d1, d2, d3] }
  | _ => none }
def segmentNamesRow : OpenClaim := { program := "ytkaepcjkpaplfaadoor", sum := "ac49d391b31c144964c07a5db4221c40c796428a892d3f2cc1b6a1d6e89e3647", func := "pneumatic/pneumaticlaw12.SegmentNames", spec := "segmentNames", inPlace := ["internal/bytealg.IndexByteString", "internal/bytealg.IndexString"], unfollowed := true, recurses := true, named := ["unicode/utf8.first", "unicode/utf8.acceptRanges", "internal/bytealg.MaxLen"], apart := false, laid := [("unicode/utf8.acceptRanges", laid_unicode_utf8_acceptRanges), ("unicode/utf8.first", laid_unicode_utf8_first)] }
def SegmentNamesSaid : Prop := segmentNamesRow.holds Tryd.pinned (OpenSpec.ofChange segmentNamesSpec)

/-- ITS FALSE NEIGHBOUR: 'it returns false'. Refute it at one input. -/
def segmentNamesWrong : ChangeSpec := { name := "segmentNames", fn := fun _ => fun
  | [d1, d2, d3] => { results := [.lit (.bool false)], args := [d1, d2, d3] }
  | _ => none }
def SegmentNamesWrongFalsely : Prop := segmentNamesRow.holds Tryd.pinned (OpenSpec.ofChange segmentNamesWrong)

/-- 'pneumaticlaw12.SegmentPuts': WHATEVER THE INPUT: true; the input reads as it did. -/
def segmentPutsSpec : ChangeSpec := { name := "segmentPuts", fn := fun _ => fun
  | [d1, d2, d3] => { results := [.lit (.bool true)], args := [d1, d2, d3] }
  | _ => none }
def segmentPutsRow : OpenClaim := { program := "ytkaepcjkpaplfaadoor", sum := "ac49d391b31c144964c07a5db4221c40c796428a892d3f2cc1b6a1d6e89e3647", func := "pneumatic/pneumaticlaw12.SegmentPuts", spec := "segmentPuts", inPlace := ["internal/bytealg.IndexByteString", "internal/bytealg.IndexString"], unfollowed := true, recurses := true, named := ["unicode/utf8.first", "unicode/utf8.acceptRanges", "internal/bytealg.MaxLen"], apart := false, laid := [("unicode/utf8.acceptRanges", laid_unicode_utf8_acceptRanges), ("unicode/utf8.first", laid_unicode_utf8_first)] }
def SegmentPutsSaid : Prop := segmentPutsRow.holds Tryd.pinned (OpenSpec.ofChange segmentPutsSpec)

/-- ITS FALSE NEIGHBOUR: 'it returns false'. Refute it at one input. -/
def segmentPutsWrong : ChangeSpec := { name := "segmentPuts", fn := fun _ => fun
  | [d1, d2, d3] => { results := [.lit (.bool false)], args := [d1, d2, d3] }
  | _ => none }
def SegmentPutsWrongFalsely : Prop := segmentPutsRow.holds Tryd.pinned (OpenSpec.ofChange segmentPutsWrong)

/-- 'pneumaticlaw12.SegmentBack': WHATEVER THE INPUT: true; the input reads as it did. -/
def segmentBackSpec : ChangeSpec := { name := "segmentBack", fn := fun _ => fun
  | [d] => { results := [.lit (.bool true)], args := [d] }
  | _ => none }
def segmentBackRow : OpenClaim := { program := "ytkaepcjkpaplfaadoor", sum := "ac49d391b31c144964c07a5db4221c40c796428a892d3f2cc1b6a1d6e89e3647", func := "pneumatic/pneumaticlaw12.SegmentBack", spec := "segmentBack", inPlace := ["internal/bytealg.IndexByteString", "internal/bytealg.IndexString"], unfollowed := true, recurses := true, named := ["unicode/utf8.first", "unicode/utf8.acceptRanges", "internal/bytealg.MaxLen"], apart := false, laid := [("unicode/utf8.acceptRanges", laid_unicode_utf8_acceptRanges), ("unicode/utf8.first", laid_unicode_utf8_first)] }
def SegmentBackSaid : Prop := segmentBackRow.holds Tryd.pinned (OpenSpec.ofChange segmentBackSpec)

/-- ITS FALSE NEIGHBOUR: 'it returns false'. Refute it at one input. -/
def segmentBackWrong : ChangeSpec := { name := "segmentBack", fn := fun _ => fun
  | [d] => { results := [.lit (.bool false)], args := [d] }
  | _ => none }
def SegmentBackWrongFalsely : Prop := segmentBackRow.holds Tryd.pinned (OpenSpec.ofChange segmentBackWrong)

/-- 'pneumaticlaw12.SegmentTorn': WHATEVER THE INPUT: true; the input reads as it did. -/
def segmentTornSpec : ChangeSpec := { name := "segmentTorn", fn := fun _ => fun
  | [d1, d2, d3] => { results := [.lit (.bool true)], args := [d1, d2, d3] }
  | _ => none }
def segmentTornRow : OpenClaim := { program := "ytkaepcjkpaplfaadoor", sum := "ac49d391b31c144964c07a5db4221c40c796428a892d3f2cc1b6a1d6e89e3647", func := "pneumatic/pneumaticlaw12.SegmentTorn", spec := "segmentTorn", inPlace := ["internal/bytealg.IndexByteString", "internal/bytealg.IndexString"], unfollowed := true, recurses := true, named := ["unicode/utf8.first", "unicode/utf8.acceptRanges", "internal/bytealg.MaxLen"], apart := false, laid := [("unicode/utf8.acceptRanges", laid_unicode_utf8_acceptRanges), ("unicode/utf8.first", laid_unicode_utf8_first)] }
def SegmentTornSaid : Prop := segmentTornRow.holds Tryd.pinned (OpenSpec.ofChange segmentTornSpec)

/-- ITS FALSE NEIGHBOUR: 'it returns false'. Refute it at one input. -/
def segmentTornWrong : ChangeSpec := { name := "segmentTorn", fn := fun _ => fun
  | [d1, d2, d3] => { results := [.lit (.bool false)], args := [d1, d2, d3] }
  | _ => none }
def SegmentTornWrongFalsely : Prop := segmentTornRow.holds Tryd.pinned (OpenSpec.ofChange segmentTornWrong)

/-- 'pneumaticlaw12.SegmentKnown': WHATEVER THE INPUT: true; the input reads as it did. -/
def segmentKnownSpec : ChangeSpec := { name := "segmentKnown", fn := fun _ => fun
  | [] => { results := [.lit (.bool true)], args := [] }
  | _ => none }
def segmentKnownRow : OpenClaim := { program := "ytkaepcjkpaplfaadoor", sum := "ac49d391b31c144964c07a5db4221c40c796428a892d3f2cc1b6a1d6e89e3647", func := "pneumatic/pneumaticlaw12.SegmentKnown", spec := "segmentKnown", inPlace := ["internal/bytealg.IndexByteString", "internal/bytealg.IndexString"], unfollowed := true, recurses := true, named := ["unicode/utf8.first", "unicode/utf8.acceptRanges", "internal/bytealg.MaxLen"], apart := false, laid := [("unicode/utf8.acceptRanges", laid_unicode_utf8_acceptRanges), ("unicode/utf8.first", laid_unicode_utf8_first)] }
def SegmentKnownSaid : Prop := segmentKnownRow.holds Tryd.pinned (OpenSpec.ofChange segmentKnownSpec)

/-- ITS FALSE NEIGHBOUR: 'it returns false'. Refute it at one input. -/
def segmentKnownWrong : ChangeSpec := { name := "segmentKnown", fn := fun _ => fun
  | [] => { results := [.lit (.bool false)], args := [] }
  | _ => none }
def SegmentKnownWrongFalsely : Prop := segmentKnownRow.holds Tryd.pinned (OpenSpec.ofChange segmentKnownWrong)

/-- 'pneumaticlaw12.SegmentFrom': WHATEVER THE INPUT: true; the input reads as it did. -/
def segmentFromSpec : ChangeSpec := { name := "segmentFrom", fn := fun _ => fun
  | [d] => { results := [.lit (.bool true)], args := [d] }
  | _ => none }
def segmentFromRow : OpenClaim := { program := "ytkaepcjkpaplfaadoor", sum := "ac49d391b31c144964c07a5db4221c40c796428a892d3f2cc1b6a1d6e89e3647", func := "pneumatic/pneumaticlaw12.SegmentFrom", spec := "segmentFrom", inPlace := ["internal/bytealg.IndexByteString", "internal/bytealg.IndexString"], unfollowed := true, recurses := true, named := ["unicode/utf8.first", "unicode/utf8.acceptRanges", "internal/bytealg.MaxLen"], apart := false, laid := [("unicode/utf8.acceptRanges", laid_unicode_utf8_acceptRanges), ("unicode/utf8.first", laid_unicode_utf8_first)] }
def SegmentFromSaid : Prop := segmentFromRow.holds Tryd.pinned (OpenSpec.ofChange segmentFromSpec)

/-- ITS FALSE NEIGHBOUR: 'it returns false'. Refute it at one input. -/
def segmentFromWrong : ChangeSpec := { name := "segmentFrom", fn := fun _ => fun
  | [d] => { results := [.lit (.bool false)], args := [d] }
  | _ => none }
def SegmentFromWrongFalsely : Prop := segmentFromRow.holds Tryd.pinned (OpenSpec.ofChange segmentFromWrong)

/- THE SECOND FORM. 'bulk': how many values and letters a reading holds, each counted each time it is reached (what is shared counts as often as it is met; a slice's spare places count too). A statement '..UptoSaid' is the law's where the arguments, and the package variables that the reading takes, are together of bulk at most 1048576: NARROWER than '..Said'. Prove '..Said' where nothing that the law and all that it calls make is longer than what came in: it says more and counts as full. Else prove '..UptoSaid'. A law counts once. -/
mutual
def uptoBulk {H : Type} : DataW H → Nat
  | .lit (.string bytes) => bytes.length + 1
  | .lit _ => 1
  | .nil => 1
  | .ptr d => uptoBulk d + 1
  | .slice elems spare => uptoBulkAll elems + uptoBulkAll spare + 1
  | .agg parts => uptoBulkAll parts + 1
  | .iface _ d => uptoBulk d + 1
  | .map entries => uptoBulkEntries entries + 1
  | .held _ => 1
def uptoBulkAll {H : Type} : List (DataW H) → Nat
  | [] => 0
  | d :: r => uptoBulk d + uptoBulkAll r
def uptoBulkEntries {H : Type} : List (Lit × DataW H) → Nat
  | [] => 0
  | x :: r => uptoBulkEntry x + uptoBulkEntries r
def uptoBulkEntry {H : Type} : Lit × DataW H → Nat
  | (.string bytes, d) => bytes.length + uptoBulk d + 1
  | (_, d) => uptoBulk d + 1
 end
def uptoSmall : (H : Type) → List (DataW H) → Bool := fun _ ds => decide (uptoBulkAll ds ≤ 1048576)
def OpenSpec.upto (s : _root_.Go.ChangeSpec) : _root_.Go.OpenSpec := { _root_.Go.OpenSpec.ofChange s with cond := some uptoSmall }

/-- 'pneumaticlaw12.SegmentNames', WHERE WHAT IT READS IS OF BULK AT MOST 1048576: true; the input reads as it did. -/
def segmentNamesUptoRow : OpenClaim := { program := "ytkaepcjkpaplfaadoor", sum := "ac49d391b31c144964c07a5db4221c40c796428a892d3f2cc1b6a1d6e89e3647", func := "pneumatic/pneumaticlaw12.SegmentNames", spec := "segmentNames", inPlace := ["internal/bytealg.IndexByteString", "internal/bytealg.IndexString"], unfollowed := true, recurses := true, named := ["unicode/utf8.first", "unicode/utf8.acceptRanges", "internal/bytealg.MaxLen"], apart := false, laid := [("unicode/utf8.acceptRanges", laid_unicode_utf8_acceptRanges), ("unicode/utf8.first", laid_unicode_utf8_first)], narrowed := true }
def SegmentNamesUptoSaid : Prop := segmentNamesUptoRow.holds Tryd.pinned (OpenSpec.upto segmentNamesSpec)

/-- 'pneumaticlaw12.SegmentPuts', WHERE WHAT IT READS IS OF BULK AT MOST 1048576: true; the input reads as it did. -/
def segmentPutsUptoRow : OpenClaim := { program := "ytkaepcjkpaplfaadoor", sum := "ac49d391b31c144964c07a5db4221c40c796428a892d3f2cc1b6a1d6e89e3647", func := "pneumatic/pneumaticlaw12.SegmentPuts", spec := "segmentPuts", inPlace := ["internal/bytealg.IndexByteString", "internal/bytealg.IndexString"], unfollowed := true, recurses := true, named := ["unicode/utf8.first", "unicode/utf8.acceptRanges", "internal/bytealg.MaxLen"], apart := false, laid := [("unicode/utf8.acceptRanges", laid_unicode_utf8_acceptRanges), ("unicode/utf8.first", laid_unicode_utf8_first)], narrowed := true }
def SegmentPutsUptoSaid : Prop := segmentPutsUptoRow.holds Tryd.pinned (OpenSpec.upto segmentPutsSpec)

/-- 'pneumaticlaw12.SegmentBack', WHERE WHAT IT READS IS OF BULK AT MOST 1048576: true; the input reads as it did. -/
def segmentBackUptoRow : OpenClaim := { program := "ytkaepcjkpaplfaadoor", sum := "ac49d391b31c144964c07a5db4221c40c796428a892d3f2cc1b6a1d6e89e3647", func := "pneumatic/pneumaticlaw12.SegmentBack", spec := "segmentBack", inPlace := ["internal/bytealg.IndexByteString", "internal/bytealg.IndexString"], unfollowed := true, recurses := true, named := ["unicode/utf8.first", "unicode/utf8.acceptRanges", "internal/bytealg.MaxLen"], apart := false, laid := [("unicode/utf8.acceptRanges", laid_unicode_utf8_acceptRanges), ("unicode/utf8.first", laid_unicode_utf8_first)], narrowed := true }
def SegmentBackUptoSaid : Prop := segmentBackUptoRow.holds Tryd.pinned (OpenSpec.upto segmentBackSpec)

/-- 'pneumaticlaw12.SegmentTorn', WHERE WHAT IT READS IS OF BULK AT MOST 1048576: true; the input reads as it did. -/
def segmentTornUptoRow : OpenClaim := { program := "ytkaepcjkpaplfaadoor", sum := "ac49d391b31c144964c07a5db4221c40c796428a892d3f2cc1b6a1d6e89e3647", func := "pneumatic/pneumaticlaw12.SegmentTorn", spec := "segmentTorn", inPlace := ["internal/bytealg.IndexByteString", "internal/bytealg.IndexString"], unfollowed := true, recurses := true, named := ["unicode/utf8.first", "unicode/utf8.acceptRanges", "internal/bytealg.MaxLen"], apart := false, laid := [("unicode/utf8.acceptRanges", laid_unicode_utf8_acceptRanges), ("unicode/utf8.first", laid_unicode_utf8_first)], narrowed := true }
def SegmentTornUptoSaid : Prop := segmentTornUptoRow.holds Tryd.pinned (OpenSpec.upto segmentTornSpec)

/-- 'pneumaticlaw12.SegmentKnown', WHERE WHAT IT READS IS OF BULK AT MOST 1048576: true; the input reads as it did. -/
def segmentKnownUptoRow : OpenClaim := { program := "ytkaepcjkpaplfaadoor", sum := "ac49d391b31c144964c07a5db4221c40c796428a892d3f2cc1b6a1d6e89e3647", func := "pneumatic/pneumaticlaw12.SegmentKnown", spec := "segmentKnown", inPlace := ["internal/bytealg.IndexByteString", "internal/bytealg.IndexString"], unfollowed := true, recurses := true, named := ["unicode/utf8.first", "unicode/utf8.acceptRanges", "internal/bytealg.MaxLen"], apart := false, laid := [("unicode/utf8.acceptRanges", laid_unicode_utf8_acceptRanges), ("unicode/utf8.first", laid_unicode_utf8_first)], narrowed := true }
def SegmentKnownUptoSaid : Prop := segmentKnownUptoRow.holds Tryd.pinned (OpenSpec.upto segmentKnownSpec)

/-- 'pneumaticlaw12.SegmentFrom', WHERE WHAT IT READS IS OF BULK AT MOST 1048576: true; the input reads as it did. -/
def segmentFromUptoRow : OpenClaim := { program := "ytkaepcjkpaplfaadoor", sum := "ac49d391b31c144964c07a5db4221c40c796428a892d3f2cc1b6a1d6e89e3647", func := "pneumatic/pneumaticlaw12.SegmentFrom", spec := "segmentFrom", inPlace := ["internal/bytealg.IndexByteString", "internal/bytealg.IndexString"], unfollowed := true, recurses := true, named := ["unicode/utf8.first", "unicode/utf8.acceptRanges", "internal/bytealg.MaxLen"], apart := false, laid := [("unicode/utf8.acceptRanges", laid_unicode_utf8_acceptRanges), ("unicode/utf8.first", laid_unicode_utf8_first)], narrowed := true }
def SegmentFromUptoSaid : Prop := segmentFromUptoRow.holds Tryd.pinned (OpenSpec.upto segmentFromSpec)

end Rows
end Go.Proofs.YtkaepcjkpaplfaaDoor
