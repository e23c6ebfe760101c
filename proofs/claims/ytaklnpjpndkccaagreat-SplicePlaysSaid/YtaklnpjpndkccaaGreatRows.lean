/-
  No cell of these rows narrows 'for every input' (looked for: loops, veiled, ifaces, maps, wideKeys, modest, calm, conditions, laid).
  DERIVED. THE GIVEN ROWS OF THIS SEAT. 4 by the template 'for every input the law returns true; each argument reads behind the call as it read before'; 0 by the template 'total and deterministic' (their statements: YtaklnpjpndkccaaGreatTotals.lean).
  GIVEN WITH THE SEED: the statements are not yours to turn. If you find one false, say at which input.
  Laid BY PROGRAM, IN A SANDBOX (cutbox-rows.mjs): the forced cells as the released guide's own fill.sh prints them over the translation 8ffb0b091a22d5d2… (all of the seat's roots in one cut). By AI agents, Wed Nov 11 2026. No macro, syntax, notation, axiom, sorry.
-/
import Derived.Test.YtaklnpjpndkccaaGreatChecked
import GoSem.Claim
import GoSem.ClaimJoined
import GoSem.ClaimMapViews
import Derived.JoinedTies
import Derived.KernelRfl
namespace Go.Proofs.YtaklnpjpndkccaaGreat
/- THE CELL 'sum', in the pinned program and in every row, IS THE sha256 OF THE DUMP (.gsa) THAT YtaklnpjpndkccaaGreatProg.lean LOADS. Nothing in Lean hashes anything: it is a label: what it is worth is what the hold of that sum in a sandbox is worth. -/
noncomputable def Tryz.pinned : Pinned := { name := "ytaklnpjpndkccaagreat", sum := "8ffb0b091a22d5d21c275714e2d1c4bb7dc34445f14bd145f6e6e25efd6c8b7b", checked := Tryz.checked }
namespace Rows
def none {H : Type} : Left H := { results := [], args := [] }

/-- 'pneumaticlaw26.SpliceRising': WHATEVER THE INPUT: true; the input reads as it did. -/
def spliceRisingSpec : ChangeSpec := { name := "spliceRising", fn := fun _ => fun
  | [d1, d2, d3] => { results := [.lit (.bool true)], args := [d1, d2, d3] }
  | _ => none }
def spliceRisingRow : OpenClaim := { program := "ytaklnpjpndkccaagreat", sum := "8ffb0b091a22d5d21c275714e2d1c4bb7dc34445f14bd145f6e6e25efd6c8b7b", func := "pneumatic/pneumaticlaw26.SpliceRising", spec := "spliceRising", inPlace := ["internal/bytealg.abigen_runtime_cmpstring"], unfollowed := true, recurses := true, apart := false }
def SpliceRisingSaid : Prop := spliceRisingRow.holds Tryz.pinned (OpenSpec.ofChange spliceRisingSpec)

/-- ITS FALSE NEIGHBOUR: 'it returns false'. Refute it at one input. -/
def spliceRisingWrong : ChangeSpec := { name := "spliceRising", fn := fun _ => fun
  | [d1, d2, d3] => { results := [.lit (.bool false)], args := [d1, d2, d3] }
  | _ => none }
def SpliceRisingWrongFalsely : Prop := spliceRisingRow.holds Tryz.pinned (OpenSpec.ofChange spliceRisingWrong)

/-- 'pneumaticlaw26.SpliceWhole': WHATEVER THE INPUT: true; the input reads as it did. -/
def spliceWholeSpec : ChangeSpec := { name := "spliceWhole", fn := fun _ => fun
  | [d1, d2, d3] => { results := [.lit (.bool true)], args := [d1, d2, d3] }
  | _ => none }
def spliceWholeRow : OpenClaim := { program := "ytaklnpjpndkccaagreat", sum := "8ffb0b091a22d5d21c275714e2d1c4bb7dc34445f14bd145f6e6e25efd6c8b7b", func := "pneumatic/pneumaticlaw26.SpliceWhole", spec := "spliceWhole", inPlace := ["internal/bytealg.abigen_runtime_cmpstring"], unfollowed := true, recurses := true, apart := false }
def SpliceWholeSaid : Prop := spliceWholeRow.holds Tryz.pinned (OpenSpec.ofChange spliceWholeSpec)

/-- ITS FALSE NEIGHBOUR: 'it returns false'. Refute it at one input. -/
def spliceWholeWrong : ChangeSpec := { name := "spliceWhole", fn := fun _ => fun
  | [d1, d2, d3] => { results := [.lit (.bool false)], args := [d1, d2, d3] }
  | _ => none }
def SpliceWholeWrongFalsely : Prop := spliceWholeRow.holds Tryz.pinned (OpenSpec.ofChange spliceWholeWrong)

/-- 'pneumaticlaw26.SpliceKnown': WHATEVER THE INPUT: true; the input reads as it did. -/
def spliceKnownSpec : ChangeSpec := { name := "spliceKnown", fn := fun _ => fun
  | [] => { results := [.lit (.bool true)], args := [] }
  | _ => none }
def spliceKnownRow : OpenClaim := { program := "ytaklnpjpndkccaagreat", sum := "8ffb0b091a22d5d21c275714e2d1c4bb7dc34445f14bd145f6e6e25efd6c8b7b", func := "pneumatic/pneumaticlaw26.SpliceKnown", spec := "spliceKnown", inPlace := ["internal/bytealg.abigen_runtime_cmpstring"], unfollowed := true, recurses := true, apart := false }
def SpliceKnownSaid : Prop := spliceKnownRow.holds Tryz.pinned (OpenSpec.ofChange spliceKnownSpec)

/-- ITS FALSE NEIGHBOUR: 'it returns false'. Refute it at one input. -/
def spliceKnownWrong : ChangeSpec := { name := "spliceKnown", fn := fun _ => fun
  | [] => { results := [.lit (.bool false)], args := [] }
  | _ => none }
def SpliceKnownWrongFalsely : Prop := spliceKnownRow.holds Tryz.pinned (OpenSpec.ofChange spliceKnownWrong)

/-- 'pneumaticlaw26.SplicePlays': WHATEVER THE INPUT: true; the input reads as it did. -/
def splicePlaysSpec : ChangeSpec := { name := "splicePlays", fn := fun _ => fun
  | [d1, d2, d3] => { results := [.lit (.bool true)], args := [d1, d2, d3] }
  | _ => none }
def splicePlaysRow : OpenClaim := { program := "ytaklnpjpndkccaagreat", sum := "8ffb0b091a22d5d21c275714e2d1c4bb7dc34445f14bd145f6e6e25efd6c8b7b", func := "pneumatic/pneumaticlaw26.SplicePlays", spec := "splicePlays", inPlace := ["internal/bytealg.abigen_runtime_cmpstring"], unfollowed := true, recurses := true, apart := false }
def SplicePlaysSaid : Prop := splicePlaysRow.holds Tryz.pinned (OpenSpec.ofChange splicePlaysSpec)

/-- ITS FALSE NEIGHBOUR: 'it returns false'. Refute it at one input. -/
def splicePlaysWrong : ChangeSpec := { name := "splicePlays", fn := fun _ => fun
  | [d1, d2, d3] => { results := [.lit (.bool false)], args := [d1, d2, d3] }
  | _ => none }
def SplicePlaysWrongFalsely : Prop := splicePlaysRow.holds Tryz.pinned (OpenSpec.ofChange splicePlaysWrong)

/- THE SECOND FORM. 'bulk': how many values and letters a reading holds, each counted each time it is reached (what is shared counts as often as it is met; a slice's spare places count too). A statement '..UptoSaid' is the law's where the arguments, and the package variables that the reading takes, are together of bulk at most 1048576: NARROWER than '..Said'. Prove '..Said' where nothing that the law and all that it calls make is longer than what came in: it says more and counts as full. Else prove '..UptoSaid'. A law counts once. -/
mutual
def uptoBulk {H : Type} : DataW H → Nat
  | .lit (.string bytes) => bytes.length + 1
  | .lit _ => 1
  | .nil => 1
  | .ptr d => uptoBulk d + 1
  | .slice elems spare => uptoBulkAll elems + uptoBulkAll spare + 1
  | .agg parts => uptoBulkAll parts + 1
  | .iface _ d => uptoBulk d + 1
  | .map entries => uptoBulkEntries entries + 1
  | .held _ => 1
def uptoBulkAll {H : Type} : List (DataW H) → Nat
  | [] => 0
  | d :: r => uptoBulk d + uptoBulkAll r
def uptoBulkEntries {H : Type} : List (Lit × DataW H) → Nat
  | [] => 0
  | x :: r => uptoBulkEntry x + uptoBulkEntries r
def uptoBulkEntry {H : Type} : Lit × DataW H → Nat
  | (.string bytes, d) => bytes.length + uptoBulk d + 1
  | (_, d) => uptoBulk d + 1
 end
def uptoSmall : (H : Type) → List (DataW H) → Bool := fun _ ds => decide (uptoBulkAll ds ≤ 1048576)
def OpenSpec.upto (s : _root_.Go.ChangeSpec) : _root_.Go.OpenSpec := { _root_.Go.OpenSpec.ofChange s with cond := some uptoSmall }

/-- 'pneumaticlaw26.SpliceRising', WHERE WHAT IT READS IS OF BULK AT MOST 1048576: true; the input reads as it did. -/
def spliceRisingUptoRow : OpenClaim := { program := "ytaklnpjpndkccaagreat", sum := "8ffb0b091a22d5d21c275714e2d1c4bb7dc34445f14bd145f6e6e25efd6c8b7b", func := "pneumatic/pneumaticlaw26.SpliceRising", spec := "spliceRising", inPlace := ["internal/bytealg.abigen_runtime_cmpstring"], unfollowed := true, recurses := true, apart := false, narrowed := true }
def SpliceRisingUptoSaid : Prop := spliceRisingUptoRow.holds Tryz.pinned (OpenSpec.upto spliceRisingSpec)

/-- 'pneumaticlaw26.SpliceWhole', WHERE WHAT IT READS IS OF BULK AT MOST 1048576: true; the input reads as it did. -/
def spliceWholeUptoRow : OpenClaim := { program := "ytaklnpjpndkccaagreat", sum := "8ffb0b091a22d5d21c275714e2d1c4bb7dc34445f14bd145f6e6e25efd6c8b7b", func := "pneumatic/pneumaticlaw26.SpliceWhole", spec := "spliceWhole", inPlace := ["internal/bytealg.abigen_runtime_cmpstring"], unfollowed := true, recurses := true, apart := false, narrowed := true }
def SpliceWholeUptoSaid : Prop := spliceWholeUptoRow.holds Tryz.pinned (OpenSpec.upto spliceWholeSpec)

/-- 'pneumaticlaw26.SpliceKnown', WHERE WHAT IT READS IS OF BULK AT MOST 1048576: true; the input reads as it did. -/
def spliceKnownUptoRow : OpenClaim := { program := "ytaklnpjpndkccaagreat", sum := "8ffb0b091a22d5d21c275714e2d1c4bb7dc34445f14bd145f6e6e25efd6c8b7b", func := "pneumatic/pneumaticlaw26.SpliceKnown", spec := "spliceKnown", inPlace := ["internal/bytealg.abigen_runtime_cmpstring"], unfollowed := true, recurses := true, apart := false, narrowed := true }
def SpliceKnownUptoSaid : Prop := spliceKnownUptoRow.holds Tryz.pinned (OpenSpec.upto spliceKnownSpec)

/-- 'pneumaticlaw26.SplicePlays', WHERE WHAT IT READS IS OF BULK AT MOST 1048576: true; the input reads as it did. -/
def splicePlaysUptoRow : OpenClaim := { program := "ytaklnpjpndkccaagreat", sum := "8ffb0b091a22d5d21c275714e2d1c4bb7dc34445f14bd145f6e6e25efd6c8b7b", func := "pneumatic/pneumaticlaw26.SplicePlays", spec := "splicePlays", inPlace := ["internal/bytealg.abigen_runtime_cmpstring"], unfollowed := true, recurses := true, apart := false, narrowed := true }
def SplicePlaysUptoSaid : Prop := splicePlaysUptoRow.holds Tryz.pinned (OpenSpec.upto splicePlaysSpec)

end Rows
end Go.Proofs.YtaklnpjpndkccaaGreat
