/-
  No cell of these rows narrows 'for every input' (looked for: loops, veiled, ifaces, maps, wideKeys, modest, calm, conditions, laid).
  DERIVED. THE GIVEN ROWS OF THIS SEAT. 10 by the template 'for every input the law returns true; each argument reads behind the call as it read before'; 0 by the template 'total and deterministic' (their statements: YtkefppdacigbmaaTotals.lean).
  GIVEN WITH THE SEED: the statements are not yours to turn. If you find one false, say at which input.
  Laid BY PROGRAM, IN A SANDBOX (cutbox-rows.mjs): the forced cells as the released guide's own fill.sh prints them over the translation 059f3568264e2e4e… (all of the seat's roots in one cut). By AI agents, Wed Nov 11 2026. No macro, syntax, notation, axiom, sorry.
-/
import Derived.Test.YtkefppdacigbmaaChecked
import GoSem.Claim
import GoSem.ClaimJoined
import GoSem.ClaimMapViews
import Derived.JoinedTies
import Derived.KernelRfl
namespace Go.Proofs.Ytkefppdacigbmaa
/- THE CELL 'sum', in the pinned program and in every row, IS THE sha256 OF THE DUMP (.gsa) THAT YtkefppdacigbmaaProg.lean LOADS. Nothing in Lean hashes anything: it is a label: what it is worth is what the hold of that sum in a sandbox is worth. -/
noncomputable def Try.pinned : Pinned := { name := "ytkefppdacigbmaa", sum := "059f3568264e2e4e05080e29aab2da8178f36b50d852f4ae7177d0516002538a", checked := Try.checked }
namespace Rows
def none {H : Type} : Left H := { results := [], args := [] }

/-- 'pneumaticlaw04.PredHolds': WHATEVER THE INPUT: true; the input reads as it did. -/
def predHoldsSpec : ChangeSpec := { name := "predHolds", fn := fun _ => fun
  | [d1, d2, d3] => { results := [.lit (.bool true)], args := [d1, d2, d3] }
  | _ => none }
def predHoldsRow : OpenClaim := { program := "ytkefppdacigbmaa", sum := "059f3568264e2e4e05080e29aab2da8178f36b50d852f4ae7177d0516002538a", func := "pneumatic/pneumaticlaw04.PredHolds", spec := "predHolds", inPlace := ["internal/bytealg.abigen_runtime_cmpstring"], unfollowed := true, recurses := true, apart := false }
def PredHoldsSaid : Prop := predHoldsRow.holds Try.pinned (OpenSpec.ofChange predHoldsSpec)

/-- ITS FALSE NEIGHBOUR: 'it returns false'. Refute it at one input. -/
def predHoldsWrong : ChangeSpec := { name := "predHolds", fn := fun _ => fun
  | [d1, d2, d3] => { results := [.lit (.bool false)], args := [d1, d2, d3] }
  | _ => none }
def PredHoldsWrongFalsely : Prop := predHoldsRow.holds Try.pinned (OpenSpec.ofChange predHoldsWrong)

/-- 'pneumaticlaw04.PredNormal': WHATEVER THE INPUT: true; the input reads as it did. -/
def predNormalSpec : ChangeSpec := { name := "predNormal", fn := fun _ => fun
  | [d1, d2] => { results := [.lit (.bool true)], args := [d1, d2] }
  | _ => none }
def predNormalRow : OpenClaim := { program := "ytkefppdacigbmaa", sum := "059f3568264e2e4e05080e29aab2da8178f36b50d852f4ae7177d0516002538a", func := "pneumatic/pneumaticlaw04.PredNormal", spec := "predNormal", inPlace := ["internal/bytealg.abigen_runtime_cmpstring"], unfollowed := true, recurses := true, apart := false }
def PredNormalSaid : Prop := predNormalRow.holds Try.pinned (OpenSpec.ofChange predNormalSpec)

/-- ITS FALSE NEIGHBOUR: 'it returns false'. Refute it at one input. -/
def predNormalWrong : ChangeSpec := { name := "predNormal", fn := fun _ => fun
  | [d1, d2] => { results := [.lit (.bool false)], args := [d1, d2] }
  | _ => none }
def PredNormalWrongFalsely : Prop := predNormalRow.holds Try.pinned (OpenSpec.ofChange predNormalWrong)

/-- 'pneumaticlaw04.PredMore': WHATEVER THE INPUT: true; the input reads as it did. -/
def predMoreSpec : ChangeSpec := { name := "predMore", fn := fun _ => fun
  | [d1, d2, d3] => { results := [.lit (.bool true)], args := [d1, d2, d3] }
  | _ => none }
def predMoreRow : OpenClaim := { program := "ytkefppdacigbmaa", sum := "059f3568264e2e4e05080e29aab2da8178f36b50d852f4ae7177d0516002538a", func := "pneumatic/pneumaticlaw04.PredMore", spec := "predMore", inPlace := ["internal/bytealg.abigen_runtime_cmpstring"], unfollowed := true, recurses := true, apart := false }
def PredMoreSaid : Prop := predMoreRow.holds Try.pinned (OpenSpec.ofChange predMoreSpec)

/-- ITS FALSE NEIGHBOUR: 'it returns false'. Refute it at one input. -/
def predMoreWrong : ChangeSpec := { name := "predMore", fn := fun _ => fun
  | [d1, d2, d3] => { results := [.lit (.bool false)], args := [d1, d2, d3] }
  | _ => none }
def PredMoreWrongFalsely : Prop := predMoreRow.holds Try.pinned (OpenSpec.ofChange predMoreWrong)

/-- 'pneumaticlaw04.PredAsks': WHATEVER THE INPUT: true; the input reads as it did. -/
def predAsksSpec : ChangeSpec := { name := "predAsks", fn := fun _ => fun
  | [d1, d2, d3] => { results := [.lit (.bool true)], args := [d1, d2, d3] }
  | _ => none }
def predAsksRow : OpenClaim := { program := "ytkefppdacigbmaa", sum := "059f3568264e2e4e05080e29aab2da8178f36b50d852f4ae7177d0516002538a", func := "pneumatic/pneumaticlaw04.PredAsks", spec := "predAsks", inPlace := ["internal/bytealg.abigen_runtime_cmpstring"], unfollowed := true, recurses := true, apart := false }
def PredAsksSaid : Prop := predAsksRow.holds Try.pinned (OpenSpec.ofChange predAsksSpec)

/-- ITS FALSE NEIGHBOUR: 'it returns false'. Refute it at one input. -/
def predAsksWrong : ChangeSpec := { name := "predAsks", fn := fun _ => fun
  | [d1, d2, d3] => { results := [.lit (.bool false)], args := [d1, d2, d3] }
  | _ => none }
def PredAsksWrongFalsely : Prop := predAsksRow.holds Try.pinned (OpenSpec.ofChange predAsksWrong)

/-- 'pneumaticlaw04.PredKnown': WHATEVER THE INPUT: true; the input reads as it did. -/
def predKnownSpec : ChangeSpec := { name := "predKnown", fn := fun _ => fun
  | [] => { results := [.lit (.bool true)], args := [] }
  | _ => none }
def predKnownRow : OpenClaim := { program := "ytkefppdacigbmaa", sum := "059f3568264e2e4e05080e29aab2da8178f36b50d852f4ae7177d0516002538a", func := "pneumatic/pneumaticlaw04.PredKnown", spec := "predKnown", inPlace := ["internal/bytealg.abigen_runtime_cmpstring"], unfollowed := true, recurses := true, apart := false }
def PredKnownSaid : Prop := predKnownRow.holds Try.pinned (OpenSpec.ofChange predKnownSpec)

/-- ITS FALSE NEIGHBOUR: 'it returns false'. Refute it at one input. -/
def predKnownWrong : ChangeSpec := { name := "predKnown", fn := fun _ => fun
  | [] => { results := [.lit (.bool false)], args := [] }
  | _ => none }
def PredKnownWrongFalsely : Prop := predKnownRow.holds Try.pinned (OpenSpec.ofChange predKnownWrong)

/-- 'pneumaticlaw05.CoverValues': WHATEVER THE INPUT: true; the input reads as it did. -/
def coverValuesSpec : ChangeSpec := { name := "coverValues", fn := fun _ => fun
  | [d1, d2, d3, d4] => { results := [.lit (.bool true)], args := [d1, d2, d3, d4] }
  | _ => none }
def coverValuesRow : OpenClaim := { program := "ytkefppdacigbmaa", sum := "059f3568264e2e4e05080e29aab2da8178f36b50d852f4ae7177d0516002538a", func := "pneumatic/pneumaticlaw05.CoverValues", spec := "coverValues", unfollowed := true, recurses := true, apart := false }
def CoverValuesSaid : Prop := coverValuesRow.holds Try.pinned (OpenSpec.ofChange coverValuesSpec)

/-- ITS FALSE NEIGHBOUR: 'it returns false'. Refute it at one input. -/
def coverValuesWrong : ChangeSpec := { name := "coverValues", fn := fun _ => fun
  | [d1, d2, d3, d4] => { results := [.lit (.bool false)], args := [d1, d2, d3, d4] }
  | _ => none }
def CoverValuesWrongFalsely : Prop := coverValuesRow.holds Try.pinned (OpenSpec.ofChange coverValuesWrong)

/-- 'pneumaticlaw05.CoverKnown': WHATEVER THE INPUT: true; the input reads as it did. -/
def coverKnownSpec : ChangeSpec := { name := "coverKnown", fn := fun _ => fun
  | [] => { results := [.lit (.bool true)], args := [] }
  | _ => none }
def coverKnownRow : OpenClaim := { program := "ytkefppdacigbmaa", sum := "059f3568264e2e4e05080e29aab2da8178f36b50d852f4ae7177d0516002538a", func := "pneumatic/pneumaticlaw05.CoverKnown", spec := "coverKnown", unfollowed := true, recurses := true, apart := false }
def CoverKnownSaid : Prop := coverKnownRow.holds Try.pinned (OpenSpec.ofChange coverKnownSpec)

/-- ITS FALSE NEIGHBOUR: 'it returns false'. Refute it at one input. -/
def coverKnownWrong : ChangeSpec := { name := "coverKnown", fn := fun _ => fun
  | [] => { results := [.lit (.bool false)], args := [] }
  | _ => none }
def CoverKnownWrongFalsely : Prop := coverKnownRow.holds Try.pinned (OpenSpec.ofChange coverKnownWrong)

/-- 'pneumaticlaw06.OverlapApart': WHATEVER THE INPUT: true; the input reads as it did. -/
def overlapApartSpec : ChangeSpec := { name := "overlapApart", fn := fun _ => fun
  | [d1, d2] => { results := [.lit (.bool true)], args := [d1, d2] }
  | _ => none }
def overlapApartRow : OpenClaim := { program := "ytkefppdacigbmaa", sum := "059f3568264e2e4e05080e29aab2da8178f36b50d852f4ae7177d0516002538a", func := "pneumatic/pneumaticlaw06.OverlapApart", spec := "overlapApart", unfollowed := true, recurses := true, apart := false }
def OverlapApartSaid : Prop := overlapApartRow.holds Try.pinned (OpenSpec.ofChange overlapApartSpec)

/-- ITS FALSE NEIGHBOUR: 'it returns false'. Refute it at one input. -/
def overlapApartWrong : ChangeSpec := { name := "overlapApart", fn := fun _ => fun
  | [d1, d2] => { results := [.lit (.bool false)], args := [d1, d2] }
  | _ => none }
def OverlapApartWrongFalsely : Prop := overlapApartRow.holds Try.pinned (OpenSpec.ofChange overlapApartWrong)

/-- 'pneumaticlaw06.OverlapKnown': WHATEVER THE INPUT: true; the input reads as it did. -/
def overlapKnownSpec : ChangeSpec := { name := "overlapKnown", fn := fun _ => fun
  | [] => { results := [.lit (.bool true)], args := [] }
  | _ => none }
def overlapKnownRow : OpenClaim := { program := "ytkefppdacigbmaa", sum := "059f3568264e2e4e05080e29aab2da8178f36b50d852f4ae7177d0516002538a", func := "pneumatic/pneumaticlaw06.OverlapKnown", spec := "overlapKnown", unfollowed := true, recurses := true, apart := false }
def OverlapKnownSaid : Prop := overlapKnownRow.holds Try.pinned (OpenSpec.ofChange overlapKnownSpec)

/-- ITS FALSE NEIGHBOUR: 'it returns false'. Refute it at one input. -/
def overlapKnownWrong : ChangeSpec := { name := "overlapKnown", fn := fun _ => fun
  | [] => { results := [.lit (.bool false)], args := [] }
  | _ => none }
def OverlapKnownWrongFalsely : Prop := overlapKnownRow.holds Try.pinned (OpenSpec.ofChange overlapKnownWrong)

/-- 'pneumaticlaw06.OverlapCovers': WHATEVER THE INPUT: true; the input reads as it did. -/
def overlapCoversSpec : ChangeSpec := { name := "overlapCovers", fn := fun _ => fun
  | [d1, d2, d3] => { results := [.lit (.bool true)], args := [d1, d2, d3] }
  | _ => none }
def overlapCoversRow : OpenClaim := { program := "ytkefppdacigbmaa", sum := "059f3568264e2e4e05080e29aab2da8178f36b50d852f4ae7177d0516002538a", func := "pneumatic/pneumaticlaw06.OverlapCovers", spec := "overlapCovers", unfollowed := true, recurses := true, apart := false }
def OverlapCoversSaid : Prop := overlapCoversRow.holds Try.pinned (OpenSpec.ofChange overlapCoversSpec)

/-- ITS FALSE NEIGHBOUR: 'it returns false'. Refute it at one input. -/
def overlapCoversWrong : ChangeSpec := { name := "overlapCovers", fn := fun _ => fun
  | [d1, d2, d3] => { results := [.lit (.bool false)], args := [d1, d2, d3] }
  | _ => none }
def OverlapCoversWrongFalsely : Prop := overlapCoversRow.holds Try.pinned (OpenSpec.ofChange overlapCoversWrong)

/- THE SECOND FORM. 'bulk': how many values and letters a reading holds, each counted each time it is reached (what is shared counts as often as it is met; a slice's spare places count too). A statement '..UptoSaid' is the law's where the arguments, and the package variables that the reading takes, are together of bulk at most 1048576: NARROWER than '..Said'. Prove '..Said' where nothing that the law and all that it calls make is longer than what came in: it says more and counts as full. Else prove '..UptoSaid'. A law counts once. -/
mutual
def uptoBulk {H : Type} : DataW H → Nat
  | .lit (.string bytes) => bytes.length + 1
  | .lit _ => 1
  | .nil => 1
  | .ptr d => uptoBulk d + 1
  | .slice elems spare => uptoBulkAll elems + uptoBulkAll spare + 1
  | .agg parts => uptoBulkAll parts + 1
  | .iface _ d => uptoBulk d + 1
  | .map entries => uptoBulkEntries entries + 1
  | .held _ => 1
def uptoBulkAll {H : Type} : List (DataW H) → Nat
  | [] => 0
  | d :: r => uptoBulk d + uptoBulkAll r
def uptoBulkEntries {H : Type} : List (Lit × DataW H) → Nat
  | [] => 0
  | x :: r => uptoBulkEntry x + uptoBulkEntries r
def uptoBulkEntry {H : Type} : Lit × DataW H → Nat
  | (.string bytes, d) => bytes.length + uptoBulk d + 1
  | (_, d) => uptoBulk d + 1
 end
def uptoSmall : (H : Type) → List (DataW H) → Bool := fun _ ds => decide (uptoBulkAll ds ≤ 1048576)
def OpenSpec.upto (s : _root_.Go.ChangeSpec) : _root_.Go.OpenSpec := { _root_.Go.OpenSpec.ofChange s with cond := some uptoSmall }

/-- 'pneumaticlaw04.PredHolds', WHERE WHAT IT READS IS OF BULK AT MOST 1048576: true; the input reads as it did. -/
def predHoldsUptoRow : OpenClaim := { program := "ytkefppdacigbmaa", sum := "059f3568264e2e4e05080e29aab2da8178f36b50d852f4ae7177d0516002538a", func := "pneumatic/pneumaticlaw04.PredHolds", spec := "predHolds", inPlace := ["internal/bytealg.abigen_runtime_cmpstring"], unfollowed := true, recurses := true, apart := false, narrowed := true }
def PredHoldsUptoSaid : Prop := predHoldsUptoRow.holds Try.pinned (OpenSpec.upto predHoldsSpec)

/-- 'pneumaticlaw04.PredNormal', WHERE WHAT IT READS IS OF BULK AT MOST 1048576: true; the input reads as it did. -/
def predNormalUptoRow : OpenClaim := { program := "ytkefppdacigbmaa", sum := "059f3568264e2e4e05080e29aab2da8178f36b50d852f4ae7177d0516002538a", func := "pneumatic/pneumaticlaw04.PredNormal", spec := "predNormal", inPlace := ["internal/bytealg.abigen_runtime_cmpstring"], unfollowed := true, recurses := true, apart := false, narrowed := true }
def PredNormalUptoSaid : Prop := predNormalUptoRow.holds Try.pinned (OpenSpec.upto predNormalSpec)

/-- 'pneumaticlaw04.PredMore', WHERE WHAT IT READS IS OF BULK AT MOST 1048576: true; the input reads as it did. -/
def predMoreUptoRow : OpenClaim := { program := "ytkefppdacigbmaa", sum := "059f3568264e2e4e05080e29aab2da8178f36b50d852f4ae7177d0516002538a", func := "pneumatic/pneumaticlaw04.PredMore", spec := "predMore", inPlace := ["internal/bytealg.abigen_runtime_cmpstring"], unfollowed := true, recurses := true, apart := false, narrowed := true }
def PredMoreUptoSaid : Prop := predMoreUptoRow.holds Try.pinned (OpenSpec.upto predMoreSpec)

/-- 'pneumaticlaw04.PredAsks', WHERE WHAT IT READS IS OF BULK AT MOST 1048576: true; the input reads as it did. -/
def predAsksUptoRow : OpenClaim := { program := "ytkefppdacigbmaa", sum := "059f3568264e2e4e05080e29aab2da8178f36b50d852f4ae7177d0516002538a", func := "pneumatic/pneumaticlaw04.PredAsks", spec := "predAsks", inPlace := ["internal/bytealg.abigen_runtime_cmpstring"], unfollowed := true, recurses := true, apart := false, narrowed := true }
def PredAsksUptoSaid : Prop := predAsksUptoRow.holds Try.pinned (OpenSpec.upto predAsksSpec)

/-- 'pneumaticlaw04.PredKnown', WHERE WHAT IT READS IS OF BULK AT MOST 1048576: true; the input reads as it did. -/
def predKnownUptoRow : OpenClaim := { program := "ytkefppdacigbmaa", sum := "059f3568264e2e4e05080e29aab2da8178f36b50d852f4ae7177d0516002538a", func := "pneumatic/pneumaticlaw04.PredKnown", spec := "predKnown", inPlace := ["internal/bytealg.abigen_runtime_cmpstring"], unfollowed := true, recurses := true, apart := false, narrowed := true }
def PredKnownUptoSaid : Prop := predKnownUptoRow.holds Try.pinned (OpenSpec.upto predKnownSpec)

/-- 'pneumaticlaw05.CoverValues', WHERE WHAT IT READS IS OF BULK AT MOST 1048576: true; the input reads as it did. -/
def coverValuesUptoRow : OpenClaim := { program := "ytkefppdacigbmaa", sum := "059f3568264e2e4e05080e29aab2da8178f36b50d852f4ae7177d0516002538a", func := "pneumatic/pneumaticlaw05.CoverValues", spec := "coverValues", unfollowed := true, recurses := true, apart := false, narrowed := true }
def CoverValuesUptoSaid : Prop := coverValuesUptoRow.holds Try.pinned (OpenSpec.upto coverValuesSpec)

/-- 'pneumaticlaw05.CoverKnown', WHERE WHAT IT READS IS OF BULK AT MOST 1048576: true; the input reads as it did. -/
def coverKnownUptoRow : OpenClaim := { program := "ytkefppdacigbmaa", sum := "059f3568264e2e4e05080e29aab2da8178f36b50d852f4ae7177d0516002538a", func := "pneumatic/pneumaticlaw05.CoverKnown", spec := "coverKnown", unfollowed := true, recurses := true, apart := false, narrowed := true }
def CoverKnownUptoSaid : Prop := coverKnownUptoRow.holds Try.pinned (OpenSpec.upto coverKnownSpec)

/-- 'pneumaticlaw06.OverlapApart', WHERE WHAT IT READS IS OF BULK AT MOST 1048576: true; the input reads as it did. -/
def overlapApartUptoRow : OpenClaim := { program := "ytkefppdacigbmaa", sum := "059f3568264e2e4e05080e29aab2da8178f36b50d852f4ae7177d0516002538a", func := "pneumatic/pneumaticlaw06.OverlapApart", spec := "overlapApart", unfollowed := true, recurses := true, apart := false, narrowed := true }
def OverlapApartUptoSaid : Prop := overlapApartUptoRow.holds Try.pinned (OpenSpec.upto overlapApartSpec)

/-- 'pneumaticlaw06.OverlapKnown', WHERE WHAT IT READS IS OF BULK AT MOST 1048576: true; the input reads as it did. -/
def overlapKnownUptoRow : OpenClaim := { program := "ytkefppdacigbmaa", sum := "059f3568264e2e4e05080e29aab2da8178f36b50d852f4ae7177d0516002538a", func := "pneumatic/pneumaticlaw06.OverlapKnown", spec := "overlapKnown", unfollowed := true, recurses := true, apart := false, narrowed := true }
def OverlapKnownUptoSaid : Prop := overlapKnownUptoRow.holds Try.pinned (OpenSpec.upto overlapKnownSpec)

/-- 'pneumaticlaw06.OverlapCovers', WHERE WHAT IT READS IS OF BULK AT MOST 1048576: true; the input reads as it did. -/
def overlapCoversUptoRow : OpenClaim := { program := "ytkefppdacigbmaa", sum := "059f3568264e2e4e05080e29aab2da8178f36b50d852f4ae7177d0516002538a", func := "pneumatic/pneumaticlaw06.OverlapCovers", spec := "overlapCovers", unfollowed := true, recurses := true, apart := false, narrowed := true }
def OverlapCoversUptoSaid : Prop := overlapCoversUptoRow.holds Try.pinned (OpenSpec.upto overlapCoversSpec)

end Rows
end Go.Proofs.Ytkefppdacigbmaa
