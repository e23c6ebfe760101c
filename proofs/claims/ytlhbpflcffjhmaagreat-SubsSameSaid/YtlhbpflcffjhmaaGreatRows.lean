/-
  No cell of these rows narrows 'for every input' (looked for: loops, veiled, ifaces, maps, wideKeys, modest, calm, conditions, laid).
  DERIVED. THE GIVEN ROWS OF THIS SEAT. 4 by the template 'for every input the law returns true; each argument reads behind the call as it read before'; 0 by the template 'total and deterministic' (their statements: YtlhbpflcffjhmaaGreatTotals.lean).
  GIVEN WITH THE SEED: the statements are not yours to turn. If you find one false, say at which input.
  Laid BY PROGRAM, IN A SANDBOX (cutbox-rows.mjs): the forced cells as the released guide's own fill.sh prints them over the translation e3c1d096e3c87188… (all of the seat's roots in one cut). By AI agents, Wed Nov 11 2026. No macro, syntax, notation, axiom, sorry.
-/
import Derived.Test.YtlhbpflcffjhmaaGreatChecked
import GoSem.Claim
import GoSem.ClaimJoined
import GoSem.ClaimMapViews
import Derived.JoinedTies
import Derived.KernelRfl
namespace Go.Proofs.YtlhbpflcffjhmaaGreat
/- THE CELL 'sum', in the pinned program and in every row, IS THE sha256 OF THE DUMP (.gsa) THAT YtlhbpflcffjhmaaGreatProg.lean LOADS. Nothing in Lean hashes anything: it is a label: what it is worth is what the hold of that sum in a sandbox is worth. -/
noncomputable def Tryz.pinned : Pinned := { name := "ytlhbpflcffjhmaagreat", sum := "e3c1d096e3c87188579da9a4b8a244fe92690928209a02e271e70328104366b8", checked := Tryz.checked }
namespace Rows
def none {H : Type} : Left H := { results := [], args := [] }

/-- 'pneumaticlaw24.SubsTops': WHATEVER THE INPUT: true; the input reads as it did. -/
def subsTopsSpec : ChangeSpec := { name := "subsTops", fn := fun _ => fun
  | [d] => { results := [.lit (.bool true)], args := [d] }
  | _ => none }
def subsTopsRow : OpenClaim := { program := "ytlhbpflcffjhmaagreat", sum := "e3c1d096e3c87188579da9a4b8a244fe92690928209a02e271e70328104366b8", func := "pneumatic/pneumaticlaw24.SubsTops", spec := "subsTops", inPlace := ["internal/bytealg.abigen_runtime_cmpstring", "slices.overlaps[pneumatic/api.Pred]"], unfollowed := true, recurses := true, apart := false }
def SubsTopsSaid : Prop := subsTopsRow.holds Tryz.pinned (OpenSpec.ofChange subsTopsSpec)

/-- ITS FALSE NEIGHBOUR: 'it returns false'. Refute it at one input. -/
def subsTopsWrong : ChangeSpec := { name := "subsTops", fn := fun _ => fun
  | [d] => { results := [.lit (.bool false)], args := [d] }
  | _ => none }
def SubsTopsWrongFalsely : Prop := subsTopsRow.holds Tryz.pinned (OpenSpec.ofChange subsTopsWrong)

/-- 'pneumaticlaw24.SubsSame': WHATEVER THE INPUT: true; the input reads as it did. -/
def subsSameSpec : ChangeSpec := { name := "subsSame", fn := fun _ => fun
  | [d] => { results := [.lit (.bool true)], args := [d] }
  | _ => none }
def subsSameRow : OpenClaim := { program := "ytlhbpflcffjhmaagreat", sum := "e3c1d096e3c87188579da9a4b8a244fe92690928209a02e271e70328104366b8", func := "pneumatic/pneumaticlaw24.SubsSame", spec := "subsSame", inPlace := ["internal/bytealg.abigen_runtime_cmpstring", "slices.overlaps[pneumatic/api.Pred]"], unfollowed := true, recurses := true, apart := false }
def SubsSameSaid : Prop := subsSameRow.holds Tryz.pinned (OpenSpec.ofChange subsSameSpec)

/-- ITS FALSE NEIGHBOUR: 'it returns false'. Refute it at one input. -/
def subsSameWrong : ChangeSpec := { name := "subsSame", fn := fun _ => fun
  | [d] => { results := [.lit (.bool false)], args := [d] }
  | _ => none }
def SubsSameWrongFalsely : Prop := subsSameRow.holds Tryz.pinned (OpenSpec.ofChange subsSameWrong)

/-- 'pneumaticlaw24.SubsCovered': WHATEVER THE INPUT: true; the input reads as it did. -/
def subsCoveredSpec : ChangeSpec := { name := "subsCovered", fn := fun _ => fun
  | [d1, d2] => { results := [.lit (.bool true)], args := [d1, d2] }
  | _ => none }
def subsCoveredRow : OpenClaim := { program := "ytlhbpflcffjhmaagreat", sum := "e3c1d096e3c87188579da9a4b8a244fe92690928209a02e271e70328104366b8", func := "pneumatic/pneumaticlaw24.SubsCovered", spec := "subsCovered", inPlace := ["internal/bytealg.abigen_runtime_cmpstring", "slices.overlaps[pneumatic/api.Pred]"], unfollowed := true, recurses := true, apart := false }
def SubsCoveredSaid : Prop := subsCoveredRow.holds Tryz.pinned (OpenSpec.ofChange subsCoveredSpec)

/-- ITS FALSE NEIGHBOUR: 'it returns false'. Refute it at one input. -/
def subsCoveredWrong : ChangeSpec := { name := "subsCovered", fn := fun _ => fun
  | [d1, d2] => { results := [.lit (.bool false)], args := [d1, d2] }
  | _ => none }
def SubsCoveredWrongFalsely : Prop := subsCoveredRow.holds Tryz.pinned (OpenSpec.ofChange subsCoveredWrong)

/-- 'pneumaticlaw24.SubsKnown': WHATEVER THE INPUT: true; the input reads as it did. -/
def subsKnownSpec : ChangeSpec := { name := "subsKnown", fn := fun _ => fun
  | [] => { results := [.lit (.bool true)], args := [] }
  | _ => none }
def subsKnownRow : OpenClaim := { program := "ytlhbpflcffjhmaagreat", sum := "e3c1d096e3c87188579da9a4b8a244fe92690928209a02e271e70328104366b8", func := "pneumatic/pneumaticlaw24.SubsKnown", spec := "subsKnown", inPlace := ["internal/bytealg.abigen_runtime_cmpstring", "slices.overlaps[pneumatic/api.Pred]"], unfollowed := true, recurses := true, apart := false }
def SubsKnownSaid : Prop := subsKnownRow.holds Tryz.pinned (OpenSpec.ofChange subsKnownSpec)

/-- ITS FALSE NEIGHBOUR: 'it returns false'. Refute it at one input. -/
def subsKnownWrong : ChangeSpec := { name := "subsKnown", fn := fun _ => fun
  | [] => { results := [.lit (.bool false)], args := [] }
  | _ => none }
def SubsKnownWrongFalsely : Prop := subsKnownRow.holds Tryz.pinned (OpenSpec.ofChange subsKnownWrong)

/- THE SECOND FORM. 'bulk': how many values and letters a reading holds, each counted each time it is reached (what is shared counts as often as it is met; a slice's spare places count too). A statement '..UptoSaid' is the law's where the arguments, and the package variables that the reading takes, are together of bulk at most 1048576: NARROWER than '..Said'. Prove '..Said' where nothing that the law and all that it calls make is longer than what came in: it says more and counts as full. Else prove '..UptoSaid'. A law counts once. -/
mutual
def uptoBulk {H : Type} : DataW H → Nat
  | .lit (.string bytes) => bytes.length + 1
  | .lit _ => 1
  | .nil => 1
  | .ptr d => uptoBulk d + 1
  | .slice elems spare => uptoBulkAll elems + uptoBulkAll spare + 1
  | .agg parts => uptoBulkAll parts + 1
  | .iface _ d => uptoBulk d + 1
  | .map entries => uptoBulkEntries entries + 1
  | .held _ => 1
def uptoBulkAll {H : Type} : List (DataW H) → Nat
  | [] => 0
  | d :: r => uptoBulk d + uptoBulkAll r
def uptoBulkEntries {H : Type} : List (Lit × DataW H) → Nat
  | [] => 0
  | x :: r => uptoBulkEntry x + uptoBulkEntries r
def uptoBulkEntry {H : Type} : Lit × DataW H → Nat
  | (.string bytes, d) => bytes.length + uptoBulk d + 1
  | (_, d) => uptoBulk d + 1
 end
def uptoSmall : (H : Type) → List (DataW H) → Bool := fun _ ds => decide (uptoBulkAll ds ≤ 1048576)
def OpenSpec.upto (s : _root_.Go.ChangeSpec) : _root_.Go.OpenSpec := { _root_.Go.OpenSpec.ofChange s with cond := some uptoSmall }

/-- 'pneumaticlaw24.SubsTops', WHERE WHAT IT READS IS OF BULK AT MOST 1048576: true; the input reads as it did. -/
def subsTopsUptoRow : OpenClaim := { program := "ytlhbpflcffjhmaagreat", sum := "e3c1d096e3c87188579da9a4b8a244fe92690928209a02e271e70328104366b8", func := "pneumatic/pneumaticlaw24.SubsTops", spec := "subsTops", inPlace := ["internal/bytealg.abigen_runtime_cmpstring", "slices.overlaps[pneumatic/api.Pred]"], unfollowed := true, recurses := true, apart := false, narrowed := true }
def SubsTopsUptoSaid : Prop := subsTopsUptoRow.holds Tryz.pinned (OpenSpec.upto subsTopsSpec)

/-- 'pneumaticlaw24.SubsSame', WHERE WHAT IT READS IS OF BULK AT MOST 1048576: true; the input reads as it did. -/
def subsSameUptoRow : OpenClaim := { program := "ytlhbpflcffjhmaagreat", sum := "e3c1d096e3c87188579da9a4b8a244fe92690928209a02e271e70328104366b8", func := "pneumatic/pneumaticlaw24.SubsSame", spec := "subsSame", inPlace := ["internal/bytealg.abigen_runtime_cmpstring", "slices.overlaps[pneumatic/api.Pred]"], unfollowed := true, recurses := true, apart := false, narrowed := true }
def SubsSameUptoSaid : Prop := subsSameUptoRow.holds Tryz.pinned (OpenSpec.upto subsSameSpec)

/-- 'pneumaticlaw24.SubsCovered', WHERE WHAT IT READS IS OF BULK AT MOST 1048576: true; the input reads as it did. -/
def subsCoveredUptoRow : OpenClaim := { program := "ytlhbpflcffjhmaagreat", sum := "e3c1d096e3c87188579da9a4b8a244fe92690928209a02e271e70328104366b8", func := "pneumatic/pneumaticlaw24.SubsCovered", spec := "subsCovered", inPlace := ["internal/bytealg.abigen_runtime_cmpstring", "slices.overlaps[pneumatic/api.Pred]"], unfollowed := true, recurses := true, apart := false, narrowed := true }
def SubsCoveredUptoSaid : Prop := subsCoveredUptoRow.holds Tryz.pinned (OpenSpec.upto subsCoveredSpec)

/-- 'pneumaticlaw24.SubsKnown', WHERE WHAT IT READS IS OF BULK AT MOST 1048576: true; the input reads as it did. -/
def subsKnownUptoRow : OpenClaim := { program := "ytlhbpflcffjhmaagreat", sum := "e3c1d096e3c87188579da9a4b8a244fe92690928209a02e271e70328104366b8", func := "pneumatic/pneumaticlaw24.SubsKnown", spec := "subsKnown", inPlace := ["internal/bytealg.abigen_runtime_cmpstring", "slices.overlaps[pneumatic/api.Pred]"], unfollowed := true, recurses := true, apart := false, narrowed := true }
def SubsKnownUptoSaid : Prop := subsKnownUptoRow.holds Tryz.pinned (OpenSpec.upto subsKnownSpec)

end Rows
end Go.Proofs.YtlhbpflcffjhmaaGreat
