/-
  No cell of these rows narrows 'for every input' (looked for: loops, veiled, ifaces, maps, wideKeys, modest, calm, conditions, laid).
  DERIVED. THE GIVEN ROWS OF THIS SEAT. 3 by the template 'for every input the law returns true; each argument reads behind the call as it read before'; 0 by the template 'total and deterministic' (their statements: YtckigoeomkphhaaGreatTotals.lean).
  GIVEN WITH THE SEED: the statements are not yours to turn. If you find one false, say at which input.
  Laid BY PROGRAM, IN A SANDBOX (cutbox-rows.mjs): the forced cells as the released guide's own fill.sh prints them over the translation 5fbaf736b5d3f5d2… (all of the seat's roots in one cut). By AI agents, Wed Nov 11 2026. No macro, syntax, notation, axiom, sorry.
-/
import Derived.Test.YtckigoeomkphhaaGreatChecked
import GoSem.Claim
import GoSem.ClaimJoined
import GoSem.ClaimMapViews
import Derived.JoinedTies
import Derived.KernelRfl
namespace Go.Proofs.YtckigoeomkphhaaGreat
/- THE CELL 'sum', in the pinned program and in every row, IS THE sha256 OF THE DUMP (.gsa) THAT YtckigoeomkphhaaGreatProg.lean LOADS. Nothing in Lean hashes anything: it is a label: what it is worth is what the hold of that sum in a sandbox is worth. -/
noncomputable def Tryz.pinned : Pinned := { name := "ytckigoeomkphhaagreat", sum := "5fbaf736b5d3f5d26416e32e5564c75d4b2f11de9a1a0c330c92c5128f92c6d2", checked := Tryz.checked }
namespace Rows
def none {H : Type} : Left H := { results := [], args := [] }

/-- 'pneumaticlaw08.MatchKnown': WHATEVER THE INPUT: true; the input reads as it did. -/
def matchKnownSpec : ChangeSpec := { name := "matchKnown", fn := fun _ => fun
  | [] => { results := [.lit (.bool true)], args := [] }
  | _ => none }
def matchKnownRow : OpenClaim := { program := "ytckigoeomkphhaagreat", sum := "5fbaf736b5d3f5d26416e32e5564c75d4b2f11de9a1a0c330c92c5128f92c6d2", func := "pneumatic/pneumaticlaw08.MatchKnown", spec := "matchKnown", inPlace := ["internal/bytealg.abigen_runtime_cmpstring"], unfollowed := true, recurses := true, apart := false }
def MatchKnownSaid : Prop := matchKnownRow.holds Tryz.pinned (OpenSpec.ofChange matchKnownSpec)

/-- ITS FALSE NEIGHBOUR: 'it returns false'. Refute it at one input. -/
def matchKnownWrong : ChangeSpec := { name := "matchKnown", fn := fun _ => fun
  | [] => { results := [.lit (.bool false)], args := [] }
  | _ => none }
def MatchKnownWrongFalsely : Prop := matchKnownRow.holds Tryz.pinned (OpenSpec.ofChange matchKnownWrong)

/-- 'pneumaticlaw08.MatchPlays': WHATEVER THE INPUT: true; the input reads as it did. -/
def matchPlaysSpec : ChangeSpec := { name := "matchPlays", fn := fun _ => fun
  | [d] => { results := [.lit (.bool true)], args := [d] }
  | _ => none }
def matchPlaysRow : OpenClaim := { program := "ytckigoeomkphhaagreat", sum := "5fbaf736b5d3f5d26416e32e5564c75d4b2f11de9a1a0c330c92c5128f92c6d2", func := "pneumatic/pneumaticlaw08.MatchPlays", spec := "matchPlays", inPlace := ["internal/bytealg.abigen_runtime_cmpstring"], unfollowed := true, recurses := true, apart := false }
def MatchPlaysSaid : Prop := matchPlaysRow.holds Tryz.pinned (OpenSpec.ofChange matchPlaysSpec)

/-- ITS FALSE NEIGHBOUR: 'it returns false'. Refute it at one input. -/
def matchPlaysWrong : ChangeSpec := { name := "matchPlays", fn := fun _ => fun
  | [d] => { results := [.lit (.bool false)], args := [d] }
  | _ => none }
def MatchPlaysWrongFalsely : Prop := matchPlaysRow.holds Tryz.pinned (OpenSpec.ofChange matchPlaysWrong)

/-- 'pneumaticlaw08.MatchAll': WHATEVER THE INPUT: true; the input reads as it did. -/
def matchAllSpec : ChangeSpec := { name := "matchAll", fn := fun _ => fun
  | [d1, d2, d3] => { results := [.lit (.bool true)], args := [d1, d2, d3] }
  | _ => none }
def matchAllRow : OpenClaim := { program := "ytckigoeomkphhaagreat", sum := "5fbaf736b5d3f5d26416e32e5564c75d4b2f11de9a1a0c330c92c5128f92c6d2", func := "pneumatic/pneumaticlaw08.MatchAll", spec := "matchAll", inPlace := ["internal/bytealg.abigen_runtime_cmpstring"], unfollowed := true, recurses := true, apart := false }
def MatchAllSaid : Prop := matchAllRow.holds Tryz.pinned (OpenSpec.ofChange matchAllSpec)

/-- ITS FALSE NEIGHBOUR: 'it returns false'. Refute it at one input. -/
def matchAllWrong : ChangeSpec := { name := "matchAll", fn := fun _ => fun
  | [d1, d2, d3] => { results := [.lit (.bool false)], args := [d1, d2, d3] }
  | _ => none }
def MatchAllWrongFalsely : Prop := matchAllRow.holds Tryz.pinned (OpenSpec.ofChange matchAllWrong)

/- THE SECOND FORM. 'bulk': how many values and letters a reading holds, each counted each time it is reached (what is shared counts as often as it is met; a slice's spare places count too). A statement '..UptoSaid' is the law's where the arguments, and the package variables that the reading takes, are together of bulk at most 1048576: NARROWER than '..Said'. Prove '..Said' where nothing that the law and all that it calls make is longer than what came in: it says more and counts as full. Else prove '..UptoSaid'. A law counts once. -/
mutual
def uptoBulk {H : Type} : DataW H → Nat
  | .lit (.string bytes) => bytes.length + 1
  | .lit _ => 1
  | .nil => 1
  | .ptr d => uptoBulk d + 1
  | .slice elems spare => uptoBulkAll elems + uptoBulkAll spare + 1
  | .agg parts => uptoBulkAll parts + 1
  | .iface _ d => uptoBulk d + 1
  | .map entries => uptoBulkEntries entries + 1
  | .held _ => 1
def uptoBulkAll {H : Type} : List (DataW H) → Nat
  | [] => 0
  | d :: r => uptoBulk d + uptoBulkAll r
def uptoBulkEntries {H : Type} : List (Lit × DataW H) → Nat
  | [] => 0
  | x :: r => uptoBulkEntry x + uptoBulkEntries r
def uptoBulkEntry {H : Type} : Lit × DataW H → Nat
  | (.string bytes, d) => bytes.length + uptoBulk d + 1
  | (_, d) => uptoBulk d + 1
 end
def uptoSmall : (H : Type) → List (DataW H) → Bool := fun _ ds => decide (uptoBulkAll ds ≤ 1048576)
def OpenSpec.upto (s : _root_.Go.ChangeSpec) : _root_.Go.OpenSpec := { _root_.Go.OpenSpec.ofChange s with cond := some uptoSmall }

/-- 'pneumaticlaw08.MatchKnown', WHERE WHAT IT READS IS OF BULK AT MOST 1048576: true; the input reads as it did. -/
def matchKnownUptoRow : OpenClaim := { program := "ytckigoeomkphhaagreat", sum := "5fbaf736b5d3f5d26416e32e5564c75d4b2f11de9a1a0c330c92c5128f92c6d2", func := "pneumatic/pneumaticlaw08.MatchKnown", spec := "matchKnown", inPlace := ["internal/bytealg.abigen_runtime_cmpstring"], unfollowed := true, recurses := true, apart := false, narrowed := true }
def MatchKnownUptoSaid : Prop := matchKnownUptoRow.holds Tryz.pinned (OpenSpec.upto matchKnownSpec)

/-- 'pneumaticlaw08.MatchPlays', WHERE WHAT IT READS IS OF BULK AT MOST 1048576: true; the input reads as it did. -/
def matchPlaysUptoRow : OpenClaim := { program := "ytckigoeomkphhaagreat", sum := "5fbaf736b5d3f5d26416e32e5564c75d4b2f11de9a1a0c330c92c5128f92c6d2", func := "pneumatic/pneumaticlaw08.MatchPlays", spec := "matchPlays", inPlace := ["internal/bytealg.abigen_runtime_cmpstring"], unfollowed := true, recurses := true, apart := false, narrowed := true }
def MatchPlaysUptoSaid : Prop := matchPlaysUptoRow.holds Tryz.pinned (OpenSpec.upto matchPlaysSpec)

/-- 'pneumaticlaw08.MatchAll', WHERE WHAT IT READS IS OF BULK AT MOST 1048576: true; the input reads as it did. -/
def matchAllUptoRow : OpenClaim := { program := "ytckigoeomkphhaagreat", sum := "5fbaf736b5d3f5d26416e32e5564c75d4b2f11de9a1a0c330c92c5128f92c6d2", func := "pneumatic/pneumaticlaw08.MatchAll", spec := "matchAll", inPlace := ["internal/bytealg.abigen_runtime_cmpstring"], unfollowed := true, recurses := true, apart := false, narrowed := true }
def MatchAllUptoSaid : Prop := matchAllUptoRow.holds Tryz.pinned (OpenSpec.upto matchAllSpec)

end Rows
end Go.Proofs.YtckigoeomkphhaaGreat
