/-
  No cell of these rows narrows 'for every input' (looked for: loops, veiled, ifaces, maps, wideKeys, modest, calm, conditions, laid).
  DERIVED. THE GIVEN ROWS OF THIS SEAT. 4 by the template 'for every input the law returns true; each argument reads behind the call as it read before'; 0 by the template 'total and deterministic' (their statements: YtabegbelkfhbcaaGreatTotals.lean).
  GIVEN WITH THE SEED: the statements are not yours to turn. If you find one false, say at which input.
  Laid BY PROGRAM, IN A SANDBOX (cutbox-rows.mjs): the forced cells as the released guide's own fill.sh prints them over the translation c509d194292cc42e… (all of the seat's roots in one cut). By AI agents, Wed Nov 11 2026. No macro, syntax, notation, axiom, sorry.
-/
import Derived.Test.YtabegbelkfhbcaaGreatChecked
import GoSem.Claim
import GoSem.ClaimJoined
import GoSem.ClaimMapViews
import Derived.JoinedTies
import Derived.KernelRfl
namespace Go.Proofs.YtabegbelkfhbcaaGreat
/- THE CELL 'sum', in the pinned program and in every row, IS THE sha256 OF THE DUMP (.gsa) THAT YtabegbelkfhbcaaGreatProg.lean LOADS. Nothing in Lean hashes anything: it is a label: what it is worth is what the hold of that sum in a sandbox is worth. -/
noncomputable def Tryz.pinned : Pinned := { name := "ytabegbelkfhbcaagreat", sum := "c509d194292cc42ec1af4706fd099823e1c459460fae0d627535fa81d69cc415", checked := Tryz.checked }
namespace Rows
def none {H : Type} : Left H := { results := [], args := [] }

/-- 'pneumaticlaw23.AdsLast': WHATEVER THE INPUT: true; the input reads as it did. -/
def adsLastSpec : ChangeSpec := { name := "adsLast", fn := fun _ => fun
  | [d1, d2, d3, d4] => { results := [.lit (.bool true)], args := [d1, d2, d3, d4] }
  | _ => none }
def adsLastRow : OpenClaim := { program := "ytabegbelkfhbcaagreat", sum := "c509d194292cc42ec1af4706fd099823e1c459460fae0d627535fa81d69cc415", func := "pneumatic/pneumaticlaw23.AdsLast", spec := "adsLast", inPlace := ["internal/bytealg.abigen_runtime_cmpstring", "maps.clone"], unfollowed := true, recurses := true, apart := false }
def AdsLastSaid : Prop := adsLastRow.holds Tryz.pinned (OpenSpec.ofChange adsLastSpec)

/-- ITS FALSE NEIGHBOUR: 'it returns false'. Refute it at one input. -/
def adsLastWrong : ChangeSpec := { name := "adsLast", fn := fun _ => fun
  | [d1, d2, d3, d4] => { results := [.lit (.bool false)], args := [d1, d2, d3, d4] }
  | _ => none }
def AdsLastWrongFalsely : Prop := adsLastRow.holds Tryz.pinned (OpenSpec.ofChange adsLastWrong)

/-- 'pneumaticlaw23.AdsKnown': WHATEVER THE INPUT: true; the input reads as it did. -/
def adsKnownSpec : ChangeSpec := { name := "adsKnown", fn := fun _ => fun
  | [] => { results := [.lit (.bool true)], args := [] }
  | _ => none }
def adsKnownRow : OpenClaim := { program := "ytabegbelkfhbcaagreat", sum := "c509d194292cc42ec1af4706fd099823e1c459460fae0d627535fa81d69cc415", func := "pneumatic/pneumaticlaw23.AdsKnown", spec := "adsKnown", inPlace := ["internal/bytealg.abigen_runtime_cmpstring", "maps.clone"], unfollowed := true, recurses := true, apart := false }
def AdsKnownSaid : Prop := adsKnownRow.holds Tryz.pinned (OpenSpec.ofChange adsKnownSpec)

/-- ITS FALSE NEIGHBOUR: 'it returns false'. Refute it at one input. -/
def adsKnownWrong : ChangeSpec := { name := "adsKnown", fn := fun _ => fun
  | [] => { results := [.lit (.bool false)], args := [] }
  | _ => none }
def AdsKnownWrongFalsely : Prop := adsKnownRow.holds Tryz.pinned (OpenSpec.ofChange adsKnownWrong)

/-- 'pneumaticlaw23.AdsParts': WHATEVER THE INPUT: true; the input reads as it did. -/
def adsPartsSpec : ChangeSpec := { name := "adsParts", fn := fun _ => fun
  | [d1, d2] => { results := [.lit (.bool true)], args := [d1, d2] }
  | _ => none }
def adsPartsRow : OpenClaim := { program := "ytabegbelkfhbcaagreat", sum := "c509d194292cc42ec1af4706fd099823e1c459460fae0d627535fa81d69cc415", func := "pneumatic/pneumaticlaw23.AdsParts", spec := "adsParts", inPlace := ["internal/bytealg.abigen_runtime_cmpstring", "maps.clone"], unfollowed := true, recurses := true, apart := false }
def AdsPartsSaid : Prop := adsPartsRow.holds Tryz.pinned (OpenSpec.ofChange adsPartsSpec)

/-- ITS FALSE NEIGHBOUR: 'it returns false'. Refute it at one input. -/
def adsPartsWrong : ChangeSpec := { name := "adsParts", fn := fun _ => fun
  | [d1, d2] => { results := [.lit (.bool false)], args := [d1, d2] }
  | _ => none }
def AdsPartsWrongFalsely : Prop := adsPartsRow.holds Tryz.pinned (OpenSpec.ofChange adsPartsWrong)

/-- 'pneumaticlaw23.AdsWants': WHATEVER THE INPUT: true; the input reads as it did. -/
def adsWantsSpec : ChangeSpec := { name := "adsWants", fn := fun _ => fun
  | [d1, d2, d3, d4] => { results := [.lit (.bool true)], args := [d1, d2, d3, d4] }
  | _ => none }
def adsWantsRow : OpenClaim := { program := "ytabegbelkfhbcaagreat", sum := "c509d194292cc42ec1af4706fd099823e1c459460fae0d627535fa81d69cc415", func := "pneumatic/pneumaticlaw23.AdsWants", spec := "adsWants", inPlace := ["internal/bytealg.abigen_runtime_cmpstring"], unfollowed := true, recurses := true, apart := false }
def AdsWantsSaid : Prop := adsWantsRow.holds Tryz.pinned (OpenSpec.ofChange adsWantsSpec)

/-- ITS FALSE NEIGHBOUR: 'it returns false'. Refute it at one input. -/
def adsWantsWrong : ChangeSpec := { name := "adsWants", fn := fun _ => fun
  | [d1, d2, d3, d4] => { results := [.lit (.bool false)], args := [d1, d2, d3, d4] }
  | _ => none }
def AdsWantsWrongFalsely : Prop := adsWantsRow.holds Tryz.pinned (OpenSpec.ofChange adsWantsWrong)

/- THE SECOND FORM. 'bulk': how many values and letters a reading holds, each counted each time it is reached (what is shared counts as often as it is met; a slice's spare places count too). A statement '..UptoSaid' is the law's where the arguments, and the package variables that the reading takes, are together of bulk at most 1048576: NARROWER than '..Said'. Prove '..Said' where nothing that the law and all that it calls make is longer than what came in: it says more and counts as full. Else prove '..UptoSaid'. A law counts once. -/
mutual
def uptoBulk {H : Type} : DataW H → Nat
  | .lit (.string bytes) => bytes.length + 1
  | .lit _ => 1
  | .nil => 1
  | .ptr d => uptoBulk d + 1
  | .slice elems spare => uptoBulkAll elems + uptoBulkAll spare + 1
  | .agg parts => uptoBulkAll parts + 1
  | .iface _ d => uptoBulk d + 1
  | .map entries => uptoBulkEntries entries + 1
  | .held _ => 1
def uptoBulkAll {H : Type} : List (DataW H) → Nat
  | [] => 0
  | d :: r => uptoBulk d + uptoBulkAll r
def uptoBulkEntries {H : Type} : List (Lit × DataW H) → Nat
  | [] => 0
  | x :: r => uptoBulkEntry x + uptoBulkEntries r
def uptoBulkEntry {H : Type} : Lit × DataW H → Nat
  | (.string bytes, d) => bytes.length + uptoBulk d + 1
  | (_, d) => uptoBulk d + 1
 end
def uptoSmall : (H : Type) → List (DataW H) → Bool := fun _ ds => decide (uptoBulkAll ds ≤ 1048576)
def OpenSpec.upto (s : _root_.Go.ChangeSpec) : _root_.Go.OpenSpec := { _root_.Go.OpenSpec.ofChange s with cond := some uptoSmall }

/-- 'pneumaticlaw23.AdsLast', WHERE WHAT IT READS IS OF BULK AT MOST 1048576: true; the input reads as it did. -/
def adsLastUptoRow : OpenClaim := { program := "ytabegbelkfhbcaagreat", sum := "c509d194292cc42ec1af4706fd099823e1c459460fae0d627535fa81d69cc415", func := "pneumatic/pneumaticlaw23.AdsLast", spec := "adsLast", inPlace := ["internal/bytealg.abigen_runtime_cmpstring", "maps.clone"], unfollowed := true, recurses := true, apart := false, narrowed := true }
def AdsLastUptoSaid : Prop := adsLastUptoRow.holds Tryz.pinned (OpenSpec.upto adsLastSpec)

/-- 'pneumaticlaw23.AdsKnown', WHERE WHAT IT READS IS OF BULK AT MOST 1048576: true; the input reads as it did. -/
def adsKnownUptoRow : OpenClaim := { program := "ytabegbelkfhbcaagreat", sum := "c509d194292cc42ec1af4706fd099823e1c459460fae0d627535fa81d69cc415", func := "pneumatic/pneumaticlaw23.AdsKnown", spec := "adsKnown", inPlace := ["internal/bytealg.abigen_runtime_cmpstring", "maps.clone"], unfollowed := true, recurses := true, apart := false, narrowed := true }
def AdsKnownUptoSaid : Prop := adsKnownUptoRow.holds Tryz.pinned (OpenSpec.upto adsKnownSpec)

/-- 'pneumaticlaw23.AdsParts', WHERE WHAT IT READS IS OF BULK AT MOST 1048576: true; the input reads as it did. -/
def adsPartsUptoRow : OpenClaim := { program := "ytabegbelkfhbcaagreat", sum := "c509d194292cc42ec1af4706fd099823e1c459460fae0d627535fa81d69cc415", func := "pneumatic/pneumaticlaw23.AdsParts", spec := "adsParts", inPlace := ["internal/bytealg.abigen_runtime_cmpstring", "maps.clone"], unfollowed := true, recurses := true, apart := false, narrowed := true }
def AdsPartsUptoSaid : Prop := adsPartsUptoRow.holds Tryz.pinned (OpenSpec.upto adsPartsSpec)

/-- 'pneumaticlaw23.AdsWants', WHERE WHAT IT READS IS OF BULK AT MOST 1048576: true; the input reads as it did. -/
def adsWantsUptoRow : OpenClaim := { program := "ytabegbelkfhbcaagreat", sum := "c509d194292cc42ec1af4706fd099823e1c459460fae0d627535fa81d69cc415", func := "pneumatic/pneumaticlaw23.AdsWants", spec := "adsWants", inPlace := ["internal/bytealg.abigen_runtime_cmpstring"], unfollowed := true, recurses := true, apart := false, narrowed := true }
def AdsWantsUptoSaid : Prop := adsWantsUptoRow.holds Tryz.pinned (OpenSpec.upto adsWantsSpec)

end Rows
end Go.Proofs.YtabegbelkfhbcaaGreat
