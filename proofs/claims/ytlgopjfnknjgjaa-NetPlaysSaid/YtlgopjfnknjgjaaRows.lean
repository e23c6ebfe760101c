/-
  No cell of these rows narrows 'for every input' (looked for: loops, veiled, ifaces, maps, wideKeys, modest, calm, conditions, laid).
  DERIVED. THE GIVEN ROWS OF THIS SEAT. 9 by the template 'for every input the law returns true; each argument reads behind the call as it read before'; 0 by the template 'total and deterministic' (their statements: YtlgopjfnknjgjaaTotals.lean).
  GIVEN WITH THE SEED: the statements are not yours to turn. If you find one false, say at which input.
  Laid BY PROGRAM, IN A SANDBOX (cutbox-rows.mjs): the forced cells as the released guide's own fill.sh prints them over the translation db048b5db5b52682… (all of the seat's roots in one cut). By AI agents, Wed Nov 11 2026. No macro, syntax, notation, axiom, sorry.
-/
import Derived.Test.YtlgopjfnknjgjaaChecked
import GoSem.Claim
import GoSem.ClaimJoined
import GoSem.ClaimMapViews
import Derived.JoinedTies
import Derived.KernelRfl
namespace Go.Proofs.Ytlgopjfnknjgjaa
/- THE CELL 'sum', in the pinned program and in every row, IS THE sha256 OF THE DUMP (.gsa) THAT YtlgopjfnknjgjaaProg.lean LOADS. Nothing in Lean hashes anything: it is a label: what it is worth is what the hold of that sum in a sandbox is worth. -/
noncomputable def Try.pinned : Pinned := { name := "ytlgopjfnknjgjaa", sum := "db048b5db5b52682e5b7354fa501292ab90acb28e4e52f50fdc23820e7097b73", checked := Try.checked }
namespace Rows
def none {H : Type} : Left H := { results := [], args := [] }

/-- 'pneumaticlaw16.CompactParts': WHATEVER THE INPUT: true; the input reads as it did. -/
def compactPartsSpec : ChangeSpec := { name := "compactParts", fn := fun _ => fun
  | [d] => { results := [.lit (.bool true)], args := [d] }
  | _ => none }
def compactPartsRow : OpenClaim := { program := "ytlgopjfnknjgjaa", sum := "db048b5db5b52682e5b7354fa501292ab90acb28e4e52f50fdc23820e7097b73", func := "pneumatic/pneumaticlaw16.CompactParts", spec := "compactParts", unfollowed := true, recurses := true, apart := false }
def CompactPartsSaid : Prop := compactPartsRow.holds Try.pinned (OpenSpec.ofChange compactPartsSpec)

/-- ITS FALSE NEIGHBOUR: 'it returns false'. Refute it at one input. -/
def compactPartsWrong : ChangeSpec := { name := "compactParts", fn := fun _ => fun
  | [d] => { results := [.lit (.bool false)], args := [d] }
  | _ => none }
def CompactPartsWrongFalsely : Prop := compactPartsRow.holds Try.pinned (OpenSpec.ofChange compactPartsWrong)

/-- 'pneumaticlaw16.CompactState': WHATEVER THE INPUT: true; the input reads as it did. -/
def compactStateSpec : ChangeSpec := { name := "compactState", fn := fun _ => fun
  | [d] => { results := [.lit (.bool true)], args := [d] }
  | _ => none }
def compactStateRow : OpenClaim := { program := "ytlgopjfnknjgjaa", sum := "db048b5db5b52682e5b7354fa501292ab90acb28e4e52f50fdc23820e7097b73", func := "pneumatic/pneumaticlaw16.CompactState", spec := "compactState", unfollowed := true, recurses := true, apart := false }
def CompactStateSaid : Prop := compactStateRow.holds Try.pinned (OpenSpec.ofChange compactStateSpec)

/-- ITS FALSE NEIGHBOUR: 'it returns false'. Refute it at one input. -/
def compactStateWrong : ChangeSpec := { name := "compactState", fn := fun _ => fun
  | [d] => { results := [.lit (.bool false)], args := [d] }
  | _ => none }
def CompactStateWrongFalsely : Prop := compactStateRow.holds Try.pinned (OpenSpec.ofChange compactStateWrong)

/-- 'pneumaticlaw16.CompactTwice': WHATEVER THE INPUT: true; the input reads as it did. -/
def compactTwiceSpec : ChangeSpec := { name := "compactTwice", fn := fun _ => fun
  | [d1, d2] => { results := [.lit (.bool true)], args := [d1, d2] }
  | _ => none }
def compactTwiceRow : OpenClaim := { program := "ytlgopjfnknjgjaa", sum := "db048b5db5b52682e5b7354fa501292ab90acb28e4e52f50fdc23820e7097b73", func := "pneumatic/pneumaticlaw16.CompactTwice", spec := "compactTwice", unfollowed := true, recurses := true, apart := false }
def CompactTwiceSaid : Prop := compactTwiceRow.holds Try.pinned (OpenSpec.ofChange compactTwiceSpec)

/-- ITS FALSE NEIGHBOUR: 'it returns false'. Refute it at one input. -/
def compactTwiceWrong : ChangeSpec := { name := "compactTwice", fn := fun _ => fun
  | [d1, d2] => { results := [.lit (.bool false)], args := [d1, d2] }
  | _ => none }
def CompactTwiceWrongFalsely : Prop := compactTwiceRow.holds Try.pinned (OpenSpec.ofChange compactTwiceWrong)

/-- 'pneumaticlaw16.CompactOrder': WHATEVER THE INPUT: true; the input reads as it did. -/
def compactOrderSpec : ChangeSpec := { name := "compactOrder", fn := fun _ => fun
  | [d1, d2] => { results := [.lit (.bool true)], args := [d1, d2] }
  | _ => none }
def compactOrderRow : OpenClaim := { program := "ytlgopjfnknjgjaa", sum := "db048b5db5b52682e5b7354fa501292ab90acb28e4e52f50fdc23820e7097b73", func := "pneumatic/pneumaticlaw16.CompactOrder", spec := "compactOrder", unfollowed := true, recurses := true, apart := false }
def CompactOrderSaid : Prop := compactOrderRow.holds Try.pinned (OpenSpec.ofChange compactOrderSpec)

/-- ITS FALSE NEIGHBOUR: 'it returns false'. Refute it at one input. -/
def compactOrderWrong : ChangeSpec := { name := "compactOrder", fn := fun _ => fun
  | [d1, d2] => { results := [.lit (.bool false)], args := [d1, d2] }
  | _ => none }
def CompactOrderWrongFalsely : Prop := compactOrderRow.holds Try.pinned (OpenSpec.ofChange compactOrderWrong)

/-- 'pneumaticlaw16.CompactKnown': WHATEVER THE INPUT: true; the input reads as it did. -/
def compactKnownSpec : ChangeSpec := { name := "compactKnown", fn := fun _ => fun
  | [] => { results := [.lit (.bool true)], args := [] }
  | _ => none }
def compactKnownRow : OpenClaim := { program := "ytlgopjfnknjgjaa", sum := "db048b5db5b52682e5b7354fa501292ab90acb28e4e52f50fdc23820e7097b73", func := "pneumatic/pneumaticlaw16.CompactKnown", spec := "compactKnown", unfollowed := true, recurses := true, apart := false }
def CompactKnownSaid : Prop := compactKnownRow.holds Try.pinned (OpenSpec.ofChange compactKnownSpec)

/-- ITS FALSE NEIGHBOUR: 'it returns false'. Refute it at one input. -/
def compactKnownWrong : ChangeSpec := { name := "compactKnown", fn := fun _ => fun
  | [] => { results := [.lit (.bool false)], args := [] }
  | _ => none }
def CompactKnownWrongFalsely : Prop := compactKnownRow.holds Try.pinned (OpenSpec.ofChange compactKnownWrong)

/-- 'pneumaticlaw19.NetOnce': WHATEVER THE INPUT: true; the input reads as it did. -/
def netOnceSpec : ChangeSpec := { name := "netOnce", fn := fun _ => fun
  | [d] => { results := [.lit (.bool true)], args := [d] }
  | _ => none }
def netOnceRow : OpenClaim := { program := "ytlgopjfnknjgjaa", sum := "db048b5db5b52682e5b7354fa501292ab90acb28e4e52f50fdc23820e7097b73", func := "pneumatic/pneumaticlaw19.NetOnce", spec := "netOnce", unfollowed := true, recurses := true, apart := false }
def NetOnceSaid : Prop := netOnceRow.holds Try.pinned (OpenSpec.ofChange netOnceSpec)

/-- ITS FALSE NEIGHBOUR: 'it returns false'. Refute it at one input. -/
def netOnceWrong : ChangeSpec := { name := "netOnce", fn := fun _ => fun
  | [d] => { results := [.lit (.bool false)], args := [d] }
  | _ => none }
def NetOnceWrongFalsely : Prop := netOnceRow.holds Try.pinned (OpenSpec.ofChange netOnceWrong)

/-- 'pneumaticlaw19.NetAnyOrder': WHATEVER THE INPUT: true; the input reads as it did. -/
def netAnyOrderSpec : ChangeSpec := { name := "netAnyOrder", fn := fun _ => fun
  | [d1, d2] => { results := [.lit (.bool true)], args := [d1, d2] }
  | _ => none }
def netAnyOrderRow : OpenClaim := { program := "ytlgopjfnknjgjaa", sum := "db048b5db5b52682e5b7354fa501292ab90acb28e4e52f50fdc23820e7097b73", func := "pneumatic/pneumaticlaw19.NetAnyOrder", spec := "netAnyOrder", unfollowed := true, recurses := true, apart := false }
def NetAnyOrderSaid : Prop := netAnyOrderRow.holds Try.pinned (OpenSpec.ofChange netAnyOrderSpec)

/-- ITS FALSE NEIGHBOUR: 'it returns false'. Refute it at one input. -/
def netAnyOrderWrong : ChangeSpec := { name := "netAnyOrder", fn := fun _ => fun
  | [d1, d2] => { results := [.lit (.bool false)], args := [d1, d2] }
  | _ => none }
def NetAnyOrderWrongFalsely : Prop := netAnyOrderRow.holds Try.pinned (OpenSpec.ofChange netAnyOrderWrong)

/-- 'pneumaticlaw19.NetPlays': WHATEVER THE INPUT: true; the input reads as it did. -/
def netPlaysSpec : ChangeSpec := { name := "netPlays", fn := fun _ => fun
  | [d1, d2] => { results := [.lit (.bool true)], args := [d1, d2] }
  | _ => none }
def netPlaysRow : OpenClaim := { program := "ytlgopjfnknjgjaa", sum := "db048b5db5b52682e5b7354fa501292ab90acb28e4e52f50fdc23820e7097b73", func := "pneumatic/pneumaticlaw19.NetPlays", spec := "netPlays", inPlace := ["maps.clone"], unfollowed := true, recurses := true, apart := false }
def NetPlaysSaid : Prop := netPlaysRow.holds Try.pinned (OpenSpec.ofChange netPlaysSpec)

/-- ITS FALSE NEIGHBOUR: 'it returns false'. Refute it at one input. -/
def netPlaysWrong : ChangeSpec := { name := "netPlays", fn := fun _ => fun
  | [d1, d2] => { results := [.lit (.bool false)], args := [d1, d2] }
  | _ => none }
def NetPlaysWrongFalsely : Prop := netPlaysRow.holds Try.pinned (OpenSpec.ofChange netPlaysWrong)

/-- 'pneumaticlaw19.NetKnown': WHATEVER THE INPUT: true; the input reads as it did. -/
def netKnownSpec : ChangeSpec := { name := "netKnown", fn := fun _ => fun
  | [] => { results := [.lit (.bool true)], args := [] }
  | _ => none }
def netKnownRow : OpenClaim := { program := "ytlgopjfnknjgjaa", sum := "db048b5db5b52682e5b7354fa501292ab90acb28e4e52f50fdc23820e7097b73", func := "pneumatic/pneumaticlaw19.NetKnown", spec := "netKnown", inPlace := ["maps.clone"], unfollowed := true, recurses := true, apart := false }
def NetKnownSaid : Prop := netKnownRow.holds Try.pinned (OpenSpec.ofChange netKnownSpec)

/-- ITS FALSE NEIGHBOUR: 'it returns false'. Refute it at one input. -/
def netKnownWrong : ChangeSpec := { name := "netKnown", fn := fun _ => fun
  | [] => { results := [.lit (.bool false)], args := [] }
  | _ => none }
def NetKnownWrongFalsely : Prop := netKnownRow.holds Try.pinned (OpenSpec.ofChange netKnownWrong)

/- THE SECOND FORM. 'bulk': how many values and letters a reading holds, each counted each time it is reached (what is shared counts as often as it is met; a slice's spare places count too). A statement '..UptoSaid' is the law's where the arguments, and the package variables that the reading takes, are together of bulk at most 1048576: NARROWER than '..Said'. Prove '..Said' where nothing that the law and all that it calls make is longer than what came in: it says more and counts as full. Else prove '..UptoSaid'. A law counts once. -/
mutual
def uptoBulk {H : Type} : DataW H → Nat
  | .lit (.string bytes) => bytes.length + 1
  | .lit _ => 1
  | .nil => 1
  | .ptr d => uptoBulk d + 1
  | .slice elems spare => uptoBulkAll elems + uptoBulkAll spare + 1
  | .agg parts => uptoBulkAll parts + 1
  | .iface _ d => uptoBulk d + 1
  | .map entries => uptoBulkEntries entries + 1
  | .held _ => 1
def uptoBulkAll {H : Type} : List (DataW H) → Nat
  | [] => 0
  | d :: r => uptoBulk d + uptoBulkAll r
def uptoBulkEntries {H : Type} : List (Lit × DataW H) → Nat
  | [] => 0
  | x :: r => uptoBulkEntry x + uptoBulkEntries r
def uptoBulkEntry {H : Type} : Lit × DataW H → Nat
  | (.string bytes, d) => bytes.length + uptoBulk d + 1
  | (_, d) => uptoBulk d + 1
 end
def uptoSmall : (H : Type) → List (DataW H) → Bool := fun _ ds => decide (uptoBulkAll ds ≤ 1048576)
def OpenSpec.upto (s : _root_.Go.ChangeSpec) : _root_.Go.OpenSpec := { _root_.Go.OpenSpec.ofChange s with cond := some uptoSmall }

/-- 'pneumaticlaw16.CompactParts', WHERE WHAT IT READS IS OF BULK AT MOST 1048576: true; the input reads as it did. -/
def compactPartsUptoRow : OpenClaim := { program := "ytlgopjfnknjgjaa", sum := "db048b5db5b52682e5b7354fa501292ab90acb28e4e52f50fdc23820e7097b73", func := "pneumatic/pneumaticlaw16.CompactParts", spec := "compactParts", unfollowed := true, recurses := true, apart := false, narrowed := true }
def CompactPartsUptoSaid : Prop := compactPartsUptoRow.holds Try.pinned (OpenSpec.upto compactPartsSpec)

/-- 'pneumaticlaw16.CompactState', WHERE WHAT IT READS IS OF BULK AT MOST 1048576: true; the input reads as it did. -/
def compactStateUptoRow : OpenClaim := { program := "ytlgopjfnknjgjaa", sum := "db048b5db5b52682e5b7354fa501292ab90acb28e4e52f50fdc23820e7097b73", func := "pneumatic/pneumaticlaw16.CompactState", spec := "compactState", unfollowed := true, recurses := true, apart := false, narrowed := true }
def CompactStateUptoSaid : Prop := compactStateUptoRow.holds Try.pinned (OpenSpec.upto compactStateSpec)

/-- 'pneumaticlaw16.CompactTwice', WHERE WHAT IT READS IS OF BULK AT MOST 1048576: true; the input reads as it did. -/
def compactTwiceUptoRow : OpenClaim := { program := "ytlgopjfnknjgjaa", sum := "db048b5db5b52682e5b7354fa501292ab90acb28e4e52f50fdc23820e7097b73", func := "pneumatic/pneumaticlaw16.CompactTwice", spec := "compactTwice", unfollowed := true, recurses := true, apart := false, narrowed := true }
def CompactTwiceUptoSaid : Prop := compactTwiceUptoRow.holds Try.pinned (OpenSpec.upto compactTwiceSpec)

/-- 'pneumaticlaw16.CompactOrder', WHERE WHAT IT READS IS OF BULK AT MOST 1048576: true; the input reads as it did. -/
def compactOrderUptoRow : OpenClaim := { program := "ytlgopjfnknjgjaa", sum := "db048b5db5b52682e5b7354fa501292ab90acb28e4e52f50fdc23820e7097b73", func := "pneumatic/pneumaticlaw16.CompactOrder", spec := "compactOrder", unfollowed := true, recurses := true, apart := false, narrowed := true }
def CompactOrderUptoSaid : Prop := compactOrderUptoRow.holds Try.pinned (OpenSpec.upto compactOrderSpec)

/-- 'pneumaticlaw16.CompactKnown', WHERE WHAT IT READS IS OF BULK AT MOST 1048576: true; the input reads as it did. -/
def compactKnownUptoRow : OpenClaim := { program := "ytlgopjfnknjgjaa", sum := "db048b5db5b52682e5b7354fa501292ab90acb28e4e52f50fdc23820e7097b73", func := "pneumatic/pneumaticlaw16.CompactKnown", spec := "compactKnown", unfollowed := true, recurses := true, apart := false, narrowed := true }
def CompactKnownUptoSaid : Prop := compactKnownUptoRow.holds Try.pinned (OpenSpec.upto compactKnownSpec)

/-- 'pneumaticlaw19.NetOnce', WHERE WHAT IT READS IS OF BULK AT MOST 1048576: true; the input reads as it did. -/
def netOnceUptoRow : OpenClaim := { program := "ytlgopjfnknjgjaa", sum := "db048b5db5b52682e5b7354fa501292ab90acb28e4e52f50fdc23820e7097b73", func := "pneumatic/pneumaticlaw19.NetOnce", spec := "netOnce", unfollowed := true, recurses := true, apart := false, narrowed := true }
def NetOnceUptoSaid : Prop := netOnceUptoRow.holds Try.pinned (OpenSpec.upto netOnceSpec)

/-- 'pneumaticlaw19.NetAnyOrder', WHERE WHAT IT READS IS OF BULK AT MOST 1048576: true; the input reads as it did. -/
def netAnyOrderUptoRow : OpenClaim := { program := "ytlgopjfnknjgjaa", sum := "db048b5db5b52682e5b7354fa501292ab90acb28e4e52f50fdc23820e7097b73", func := "pneumatic/pneumaticlaw19.NetAnyOrder", spec := "netAnyOrder", unfollowed := true, recurses := true, apart := false, narrowed := true }
def NetAnyOrderUptoSaid : Prop := netAnyOrderUptoRow.holds Try.pinned (OpenSpec.upto netAnyOrderSpec)

/-- 'pneumaticlaw19.NetPlays', WHERE WHAT IT READS IS OF BULK AT MOST 1048576: true; the input reads as it did. -/
def netPlaysUptoRow : OpenClaim := { program := "ytlgopjfnknjgjaa", sum := "db048b5db5b52682e5b7354fa501292ab90acb28e4e52f50fdc23820e7097b73", func := "pneumatic/pneumaticlaw19.NetPlays", spec := "netPlays", inPlace := ["maps.clone"], unfollowed := true, recurses := true, apart := false, narrowed := true }
def NetPlaysUptoSaid : Prop := netPlaysUptoRow.holds Try.pinned (OpenSpec.upto netPlaysSpec)

/-- 'pneumaticlaw19.NetKnown', WHERE WHAT IT READS IS OF BULK AT MOST 1048576: true; the input reads as it did. -/
def netKnownUptoRow : OpenClaim := { program := "ytlgopjfnknjgjaa", sum := "db048b5db5b52682e5b7354fa501292ab90acb28e4e52f50fdc23820e7097b73", func := "pneumatic/pneumaticlaw19.NetKnown", spec := "netKnown", inPlace := ["maps.clone"], unfollowed := true, recurses := true, apart := false, narrowed := true }
def NetKnownUptoSaid : Prop := netKnownUptoRow.holds Try.pinned (OpenSpec.upto netKnownSpec)

end Rows
end Go.Proofs.Ytlgopjfnknjgjaa
