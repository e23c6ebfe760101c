/- What the rows' proofs share. -/
import Derived.Test.YtlgopjfnknjgjaaL2
import Derived.Test.YtlgopjfnknjgjaaRows
import Derived.Test.YtlgopjfnknjgjaaProg
import Derived.ProofKit
import Derived.OpenShut
import Derived.ChangeOld
import Derived.SizedLaws
import Derived.Deep.Slices
import Derived.Deep.Fields
import Derived.ChangeSame
namespace Go.Proofs.Ytlgopjfnknjgjaa
open Go.RowKit Go.ChangeShapes Go.WideShapes Go.Deep

theorem own : ownKnob Try.prog.godebug = none := by kernel_rfl
theorem laidOut : laidOutB Try.prog = true := by kernel_rfl
end Go.Proofs.Ytlgopjfnknjgjaa
