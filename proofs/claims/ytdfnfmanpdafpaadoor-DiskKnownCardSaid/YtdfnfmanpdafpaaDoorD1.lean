/- Disk: the disk in memory; answers, wrong's and burns' walks. -/
import Derived.Test.YtdfnfmanpdafpaaDoorK8
import Derived.Test.YtdfnfmanpdafpaaDoorV2
import Derived.Test.YtdfnfmanpdafpaaDoorL1
import Derived.Test.YtdfnfmanpdafpaaDoorRows
import Derived.Deep.QuietTactic
import Derived.Deep.WholeRow
import Derived.Lib.Hide
import Derived.WalkKit
import Derived.BigQuiet
import Derived.Deep.RegionWith
import Derived.Deep.RegionLaw
import Derived.Deep.DeepCutAuto
import Derived.WalkSpells
import Derived.WalkLawsBesides
namespace Go.Proofs.YtdfnfmanpdafpaaDoor
open Go.RowKit
def DkB (w : World) (b : Nat) (m : Value) (q fz : Int) (off : Bool) : Prop := w.heap[b]? = some (.cells #[m, .int .i64 q, .int .i64 fz, .bool off] 58 (0, 0))
def ansN (off : Bool) : Int := if off then 8 else 0
set_option maxRecDepth 100000 in
set_option maxHeartbeats 4000000 in
theorem answers_nil (w : World) :
    Calls Tryd.prog 30 #[.pointer none] w fun e w' => e = .returned (.int .i64 2) ∧ w' = w := by
  go_enter Tryd.func30, Tryd.ntmps30
  go_wp2_with fail
  go_ret
  exact ⟨rfl, rfl⟩
set_option maxRecDepth 100000 in
set_option maxHeartbeats 4000000 in
theorem answers_any (w : World) (b mb : Nat) (q fz : Int) (off : Bool) (h : DkB w b (.map (some mb)) q fz off) :
    Calls Tryd.prog 30 #[.pointer (some ⟨b, 0, none⟩)] w fun e w' => e = .returned (.int .i64 (ansN off)) ∧ w' = w := by
  have b0 := cell_of_row _ _ 0 _ _ _ h
  have b3 := cell_of_row _ _ 3 _ _ _ h
  clear h
  have em : ∀ w0 : World, Sem.run Tryd.prog (binOp .eql 56 (.map (some mb)) (.map none)) w0 = .ok (.bool false) w0 := fun _ => rfl
  cases off
  · go_enter Tryd.func30, Tryd.ntmps30
    go_wp2_with (simp only [em])
    go_ret
    exact ⟨rfl, rfl⟩
  · go_enter Tryd.func30, Tryd.ntmps30
    go_wp2_with (simp only [em])
    go_ret
    exact ⟨rfl, rfl⟩
end Go.Proofs.YtdfnfmanpdafpaaDoor
