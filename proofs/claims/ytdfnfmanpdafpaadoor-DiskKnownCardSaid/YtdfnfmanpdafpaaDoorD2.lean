/- Disk: burns; Off. -/
import Derived.Test.YtdfnfmanpdafpaaDoorD1
namespace Go.Proofs.YtdfnfmanpdafpaaDoor
open Go.RowKit
set_option maxRecDepth 100000 in
set_option maxHeartbeats 4000000 in
theorem burns_out (w : World) (b : Nat) (m : Value) (q : Int) (off : Bool) (h : DkB w b m q 0 off) :
    Calls Tryd.prog 39 #[.pointer (some ⟨b, 0, none⟩)] w fun e w' => e = .returned (.int .i64 8) ∧ w' = (w.setCell ⟨b, 3, none⟩ (.bool true)).setCell ⟨b, 2, none⟩ (.int .i64 (-1)) := by
  have b2 := cell_of_row _ _ 2 _ _ _ h
  have b3 := cell_of_row _ _ 3 _ _ _ h
  have z2 := frozen_of_row _ _ 2 _ _ h
  have z3 := frozen_of_row _ _ 3 _ _ h
  clear h
  go_enter Tryd.func39, Tryd.ntmps39
  go_wp2_with fail
  go_ret
  exact ⟨rfl, rfl⟩
set_option maxRecDepth 100000 in
set_option maxHeartbeats 4000000 in
theorem burns_holds (w : World) (b : Nat) (m : Value) (q fz : Int) (off : Bool) (h : DkB w b m q fz off) (h0 : fz < 0) :
    Calls Tryd.prog 39 #[.pointer (some ⟨b, 0, none⟩)] w fun e w' => e = .returned (.int .i64 0) ∧ w' = w := by
  have b2 := cell_of_row _ _ 2 _ _ _ h
  have d0 : (fz == 0) = false := beq_eq_false_iff_ne.2 (by omega)
  have d1 : decide (fz > 0) = false := decide_eq_false (by omega)
  clear h h0
  go_enter Tryd.func39, Tryd.ntmps39
  go_wp2_with fail
  go_ret
  exact ⟨rfl, rfl⟩
set_option maxRecDepth 100000 in
set_option maxHeartbeats 4000000 in
theorem burns_one (w : World) (b : Nat) (m : Value) (q fz : Int) (off : Bool) (h : DkB w b m q fz off) (h0 : 0 < fz) (h1 : fz < 9223372036854775808) :
    Calls Tryd.prog 39 #[.pointer (some ⟨b, 0, none⟩)] w fun e w' => e = .returned (.int .i64 0) ∧ w' = w.setCell ⟨b, 2, none⟩ (.int .i64 (fz - 1)) := by
  have b2 := cell_of_row _ _ 2 _ _ _ h
  have z2 := frozen_of_row _ _ 2 _ _ h
  have d0 : (fz == 0) = false := beq_eq_false_iff_ne.2 (by omega)
  have d1 : decide (fz > 0) = true := decide_eq_true (by omega)
  have wr : IntKind.i64.wrap (fz - 1) = fz - 1 := by rw [IntKind.wrap_i64]; omega
  clear h h0 h1
  go_enter Tryd.func39, Tryd.ntmps39
  go_wp2_with fail
  go_ret
  exact ⟨rfl, rfl⟩
set_option maxRecDepth 100000 in
set_option maxHeartbeats 4000000 in
theorem off_any (w : World) (b mb : Nat) (q fz : Int) (off : Bool) (h : DkB w b (.map (some mb)) q fz off) :
    Calls Tryd.prog 18 #[.pointer (some ⟨b, 0, none⟩)] w fun e w' => e = .returned (.bool off) ∧ w' = w := by
  have ha := answers_any w b mb q fz off h
  have HA := Lib.hid ha
  clear h ha
  cases off
  · go_enter Tryd.func18, Tryd.ntmps18
    go_wp2_with (go_at_call 30; (with_reducible refine HA.out.mono ?_); rintro e w5 ⟨rfl, rfl⟩)
    go_ret
    exact ⟨rfl, rfl⟩
  · go_enter Tryd.func18, Tryd.ntmps18
    go_wp2_with (go_at_call 30; (with_reducible refine HA.out.mono ?_); rintro e w5 ⟨rfl, rfl⟩)
    go_ret
    exact ⟨rfl, rfl⟩
end Go.Proofs.YtdfnfmanpdafpaaDoor
