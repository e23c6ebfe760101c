/- Values compared: value.Compare, the reference's Compare; what a value may be. -/
import Derived.Test.YtkefppdacigbmaaL1
import Derived.Test.YtkefppdacigbmaaShelf
import Derived.Test.YtkefppdacigbmaaRows
import Derived.WalkKit
import Derived.BigQuiet
import Derived.Deep.QuietTactic
import Derived.Deep.RegionWith
import Derived.Deep.RegionLaw
import Derived.Lib.Hide
import Derived.Deep.DeepCutAuto
import Derived.WalkSpells
import Derived.WalkLawsBesides
namespace Go.Proofs.Ytkefppdacigbmaa
open Go.RowKit

theorem cmpint_any (a b : Int) (w : World) : Calls Try.prog 66 #[.int .i64 a, .int .i64 b] w fun e w' => e = .returned (.int .i64 (Lib.compareInt a b)) ∧ w = w' := by
  rcases Int.lt_trichotomy a b with h | h | h
  · have e : Lib.compareInt a b = -1 := by unfold Lib.compareInt; rw [if_pos h]
    rw [e]
    have hd : decide (a < b) = true := decide_eq_true h
    clear e
    go_enter Try.func66, Try.ntmps66
    go_wp2
    go_ret
    exact ⟨rfl, rfl⟩
  · subst h
    have e : Lib.compareInt a a = 0 := wo_int.refl a
    rw [e]
    clear e
    go_enter Try.func66, Try.ntmps66
    go_wp2
    go_ret
    exact ⟨rfl, rfl⟩
  · have e : Lib.compareInt a b = 1 := by unfold Lib.compareInt; rw [if_neg (by omega), if_pos h]
    rw [e]
    have hd : decide (a < b) = false := decide_eq_false (by omega)
    have hd2 : decide (b < a) = true := decide_eq_true h
    clear e
    go_enter Try.func66, Try.ntmps66
    go_wp2
    go_ret
    exact ⟨rfl, rfl⟩
theorem cmpint64_any (a b : Int) (w : World) : Calls Try.prog 68 #[.int .i64 a, .int .i64 b] w fun e w' => e = .returned (.int .i64 (Lib.compareInt a b)) ∧ w = w' := by
  rcases Int.lt_trichotomy a b with h | h | h
  · have e : Lib.compareInt a b = -1 := by unfold Lib.compareInt; rw [if_pos h]
    rw [e]
    have hd : decide (a < b) = true := decide_eq_true h
    clear e
    go_enter Try.func68, Try.ntmps68
    go_wp2
    go_ret
    exact ⟨rfl, rfl⟩
  · subst h
    have e : Lib.compareInt a a = 0 := wo_int.refl a
    rw [e]
    clear e
    go_enter Try.func68, Try.ntmps68
    go_wp2
    go_ret
    exact ⟨rfl, rfl⟩
  · have e : Lib.compareInt a b = 1 := by unfold Lib.compareInt; rw [if_neg (by omega), if_pos h]
    rw [e]
    have hd : decide (a < b) = false := decide_eq_false (by omega)
    have hd2 : decide (b < a) = true := decide_eq_true h
    clear e
    go_enter Try.func68, Try.ntmps68
    go_wp2
    go_ret
    exact ⟨rfl, rfl⟩
theorem cmpstr_any (a b : List UInt8) (w : World) : Calls Try.prog 69 #[.string (strOf a), .string (strOf b)] w fun e w' => e = .returned (.int .i64 (Lib.compareBytes a b)) ∧ w = w' :=
  (Try.strings_Compare (strOf a) (strOf b) w).mono fun _ _ ⟨he, hw⟩ => ⟨he, hw.symm⟩

/-- The test of two numbers sa the walk spells it. -/
theorem beq_int_ne {a b : Int} (h : a ≠ b) : (a == b) = false := beq_eq_false_iff_ne.2 h

theorem rank_any (b : Bool) (w : World) : Calls Try.prog 70 #[.bool b] w fun e w' => e = .returned (.int .i64 (rankB b)) ∧ w' = w := by
  cases b
  all_goals
    go_enter Try.func70, Try.ntmps70
    go_wp2
    go_ret
    exact ⟨rfl, rfl⟩
theorem cmpint_back (a b : Int) (w : World) : Calls Try.prog 66 #[.int .i64 a, .int .i64 b] w fun e w' => e = .returned (.int .i64 (Lib.compareInt a b)) ∧ w' = w :=
  (cmpint_any a b w).mono fun _ _ ⟨h1, h2⟩ => ⟨h1, h2.symm⟩
theorem ta22 (v : Value) (w : World) : (Instr.typeAssert (.iface 2 v) 20 2 true).run Try.prog w = .ok (.tuple #[v, .bool true]) w := by kernel_rfl
theorem ta92 (v : Value) (w : World) : (Instr.typeAssert (.iface 9 v) 20 2 true).run Try.prog w = .ok (.tuple #[.int .i64 0, .bool false]) w := by kernel_rfl
theorem ta99 (v : Value) (w : World) : (Instr.typeAssert (.iface 9 v) 20 9 true).run Try.prog w = .ok (.tuple #[v, .bool true]) w := by kernel_rfl
theorem ta42 (v : Value) (w : World) : (Instr.typeAssert (.iface 4 v) 20 2 true).run Try.prog w = .ok (.tuple #[.int .i64 0, .bool false]) w := by kernel_rfl
theorem ta49 (v : Value) (w : World) : (Instr.typeAssert (.iface 4 v) 20 9 true).run Try.prog w = .ok (.tuple #[.string ⟨#[]⟩, .bool false]) w := by kernel_rfl
theorem ta44 (v : Value) (w : World) : (Instr.typeAssert (.iface 4 v) 20 4 true).run Try.prog w = .ok (.tuple #[v, .bool true]) w := by kernel_rfl
theorem ta02 (w : World) : (Instr.typeAssert .nilIface 20 2 true).run Try.prog w = .ok (.tuple #[.int .i64 0, .bool false]) w := by kernel_rfl
theorem ta09 (w : World) : (Instr.typeAssert .nilIface 20 9 true).run Try.prog w = .ok (.tuple #[.string ⟨#[]⟩, .bool false]) w := by kernel_rfl
theorem ta04 (w : World) : (Instr.typeAssert .nilIface 20 4 true).run Try.prog w = .ok (.tuple #[.bool false, .bool false]) w := by kernel_rfl

set_option maxRecDepth 100000 in
set_option maxHeartbeats 2000000 in
theorem compare_any (w : World) (ak an bk bn : Int) (sa sb : List UInt8) (ab bb : Bool) :
    Calls Try.prog 23 #[.agg #[.int .i64 ak, .int .i64 an, .string (strOf sa), .bool ab], .agg #[.int .i64 bk, .int .i64 bn, .string (strOf sb), .bool bb]] w
      fun e w' => e = .returned (.int .i64 (cmpV ⟨ak, an, sa, ab⟩ ⟨bk, bn, sb, bb⟩)) ∧ Grew w w' := by
  by_cases hk : ak = bk
  · subst hk
    by_cases h1 : ak = 1
    · subst h1
      have e : cmpV ⟨1, an, sa, ab⟩ ⟨1, bn, sb, bb⟩ = Lib.compareInt an bn := rfl
      rw [e]
      have t1 := ta22
      clear e
      go_enter Try.func23, Try.ntmps23
      go_wp2_with (first | (go_at_call 68; refine (cmpint64_any _ _ _).mono ?_; rintro e w' ⟨rfl, rfl⟩) | go_in)
      go_ret
      exact ⟨rfl, (((Grew.refl w).alloc _).alloc _).alloc _⟩
    · have d1 := beq_int_ne h1
      by_cases h2 : ak = 2
      · subst h2
        have e : cmpV ⟨2, an, sa, ab⟩ ⟨2, bn, sb, bb⟩ = Lib.compareBytes sa sb := rfl
        rw [e]
        have t1 := ta92
        have t2 := ta99
        clear e d1 h1
        go_enter Try.func23, Try.ntmps23
        go_wp2_with (first | (go_at_call 69; refine (cmpstr_any _ _ _).mono ?_; rintro e w' ⟨rfl, rfl⟩) | go_in)
        go_ret
        exact ⟨rfl, (((Grew.refl w).alloc _).alloc _).alloc _⟩
      · have d2 := beq_int_ne h2
        by_cases h3 : ak = 3
        · subst h3
          have e : cmpV ⟨3, an, sa, ab⟩ ⟨3, bn, sb, bb⟩ = cmpB ab bb := rfl
          rw [e]
          have t1 := ta42
          have t2 := ta49
          have t3 := ta44
          clear e d1 h1 d2 h2
          cases ab <;> cases bb
          all_goals
            go_enter Try.func23, Try.ntmps23
            go_upto_region 12 with go_in
            go_quiet (first | (go_at_call 70; exact Calls.quiet_of_same (rank_any _ _)) | (go_at_call 66; exact Calls.quiet_of_same (cmpint_back _ _ _)))
            go_wp2
            go_ret
            exact ⟨rfl, ((((Grew.refl w).alloc _).alloc _).alloc _).drewN _⟩
        · have d3 := beq_int_ne h3
          have e : cmpV ⟨ak, an, sa, ab⟩ ⟨ak, bn, sb, bb⟩ = 0 := by unfold cmpV; rw [if_pos rfl, if_neg h1, if_neg h2, if_neg h3]
          rw [e]
          have t1 := ta02
          have t2 := ta09
          have t3 := ta04
          clear e h1 h2 h3
          go_enter Try.func23, Try.ntmps23
          go_wp2_with go_in
          go_ret
          exact ⟨rfl, (((Grew.refl w).alloc _).alloc _).alloc _⟩
  · have e : cmpV ⟨ak, an, sa, ab⟩ ⟨bk, bn, sb, bb⟩ = Lib.compareInt ak bk := by unfold cmpV; rw [if_neg hk]
    rw [e]
    have d1 := beq_int_ne hk
    clear e hk
    go_enter Try.func23, Try.ntmps23
    go_wp2_with (first | (go_at_call 66; refine (cmpint_any _ _ _).mono ?_; rintro e w' ⟨rfl, rfl⟩) | go_in)
    go_ret
    exact ⟨rfl, ((Grew.refl w).alloc _).alloc _⟩

end Go.Proofs.Ytkefppdacigbmaa
