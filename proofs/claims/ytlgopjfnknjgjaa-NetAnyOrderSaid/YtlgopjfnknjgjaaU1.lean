/- math/bits.Len (49, 63) at small numbers; cmp.Less at uint64 (59, 51). -/
import Derived.Test.YtlgopjfnknjgjaaD8
namespace Go.Proofs.Ytlgopjfnknjgjaa
open Go.RowKit

/-- A number that is not below 0. -/
def SomeNat (w : World) (e : Ending) (w' : World) : Prop := (∃ m : Nat, e = .returned (.int .i64 m) ∧ m ≤ 1000) ∧ Ext w w'

theorem w2 (m : Nat) (h : m < 256) : wrap64 (wrap64 (m : Int)) = m := by unfold wrap64; omega
theorem ret_small (b : UInt8) : ∃ m : Nat, Ending.returned (.int .i64 (wrap64 (wrap64 (b.toNat : Int)))) = .returned (.int .i64 m) ∧ m ≤ 1000 := by
  have := b.toNat_lt
  exact ⟨b.toNat, by rw [w2 _ (by omega)], by omega⟩
set_option maxRecDepth 100000 in
set_option maxHeartbeats 4000000 in
theorem len64_any (w : World) (n : Nat) (hn : n < 256) : Calls Try.prog 63 #[.int .u64 n] w (SomeNat w) := by
  have h1 : decide ((4294967296 : Int) ≤ (n : Int)) = false := decide_eq_false (by omega)
  have h2 : decide ((65536 : Int) ≤ (n : Int)) = false := decide_eq_false (by omega)
  have h3 : decide ((256 : Int) ≤ (n : Int)) = false := decide_eq_false (by omega)
  go_enter Try.func63, Try.ntmps63
  go_wp2_with fail
  go_ret
  exact ⟨ret_small _, Ext.refl w⟩
theorem len_any (w : World) (n : Nat) (hn : n < 256) : Calls Try.prog 49 #[.int .u64 n] w (SomeNat w) := by
  have hc := len64_any w n hn
  have HC := Lib.hid hc
  clear hc
  go_enter Try.func49, Try.ntmps49
  go_wp2_with ((with_reducible refine HC.out.mono ?_); rintro e w2 ⟨⟨m, rfl, hm⟩, hx⟩)
  go_ret
  exact ⟨⟨m, rfl, hm⟩, hx⟩
theorem isnan_any (w : World) (x : Nat) : Calls Try.prog 51 #[.int .u64 x] w fun e w' => e = .returned (.bool false) ∧ w = w' := by
  go_enter Try.func51, Try.ntmps51
  go_wp2_with fail
  go_ret
  exact ⟨rfl, rfl⟩
def ltN (x y : Nat) : Bool := decide (x < y)
theorem less_any (w : World) (x y : Nat) : Calls Try.prog 59 #[.int .u64 x, .int .u64 y] w fun e w' => e = .returned (.bool (ltN x y)) ∧ w = w' := by
  go_enter Try.func59, Try.ntmps59
  go_wp2_with ((with_reducible refine (isnan_any _ _).mono ?_); rintro e w' ⟨rfl, rfl⟩)
  go_ret
  exact ⟨by simp [ltN], rfl⟩
theorem less_yes {x y : Nat} (h : ltN x y = true) (w : World) : Calls Try.prog 59 #[.int .u64 x, .int .u64 y] w fun e w' => e = .returned (.bool true) ∧ Ext w w' :=
  (less_any w x y).mono fun _ _ ⟨e, hw⟩ => ⟨by rw [e, h], by rw [← hw]; exact Ext.refl w⟩
theorem less_no {x y : Nat} (h : ltN x y = false) (w : World) : Calls Try.prog 59 #[.int .u64 x, .int .u64 y] w fun e w' => e = .returned (.bool false) ∧ Ext w w' :=
  (less_any w x y).mono fun _ _ ⟨e, hw⟩ => ⟨by rw [e, h], by rw [← hw]; exact Ext.refl w⟩
end Go.Proofs.Ytlgopjfnknjgjaa
