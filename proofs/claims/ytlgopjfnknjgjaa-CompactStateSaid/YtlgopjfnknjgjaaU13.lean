/- bits.Len, exactly, below 512; nextPowerOfTwo (73). -/
import Derived.Test.YtlgopjfnknjgjaaU12
namespace Go.Proofs.Ytlgopjfnknjgjaa
open Go.RowKit

theorem bl_law : ∀ n : Fin 256, 0 < n.1 → n.1 < 2 ^ Lib.bitLen n.1 ∧ 2 ^ Lib.bitLen n.1 ≤ 2 * n.1 := by decide +kernel
theorem tab_all : (List.range 256).all (fun n => (Lib.len8tab[n]!).toNat == Lib.bitLen n) = true := by decide +kernel
theorem tab_at (n : Nat) (h : n < 256) (hs : n < Lib.len8tab.size) : (Lib.len8tab[n]'hs).toNat = Lib.bitLen n := by
  have := List.all_eq_true.1 tab_all n (List.mem_range.2 h)
  rw [getElem!_pos Lib.len8tab n hs] at this
  exact beq_iff_eq.1 this
theorem bl_ret (n : Nat) (h : n < 256) (hs : n < Lib.len8tab.size) : Ending.returned (.int .i64 (wrap64 (wrap64 ((Lib.len8tab[n]'hs).toNat : Int)))) = .returned (.int .i64 (Lib.bitLen n : Nat)) := by
  have hb : Lib.bitLen n < 256 := by
    by_cases h0 : 0 < n
    · have := (bl_law ⟨n, h⟩ h0).2
      simp only at this
      rcases Nat.lt_or_ge (Lib.bitLen n) 256 with h9 | h9
      · exact h9
      · have h8 := Nat.pow_le_pow_right (show 0 < 2 by decide) (Nat.le_trans (show 10 ≤ 256 by decide) h9)
        have e : (2 : Nat) ^ 10 = 1024 := by decide
        omega
    · obtain rfl : n = 0 := by omega
      decide
  rw [tab_at n h hs, w2 _ hb]
/-- The length in bits. -/
def LenQ (w : World) (n : Nat) (e : Ending) (w' : World) : Prop := ∃ L : Nat, e = .returned (.int .i64 L) ∧ n < 2 ^ L ∧ 2 ^ L ≤ 2 * n ∧ L ≤ 9 ∧ Ext w w'
theorem len_le {n L : Nat} (hn : n < 512) (h : 2 ^ L ≤ 2 * n) : L ≤ 9 := by
  rcases Nat.lt_or_ge 9 L with h9 | h9
  · have := Nat.pow_le_pow_right (show 0 < 2 by decide) h9
    have e : (2 : Nat) ^ (9 + 1) = 1024 := by decide
    omega
  · exact h9

set_option maxRecDepth 100000 in
set_option maxHeartbeats 4000000 in
theorem len64_small (w : World) (n : Nat) (h0 : 0 < n) (hn : n < 256) : Calls Try.prog 63 #[.int .u64 n] w (LenQ w n) := by
  have h1 : decide ((4294967296 : Int) ≤ (n : Int)) = false := decide_eq_false (by omega)
  have h2 : decide ((65536 : Int) ≤ (n : Int)) = false := decide_eq_false (by omega)
  have h3 : decide ((256 : Int) ≤ (n : Int)) = false := decide_eq_false (by omega)
  have HL := Lib.hid (bl_law ⟨n, hn⟩ h0)
  clear h0
  go_enter Try.func63, Try.ntmps63
  go_wp2_with fail
  go_ret
  refine ⟨Lib.bitLen n, bl_ret n hn _, HL.out.1, HL.out.2, len_le (by omega) HL.out.2, Ext.refl w⟩
set_option maxRecDepth 100000 in
set_option maxHeartbeats 4000000 in
theorem len64_big (w : World) (n : Nat) (h0 : 256 ≤ n) (hn : n < 512) : Calls Try.prog 63 #[.int .u64 n] w (LenQ w n) := by
  have h1 : decide ((4294967296 : Int) ≤ (n : Int)) = false := decide_eq_false (by omega)
  have h2 : decide ((65536 : Int) ≤ (n : Int)) = false := decide_eq_false (by omega)
  have h3 : decide ((256 : Int) ≤ (n : Int)) = true := decide_eq_true (by omega)
  have q : (n : Int) / 256 = 1 := by omega
  go_enter Try.func63, Try.ntmps63
  go_wp2_with fail
  go_ret
  refine ⟨9, congrArg (fun z => Ending.returned (.int .i64 z)) (show wrap64 (8 + wrap64 (Lib.len8 1)) = ((9 : Nat) : Int) by decide +kernel), by omega, by omega, Nat.le_refl _, Ext.refl w⟩
theorem len_exact (w : World) (n : Nat) (h0 : 0 < n) (hn : n < 512) : Calls Try.prog 49 #[.int .u64 n] w (LenQ w n) := by
  have hc : ∀ W, Calls Try.prog 63 #[.int .u64 n] W (LenQ W n) := fun W => by
    by_cases h : n < 256
    · exact len64_small W n h0 h
    · exact len64_big W n (by omega) hn
  have HC := Lib.hid hc
  clear hc h0 hn
  go_enter Try.func49, Try.ntmps49
  go_wp2_with ((with_reducible refine (HC.out _).mono ?_); rintro e w2 ⟨m, rfl, h1, h2, h3, hx⟩; have H1 := Lib.hid h1; have H2 := Lib.hid h2; clear h1 h2)
  go_ret
  exact ⟨m, rfl, H1.out, H2.out, h3, hx⟩
theorem pow_wrap {m : Nat} (h : m ≤ 9) : IntKind.u64.wrap (2 ^ m) = ((2 ^ m : Nat) : Int) := by
  have : ∀ k : Fin 10, IntKind.u64.wrap (2 ^ k.1) = ((2 ^ k.1 : Nat) : Int) := by decide +kernel
  exact this ⟨m, by omega⟩
def PowQ (w : World) (n : Nat) (e : Ending) (w' : World) : Prop := ∃ M : Nat, e = .returned (.int .u64 M) ∧ n < M ∧ M ≤ 2 * n ∧ Ext w w'
set_option maxRecDepth 100000 in
set_option maxHeartbeats 4000000 in
theorem pow_any (w : World) (n : Nat) (h0 : 0 < n) (hn : n < 512) : Calls Try.prog 73 #[.int .i64 n] w (PowQ w n) := by
  have HC := Lib.hid (fun W => len_exact W n h0 hn)
  clear h0
  go_enter Try.func73, Try.ntmps73
  go_wp2_with ((with_reducible refine (HC.out _).mono ?_); rintro e w2 ⟨m, rfl, h1, h2, h3, hx⟩; have H1 := Lib.hid h1; have H2 := Lib.hid h2; clear h1 h2)
  go_ret
  refine ⟨2 ^ m, congrArg (fun z => Ending.returned (.int .u64 z)) (pow_wrap h3), H1.out, H2.out, hx⟩
end Go.Proofs.Ytlgopjfnknjgjaa
