/- A segment's name, of the reference, walked: Name. -/
import Derived.Test.YtkaepcjkpaplfaaDoorN2
namespace Go.Proofs.YtkaepcjkpaplfaaDoor
open Go.RowKit

set_option maxRecDepth 100000 in
set_option maxHeartbeats 2000000 in
theorem rname_any (w : World) (p : Int) (n : Nat) (hp1 : -9223372036854775808 ≤ p) (hp2 : p ≤ 9223372036854775807) (hn : n < 18446744073709551616) :
    Calls Tryd.prog 10 #[.int .i64 p, .int .u64 n] w fun e w' => e = .returned (.tuple #[.string (strOf (nameF p n).1), .int .i64 (nameF p n).2]) ∧ Ext w w' := by
  by_cases h0 : p < 0
  · have e : nameF p n = ([], 1) := by unfold nameF; rw [if_pos (.inl h0)]
    rw [e]
    have a1 : decide (p < 0) = true := decide_eq_true h0
    clear e
    go_enter Tryd.func10, Tryd.ntmps10
    go_wp2_with fail
    go_ret2
    exact ⟨rfl, Ext.refl w⟩
  have a1 : decide (p < 0) = false := decide_eq_false h0
  by_cases h4 : 3 < p
  · have e : nameF p n = ([], 1) := by unfold nameF; rw [if_pos (.inr (.inl (by omega)))]
    rw [e]
    have a2 : decide (3 < p) = true := decide_eq_true h4
    clear e
    go_enter Tryd.func10, Tryd.ntmps10
    go_wp2_with fail
    go_ret2
    exact ⟨rfl, Ext.refl w⟩
  have a2 : decide (3 < p) = false := decide_eq_false h4
  by_cases hn0 : n = 0
  · have e : nameF p n = ([], 1) := by unfold nameF; rw [if_pos (.inr (.inr (fun h => by have := h.1; omega)))]
    rw [e]
    subst hn0
    clear e
    go_enter Tryd.func10, Tryd.ntmps10
    go_wp2_with fail
    go_ret2
    exact ⟨rfl, Ext.refl w⟩
  have a3 : ((n : Int) == 0) = false := beq_eq_false_iff_ne.2 (by omega)
  by_cases hnb : 1099511627776 < n
  · have e : nameF p n = ([], 1) := by unfold nameF; rw [if_pos (.inr (.inr (fun h => by have := h.2; omega)))]
    rw [e]
    have a4 : decide ((1099511627776 : Int) < (n : Int)) = true := decide_eq_true (by omega)
    clear e
    go_enter Tryd.func10, Tryd.ntmps10
    go_wp2_with fail
    go_ret2
    exact ⟨rfl, Ext.refl w⟩
  have a4 : decide ((1099511627776 : Int) < (n : Int)) = false := decide_eq_false (by omega)
  have e : nameF p n = (nameL p.toNat n, 0) := by unfold nameF; rw [if_neg (by rintro (h | h | h); exact h0 h; omega; exact h ⟨by omega, by omega⟩)]
  rw [e]
  clear e
  obtain ⟨q, rfl⟩ : ∃ q : Nat, p = (q : Int) := ⟨p.toNat, by omega⟩
  have hq : q < 4 := by omega
  have eq_ : ((q : Int)).toNat = q := rfl
  rw [eq_]
  clear eq_
  generalize hL : nameL q n = L
  have HL := Lib.hid hL
  clear hL
  go_enter Tryd.func10, Tryd.ntmps10
  go_wp2_with fail
  go_loopw [1, 6, 7] (fun f s i wr => ∃ k : Nat, k ≤ 13 ∧ i = .int .i64 k ∧ f = .int .u64 ((n / 10 ^ k : Nat) : Int) ∧ s = .string (strOf (digs k n)) ∧ Ext w wr) (fun _ _ i _ => 13 - (intOf i).toNat)
  case atStart => exact ⟨0, by omega, rfl, by simp, rfl, Ext.refl w⟩
  case round =>
    obtain ⟨k, hk, rfl, rfl, rfl, hx⟩ := hrel
    by_cases hlt : k < 13
    · have hd : decide ((k : Int) < 13) = true := decide_eq_true (by omega)
      have hdv : Hid (n / 10 ^ k / 10 = n / 10 ^ (k + 1)) := by show _ = _; rw [Nat.div_div_eq_div_mul, Nat.pow_succ]
      have hfront := Lib.hid (digs_front k n)
      have hdl := digs_length k n
      have hlit := lit_u8 wr (48 + ((n / 10 ^ k : Nat) : Int) % 10) (UInt8.ofNat (48 + n / 10 ^ k % 10)) (by rw [UInt8.toNat_ofNat']; omega)
      have hnk : n / 10 ^ k < 18446744073709551616 := Nat.lt_of_le_of_lt (Nat.div_le_self _ _) hn
      generalize UInt8.ofNat (48 + n / 10 ^ k % 10) = c at *
      generalize n / 10 ^ k = m at *
      generalize hDk : digs k n = D at *
      have hroom : ¬ (9223372036854775807 < (strOf [c]).size + (strOf D).size) := by rw [strOf_size, strOf_size, hdl]; simp only [List.length_cons, List.length_nil]; omega
      have hcat : Hid (strOf [c] ++ strOf D = strOf (digs (k + 1) n)) := by show _ = _; rw [hfront.out, strOf_append]; rfl
      clear hdl hDk
      go_wp2_with (refine strB (.tmp 30) rfl rfl hlit ?_)
      rw [hcat.out]
      go_roundw
      case rel => exact ⟨k + 1, hlt, by go_num, (by rw [← hdv.out]; go_num), rfl, hx.alloc _⟩
      case measure => simp [intOf]; omega
    · obtain rfl : k = 13 := by omega
      have hd : decide (((13 : Nat) : Int) < 13) = false := rfl
      have hnm : Hid (L = [115, UInt8.ofNat (48 + q), 45] ++ digs 13 n) := HL.out.symm
      clear HL
      have hlit := lit_u8 wr (48 + (q : Int)) (UInt8.ofNat (48 + q)) (by rw [UInt8.toNat_ofNat']; omega)
      have hdl := digs_length 13 n
      generalize UInt8.ofNat (48 + q) = c at *
      generalize digs 13 n = D at *
      have hroom : ¬ (9223372036854775807 < (strOf [115, c, 45]).size + (strOf D).size) := by rw [strOf_size, strOf_size, hdl]; simp only [List.length_cons, List.length_nil]; omega
      have hcat : Hid (strOf [115, c, 45] ++ strOf D = strOf L) := by show _ = _; rw [hnm.out, strOf_append]
      clear hdl
      go_wp2_with (refine strB (.tmp 39) rfl rfl hlit ?_)
      have hX : ((⟨#[115]⟩ : ByteArray) ++ strOf [c] ++ (⟨#[45]⟩ : ByteArray) ++ strOf D) = strOf L := by rw [← hcat.out]; rfl
      go_ret2
      exact ⟨congrArg (fun z => Ending.returned (.tuple #[.string z, .int .i64 0])) hX, hx.alloc _⟩

end Go.Proofs.YtkaepcjkpaplfaaDoor
