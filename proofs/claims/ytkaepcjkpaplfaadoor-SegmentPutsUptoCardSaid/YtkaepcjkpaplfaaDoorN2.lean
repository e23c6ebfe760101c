/- A number's form, walked: Clone of bytes, wire.Num. -/
import Derived.Test.YtkaepcjkpaplfaaDoorN1
import Derived.Lib.SliceRun
namespace Go.Proofs.YtkaepcjkpaplfaaDoor
open Go.RowKit

theorem own_empty (w : World) (base : Nat) (hb : base ≤ w.heap.size) : OwnB (w.alloc (.cells #[] 5)) base (.slice (some ⟨w.heap.size, 0, none⟩) 0 0) [] :=
  ⟨rfl, .inr ⟨w.heap.size, 0, #[], rfl, hb, heap_alloc_new _ _, Nat.le_refl _, Nat.zero_le _, rfl, rfl⟩⟩

theorem Bytes.nil_len {w : World} {n cap : Nat} {l : List UInt8} (h : Bytes w (.slice none n cap) l) : l = [] ∧ n = 0 := by
  obtain ⟨_, a, c, hv, hc, _, hnil, _⟩ := h
  simp only [Value.slice.injEq] at hv
  obtain ⟨rfl, rfl, rfl⟩ := hv
  have := hnil rfl
  exact ⟨List.eq_nil_of_length_eq_zero (by omega), by omega⟩

@[go_sem] theorem eql_nil (w : World) (a : Option Addr) (n c : Nat) : (binOp .eql 34 (.slice a n c) (.slice none 0 0)).run Tryd.prog w = .ok (.bool a.isNone) w :=
  Lib.run_eql_slice_nil w 34 5 a n c 0 0 Tryd.underlying34

set_option maxRecDepth 100000 in
theorem bclone_any (w : World) (v : Value) (l : List UInt8) (hl : Bytes w v l) (hn : l.length ≤ 140737488355328) :
    Calls Tryd.prog 56 #[v] w fun e w' => ∃ v', e = .returned v' ∧ OwnB w' w.heap.size v' l ∧ Ext w w' := by
  obtain ⟨a, cap, rfl, hc, hm⟩ := hl.shape
  unfold maxLen at hm
  cases a with
  | none =>
    obtain ⟨rfl, -⟩ := hl.nil_len
    go_enter Tryd.func56, Tryd.ntmps56
    go_wp2_with fail
    go_ret
    exact ⟨_, rfl, OwnB.nil _ _, Ext.refl w⟩
  | some p =>
    go_enter Tryd.func56, Tryd.ntmps56
    have hl1 := hl.ext ((Ext.refl w).alloc (.cells #[] 5))
    have ho := own_empty w w.heap.size (Nat.le_refl _)
    go_wp2_with (at_builtin; refine appB (.tmp 5) (.tmp 6) rfl rfl w.heap.size ho hl1 (by simp; omega) (by simp) ?_; intro v2 w2 ho2 hg2; rw [List.nil_append] at ho2; have hx2 : Ext w w2 := ((Ext.refl w).alloc _).mono_grown ho (Nat.le_refl _) hg2; clear hg2)
    go_ret
    exact ⟨_, rfl, ho2, hx2⟩
set_option maxRecDepth 100000 in
theorem sclone_any (w : World) (v : Value) (l : List UInt8) (hl : Bytes w v l) (hn : l.length ≤ 140737488355328) :
    Calls Tryd.prog 50 #[v] w fun e w' => ∃ v', e = .returned v' ∧ OwnB w' w.heap.size v' l ∧ Ext w w' := by
  obtain ⟨a, cap, rfl, hc, hm⟩ := hl.shape
  unfold maxLen at hm
  cases a with
  | none =>
    obtain ⟨rfl, -⟩ := hl.nil_len
    go_enter Tryd.func50, Tryd.ntmps50
    go_wp2_with fail
    go_ret
    exact ⟨_, rfl, OwnB.nil _ _, Ext.refl w⟩
  | some p =>
    go_enter Tryd.func50, Tryd.ntmps50
    have hl1 := hl.ext ((Ext.refl w).alloc (.cells #[] 5))
    have ho := own_empty w w.heap.size (Nat.le_refl _)
    go_wp2_with (at_builtin; refine appB (.tmp 5) (.tmp 6) rfl rfl w.heap.size ho hl1 (by simp; omega) (by simp) ?_; intro v2 w2 ho2 hg2; rw [List.nil_append] at ho2; have hx2 : Ext w w2 := ((Ext.refl w).alloc _).mono_grown ho (Nat.le_refl _) hg2; clear hg2)
    go_ret
    exact ⟨_, rfl, ho2, hx2⟩

theorem u64_and7 (m : Nat) (h : m < 18446744073709551616) : bits .and .u64 (m : Int) 127 = ((m % 128 : Nat) : Int) := by
  have := u64_and_nat m 127 h (by omega)
  rw [show ((127 : Int)) = ((127 : Nat) : Int) from rfl, this]
  congr 1
  exact Nat.and_two_pow_sub_one_eq_mod m 7

theorem lit_u8 (w : World) (x : Int) (c : UInt8) (hx : x = (c.toNat : Int)) : Bytes (w.alloc (.cells #[.int .u8 x] 5)) (.slice (some ⟨w.heap.size, 0, none⟩) 1 1) [c] := by
  have h := bytes_block (w := w.alloc (.cells #[.int .u8 x] 5)) (l := [c]) (g := w.heap.size) (t := 5) (fr := (0, 0)) (by rw [heap_alloc_new, hx]; rfl) (by show 1 ≤ _; decide)
  exact h
theorem vput_last {f m : Nat} (h : m < 128) : vputN f m = [UInt8.ofNat m] := by
  cases f with
  | zero => rfl
  | succ f => unfold vputN; rw [if_pos h]
theorem vput_more {f m : Nat} (h : ¬ m < 128) : vputN (f + 1) m = UInt8.ofNat (m % 128 + 128) :: vputN f (m / 128) := by
  conv => lhs; unfold vputN
  rw [if_neg h]
theorem u8_or128 (m : Nat) : bits .or .u8 ((m : Int) % 128) 128 = ((m % 128 + 128 : Nat) : Int) := by
  have h := u8_or_nat (m % 128) 128 (by omega) (by omega)
  rw [show ((m : Int) % 128) = ((m % 128 : Nat) : Int) by omega, show ((128 : Int)) = ((128 : Nat) : Int) from rfl, h]
  congr 1
  have h2 : 128 + m % 128 = 128 ||| m % 128 := Nat.two_pow_add_eq_or_of_lt (i := 7) (b := m % 128) (by omega) 1
  rw [Nat.or_comm]
  omega

set_option maxRecDepth 100000 in
set_option maxHeartbeats 1000000 in
theorem num_put (w : World) (v : Value) (l : List UInt8) (n : Nat) (hl : Bytes w v l) (hn : l.length ≤ 100000000000000) (h64 : n < 18446744073709551616) :
    Calls Tryd.prog 30 #[v, .int .u64 n] w fun e w' => ∃ v', e = .returned v' ∧ OwnB w' w.heap.size v' (l ++ vput n) ∧ Ext w w' := by
  obtain ⟨a, cap, rfl, hc, hm⟩ := hl.shape
  unfold maxLen at hm
  go_enter Tryd.func30, Tryd.ntmps30
  go_wp2_with fail
  go_step3
  go_wp2_with fail
  refine (sclone_any _ _ l hl (by omega)).mono ?_
  rintro e w1 ⟨v1, rfl, ho1, hx1⟩
  go_wp2_with fail
  go_step3
  go_wp2_with fail
  go_loopw [1, 5] (fun x out wr => ∃ (f m : Nat) (acc : List UInt8), x = .int .u64 m ∧ m < 128 ^ (f + 1) ∧ m < 18446744073709551616 ∧ f ≤ 9 ∧ Hid (acc ++ vputN f m = l ++ vput n) ∧ acc.length + f = l.length + 9 ∧ OwnB wr w.heap.size out acc ∧ Ext w wr) (fun x _ _ => (intOf x).toNat)
  case atStart => exact ⟨9, n, l, rfl, by omega, h64, Nat.le_refl _, rfl, rfl, ho1, hx1⟩
  case round =>
    obtain ⟨f, m, acc, rfl, hm1, hm2, hf, hacc, hlen, ho, hx⟩ := hrel
    have hand := u64_and7 m hm2
    by_cases h0 : m / 128 = 0
    · have hd : decide ((m : Int) / 128 = 0) = true := decide_eq_true (by omega)
      have hfin : Hid (acc ++ [UInt8.ofNat m] = l ++ vput n) := by show _ = _; rw [← hacc.out, vput_last (by omega)]
      have hlit := lit_u8 wr ((m : Int) % 128) (UInt8.ofNat m) (by rw [UInt8.toNat_ofNat']; omega)
      have ho' := ho.ext ((Ext.refl wr).alloc (.cells #[.int .u8 ((m : Int) % 128)] 5))
      have hb' := hx.size
      go_wp2_with (at_builtin; refine appB (.tmp 16) (.tmp 18) rfl rfl w.heap.size ho' hlit (by simp; omega) (by simp; omega) ?_; intro v2 w2 ho2 hg2; have hx2 : Ext w w2 := (hx.alloc _).mono_grown ho' (Nat.le_refl _) hg2; clear hg2)
      rw [Exit.noGoto_ret]
      go_ret
      exact ⟨_, rfl, by rw [← hfin.out]; exact ho2, hx2⟩
    · have hd : decide ((m : Int) / 128 = 0) = false := decide_eq_false (by omega)
      have hor := u8_or128 m
      have hlit := lit_u8 wr ((m % 128 + 128 : Nat) : Int) (UInt8.ofNat (m % 128 + 128)) (by rw [UInt8.toNat_ofNat']; omega)
      have ho' := ho.ext ((Ext.refl wr).alloc (.cells #[.int .u8 ((m % 128 + 128 : Nat) : Int)] 5))
      have hb' := hx.size
      cases f with
      | zero => omega
      | succ f =>
        have hnext : Hid ((acc ++ [UInt8.ofNat (m % 128 + 128)]) ++ vputN f (m / 128) = l ++ vput n) := by
          show _ = _; rw [← hacc.out, vput_more (by omega), List.append_assoc]; rfl
        have hp : m / 128 < 128 ^ (f + 1) := by rw [Nat.pow_succ] at hm1; omega
        clear hm1
        go_wp2_with (at_builtin; refine appB (.tmp 20) (.tmp 23) rfl rfl w.heap.size ho' hlit (by simp; omega) (by simp; omega) ?_; intro v2 w2 ho2 hg2; have hx2 : Ext w w2 := (hx.alloc _).mono_grown ho' (Nat.le_refl _) hg2; clear hg2)
        go_roundw
        case rel => exact ⟨f, m / 128, _, by go_num, hp, by omega, by omega, hnext, by simp; omega, ho2, hx2⟩
        case measure => simp [intOf]; omega

end Go.Proofs.YtkaepcjkpaplfaaDoor
