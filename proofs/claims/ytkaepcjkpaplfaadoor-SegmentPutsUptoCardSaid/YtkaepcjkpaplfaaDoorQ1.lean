/- The reference's numbers and forms, walked: Form, Num, Put. -/
import Derived.Test.YtkaepcjkpaplfaaDoorN8
import Derived.Test.YtkaepcjkpaplfaaDoorW7
namespace Go.Proofs.YtkaepcjkpaplfaaDoor
open Go.RowKit

set_option maxRecDepth 100000 in
set_option maxHeartbeats 1000000 in
theorem form_any (w : World) (n : Nat) (h64 : n < 18446744073709551616) :
    Calls Tryd.prog 52 #[.int .u64 n] w fun e w' => ∃ v', e = .returned v' ∧ OwnB w' w.heap.size v' (vput n) ∧ Ext w w' := by
  go_enter Tryd.func52, Tryd.ntmps52
  go_wp2_with fail
  go_loopw [0, 3] (fun x out wr => ∃ (f m : Nat) (acc : List UInt8), x = .int .u64 m ∧ m < 128 ^ (f + 1) ∧ m < 18446744073709551616 ∧ f ≤ 9 ∧ Hid (acc ++ vputN f m = vput n) ∧ acc.length + f = 9 ∧ OwnB wr w.heap.size out acc ∧ Ext w wr) (fun x _ _ => (intOf x).toNat)
  case atStart => exact ⟨9, n, [], rfl, by omega, h64, Nat.le_refl _, rfl, rfl, OwnB.nil _ _, Ext.refl _⟩
  case round =>
    obtain ⟨f, m, acc, rfl, hm1, hm2, hf, hacc, hlen, ho, hx⟩ := hrel
    have hb' := hx.size
    by_cases h0 : m < 128
    · have hd : decide ((128 : Int) ≤ (m : Int)) = false := decide_eq_false (by omega)
      have hfin : Hid (acc ++ [UInt8.ofNat m] = vput n) := by show _ = _; rw [← hacc.out, vput_last (by omega)]
      have hlit := lit_u8 wr (m : Int) (UInt8.ofNat m) (by rw [UInt8.toNat_ofNat']; omega)
      have ho' := ho.ext ((Ext.refl wr).alloc (.cells #[.int .u8 (m : Int)] 5))
      have hcv : IntKind.u8.wrap (m : Int) = (m : Int) := by simp [IntKind.wrap, IntKind.bits, IntKind.signed]; omega
      go_wp2_with (at_builtin; refine appB (.tmp 15) (.tmp 18) rfl rfl w.heap.size ho' hlit (by simp; omega) (by simp; omega) ?_; intro v2 w2 ho2 hg2; have hx2 : Ext w w2 := (hx.alloc _).mono_grown ho' (Nat.le_refl _) hg2; clear hg2)
      go_ret
      exact ⟨_, rfl, by rw [← hfin.out]; exact ho2, hx2⟩
    · have hd : decide ((128 : Int) ≤ (m : Int)) = true := decide_eq_true (by omega)
      have hlit := lit_u8 wr (128 + (m : Int) % 128) (UInt8.ofNat (m % 128 + 128)) (by rw [UInt8.toNat_ofNat']; omega)
      have ho' := ho.ext ((Ext.refl wr).alloc (.cells #[.int .u8 (128 + (m : Int) % 128)] 5))
      cases f with
      | zero => omega
      | succ f =>
        have hnext : Hid ((acc ++ [UInt8.ofNat (m % 128 + 128)]) ++ vputN f (m / 128) = vput n) := by
          show _ = _; rw [← hacc.out, vput_more (by omega), List.append_assoc]; rfl
        have hp : m / 128 < 128 ^ (f + 1) := by rw [Nat.pow_succ] at hm1; omega
        clear hm1
        go_wp2_with (at_builtin; refine appB (.tmp 6) (.tmp 11) rfl rfl w.heap.size ho' hlit (by simp; omega) (by simp; omega) ?_; intro v2 w2 ho2 hg2; have hx2 : Ext w w2 := (hx.alloc _).mono_grown ho' (Nat.le_refl _) hg2; clear hg2)
        go_roundw
        case rel => exact ⟨f, m / 128, _, by go_num, hp, by omega, by omega, hnext, by simp; omega, ho2, hx2⟩
        case measure => simp [intOf]; omega

theorem rnum32_any (w : World) (n : Nat) (h64 : n < 18446744073709551616) :
    Calls Tryd.prog 32 #[.slice none 0 0, .int .u64 n] w fun e w' => ∃ v', e = .returned v' ∧ OwnB w' w.heap.size v' (vput n) ∧ Ext w w' := by
  have hvl := vput_length n
  go_enter Tryd.func32, Tryd.ntmps32
  go_wp2_with fail
  refine (own03_any w _ [] (Bytes.nil _) (by simp)).mono ?_
  rintro e w1 ⟨v1, rfl, ho1, hx1⟩
  go_wp2_with fail
  refine (form_any w1 n h64).mono ?_
  rintro e w2 ⟨v2, rfl, ho2, hx2⟩
  have ho12 := ho1.ext hx2
  have hx12 := hx1.trans hx2
  go_wp2_with (at_builtin; refine appB (.tmp 6) (.tmp 8) rfl rfl w.heap.size ho12 ho2.bytes (by simp; omega) hx12.size ?_; intro v3 w3 ho3 hg3; rw [List.nil_append] at ho3; have hx3 : Ext w w3 := hx12.mono_grown ho12 (Nat.le_refl _) hg3; clear hg3)
  go_ret
  exact ⟨_, rfl, ho3, hx3⟩

set_option maxRecDepth 100000 in
set_option maxHeartbeats 4000000 in
theorem rput12_any (w : World) (n : Nat) (v : Value) (d : List UInt8) (hd : Bytes w v d) (h64 : n < 18446744073709551616) :
    Calls Tryd.prog 16 #[.agg #[.int .u64 n, v]] w fun e w' => ∃ v', e = .returned (.tuple #[v', .int .i64 (putS n d).2]) ∧ OwnB w' w.heap.size v' (putS n d).1 ∧ Ext w w' := by
  obtain ⟨a, cap, rfl, hc, hm⟩ := hd.shape
  unfold maxLen at hm
  have hx0 : Ext w (w.alloc (.cells #[.int .u64 n, .slice a d.length cap] 36)) := (Ext.refl w).alloc _
  have hc0 : (w.alloc (.cells #[.int .u64 n, .slice a d.length cap] 36)).cell? ⟨w.heap.size, 0, none⟩ = some (.int .u64 n) := cell_of_row _ w.heap.size 0 _ _ _ (heap_alloc_new _ _)
  have hc1 : (w.alloc (.cells #[.int .u64 n, .slice a d.length cap] 36)).cell? ⟨w.heap.size, 1, none⟩ = some (.slice a d.length cap) := cell_of_row _ w.heap.size 1 _ _ _ (heap_alloc_new _ _)
  have hd0 := hd.ext hx0
  by_cases hn : may n
  · obtain ⟨hn1, hn2⟩ := hn
    have hz0 : ((n : Int) == 0) = false := beq_eq_false_iff_ne.2 (by omega)
    have hz1 : decide ((1099511627776 : Int) < (n : Int)) = false := decide_eq_false (by omega)
    by_cases hl : 1500 < d.length
    · have e : putS n d = ([], 3) := by unfold putS; rw [if_neg (not_not_intro ⟨hn1, hn2⟩), if_pos hl]
      rw [e]
      have h15 : decide ((1500 : Int) < (d.length : Int)) = true := decide_eq_true (by omega)
      clear e
      go_enter Tryd.func16, Tryd.ntmps16
      go_wp2_with fail
      go_ret2
      exact ⟨_, rfl, OwnB.nil _ _, hx0⟩
    · have e : putS n d = (fr (vput n ++ d), 0) := by unfold putS; rw [if_neg (not_not_intro ⟨hn1, hn2⟩), if_neg hl]
      rw [e]
      have h15 : decide ((1500 : Int) < (d.length : Int)) = false := decide_eq_false (by omega)
      have hgood := good_form n d (by omega)
      have hvl := vput_length n
      clear e
      go_enter Tryd.func16, Tryd.ntmps16
      go_upto_region 5 with fail
      generalize hwa : w.alloc (.cells #[.int .u64 n, .slice a d.length cap] 36) = wa at *
      clear hwa
      have hB : (vput n).length + d.length ≤ 140737488355328 := by omega
      have hpg := putR_good' hgood
      have hxd : Ext wa wa.drew := (Ext.refl wa).drew
      have hc0d := hxd.cell hc0
      have hc1d := hxd.cell hc1
      have hdd := hd0.ext hxd
      go_region_law (first | (refine step_call rfl ?_; go_simp; go_at_call 32; refine (rnum32_any _ n h64).mono ?_; rintro e w2 ⟨v2, rfl, ho2, hx2⟩; have hq0 := hx2.cell hc0d; have hq1 := hx2.cell hc1d; have hd2 := hdd.ext hx2) | (refine step_appB rfl (.tmp 21) (.tmp 23) rfl _ ho2 hd2 hB hx2.size ?_; intro v3 w3 ho3 hg3; have hx3 : Ext wa.drew w3 := hx2.mono_grown ho2 (Nat.le_refl _) hg3; clear hg3) | (refine step_call rfl ?_; go_simp; go_at_call 31; refine (rput_any w3 _ _ ho3.bytes).mono ?_; rw [hpg]; rintro e w4 ⟨v4, rfl, ho4, hx4⟩))
      all_goals
        have hxf : Ext w w4 := hx0.trans (hxd.trans (hx3.trans hx4))
        simp only [] at ho4
        have hfin : OwnB w4 w.heap.size v4 (fr (vput n ++ d)) := own_lower ho4 (hx0.trans (hxd.trans hx3)).size
        go_wp2_with fail
        go_ret2
        exact ⟨_, rfl, hfin, hxf⟩
  · have e : putS n d = ([], 1) := by unfold putS; rw [if_pos hn]
    rw [e]
    clear e
    by_cases h0 : n = 0
    · have hz0 : ((n : Int) == 0) = true := beq_iff_eq.2 (by omega)
      clear h0
      go_enter Tryd.func16, Tryd.ntmps16
      go_wp2_with fail
      go_ret2
      exact ⟨_, rfl, OwnB.nil _ _, hx0⟩
    · have hz0 : ((n : Int) == 0) = false := beq_eq_false_iff_ne.2 (by omega)
      have hz1 : decide ((1099511627776 : Int) < (n : Int)) = true := decide_eq_true (by unfold may at hn; omega)
      go_enter Tryd.func16, Tryd.ntmps16
      go_wp2_with fail
      go_ret2
      exact ⟨_, rfl, OwnB.nil _ _, hx0⟩

end Go.Proofs.YtkaepcjkpaplfaaDoor
