/- Records: Size, Put, Same, of the program and of the reference. -/
import Derived.Test.YtkaepcjkpaplfaaDoorW2
import Derived.Test.YtkaepcjkpaplfaaDoorF1
import Derived.Deep.DeepCutAuto
namespace Go.Proofs.YtkaepcjkpaplfaaDoor
open Go.RowKit

set_option maxHeartbeats 400000 in
theorem ffour_any (n : Nat) (w : World) (h : n < 4294967296) :
    Calls Tryd.prog 49 #[.int .u32 n] w fun e w' => ∃ v, e = .returned v ∧ OwnB w' w.heap.size v (fourF n) ∧ Ext w w' := by
  go_enter Tryd.func49, Tryd.ntmps49
  go_wp2
  go_ret
  refine ⟨_, rfl, ?_, (Ext.refl w).alloc _⟩
  unfold OwnB
  rw [← four_val]
  have e : ((n : Int) / 16777216) = (n : Int) / 16777216 % 256 := by omega
  rw [← e]
  exact World.ownsRow_lit w _ 4 (Nat.le_refl _) (by decide) rfl

set_option maxHeartbeats 400000 in
theorem fnumber_any (w : World) (v : Value) (l : List UInt8) (hl : Bytes w v l) (h4 : 4 ≤ l.length) :
    Calls Tryd.prog 67 #[v] w fun e w' => e = .returned (.int .u32 (numF l)) ∧ Ext w w' := by
  obtain ⟨a, cap, rfl, hc, hm⟩ := hl.shape
  obtain ⟨b, o, rfl, h0⟩ := hl.at (k := 0) (by omega)
  obtain ⟨b', o', e', h1⟩ := hl.at (k := 1) (by omega)
  simp only [Option.some.injEq, Addr.mk.injEq, and_true] at e'; obtain ⟨rfl, rfl⟩ := e'
  obtain ⟨b', o', e', h2⟩ := hl.at (k := 2) (by omega)
  simp only [Option.some.injEq, Addr.mk.injEq, and_true] at e'; obtain ⟨rfl, rfl⟩ := e'
  obtain ⟨b', o', e', h3⟩ := hl.at (k := 3) (by omega)
  simp only [Option.some.injEq, Addr.mk.injEq, and_true] at e'; obtain ⟨rfl, rfl⟩ := e'
  simp only [Nat.add_zero] at h0
  have hn : (numF l : Nat) = (l[0].toNat + 256 * l[1].toNat + 65536 * l[2].toNat + 16777216 * l[3].toNat) := by
    match l, h4 with
    | a :: b :: c :: d :: r, _ => rfl
  have HN := Lib.hid hn; clear hn
  have b0 := byte_lt l[0]; have b1 := byte_lt l[1]; have b2 := byte_lt l[2]; have b3 := byte_lt l[3]
  generalize l[0] = c0 at *; generalize l[1] = c1 at *; generalize l[2] = c2 at *; generalize l[3] = c3 at *
  clear hl hc hm
  have g0 : (0 : Int) < l.length := by omega
  have g1 : (1 : Int) < l.length := by omega
  have g2 : (2 : Int) < l.length := by omega
  have g3 : (3 : Int) < l.length := by omega
  generalize l.length = n at *
  go_enter Tryd.func67, Tryd.ntmps67
  go_wp2
  go_quiet (fail)
  go_wp2
  rw [num_or]
  go_ret
  exact ⟨by rw [HN.out]; rfl, Ext.drewN _ _⟩

set_option maxHeartbeats 400000 in
theorem size_any (w : World) (v : Value) (l : List UInt8) (hl : Bytes w v l) :
    Calls Tryd.prog 35 #[v] w fun e w' => e = .returned (.int .i64 (sizeR l : Nat)) ∧ w = w' := by
  obtain ⟨a, cap, rfl, hc, hm⟩ := hl.shape
  unfold maxLen at hm
  by_cases h1 : 1 ≤ l.length
  · have hd1 : decide ((1 : Int) ≤ l.length) = true := decide_eq_true (by omega)
    by_cases h2 : l.length ≤ 2048
    · have hd2 : decide ((l.length : Int) ≤ 2048) = true := decide_eq_true (by omega)
      have hs : sizeR l = l.length + 8 := by rw [sizeR, if_pos ⟨h1, h2⟩]
      go_enter Tryd.func35, Tryd.ntmps35
      go_wp2
      go_ret
      refine ⟨?_, rfl⟩
      rw [hs]
      show Ending.returned (.int .i64 (4 + (l.length : Int) + 4)) = _
      congr 2; omega
    · have hd2 : decide ((l.length : Int) ≤ 2048) = false := decide_eq_false (by omega)
      have hs : sizeR l = 0 := by rw [sizeR, if_neg (by omega)]
      go_enter Tryd.func35, Tryd.ntmps35
      go_wp2
      go_ret
      exact ⟨by rw [hs]; rfl, rfl⟩
  · have hd1 : decide ((1 : Int) ≤ l.length) = false := decide_eq_false (by omega)
    have hs : sizeR l = 0 := by rw [sizeR, if_neg (by omega)]
    go_enter Tryd.func35, Tryd.ntmps35
    go_wp2
    go_ret
    exact ⟨by rw [hs]; rfl, rfl⟩

set_option maxHeartbeats 400000 in
theorem fput_any (w : World) (v : Value) (l : List UInt8) (hl : Bytes w v l) :
    Calls Tryd.prog 29 #[v] w fun e w' => ∃ v', e = .returned (.tuple #[v', .int .i64 (putR l).2]) ∧ OwnB w' w.heap.size v' (putR l).1 ∧ Ext w w' := by
  obtain ⟨a, cap, rfl, hc, hm⟩ := hl.shape
  unfold maxLen at hm
  by_cases h1 : l.length = 0
  · have hd1 : ((l.length : Int) == 0) = true := beq_iff_eq.2 (by omega)
    have hr : putR l = ([], 1) := by rw [putR, if_pos h1]
    have HR := Lib.hid hr; clear hr h1
    go_enter Tryd.func29, Tryd.ntmps29
    go_wp2_with fail
    go_ret2
    refine ⟨.slice none 0 0, ?_, ?_, Ext.refl w⟩
    · rw [HR.out]; rfl
    · rw [HR.out]; exact OwnB.nil _ _
  · have hd1 : ((l.length : Int) == 0) = false := beq_eq_false_iff_ne.2 (by omega)
    by_cases h2 : l.length ≤ 2048
    · have hd2 : decide ((2048 : Int) < (l.length : Int)) = false := decide_eq_false (by omega)
      have hr : putR l = (fr l, 0) := by rw [putR, if_neg h1, if_neg (by omega)]
      have HR := Lib.hid hr; clear hr h1
      have hb : (l.length : Int) < 4294967296 := by omega
      go_enter Tryd.func29, Tryd.ntmps29
      go_wp2_with fail
      refine (ffour_any l.length w (by omega)).mono ?_
      rintro e w1 ⟨v1, rfl, ho1, hx1⟩
      go_wp2_with (at_builtin; refine appB (.tmp 15) (.tmp 16) rfl rfl w.heap.size ho1 (hl.ext hx1) (by rw [fourF_length]; omega) hx1.size ?_; intro v2 w2 ho2 hg2)
      have hx2 : Ext w w2 := hx1.mono_grown ho1 (Nat.le_refl _) hg2
      refine (put_any _ _ _ ho2.bytes (by rw [List.length_append, fourF_length]; omega)).mono ?_
      rintro e w3 ⟨v3, rfl, ho3, hx3⟩
      go_wp2_with fail
      go_ret2
      refine ⟨v3, ?_, ?_, hx2.trans hx3⟩
      · rw [HR.out]; rfl
      · rw [HR.out]; exact ho3.mono hx2.size
    · have hd2 : decide ((2048 : Int) < (l.length : Int)) = true := decide_eq_true (by omega)
      have hr : putR l = ([], 3) := by rw [putR, if_neg h1, if_pos (by omega)]
      have HR := Lib.hid hr; clear hr h1
      go_enter Tryd.func29, Tryd.ntmps29
      go_wp2_with fail
      go_ret2
      refine ⟨.slice none 0 0, ?_, ?_, Ext.refl w⟩
      · rw [HR.out]; rfl
      · rw [HR.out]; exact OwnB.nil _ _

end Go.Proofs.YtkaepcjkpaplfaaDoor
