/- The reference's MayCons, May (pneumaticref04).
An element put among others in their order, by the place where it comes to stand. (Plain.)
Rows of the call's own: later, kept, apart. (Of any program.)
What the rows of values and of constraints are, by the type table.
Rows of one's own: small laws of worlds that grow.
The reference's set (pneumaticref04): values in order, each once.
slices.IndexFunc, slices.ContainsFunc at attributes, constraints, values (printed by gen_find.py). -/
import Derived.Test.YtfkemgkbkhacmaaGreatProg
import Derived.KernelRfl
import Derived.WalkKit
import Derived.OwnWalk
import Derived.Deep.CutBlock
import Derived.Test.YtfkemgkbkhacmaaGreatPk2
import Derived.Test.YtfkemgkbkhacmaaGreatPk1
namespace Go.Proofs.YtfkemgkbkhacmaaGreat
open Go.RowKit

theorem mayC_other {c : C} (hn : ¬ (c.name.length < 1 ∨ 16 < c.name.length)) (h1 : c.op ≠ 1) (h9 : c.op ≠ 9) : mayC c = (decide (2 ≤ c.op) && (decide (c.op ≤ 8) && (decide (c.set.length = 0) && (mayV c.v && (!decide (c.op = 8) || decide (c.v.k = 2)))))) := by
  have he : c.set.isEmpty = decide (c.set.length = 0) := by cases c.set <;> rfl
  unfold mayC
  rw [if_neg hn, if_neg h1, he]
  by_cases h27 : 2 ≤ c.op ∧ c.op ≤ 7
  · rw [if_pos h27, decide_eq_true h27.1, decide_eq_true (show c.op ≤ 8 by omega), decide_eq_false (show ¬ c.op = 8 by omega)]
    cases mayV c.v <;> cases decide (c.set.length = 0) <;> rfl
  · rw [if_neg h27]
    by_cases h8 : c.op = 8
    · rw [if_pos h8, decide_eq_true (show 2 ≤ c.op by omega), decide_eq_true (show c.op ≤ 8 by omega), decide_eq_true h8]
      cases mayV c.v <;> cases decide (c.set.length = 0) <;> cases decide (c.v.k = 2) <;> rfl
    · rw [if_neg h8, if_neg h9]
      by_cases h2 : 2 ≤ c.op
      · rw [decide_eq_false (show ¬ c.op ≤ 8 by omega)]; simp
      · rw [decide_eq_false h2]; rfl

set_option maxRecDepth 100000 in
set_option maxHeartbeats 16000000 in
theorem rmaycons_any (w : World) (c : C) (sa : Option Addr) (sc : Nat) (hs : SetR w (.slice sa c.set.length sc) c.set) :
    Calls Tryz.prog 14 #[.agg #[.string (strOf c.name), .int .i64 c.op, .int .i64 c.v.k, .int .i64 c.v.n, .string (strOf c.v.s), .bool c.v.b, .slice sa c.set.length sc]] w fun e w' => e = .returned (.bool (mayC c)) ∧ Ext w w' := by
  obtain ⟨hx0, hb1⟩ := boxes1 w (.cells #[.string (strOf c.name), .int .i64 c.op, .int .i64 c.v.k, .int .i64 c.v.n, .string (strOf c.v.s), .bool c.v.b, .slice sa c.set.length sc] 37)
  obtain ⟨hc1, hm1⟩ : c.set.length ≤ sc ∧ sc ≤ maxLen := by obtain ⟨a', c', e, h1, h2⟩ := Row.shape hs; cases e; exact ⟨h1, h2⟩
  unfold maxLen at hm1
  have HS := Lib.hid (SetR.ext hs hx0)
  have HX0 := Lib.hid hx0
  have HV : Hid (∀ W, Calls Tryz.prog 32 #[.agg #[.int .i64 c.v.k, .int .i64 c.v.n, .string (strOf c.v.s), .bool c.v.b]] W fun e w' => e = .returned (.bool (mayV c.v)) ∧ Grew W w') := fun W => rmayV_any W c.v
  have HB : Hid (∀ W, Calls Tryz.prog 31 #[.agg #[.int .i64 c.v.k, .int .i64 c.v.n, .string (strOf c.v.s), .bool c.v.b]] W fun e w' => e = .returned (.bool (bareV c.v)) ∧ Grew W w') := fun W => rbare_any W c.v
  have a0 := cell_of_row _ _ 0 _ _ _ hb1
  have a1 := cell_of_row _ _ 1 _ _ _ hb1
  have a2 := cell_of_row _ _ 2 _ _ _ hb1
  have a3 := cell_of_row _ _ 3 _ _ _ hb1
  have a4 := cell_of_row _ _ 4 _ _ _ hb1
  have a5 := cell_of_row _ _ 5 _ _ _ hb1
  have a6 := cell_of_row _ _ 6 _ _ _ hb1
  clear hs hx0 hb1
  have hsz : (strOf c.name).size = c.name.length := rfl
  by_cases hn0 : c.name.length = 0
  · have f1 : (((strOf c.name).size : Int) == 0) = true := by rw [hsz, hn0]; rfl
    have hr : mayC c = false := by unfold mayC; rw [if_pos (.inl (by omega))]
    rw [hr]
    clear hsz hr
    go_enter Tryz.func14, Tryz.ntmps14
    go_upto_region 1 with fail
    generalize w.alloc (.cells #[.string (strOf c.name), .int .i64 c.op, .int .i64 c.v.k, .int .i64 c.v.n, .string (strOf c.v.s), .bool c.v.b, .slice sa c.set.length sc] 37) = w0 at *
    go_wp2_with fail
    go_ret
    exact ⟨rfl, HX0.out⟩
  have f1 : (((strOf c.name).size : Int) == 0) = false := by rw [hsz]; exact beq_eq_false_iff_ne.2 (by omega)
  by_cases hn16 : 16 < c.name.length
  · have f2 : decide ((16 : Int) < ((strOf c.name).size : Int)) = true := by rw [hsz]; exact decide_eq_true (by omega)
    have hr : mayC c = false := by unfold mayC; rw [if_pos (.inr hn16)]
    rw [hr]
    clear hsz hr
    go_enter Tryz.func14, Tryz.ntmps14
    go_upto_region 1 with fail
    generalize w.alloc (.cells #[.string (strOf c.name), .int .i64 c.op, .int .i64 c.v.k, .int .i64 c.v.n, .string (strOf c.v.s), .bool c.v.b, .slice sa c.set.length sc] 37) = w0 at *
    go_wp2_with fail
    go_ret
    exact ⟨rfl, HX0.out⟩
  have f2 : decide ((16 : Int) < ((strOf c.name).size : Int)) = false := by rw [hsz]; exact decide_eq_false (by omega)
  have hnn : ¬ (c.name.length < 1 ∨ 16 < c.name.length) := by omega
  have he : c.set.isEmpty = decide (c.set.length = 0) := by cases c.set <;> rfl
  clear hsz
  by_cases h1 : c.op = 1
  · have hr : mayC c = (bareV c.v && decide (c.set.length = 0)) := by unfold mayC; rw [if_neg hnn, if_pos h1, he]
    have g1 : (c.op == 1) = true := beq_iff_eq.2 h1
    rw [hr]
    clear hr he h1 hnn hn0 hn16
    generalize bareV c.v = bv at *
    cases bv with
    | false =>
      go_enter Tryz.func14, Tryz.ntmps14
      go_upto_region 1 with fail
      generalize w.alloc (.cells #[.string (strOf c.name), .int .i64 c.op, .int .i64 c.v.k, .int .i64 c.v.n, .string (strOf c.v.s), .bool c.v.b, .slice sa c.set.length sc] 37) = w0 at *
      go_wp2_with (go_at_call 31; (with_reducible refine (HB.out _).mono ?_); rintro e w1 ⟨rfl, hx⟩; have b6 := hx.1.cell a6; have HX1 := Lib.hid hx.1; clear hx)
      go_ret
      exact ⟨rfl, HX0.out.trans HX1.out⟩
    | true =>
      by_cases hl : c.set.length = 0
      · have g2 : ((c.set.length : Int) == 0) = true := beq_iff_eq.2 (by omega)
        rw [decide_eq_true hl]
        clear hl
        go_enter Tryz.func14, Tryz.ntmps14
        go_upto_region 1 with fail
        generalize w.alloc (.cells #[.string (strOf c.name), .int .i64 c.op, .int .i64 c.v.k, .int .i64 c.v.n, .string (strOf c.v.s), .bool c.v.b, .slice sa c.set.length sc] 37) = w0 at *
        go_wp2_with (go_at_call 31; (with_reducible refine (HB.out _).mono ?_); rintro e w1 ⟨rfl, hx⟩; have b6 := hx.1.cell a6; have HX1 := Lib.hid hx.1; clear hx)
        go_ret
        exact ⟨rfl, HX0.out.trans HX1.out⟩
      · have g2 : ((c.set.length : Int) == 0) = false := beq_eq_false_iff_ne.2 (by omega)
        rw [decide_eq_false hl]
        go_enter Tryz.func14, Tryz.ntmps14
        go_upto_region 1 with fail
        generalize w.alloc (.cells #[.string (strOf c.name), .int .i64 c.op, .int .i64 c.v.k, .int .i64 c.v.n, .string (strOf c.v.s), .bool c.v.b, .slice sa c.set.length sc] 37) = w0 at *
        go_wp2_with (go_at_call 31; (with_reducible refine (HB.out _).mono ?_); rintro e w1 ⟨rfl, hx⟩; have b6 := hx.1.cell a6; have HX1 := Lib.hid hx.1; clear hx)
        go_ret
        exact ⟨rfl, HX0.out.trans HX1.out⟩
  have g1 : (c.op == 1) = false := beq_eq_false_iff_ne.2 h1
  by_cases h9 : c.op = 9
  · have hr : mayC c = (bareV c.v && (decide (1 ≤ c.set.length) && (decide (c.set.length ≤ 6) && c.set.all mayV))) := by
      unfold mayC
      rw [if_neg hnn, if_neg h1, if_neg (show ¬ (2 ≤ c.op ∧ c.op ≤ 7) by omega), if_neg (show ¬ c.op = 8 by omega), if_pos h9, Bool.and_assoc, Bool.and_assoc]
    have g9 : (c.op == 9) = true := beq_iff_eq.2 h9
    rw [hr]
    clear hr he h1 h9 hnn hn0 hn16
    generalize bareV c.v = bv at *
    cases bv with
    | false =>
      go_enter Tryz.func14, Tryz.ntmps14
      go_upto_region 1 with fail
      generalize w.alloc (.cells #[.string (strOf c.name), .int .i64 c.op, .int .i64 c.v.k, .int .i64 c.v.n, .string (strOf c.v.s), .bool c.v.b, .slice sa c.set.length sc] 37) = w0 at *
      go_wp2_with (go_at_call 31; (with_reducible refine (HB.out _).mono ?_); rintro e w1 ⟨rfl, hx⟩; have b6 := hx.1.cell a6; have HX1 := Lib.hid hx.1; clear hx)
      go_ret
      exact ⟨rfl, HX0.out.trans HX1.out⟩
    | true =>
      by_cases hl : c.set.length = 0
      · have g2 : ((c.set.length : Int) == 0) = true := beq_iff_eq.2 (by omega)
        rw [decide_eq_false (show ¬ 1 ≤ c.set.length by omega)]
        clear hl
        go_enter Tryz.func14, Tryz.ntmps14
        go_upto_region 1 with fail
        generalize w.alloc (.cells #[.string (strOf c.name), .int .i64 c.op, .int .i64 c.v.k, .int .i64 c.v.n, .string (strOf c.v.s), .bool c.v.b, .slice sa c.set.length sc] 37) = w0 at *
        go_wp2_with (go_at_call 31; (with_reducible refine (HB.out _).mono ?_); rintro e w1 ⟨rfl, hx⟩; have b6 := hx.1.cell a6; have HX1 := Lib.hid hx.1; clear hx)
        go_ret
        exact ⟨rfl, HX0.out.trans HX1.out⟩
      have g2 : ((c.set.length : Int) == 0) = false := beq_eq_false_iff_ne.2 (by omega)
      rw [decide_eq_true (show 1 ≤ c.set.length by omega)]
      by_cases h6 : 6 < c.set.length
      · have g3 : decide ((6 : Int) < (c.set.length : Int)) = true := decide_eq_true (by omega)
        rw [decide_eq_false (show ¬ c.set.length ≤ 6 by omega)]
        go_enter Tryz.func14, Tryz.ntmps14
        go_upto_region 1 with fail
        generalize w.alloc (.cells #[.string (strOf c.name), .int .i64 c.op, .int .i64 c.v.k, .int .i64 c.v.n, .string (strOf c.v.s), .bool c.v.b, .slice sa c.set.length sc] 37) = w0 at *
        go_wp2_with (go_at_call 31; (with_reducible refine (HB.out _).mono ?_); rintro e w1 ⟨rfl, hx⟩; have b6 := hx.1.cell a6; have HX1 := Lib.hid hx.1; clear hx)
        go_ret
        exact ⟨rfl, HX0.out.trans HX1.out⟩
      have g3 : decide ((6 : Int) < (c.set.length : Int)) = false := decide_eq_false (by omega)
      rw [decide_eq_true (show c.set.length ≤ 6 by omega)]
      show Calls _ _ _ _ fun e w' => e = .returned (.bool (c.set.all mayV)) ∧ _
      go_enter Tryz.func14, Tryz.ntmps14
      go_upto_region 1 with fail
      generalize w.alloc (.cells #[.string (strOf c.name), .int .i64 c.op, .int .i64 c.v.k, .int .i64 c.v.n, .string (strOf c.v.s), .bool c.v.b, .slice sa c.set.length sc] 37) = w0 at *
      go_upto_region 8 with (go_at_call 31; (with_reducible refine (HB.out _).mono ?_); rintro e w1 ⟨rfl, hx⟩; have b6 := hx.1.cell a6; have HX1 := Lib.hid hx.1; clear hx)
      have q6 := b6
      clear b6
      have HS1 := Lib.hid (SetR.ext HS.out HX1.out)
      have HXX := Lib.hid (HX0.out.trans HX1.out)
      clear a0 a1 a2 a3 a4 a5 a6
      obtain ⟨n, hn⟩ : ∃ n, n = c.set.length := ⟨_, rfl⟩
      have HN := Lib.hid hn
      rw [← hn] at q6 g2 g3 hl h6 hc1
      have hn6 : n ≤ 6 := by omega
      go_wp2_with fail
      go_loopw [3] (fun i wr => ∃ k : Nat, k ≤ n ∧ i = .int .i64 k ∧ Hid (∀ x ∈ c.set.take k, mayV x = true) ∧ Hid (Ext w1 wr)) (fun i _ => n - (intOf i).toNat)
      case atStart => exact ⟨0, Nat.zero_le _, rfl, (by show ∀ x ∈ c.set.take 0, _; simp), Ext.refl _⟩
      case round =>
        obtain ⟨k, hk, rfl, hall, hx⟩ := hrel
        have p6 := hx.out.cell q6
        by_cases hlt : k < n
        · have hI : decide ((k : Int) < (n : Int)) = true := decide_eq_true (by omega)
          have hkN : (k : Int) < (n : Int) := by omega
          have hkl : k < c.set.length := by have := HN.out; omega
          obtain ⟨B, o, rfl, f0, f1', f2', f3⟩ := SetR.at (SetR.ext HS1.out hx.out) hkl
          have hnext : mayV c.set[k] = true → ∀ x ∈ c.set.take (k + 1), mayV x = true := fun e x hx => by
            rw [List.take_succ_eq_append_getElem hkl] at hx
            rcases List.mem_append.1 hx with hx | hx
            · exact hall.out x hx
            · rw [List.mem_singleton.1 hx]; exact e
          have hno : mayV c.set[k] = false → c.set.all mayV = false := fun e => by
            rw [List.all_eq_false]
            exact ⟨_, List.getElem_mem hkl, by rw [e]; exact Bool.false_ne_true⟩
          have HM := Lib.hid (fun W => rmayV_any W c.set[k])
          have HNX := Lib.hid hnext
          have HNO := Lib.hid hno
          clear hnext hno
          generalize c.set[k] = x at *
          generalize mayV x = mx at *
          cases mx with
          | true =>
            go_wp2_with (go_at_call 32; (with_reducible refine (HM.out _).mono ?_); rintro e w2 ⟨rfl, hx2⟩; have HX2 := Lib.hid (hx.out.trans hx2.1); clear hx2)
            go_roundw
            case rel => exact ⟨k + 1, hlt, by go_num, HNX.out (by first | rfl | trivial), HX2.out⟩
            case measure => simp [intOf]; omega
          | false =>
            have hr := HNO.out (by first | rfl | trivial)
            go_wp2_with (go_at_call 32; (with_reducible refine (HM.out _).mono ?_); rintro e w2 ⟨rfl, hx2⟩; have HX2 := Lib.hid (hx.out.trans hx2.1); clear hx2)
            go_ret
            exact ⟨by rw [hr]; rfl, HXX.out.trans HX2.out⟩
        · obtain rfl : k = n := by omega
          have hI : decide ((k : Int) < (k : Int)) = false := decide_eq_false (by omega)
          have hr : Hid (c.set.all mayV = true) := by
            show _ = _
            rw [List.all_eq_true]
            intro x hx
            refine hall.out x ?_
            rw [List.take_of_length_le (by rw [← HN.out]; exact Nat.le_refl _)]; exact hx
          go_wp2_with fail
          go_ret
          exact ⟨by rw [hr.out]; rfl, HXX.out.trans hx.out⟩
  have g9 : (c.op == 9) = false := beq_eq_false_iff_ne.2 h9
  rw [mayC_other hnn h1 h9]
  clear he hnn hn0 hn16
  by_cases h2 : c.op < 2
  · have g2 : decide (c.op < 2) = true := decide_eq_true h2
    rw [decide_eq_false (show ¬ 2 ≤ c.op by omega)]
    go_enter Tryz.func14, Tryz.ntmps14
    go_upto_region 1 with fail
    generalize w.alloc (.cells #[.string (strOf c.name), .int .i64 c.op, .int .i64 c.v.k, .int .i64 c.v.n, .string (strOf c.v.s), .bool c.v.b, .slice sa c.set.length sc] 37) = w0 at *
    go_wp2_with fail
    go_ret
    exact ⟨rfl, HX0.out⟩
  have g2 : decide (c.op < 2) = false := decide_eq_false h2
  rw [decide_eq_true (show 2 ≤ c.op by omega)]
  by_cases h8 : 8 < c.op
  · have g3 : decide (8 < c.op) = true := decide_eq_true h8
    rw [decide_eq_false (show ¬ c.op ≤ 8 by omega)]
    go_enter Tryz.func14, Tryz.ntmps14
    go_upto_region 1 with fail
    generalize w.alloc (.cells #[.string (strOf c.name), .int .i64 c.op, .int .i64 c.v.k, .int .i64 c.v.n, .string (strOf c.v.s), .bool c.v.b, .slice sa c.set.length sc] 37) = w0 at *
    go_wp2_with fail
    go_ret
    exact ⟨rfl, HX0.out⟩
  have g3 : decide (8 < c.op) = false := decide_eq_false h8
  rw [decide_eq_true (show c.op ≤ 8 by omega)]
  by_cases hl : 0 < c.set.length
  · have g4 : decide ((0 : Int) < (c.set.length : Int)) = true := decide_eq_true (by omega)
    rw [decide_eq_false (show ¬ c.set.length = 0 by omega)]
    go_enter Tryz.func14, Tryz.ntmps14
    go_upto_region 1 with fail
    generalize w.alloc (.cells #[.string (strOf c.name), .int .i64 c.op, .int .i64 c.v.k, .int .i64 c.v.n, .string (strOf c.v.s), .bool c.v.b, .slice sa c.set.length sc] 37) = w0 at *
    go_wp2_with fail
    go_ret
    exact ⟨rfl, HX0.out⟩
  have g4 : decide ((0 : Int) < (c.set.length : Int)) = false := decide_eq_false (by omega)
  rw [decide_eq_true (show c.set.length = 0 by omega)]
  generalize mayV c.v = mv at *
  cases mv with
  | false =>
    go_enter Tryz.func14, Tryz.ntmps14
    go_upto_region 1 with fail
    generalize w.alloc (.cells #[.string (strOf c.name), .int .i64 c.op, .int .i64 c.v.k, .int .i64 c.v.n, .string (strOf c.v.s), .bool c.v.b, .slice sa c.set.length sc] 37) = w0 at *
    go_wp2_with (go_at_call 32; (with_reducible refine (HV.out _).mono ?_); rintro e w1 ⟨rfl, hx⟩; have HX1 := Lib.hid hx.1; clear hx)
    go_ret
    exact ⟨rfl, HX0.out.trans HX1.out⟩
  | true =>
    by_cases h88 : c.op = 8
    · have g5 : (c.op == 8) = true := beq_iff_eq.2 h88
      have g6 : (c.op != 8) = false := by rw [bne, g5]; rfl
      have g7 : decide (c.v.k = 2) = (c.v.k == 2) := rfl
      rw [decide_eq_true h88, g7]
      clear g7
      cases hk : (c.v.k == 2) with
      | false =>
        clear h88
        go_enter Tryz.func14, Tryz.ntmps14
        go_upto_region 1 with fail
        generalize w.alloc (.cells #[.string (strOf c.name), .int .i64 c.op, .int .i64 c.v.k, .int .i64 c.v.n, .string (strOf c.v.s), .bool c.v.b, .slice sa c.set.length sc] 37) = w0 at *
        go_upto_region 16 with (go_at_call 32; (with_reducible refine (HV.out _).mono ?_); rintro e w1 ⟨rfl, hx⟩; have HX1 := Lib.hid hx.1; clear hx)
        have q1 := HX1.out.cell a1
        have q2 := HX1.out.cell a2
        go_wp2_with fail
        go_ret
        exact ⟨rfl, HX0.out.trans HX1.out⟩
      | true =>
        clear h88
        go_enter Tryz.func14, Tryz.ntmps14
        go_upto_region 1 with fail
        generalize w.alloc (.cells #[.string (strOf c.name), .int .i64 c.op, .int .i64 c.v.k, .int .i64 c.v.n, .string (strOf c.v.s), .bool c.v.b, .slice sa c.set.length sc] 37) = w0 at *
        go_upto_region 16 with (go_at_call 32; (with_reducible refine (HV.out _).mono ?_); rintro e w1 ⟨rfl, hx⟩; have HX1 := Lib.hid hx.1; clear hx)
        have q1 := HX1.out.cell a1
        have q2 := HX1.out.cell a2
        go_wp2_with fail
        go_ret
        exact ⟨rfl, HX0.out.trans HX1.out⟩
    · have g5 : (c.op == 8) = false := beq_eq_false_iff_ne.2 h88
      have g6 : (c.op != 8) = true := by rw [bne, g5]; rfl
      rw [decide_eq_false h88]
      go_enter Tryz.func14, Tryz.ntmps14
      go_upto_region 1 with fail
      generalize w.alloc (.cells #[.string (strOf c.name), .int .i64 c.op, .int .i64 c.v.k, .int .i64 c.v.n, .string (strOf c.v.s), .bool c.v.b, .slice sa c.set.length sc] 37) = w0 at *
      go_upto_region 16 with (go_at_call 32; (with_reducible refine (HV.out _).mono ?_); rintro e w1 ⟨rfl, hx⟩; have HX1 := Lib.hid hx.1; clear hx)
      have q1 := HX1.out.cell a1
      have q2 := HX1.out.cell a2
      go_wp2_with fail
      go_ret
      exact ⟨rfl, HX0.out.trans HX1.out⟩

set_option maxRecDepth 100000 in
set_option maxHeartbeats 8000000 in
theorem rpmay_any (w : World) (v : Value) (p : List C) (hp : PredR w v p) : Calls Tryz.prog 9 #[v] w fun e w' => e = .returned (.bool (mayP p)) ∧ Ext w w' := by
  obtain ⟨a, cap, rfl, hc, hm⟩ := hp.shape
  unfold maxLen at hm
  have HP := Lib.hid hp
  obtain ⟨n, hn⟩ : ∃ n, n = p.length := ⟨_, rfl⟩
  have HN := Lib.hid hn
  rw [← hn] at hc ⊢ HP
  clear hn hp
  go_enter Tryz.func9, Tryz.ntmps9
  go_wp2_with fail
  go_loopw [3] (fun i wr => ∃ k : Nat, k ≤ n ∧ i = .int .i64 k ∧ Hid (∀ x ∈ p.take k, mayC x = true) ∧ Hid (Ext w wr)) (fun i _ => n - (intOf i).toNat)
  case atStart => exact ⟨0, Nat.zero_le _, rfl, (by show ∀ x ∈ p.take 0, _; simp), Ext.refl _⟩
  case round =>
    obtain ⟨k, hk, rfl, hall, hx⟩ := hrel
    by_cases hlt : k < n
    · have hI : decide ((k : Int) < (n : Int)) = true := decide_eq_true (by omega)
      have hkN : (k : Int) < (n : Int) := by omega
      have hkl : k < p.length := by have := HN.out; omega
      obtain ⟨B, o, sa, sc, rfl, f0, f1, f2, f3, f4, f5, f6, fs⟩ := (HP.out.ext hx.out).at hkl
      have hnext : mayC p[k] = true → ∀ x ∈ p.take (k + 1), mayC x = true := fun e x hx => by
        rw [List.take_succ_eq_append_getElem hkl] at hx
        rcases List.mem_append.1 hx with hx | hx
        · exact hall.out x hx
        · rw [List.mem_singleton.1 hx]; exact e
      have hno : mayC p[k] = false → mayP p = false := fun e => by
        unfold mayP
        rw [show p.all mayC = false from List.all_eq_false.2 ⟨_, List.getElem_mem hkl, by rw [e]; exact Bool.false_ne_true⟩, Bool.and_false]
      have HM := Lib.hid (rmaycons_any wr p[k] sa sc fs)
      have HNX := Lib.hid hnext
      have HNO := Lib.hid hno
      clear hnext hno fs
      generalize p[k] = x at *
      generalize mayC x = mx at *
      cases mx with
      | true =>
        go_wp2_with (go_at_call 14; (with_reducible refine HM.out.mono ?_); rintro e w2 ⟨rfl, hx2⟩; have HX2 := Lib.hid (hx.out.trans hx2); clear hx2)
        go_roundw
        case rel => exact ⟨k + 1, hlt, by go_num, HNX.out (by first | rfl | trivial), HX2.out⟩
        case measure => simp [intOf]; omega
      | false =>
        have hr := HNO.out (by first | rfl | trivial)
        go_wp2_with (go_at_call 14; (with_reducible refine HM.out.mono ?_); rintro e w2 ⟨rfl, hx2⟩; have HX2 := Lib.hid (hx.out.trans hx2); clear hx2)
        go_ret
        exact ⟨by rw [hr]; rfl, HX2.out⟩
    · obtain rfl : k = n := by omega
      have hI : decide ((k : Int) < (k : Int)) = false := decide_eq_false (by omega)
      have hr : Hid (mayP p = decide (k ≤ 6)) := by
        show _ = _
        have h1 : p.all mayC = true := by
          rw [List.all_eq_true]
          intro x hx
          refine hall.out x ?_
          rw [List.take_of_length_le (by rw [← HN.out]; exact Nat.le_refl _)]; exact hx
        unfold mayP
        rw [h1, Bool.and_true, HN.out]
      have h6 : decide ((k : Int) ≤ 6) = decide (k ≤ 6) := by rw [Bool.eq_iff_iff, decide_eq_true_iff, decide_eq_true_iff]; omega
      go_wp2_with fail
      go_ret
      exact ⟨by rw [hr.out]; first | rfl | rw [← h6] | exact congrArg (fun x => Ending.returned (Value.bool x)) h6, hx.out⟩
end Go.Proofs.YtfkemgkbkhacmaaGreat

namespace Go.Proofs.YtfkemgkbkhacmaaGreat

theorem insU_at {α : Type} (cf : α → α → Int) (x : α) : ∀ (l : List α) (k : Nat), k ≤ l.length → (∀ j (hj : j < l.length), j < k → cf l[j] x < 0) → (∀ h : k < l.length, ¬ cf l[k] x < 0) →
    insU cf x l = if h : k < l.length then (if cf l[k] x = 0 then l else l.take k ++ x :: l.drop k) else l ++ [x]
  | [], k, hk, _, _ => by
    have : k = 0 := by simpa using hk
    subst this
    simp [insU]
  | y :: r, 0, _, _, hge => by
    have h0 := hge (by simp)
    simp only [List.getElem_cons_zero] at h0
    simp only [insU, if_neg h0]
    rw [dif_pos (by simp)]
    simp
  | y :: r, k + 1, hk, hlt, hge => by
    have h0 := hlt 0 (by simp) (by omega)
    simp only [List.getElem_cons_zero] at h0
    have ih := insU_at cf x r k (by simpa using hk) (fun j hj hjk => hlt (j + 1) (Nat.succ_lt_succ hj) (by omega)) (fun h => hge (Nat.succ_lt_succ h))
    simp only [insU, if_pos h0, ih]
    by_cases h : k < r.length
    · rw [dif_pos h, dif_pos (by simpa using h)]
      simp only [List.getElem_cons_succ]
      by_cases h2 : cf r[k] x = 0
      · rw [if_pos h2, if_pos h2]
      · rw [if_neg h2, if_neg h2]; simp
    · rw [dif_neg h, dif_neg (by simpa using h)]; simp
theorem insU_stop {α : Type} (cf : α → α → Int) (x : α) {l : List α} {k : Nat} (h : k < l.length) (hlt : ∀ j (hj : j < l.length), j < k → cf l[j] x < 0) (he : cf l[k] x = 0) : insU cf x l = l := by
  rw [insU_at cf x l k (Nat.le_of_lt h) hlt (fun _ => by omega), dif_pos h, if_pos he]
theorem insU_here {α : Type} (cf : α → α → Int) (x : α) {l : List α} {k : Nat} (h : k ≤ l.length) (hlt : ∀ j (hj : j < l.length), j < k → cf l[j] x < 0) (he : ∀ h : k < l.length, 0 < cf l[k] x) : insU cf x l = l.take k ++ x :: l.drop k := by
  rw [insU_at cf x l k h hlt (fun h => by have := he h; omega)]
  by_cases hk : k < l.length
  · rw [dif_pos hk, if_neg (by have := he hk; omega)]
  · rw [dif_neg hk]
    have : k = l.length := by omega
    subst this
    simp
end Go.Proofs.YtfkemgkbkhacmaaGreat

namespace Go.Proofs.YtfkemgkbkhacmaaGreat
open Go.RowKit

theorem own_ext {w w' : World} {base size n : Nat} {e : TypeId} {v : Value} {xs : List Value} (h : w.ownsRow base e size v n xs) (hx : Ext w w') : w'.ownsRow base e size v n xs := by
  refine ⟨h.1, ?_⟩
  rcases h.2 with h0 | ⟨g, cap, cur, e0, hb, hg, hn, hm, hs, ht⟩
  · exact .inl h0
  · exact .inr ⟨g, cap, cur, e0, hb, by rw [hx.block g (Array.getElem?_eq_some_iff.1 hg).1]; exact hg, hn, hm, hs, ht⟩
theorem grown_ext {w w' w2 : World} {row : Option Nat} (h : w.grownBy w' row) (hx : Ext w' w2) : w.grownBy w2 row :=
  ⟨hx.os.trans h.os, hx.tape.trans h.tape, hx.output.trans h.output, Nat.le_trans h.size hx.size, fun k hk hne => (hx.block k (Nat.lt_of_lt_of_le hk h.size)).trans (h.block k hk hne)⟩
theorem own_keep {w w' : World} {base size n : Nat} {e : TypeId} {v : Value} {xs : List Value} {row : Option Nat} (h : w.ownsRow base e size v n xs) (hg : w.grownBy w' row) (hne : ∀ k, v.ownBlock = some k → row ≠ some k) : w'.ownsRow base e size v n xs := by
  refine ⟨h.1, ?_⟩
  rcases h.2 with h0 | ⟨g, cap, cur, rfl, hb, hgg, hn, hm, hs, ht⟩
  · exact .inl h0
  · exact .inr ⟨g, cap, cur, rfl, hb, by rw [hg.block g (Array.getElem?_eq_some_iff.1 hgg).1 (fun e => hne g rfl e.symm)]; exact hgg, hn, hm, hs, ht⟩
theorem own_low {w : World} {base b2 size n : Nat} {e : TypeId} {v : Value} {xs : List Value} (h : w.ownsRow base e size v n xs) (hb : b2 ≤ base) : w.ownsRow b2 e size v n xs := by
  refine ⟨h.1, ?_⟩
  rcases h.2 with h0 | ⟨g, cap, cur, rfl, hb', hgg, hn, hm, hs, ht⟩
  · exact .inl h0
  · exact .inr ⟨g, cap, cur, rfl, Nat.le_trans hb hb', hgg, hn, hm, hs, ht⟩
/-- Rows of two types lie apart. -/
theorem own_apart {w : World} {base b2 size s2 n m : Nat} {e e2 : TypeId} {v u : Value} {xs ys : List Value} (h : w.ownsRow base e size v n xs) (k : w.ownsRow b2 e2 s2 u m ys) (he : e ≠ e2) : ∀ q, u.ownBlock = some q → v.ownBlock ≠ some q := by
  intro q hq hv
  rcases h.2 with ⟨rfl, _⟩ | ⟨g, cap, cur, rfl, _, hg, _⟩
  · simp [Value.ownBlock] at hv
  · rcases k.2 with ⟨rfl, _⟩ | ⟨g2, cap2, cur2, rfl, _, hg2, _⟩
    · simp [Value.ownBlock] at hq
    · simp only [Value.ownBlock, Option.some.injEq] at hq hv
      subst hq
      subst hv
      rw [hg] at hg2
      cases hg2
      exact he rfl
theorem own_ne {w : World} {base size n b : Nat} {e t : TypeId} {v : Value} {xs : List Value} {c : Array Value} {fr : Nat × Nat} (h : w.ownsRow base e size v n xs) (hb : w.heap[b]? = some (.cells c t fr)) (he : e ≠ t) : v.ownBlock ≠ some b := by
  intro hv
  rcases h.2 with ⟨rfl, _⟩ | ⟨g, cap, cur, rfl, _, hg, _⟩
  · simp [Value.ownBlock] at hv
  · simp only [Value.ownBlock, Option.some.injEq] at hv
    subst hv
    rw [hg] at hb
    cases hb
    exact he rfl
/-- A row of two worlds' own: what was made later lies apart from what was there. -/
theorem own_later {w w' : World} {b size n : Nat} {e : TypeId} {v : Value} {xs : List Value} (h : w.ownsRow b e size v n xs) {k : Nat} (hk : w'.heap.size ≤ b) (hl : k < w'.heap.size) : v.ownBlock ≠ some k := by
  intro hv
  rcases h.2 with ⟨rfl, _⟩ | ⟨g, cap, cur, rfl, hb, hg, _⟩
  · simp [Value.ownBlock] at hv
  · simp only [Value.ownBlock, Option.some.injEq] at hv
    omega
theorem own_none (w : World) (base : Nat) (e : TypeId) (size : Nat) : w.ownsRow base e size (.slice none 0 0) 0 [] := ⟨by simp, .inl ⟨rfl, rfl⟩⟩
theorem own_len_le {w : World} {base size n : Nat} {e : TypeId} {v : Value} {xs : List Value} (h : w.ownsRow base e size v n xs) : n ≤ maxLen := Row.len_le (Row.of_own h)
theorem own_shape {w : World} {base size n : Nat} {e : TypeId} {v : Value} {xs : List Value} (h : w.ownsRow base e size v n xs) : ∃ a cap, v = .slice a n cap ∧ n ≤ cap ∧ cap ≤ maxLen := by obtain ⟨_, a, cap, h1, h2, h3, _⟩ := Row.of_own h; exact ⟨a, cap, h1, h2, h3⟩
end Go.Proofs.YtfkemgkbkhacmaaGreat

namespace Go.Proofs.YtfkemgkbkhacmaaGreat
open Go.RowKit

theorem vC_one (l : List V) : ∀ u ∈ l.flatMap vC, u.oneCell' = true := by
  intro u hu
  obtain ⟨x, _, hx⟩ := List.mem_flatMap.1 hu
  simp only [vC, List.mem_cons, List.not_mem_nil, or_false] at hx
  rcases hx with rfl | rfl | rfl | rfl <;> rfl
theorem csC_one (l : List CS) (h : ∀ x ∈ l, x.h.oneCell' = true) : ∀ u ∈ l.flatMap csC, u.oneCell' = true := by
  intro u hu
  obtain ⟨x, hm, hx⟩ := List.mem_flatMap.1 hu
  simp only [csC, List.mem_cons, List.not_mem_nil, or_false] at hx
  rcases hx with rfl | rfl | rfl | rfl | rfl | rfl | rfl
  all_goals first | rfl | exact h x hm

theorem info28t : (Tryz.prog.info? 34).map (fun i => (i.zero, i.size, i.bytes)) = some (some (.agg #[.int .i64 0, .int .i64 0, .string ⟨#[]⟩, .bool false]), 4, 40) := by kernel_rfl
theorem info31t : (Tryz.prog.info? 37).map (fun i => (i.zero, i.size, i.bytes)) = some (some (.agg #[.string ⟨#[]⟩, .int .i64 0, .int .i64 0, .int .i64 0, .string ⟨#[]⟩, .bool false, .slice none 0 0]), 7, 88) := by kernel_rfl

theorem size28 : (Tryz.prog.info? 34).map (·.size) = some 4 := by kernel_rfl
theorem zero28 : ∀ w, (zeroValue 34).run Tryz.prog w = .ok (.agg #[.int .i64 0, .int .i64 0, .string ⟨#[]⟩, .bool false]) w := fun _ => by kernel_rfl
theorem zero31 : ∀ w, (zeroValue 37).run Tryz.prog w = .ok (.agg #[.string ⟨#[]⟩, .int .i64 0, .int .i64 0, .int .i64 0, .string ⟨#[]⟩, .bool false, .slice none 0 0]) w := fun _ => by kernel_rfl
theorem size31 : (Tryz.prog.info? 37).map (·.size) = some 7 := by kernel_rfl
end Go.Proofs.YtfkemgkbkhacmaaGreat

namespace Go.Proofs.YtfkemgkbkhacmaaGreat
open Go.RowKit

theorem own_row {w : World} {base size n : Nat} {e : TypeId} {v : Value} {xs : List Value} (h : w.ownsRow base e size v n xs) : Row w size v n xs := Row.of_own h
theorem own_drewN {w : World} {base size n : Nat} {e : TypeId} {v : Value} {xs : List Value} (q : Nat) (h : w.ownsRow base e size v n xs) : (w.drewN q).ownsRow base e size v n xs := h
theorem grown_drewN {w w' : World} {row : Option Nat} (q : Nat) (h : w.grownBy w' row) : w.grownBy (w'.drewN q) row := ⟨h.os, h.tape, h.output, h.size, h.block⟩
theorem own_some {w : World} {base size n : Nat} {e : TypeId} {v : Value} {xs : List Value} (h : w.ownsRow base e size v n xs) (hn : 0 < n) : v.ownBlock ≠ none := by
  rcases h.2 with ⟨rfl, e0⟩ | ⟨g, cap, cur, rfl, _⟩
  · omega
  · simp [Value.ownBlock]

end Go.Proofs.YtfkemgkbkhacmaaGreat

namespace Go.Proofs.YtfkemgkbkhacmaaGreat
open Go.RowKit

theorem sort_take {α : Type} (cf : α → α → Int) (l : List α) (k : Nat) (hk : k < l.length) : sortU cf (l.take (k + 1)) = insU cf l[k] (sortU cf (l.take k)) := by
  rw [List.take_succ_eq_append_getElem hk, sortU_snoc]
theorem vCut {ops : Array Oper} {Q : Exit → Act → World → Prop} {a : Act} {w : World} {rest : List Oper} {o : Oper}
    (x : Operand) (lo hi : Option Operand) (us : List V) (n i j : Nat)
    (ho : o.op = .slice 35 x lo hi none)
    (hw : Region.wanted o (yielded ops a.tmps) = true) (hx : Row w 4 (a.eval x) n (us.flatMap vC))
    (hlo : BoundIs a lo 0 i) (hhi : BoundIs a hi n j) (hij : i ≤ j) (hj : j ≤ n)
    (h : ∀ v, Row w 4 v (j - i) (((us.take j).drop i).flatMap vC) → wpList Tryz.prog ops Q rest (a.put o.dst v) w) : wpList Tryz.prog ops Q (o :: rest) a w := by
  refine wpList_cut 35 34 x lo hi 4 n i j _ ho Tryz.underlying35 (by kernel_rfl) hw hx hlo hhi hij hj fun v hv => h v ?_
  rw [flat_take vC 4 vC_len, flat_drop vC 4 vC_len] at hv
  exact hv
theorem own_lt {w : World} {base size n : Nat} {e : TypeId} {v : Value} {xs : List Value} (h : w.ownsRow base e size v n xs) : ∀ q, v.ownBlock = some q → q < w.heap.size := by
  intro q hq
  rcases h.2 with ⟨rfl, _⟩ | ⟨g, cap, cur, rfl, _, hg, _⟩
  · simp [Value.ownBlock] at hq
  · simp only [Value.ownBlock, Option.some.injEq] at hq
    subst hq
    exact (Array.getElem?_eq_some_iff.1 hg).1
theorem v_row (w : World) (x : V) : Row (w.alloc (.cells (vC x).toArray 34)) 4 (.slice (some ⟨w.heap.size, 0, none⟩) 1 1) 1 (vC x) :=
  Row.of_own (World.ownsRow_lit (base := w.heap.size) (e := 34) (size := 4) w (vC x).toArray 1 (Nat.le_refl _) (by decide) rfl)

set_option maxRecDepth 100000 in
set_option maxHeartbeats 16000000 in
theorem rset_any (w : World) (v : Value) (l : List V) (h : SetR w v l) (hl6 : l.length ≤ 6) :
    Calls Tryz.prog 23 #[v] w fun e w' => ∃ v', e = .returned v' ∧ w'.ownsRow w.heap.size 34 4 v' (sortU cmpV l).length ((sortU cmpV l).flatMap vC) ∧ Ext w w' := by
  obtain ⟨a, cap, rfl, hc, hm⟩ := Row.shape h
  unfold maxLen at hm
  have HS := Lib.hid h
  obtain ⟨n, hn⟩ : ∃ n, n = l.length := ⟨_, rfl⟩
  have HN := Lib.hid hn
  rw [← hn] at hc hl6 ⊢ HS
  clear hn h
  go_enter Tryz.func23, Tryz.ntmps23
  go_wp2_with fail
  go_loopw [3, 4] (fun vo i wr => ∃ k : Nat, k ≤ n ∧ i = .int .i64 k ∧ Hid (wr.ownsRow w.heap.size 34 4 vo (sortU cmpV (l.take k)).length ((sortU cmpV (l.take k)).flatMap vC)) ∧ Hid (Ext w wr)) (fun _ i _ => n - (intOf i).toNat)
  case atStart => exact ⟨0, Nat.zero_le _, rfl, own_none _ _ _ _, Ext.refl _⟩
  case round =>
    obtain ⟨k, hk, rfl, hown, hx⟩ := hrel
    obtain ⟨wo, hwo⟩ : ∃ x : World, x = wr := ⟨_, rfl⟩
    subst hwo
    by_cases hlt : k < n
    · have hI : decide ((k : Int) < (n : Int)) = true := decide_eq_true (by omega)
      have hkN : (k : Int) < (n : Int) := by omega
      have hkl : k < l.length := by have := HN.out; omega
      obtain ⟨B, o, rfl, f0, f1, f2, f3⟩ := SetR.at (SetR.ext HS.out hx.out) hkl
      have hst := sort_take cmpV l k hkl
      have HST := Lib.hid hst
      have hmk : (sortU cmpV (l.take k)).length ≤ k := by have := sortU_len (cf := cmpV) (l.take k); rw [List.length_take] at this; omega
      clear hst
      generalize sortU cmpV (l.take k) = L at *
      generalize l[k] = x at *
      obtain ⟨ao, co, hvo, hco, hmo⟩ := own_shape hown.out
      obtain ⟨m, hm'⟩ : ∃ m, m = L.length := ⟨_, rfl⟩
      have HM := Lib.hid hm'
      rw [hvo, ← hm'] at hown
      rw [hvo, ← hm']
      rw [← hm'] at hmk hco
      have hm6 : m ≤ 6 := by omega
      clear hvo hm'
      unfold maxLen at hmo
      go_upto_block 2 with fail
      go_cut [5] from 13 to 30 (fun v5 wx => ∃ j : Nat, v5 = .int .i64 j ∧ j ≤ m ∧ Hid (∀ q (hq : q < L.length), q < j → cmpV L[q] x < 0) ∧ Hid (∀ hq : j < L.length, ¬ cmpV L[j] x < 0) ∧ Hid (Ext wo wx))
      case first =>
        go_wp2_with fail
        go_loopw [5] (fun i wq => ∃ j : Nat, j ≤ m ∧ i = .int .i64 j ∧ Hid (∀ q (hq : q < L.length), q < j → cmpV L[q] x < 0) ∧ Hid (Ext wo wq)) (fun i _ => m - (intOf i).toNat)
        case atStart => exact ⟨0, Nat.zero_le _, rfl, fun q _ h => absurd h (Nat.not_lt_zero _), Ext.refl _⟩
        case round =>
          obtain ⟨j, hj, rfl, hlow, hxq⟩ := hrel
          by_cases hjm : j < m
          · have hJ : decide ((j : Int) < (m : Int)) = true := decide_eq_true (by omega)
            have hjM : (j : Int) < (m : Int) := by omega
            have hjl : j < L.length := by have := HM.out; omega
            have hso : SetR wr (.slice ao m co) L := by have h := Row.ext (Row.of_own hown.out) hxq.out; unfold SetR; rw [← HM.out]; exact h
            obtain ⟨B1, o1, rfl, g0, g1, g2, g3⟩ := SetR.at hso hjl
            have r0 := hxq.out.cell f0
            have r1 := hxq.out.cell f1
            have r2 := hxq.out.cell f2
            have r3 := hxq.out.cell f3
            have hup : cmpV L[j] x < 0 → ∀ q (hq : q < L.length), q < j + 1 → cmpV L[q] x < 0 := fun e q hq h => by
              by_cases hqj : q = j
              · subst hqj; exact e
              · exact hlow.out q hq (by omega)
            have HUP := Lib.hid hup
            obtain ⟨y, hy⟩ : ∃ y, y = L[j] := ⟨_, rfl⟩
            have HY := Lib.hid hy
            rw [← hy] at g0 g1 g2 g3 HUP
            clear hso hup hy
            have HC := Lib.hid (fun W => rcompare_any W y.k y.n x.k x.n y.s x.s y.b x.b)
            have hcv : cmpV ⟨y.k, y.n, y.s, y.b⟩ ⟨x.k, x.n, x.s, x.b⟩ = cmpV y x := rfl
            rw [hcv] at HC
            clear hcv
            by_cases hneg : cmpV y x < 0
            · have hd : decide (cmpV y x < 0) = true := decide_eq_true hneg
              go_upto_region 6 with fail
              refine wp_region_facts [Fact.eq (.int .i64 j),
                  Fact.eq (.slice (some ⟨B1, o1, none⟩) m co),
                  Fact.eq (.int .i64 m),
                  Fact.eq (.bool true),
                  Fact.eq (.bool true),
                  Fact.eq (.slice (some ⟨B1, o1, none⟩) m co),
                  Fact.eq (.int .i64 j),
                  Fact.eq (.pointer (some ⟨B1, o1 + j * 4, none⟩)),
                  Fact.eq (.agg #[.int .i64 y.k, .int .i64 y.n, .string (strOf y.s), .bool y.b]),
                  Fact.eq (.slice (some ⟨B, o, none⟩) n cap),
                  Fact.eq (.int .i64 k),
                  Fact.eq (.pointer (some ⟨B, o + k * 4, none⟩)),
                  Fact.eq (.agg #[.int .i64 x.k, .int .i64 x.n, .string (strOf x.s), .bool x.b]),
                  Fact.eq (.int .i64 (cmpV y x)),
                  Fact.eq (.bool true),
                  Fact.eq (.bool true)]
                [[], [], [(1, 14)], [(0, 13), (2, 15)], [(3, 16)], [(4, 17)], [(4, 17)], [(5, 18), (6, 19), (4, 17)], [(7, 20), (4, 17)], [(4, 17)], [(4, 17)], [(9, 22), (10, 23), (4, 17)], [(11, 24), (4, 17)], [(8, 21), (12, 25), (4, 17)], [(13, 26), (4, 17)], [(4, 17), (14, 27)]]
                [(0, 13), (1, 14), (2, 15), (3, 16), (4, 17), (5, 18), (6, 19), (7, 20), (8, 21), (9, 22), (10, 23), (11, 24), (12, 25), (13, 26), (14, 27), (15, 28)] (by kernel_rfl) (by kernel_rfl) ?_ ?_
              · refine ⟨?_, ?_, ?_, ?_, ?_, ?_, ?_, ?_, ?_, ?_, ?_, ?_, ?_, ?_, ?_, ?_, trivial⟩
                · intro w1 hx1; change wpList _ _ _ _ _ _; exact ob_move rfl rfl rfl rfl rfl
                · intro w1 hx1; change wpList _ _ _ _ _ _; exact ob_move rfl rfl rfl rfl rfl
                · intro w1 hx1; rintro _ rfl; change wpList _ _ _ _ _ _; go_wp2_with fail; exact ⟨rfl, Ext.refl _, rfl, rfl⟩
                · intro w1 hx1; rintro _ rfl; rintro _ rfl; change wpList _ _ _ _ _ _; go_wp2_with fail; exact ⟨rfl, Ext.refl _, rfl, rfl⟩
                · intro w1 hx1; rintro _ rfl; change wpList _ _ _ _ _ _; exact ob_move rfl rfl rfl rfl rfl
                · intro w1 hx1; rintro _ rfl; change wpList _ _ _ _ _ _; exact ob_move rfl rfl rfl rfl rfl
                · intro w1 hx1; rintro _ rfl; change wpList _ _ _ _ _ _; exact ob_move rfl rfl rfl rfl rfl
                · intro w1 hx1; rintro _ rfl; rintro _ rfl; rintro _ rfl; change wpList _ _ _ _ _ _; go_wp2_with fail; exact ⟨rfl, Ext.refl _, rfl, rfl⟩
                · intro w1 hx1; rintro _ rfl; rintro _ rfl; change wpList _ _ _ _ _ _; have m0 := hx1.cell g0; have m1 := hx1.cell g1; have m2 := hx1.cell g2; have m3 := hx1.cell g3; go_wp2_with fail; exact ⟨rfl, Ext.refl _, rfl, rfl⟩
                · intro w1 hx1; rintro _ rfl; change wpList _ _ _ _ _ _; exact ob_move rfl rfl rfl rfl rfl
                · intro w1 hx1; rintro _ rfl; change wpList _ _ _ _ _ _; exact ob_move rfl rfl rfl rfl rfl
                · intro w1 hx1; rintro _ rfl; rintro _ rfl; rintro _ rfl; change wpList _ _ _ _ _ _; go_wp2_with fail; exact ⟨rfl, Ext.refl _, rfl, rfl⟩
                · intro w1 hx1; rintro _ rfl; rintro _ rfl; change wpList _ _ _ _ _ _; have m0 := hx1.cell r0; have m1 := hx1.cell r1; have m2 := hx1.cell r2; have m3 := hx1.cell r3; go_wp2_with fail; exact ⟨rfl, Ext.refl _, rfl, rfl⟩
                · intro w1 hx1; rintro _ rfl; rintro _ rfl; rintro _ rfl; change wpList _ _ _ _ _ _; go_wp2_with fail; (with_reducible refine (HC.out _).mono ?_); rintro e w7 ⟨rfl, hx2⟩; go_wp2_with fail; exact ⟨rfl, hx2.1, rfl, rfl⟩
                · intro w1 hx1; rintro _ rfl; rintro _ rfl; change wpList _ _ _ _ _ _; go_wp2_with fail; exact ⟨rfl, Ext.refl _, rfl, rfl⟩
                · intro w1 hx1; rintro _ rfl; rintro _ rfl; change wpList _ _ _ _ _ _; exact ob_pick rfl rfl rfl rfl rfl rfl
              · intro w1 hx1; rintro _ rfl; rintro _ rfl; rintro _ rfl; rintro _ rfl; rintro _ rfl; rintro _ rfl; rintro _ rfl; rintro _ rfl; rintro _ rfl; rintro _ rfl; rintro _ rfl; rintro _ rfl; rintro _ rfl; rintro _ rfl; rintro _ rfl; rintro _ rfl; refine depsThen_nil ?_; dsimp only; simp only [Act.put, List.setIfInBounds_toArray, List.set_cons_zero, List.set_cons_succ]
                have HXQ := Lib.hid (hxq.out.trans hx1)
                clear g0 g1 g2 g3 r0 r1 r2 r3 hx1 hxq
                go_wp2_with fail
                go_roundw
                case rel => exact ⟨j + 1, hjm, by go_num, HUP.out hneg, HXQ.out⟩
                case measure => simp [intOf]; omega
            · have hd : decide (cmpV y x < 0) = false := decide_eq_false hneg
              go_upto_region 6 with fail
              refine wp_region_facts [Fact.eq (.int .i64 j),
                  Fact.eq (.slice (some ⟨B1, o1, none⟩) m co),
                  Fact.eq (.int .i64 m),
                  Fact.eq (.bool true),
                  Fact.eq (.bool true),
                  Fact.eq (.slice (some ⟨B1, o1, none⟩) m co),
                  Fact.eq (.int .i64 j),
                  Fact.eq (.pointer (some ⟨B1, o1 + j * 4, none⟩)),
                  Fact.eq (.agg #[.int .i64 y.k, .int .i64 y.n, .string (strOf y.s), .bool y.b]),
                  Fact.eq (.slice (some ⟨B, o, none⟩) n cap),
                  Fact.eq (.int .i64 k),
                  Fact.eq (.pointer (some ⟨B, o + k * 4, none⟩)),
                  Fact.eq (.agg #[.int .i64 x.k, .int .i64 x.n, .string (strOf x.s), .bool x.b]),
                  Fact.eq (.int .i64 (cmpV y x)),
                  Fact.eq (.bool false),
                  Fact.eq (.bool false)]
                [[], [], [(1, 14)], [(0, 13), (2, 15)], [(3, 16)], [(4, 17)], [(4, 17)], [(5, 18), (6, 19), (4, 17)], [(7, 20), (4, 17)], [(4, 17)], [(4, 17)], [(9, 22), (10, 23), (4, 17)], [(11, 24), (4, 17)], [(8, 21), (12, 25), (4, 17)], [(13, 26), (4, 17)], [(4, 17), (14, 27)]]
                [(0, 13), (1, 14), (2, 15), (3, 16), (4, 17), (5, 18), (6, 19), (7, 20), (8, 21), (9, 22), (10, 23), (11, 24), (12, 25), (13, 26), (14, 27), (15, 28)] (by kernel_rfl) (by kernel_rfl) ?_ ?_
              · refine ⟨?_, ?_, ?_, ?_, ?_, ?_, ?_, ?_, ?_, ?_, ?_, ?_, ?_, ?_, ?_, ?_, trivial⟩
                · intro w1 hx1; change wpList _ _ _ _ _ _; exact ob_move rfl rfl rfl rfl rfl
                · intro w1 hx1; change wpList _ _ _ _ _ _; exact ob_move rfl rfl rfl rfl rfl
                · intro w1 hx1; rintro _ rfl; change wpList _ _ _ _ _ _; go_wp2_with fail; exact ⟨rfl, Ext.refl _, rfl, rfl⟩
                · intro w1 hx1; rintro _ rfl; rintro _ rfl; change wpList _ _ _ _ _ _; go_wp2_with fail; exact ⟨rfl, Ext.refl _, rfl, rfl⟩
                · intro w1 hx1; rintro _ rfl; change wpList _ _ _ _ _ _; exact ob_move rfl rfl rfl rfl rfl
                · intro w1 hx1; rintro _ rfl; change wpList _ _ _ _ _ _; exact ob_move rfl rfl rfl rfl rfl
                · intro w1 hx1; rintro _ rfl; change wpList _ _ _ _ _ _; exact ob_move rfl rfl rfl rfl rfl
                · intro w1 hx1; rintro _ rfl; rintro _ rfl; rintro _ rfl; change wpList _ _ _ _ _ _; go_wp2_with fail; exact ⟨rfl, Ext.refl _, rfl, rfl⟩
                · intro w1 hx1; rintro _ rfl; rintro _ rfl; change wpList _ _ _ _ _ _; have m0 := hx1.cell g0; have m1 := hx1.cell g1; have m2 := hx1.cell g2; have m3 := hx1.cell g3; go_wp2_with fail; exact ⟨rfl, Ext.refl _, rfl, rfl⟩
                · intro w1 hx1; rintro _ rfl; change wpList _ _ _ _ _ _; exact ob_move rfl rfl rfl rfl rfl
                · intro w1 hx1; rintro _ rfl; change wpList _ _ _ _ _ _; exact ob_move rfl rfl rfl rfl rfl
                · intro w1 hx1; rintro _ rfl; rintro _ rfl; rintro _ rfl; change wpList _ _ _ _ _ _; go_wp2_with fail; exact ⟨rfl, Ext.refl _, rfl, rfl⟩
                · intro w1 hx1; rintro _ rfl; rintro _ rfl; change wpList _ _ _ _ _ _; have m0 := hx1.cell r0; have m1 := hx1.cell r1; have m2 := hx1.cell r2; have m3 := hx1.cell r3; go_wp2_with fail; exact ⟨rfl, Ext.refl _, rfl, rfl⟩
                · intro w1 hx1; rintro _ rfl; rintro _ rfl; rintro _ rfl; change wpList _ _ _ _ _ _; go_wp2_with fail; (with_reducible refine (HC.out _).mono ?_); rintro e w7 ⟨rfl, hx2⟩; go_wp2_with fail; exact ⟨rfl, hx2.1, rfl, rfl⟩
                · intro w1 hx1; rintro _ rfl; rintro _ rfl; change wpList _ _ _ _ _ _; go_wp2_with fail; exact ⟨rfl, Ext.refl _, rfl, rfl⟩
                · intro w1 hx1; rintro _ rfl; rintro _ rfl; change wpList _ _ _ _ _ _; exact ob_pick rfl rfl rfl rfl rfl rfl
              · intro w1 hx1; rintro _ rfl; rintro _ rfl; rintro _ rfl; rintro _ rfl; rintro _ rfl; rintro _ rfl; rintro _ rfl; rintro _ rfl; rintro _ rfl; rintro _ rfl; rintro _ rfl; rintro _ rfl; rintro _ rfl; rintro _ rfl; rintro _ rfl; rintro _ rfl; refine depsThen_nil ?_; dsimp only; simp only [Act.put, List.setIfInBounds_toArray, List.set_cons_zero, List.set_cons_succ]
                have HXQ := Lib.hid (hxq.out.trans hx1)
                clear g0 g1 g2 g3 r0 r1 r2 r3 hx1 hxq
                go_wp2_with fail
                go_meet
                case rel => exact ⟨j, rfl, hj, hlow.out, fun hq => by rw [← HY.out]; exact hneg, HXQ.out⟩
          · obtain rfl : j = m := by omega
            have hJ : decide ((j : Int) < (j : Int)) = false := decide_eq_false (by omega)
            go_upto_region 6 with fail
            refine wp_region_facts [Fact.eq (.int .i64 j),
                Fact.eq (.slice ao j co),
                Fact.eq (.int .i64 j),
                Fact.eq (.bool false),
                Fact.eq (.bool false),
                Fact.eq undef,
                Fact.eq undef,
                Fact.eq undef,
                Fact.eq undef,
                Fact.eq undef,
                Fact.eq undef,
                Fact.eq undef,
                Fact.eq undef,
                Fact.eq undef,
                Fact.eq undef,
                Fact.eq (.bool false)]
              [[], [], [(1, 14)], [(0, 13), (2, 15)], [(3, 16)], [(4, 17)], [(4, 17)], [(5, 18), (6, 19), (4, 17)], [(7, 20), (4, 17)], [(4, 17)], [(4, 17)], [(9, 22), (10, 23), (4, 17)], [(11, 24), (4, 17)], [(8, 21), (12, 25), (4, 17)], [(13, 26), (4, 17)], [(4, 17), (14, 27)]]
              [(0, 13), (1, 14), (2, 15), (3, 16), (4, 17), (5, 18), (6, 19), (7, 20), (8, 21), (9, 22), (10, 23), (11, 24), (12, 25), (13, 26), (14, 27), (15, 28)] (by kernel_rfl) (by kernel_rfl) ?_ ?_
            · refine ⟨?_, ?_, ?_, ?_, ?_, ?_, ?_, ?_, ?_, ?_, ?_, ?_, ?_, ?_, ?_, ?_, trivial⟩
              · intro w1 hx1; change wpList _ _ _ _ _ _; exact ob_move rfl rfl rfl rfl rfl
              · intro w1 hx1; change wpList _ _ _ _ _ _; exact ob_move rfl rfl rfl rfl rfl
              · intro w1 hx1; rintro _ rfl; change wpList _ _ _ _ _ _; go_wp2_with fail; exact ⟨rfl, Ext.refl _, rfl, rfl⟩
              · intro w1 hx1; rintro _ rfl; rintro _ rfl; change wpList _ _ _ _ _ _; go_wp2_with fail; exact ⟨rfl, Ext.refl _, rfl, rfl⟩
              · intro w1 hx1; rintro _ rfl; change wpList _ _ _ _ _ _; exact ob_move rfl rfl rfl rfl rfl
              · intro w1 hx1; rintro _ rfl; change wpList _ _ _ _ _ _; exact ob_skip rfl rfl rfl rfl
              · intro w1 hx1; rintro _ rfl; change wpList _ _ _ _ _ _; exact ob_skip rfl rfl rfl rfl
              · intro w1 hx1; rintro _ rfl; rintro _ rfl; rintro _ rfl; change wpList _ _ _ _ _ _; exact ob_skip rfl rfl rfl rfl
              · intro w1 hx1; rintro _ rfl; rintro _ rfl; change wpList _ _ _ _ _ _; exact ob_skip rfl rfl rfl rfl
              · intro w1 hx1; rintro _ rfl; change wpList _ _ _ _ _ _; exact ob_skip rfl rfl rfl rfl
              · intro w1 hx1; rintro _ rfl; change wpList _ _ _ _ _ _; exact ob_skip rfl rfl rfl rfl
              · intro w1 hx1; rintro _ rfl; rintro _ rfl; rintro _ rfl; change wpList _ _ _ _ _ _; exact ob_skip rfl rfl rfl rfl
              · intro w1 hx1; rintro _ rfl; rintro _ rfl; change wpList _ _ _ _ _ _; exact ob_skip rfl rfl rfl rfl
              · intro w1 hx1; rintro _ rfl; rintro _ rfl; rintro _ rfl; change wpList _ _ _ _ _ _; exact ob_skip rfl rfl rfl rfl
              · intro w1 hx1; rintro _ rfl; rintro _ rfl; change wpList _ _ _ _ _ _; exact ob_skip rfl rfl rfl rfl
              · intro w1 hx1; rintro _ rfl; rintro _ rfl; change wpList _ _ _ _ _ _; exact ob_pick rfl rfl rfl rfl rfl rfl
            · intro w1 hx1; rintro _ rfl; rintro _ rfl; rintro _ rfl; rintro _ rfl; rintro _ rfl; rintro _ rfl; rintro _ rfl; rintro _ rfl; rintro _ rfl; rintro _ rfl; rintro _ rfl; rintro _ rfl; rintro _ rfl; rintro _ rfl; rintro _ rfl; rintro _ rfl; refine depsThen_nil ?_; dsimp only; simp only [Act.put, List.setIfInBounds_toArray, List.set_cons_zero, List.set_cons_succ]
              have HXQ := Lib.hid (hxq.out.trans hx1)
              go_wp2_with fail
              go_meet
              case rel => exact ⟨j, rfl, Nat.le_refl _, hlow.out, fun hq => absurd hq (by rw [← HM.out]; exact Nat.lt_irrefl _), HXQ.out⟩
      case rest =>
        obtain ⟨j, rfl, hj, hlow, hhi, hxc⟩ := hcut
        by_cases hjm : j < m
        · have hJ : decide ((j : Int) < (m : Int)) = true := decide_eq_true (by omega)
          have hjM : (j : Int) < (m : Int) := by omega
          have hjl : j < L.length := by have := HM.out; omega
          have hso : SetR wc (.slice ao m co) L := by have h := Row.ext (Row.of_own hown.out) hxc.out; unfold SetR; rw [← HM.out]; exact h
          obtain ⟨B1, o1, rfl, g0, g1, g2, g3⟩ := SetR.at hso hjl
          have r0 := hxc.out.cell f0
          have r1 := hxc.out.cell f1
          have r2 := hxc.out.cell f2
          have r3 := hxc.out.cell f3
          obtain ⟨y, hy⟩ : ∃ y, y = L[j] := ⟨_, rfl⟩
          have HY := Lib.hid hy
          have hnl : ¬ cmpV y x < 0 := by rw [hy]; exact hhi.out hjl
          rw [← hy] at g0 g1 g2 g3
          clear hso hy
          have HC := Lib.hid (fun W => rcompare_any W y.k y.n x.k x.n y.s x.s y.b x.b)
          have hcv : cmpV ⟨y.k, y.n, y.s, y.b⟩ ⟨x.k, x.n, x.s, x.b⟩ = cmpV y x := rfl
          rw [hcv] at HC
          clear hcv
          by_cases hz : cmpV y x = 0
          · have hd : (cmpV y x == 0) = true := beq_iff_eq.2 hz
            have hstop : sortU cmpV (l.take (k + 1)) = L := by rw [HST.out]; exact insU_stop cmpV x hjl (fun q hq h => hlow.out q hq h) (by rw [← HY.out]; exact hz)
            have HSTOP := Lib.hid hstop
            clear hz hstop
            go_upto_region 8 with fail
            refine wp_region_facts [Fact.eq (.int .i64 j),
                Fact.eq (.slice (some ⟨B1, o1, none⟩) m co),
                Fact.eq (.int .i64 m),
                Fact.eq (.bool true),
                Fact.eq (.bool true),
                Fact.eq (.slice (some ⟨B1, o1, none⟩) m co),
                Fact.eq (.int .i64 j),
                Fact.eq (.pointer (some ⟨B1, o1 + j * 4, none⟩)),
                Fact.eq (.agg #[.int .i64 y.k, .int .i64 y.n, .string (strOf y.s), .bool y.b]),
                Fact.eq (.slice (some ⟨B, o, none⟩) n cap),
                Fact.eq (.int .i64 k),
                Fact.eq (.pointer (some ⟨B, o + k * 4, none⟩)),
                Fact.eq (.agg #[.int .i64 x.k, .int .i64 x.n, .string (strOf x.s), .bool x.b]),
                Fact.eq (.int .i64 (cmpV y x)),
                Fact.eq (.bool true),
                Fact.eq (.bool true)]
              [[], [], [(1, 32)], [(0, 31), (2, 33)], [(3, 34)], [(4, 35)], [(4, 35)], [(5, 36), (6, 37), (4, 35)], [(7, 38), (4, 35)], [(4, 35)], [(4, 35)], [(9, 40), (10, 41), (4, 35)], [(11, 42), (4, 35)], [(8, 39), (12, 43), (4, 35)], [(13, 44), (4, 35)], [(4, 35), (14, 45)]]
              [(0, 31), (1, 32), (2, 33), (3, 34), (4, 35), (5, 36), (6, 37), (7, 38), (8, 39), (9, 40), (10, 41), (11, 42), (12, 43), (13, 44), (14, 45), (15, 46)] (by kernel_rfl) (by kernel_rfl) ?_ ?_
            · refine ⟨?_, ?_, ?_, ?_, ?_, ?_, ?_, ?_, ?_, ?_, ?_, ?_, ?_, ?_, ?_, ?_, trivial⟩
              · intro w1 hx1; change wpList _ _ _ _ _ _; exact ob_move rfl rfl rfl rfl rfl
              · intro w1 hx1; change wpList _ _ _ _ _ _; exact ob_move rfl rfl rfl rfl rfl
              · intro w1 hx1; rintro _ rfl; change wpList _ _ _ _ _ _; go_wp2_with fail; exact ⟨rfl, Ext.refl _, rfl, rfl⟩
              · intro w1 hx1; rintro _ rfl; rintro _ rfl; change wpList _ _ _ _ _ _; go_wp2_with fail; exact ⟨rfl, Ext.refl _, rfl, rfl⟩
              · intro w1 hx1; rintro _ rfl; change wpList _ _ _ _ _ _; exact ob_move rfl rfl rfl rfl rfl
              · intro w1 hx1; rintro _ rfl; change wpList _ _ _ _ _ _; exact ob_move rfl rfl rfl rfl rfl
              · intro w1 hx1; rintro _ rfl; change wpList _ _ _ _ _ _; exact ob_move rfl rfl rfl rfl rfl
              · intro w1 hx1; rintro _ rfl; rintro _ rfl; rintro _ rfl; change wpList _ _ _ _ _ _; go_wp2_with fail; exact ⟨rfl, Ext.refl _, rfl, rfl⟩
              · intro w1 hx1; rintro _ rfl; rintro _ rfl; change wpList _ _ _ _ _ _; have m0 := hx1.cell g0; have m1 := hx1.cell g1; have m2 := hx1.cell g2; have m3 := hx1.cell g3; go_wp2_with fail; exact ⟨rfl, Ext.refl _, rfl, rfl⟩
              · intro w1 hx1; rintro _ rfl; change wpList _ _ _ _ _ _; exact ob_move rfl rfl rfl rfl rfl
              · intro w1 hx1; rintro _ rfl; change wpList _ _ _ _ _ _; exact ob_move rfl rfl rfl rfl rfl
              · intro w1 hx1; rintro _ rfl; rintro _ rfl; rintro _ rfl; change wpList _ _ _ _ _ _; go_wp2_with fail; exact ⟨rfl, Ext.refl _, rfl, rfl⟩
              · intro w1 hx1; rintro _ rfl; rintro _ rfl; change wpList _ _ _ _ _ _; have m0 := hx1.cell r0; have m1 := hx1.cell r1; have m2 := hx1.cell r2; have m3 := hx1.cell r3; go_wp2_with fail; exact ⟨rfl, Ext.refl _, rfl, rfl⟩
              · intro w1 hx1; rintro _ rfl; rintro _ rfl; rintro _ rfl; change wpList _ _ _ _ _ _; go_wp2_with fail; (with_reducible refine (HC.out _).mono ?_); rintro e w7 ⟨rfl, hx2⟩; go_wp2_with fail; exact ⟨rfl, hx2.1, rfl, rfl⟩
              · intro w1 hx1; rintro _ rfl; rintro _ rfl; change wpList _ _ _ _ _ _; go_wp2_with fail; exact ⟨rfl, Ext.refl _, rfl, rfl⟩
              · intro w1 hx1; rintro _ rfl; rintro _ rfl; change wpList _ _ _ _ _ _; exact ob_pick rfl rfl rfl rfl rfl rfl
            · intro w1 hx1; rintro _ rfl; rintro _ rfl; rintro _ rfl; rintro _ rfl; rintro _ rfl; rintro _ rfl; rintro _ rfl; rintro _ rfl; rintro _ rfl; rintro _ rfl; rintro _ rfl; rintro _ rfl; rintro _ rfl; rintro _ rfl; rintro _ rfl; rintro _ rfl; refine depsThen_nil ?_; dsimp only; simp only [Act.put, List.setIfInBounds_toArray, List.set_cons_zero, List.set_cons_succ]
              have HXQ := Lib.hid ((hx.out.trans hxc.out).trans hx1)
              have HOW := Lib.hid (own_ext hown.out (hxc.out.trans hx1))
              clear g0 g1 g2 g3 r0 r1 r2 r3 hx1 hxc
              go_wp2_with fail
              go_roundw
              case rel => exact ⟨k + 1, hlt, by go_num, by rw [HSTOP.out, ← HM.out]; exact HOW.out, HXQ.out⟩
              case measure => simp [intOf]; omega
          · have hd : (cmpV y x == 0) = false := beq_eq_false_iff_ne.2 hz
            have hhere : sortU cmpV (l.take (k + 1)) = L.take j ++ x :: L.drop j := by rw [HST.out]; exact insU_here cmpV x (Nat.le_of_lt hjl) (fun q hq h => hlow.out q hq h) (fun h => by rw [← HY.out]; omega)
            have HHERE := Lib.hid hhere
            clear hz hhere
            go_upto_region 8 with fail
            refine wp_region_facts [Fact.eq (.int .i64 j),
                Fact.eq (.slice (some ⟨B1, o1, none⟩) m co),
                Fact.eq (.int .i64 m),
                Fact.eq (.bool true),
                Fact.eq (.bool true),
                Fact.eq (.slice (some ⟨B1, o1, none⟩) m co),
                Fact.eq (.int .i64 j),
                Fact.eq (.pointer (some ⟨B1, o1 + j * 4, none⟩)),
                Fact.eq (.agg #[.int .i64 y.k, .int .i64 y.n, .string (strOf y.s), .bool y.b]),
                Fact.eq (.slice (some ⟨B, o, none⟩) n cap),
                Fact.eq (.int .i64 k),
                Fact.eq (.pointer (some ⟨B, o + k * 4, none⟩)),
                Fact.eq (.agg #[.int .i64 x.k, .int .i64 x.n, .string (strOf x.s), .bool x.b]),
                Fact.eq (.int .i64 (cmpV y x)),
                Fact.eq (.bool false),
                Fact.eq (.bool false)]
              [[], [], [(1, 32)], [(0, 31), (2, 33)], [(3, 34)], [(4, 35)], [(4, 35)], [(5, 36), (6, 37), (4, 35)], [(7, 38), (4, 35)], [(4, 35)], [(4, 35)], [(9, 40), (10, 41), (4, 35)], [(11, 42), (4, 35)], [(8, 39), (12, 43), (4, 35)], [(13, 44), (4, 35)], [(4, 35), (14, 45)]]
              [(0, 31), (1, 32), (2, 33), (3, 34), (4, 35), (5, 36), (6, 37), (7, 38), (8, 39), (9, 40), (10, 41), (11, 42), (12, 43), (13, 44), (14, 45), (15, 46)] (by kernel_rfl) (by kernel_rfl) ?_ ?_
            · refine ⟨?_, ?_, ?_, ?_, ?_, ?_, ?_, ?_, ?_, ?_, ?_, ?_, ?_, ?_, ?_, ?_, trivial⟩
              · intro w1 hx1; change wpList _ _ _ _ _ _; exact ob_move rfl rfl rfl rfl rfl
              · intro w1 hx1; change wpList _ _ _ _ _ _; exact ob_move rfl rfl rfl rfl rfl
              · intro w1 hx1; rintro _ rfl; change wpList _ _ _ _ _ _; go_wp2_with fail; exact ⟨rfl, Ext.refl _, rfl, rfl⟩
              · intro w1 hx1; rintro _ rfl; rintro _ rfl; change wpList _ _ _ _ _ _; go_wp2_with fail; exact ⟨rfl, Ext.refl _, rfl, rfl⟩
              · intro w1 hx1; rintro _ rfl; change wpList _ _ _ _ _ _; exact ob_move rfl rfl rfl rfl rfl
              · intro w1 hx1; rintro _ rfl; change wpList _ _ _ _ _ _; exact ob_move rfl rfl rfl rfl rfl
              · intro w1 hx1; rintro _ rfl; change wpList _ _ _ _ _ _; exact ob_move rfl rfl rfl rfl rfl
              · intro w1 hx1; rintro _ rfl; rintro _ rfl; rintro _ rfl; change wpList _ _ _ _ _ _; go_wp2_with fail; exact ⟨rfl, Ext.refl _, rfl, rfl⟩
              · intro w1 hx1; rintro _ rfl; rintro _ rfl; change wpList _ _ _ _ _ _; have m0 := hx1.cell g0; have m1 := hx1.cell g1; have m2 := hx1.cell g2; have m3 := hx1.cell g3; go_wp2_with fail; exact ⟨rfl, Ext.refl _, rfl, rfl⟩
              · intro w1 hx1; rintro _ rfl; change wpList _ _ _ _ _ _; exact ob_move rfl rfl rfl rfl rfl
              · intro w1 hx1; rintro _ rfl; change wpList _ _ _ _ _ _; exact ob_move rfl rfl rfl rfl rfl
              · intro w1 hx1; rintro _ rfl; rintro _ rfl; rintro _ rfl; change wpList _ _ _ _ _ _; go_wp2_with fail; exact ⟨rfl, Ext.refl _, rfl, rfl⟩
              · intro w1 hx1; rintro _ rfl; rintro _ rfl; change wpList _ _ _ _ _ _; have m0 := hx1.cell r0; have m1 := hx1.cell r1; have m2 := hx1.cell r2; have m3 := hx1.cell r3; go_wp2_with fail; exact ⟨rfl, Ext.refl _, rfl, rfl⟩
              · intro w1 hx1; rintro _ rfl; rintro _ rfl; rintro _ rfl; change wpList _ _ _ _ _ _; go_wp2_with fail; (with_reducible refine (HC.out _).mono ?_); rintro e w7 ⟨rfl, hx2⟩; go_wp2_with fail; exact ⟨rfl, hx2.1, rfl, rfl⟩
              · intro w1 hx1; rintro _ rfl; rintro _ rfl; change wpList _ _ _ _ _ _; go_wp2_with fail; exact ⟨rfl, Ext.refl _, rfl, rfl⟩
              · intro w1 hx1; rintro _ rfl; rintro _ rfl; change wpList _ _ _ _ _ _; exact ob_pick rfl rfl rfl rfl rfl rfl
            · intro w1 hx1; rintro _ rfl; rintro _ rfl; rintro _ rfl; rintro _ rfl; rintro _ rfl; rintro _ rfl; rintro _ rfl; rintro _ rfl; rintro _ rfl; rintro _ rfl; rintro _ rfl; rintro _ rfl; rintro _ rfl; rintro _ rfl; rintro _ rfl; rintro _ rfl; refine depsThen_nil ?_; dsimp only; simp only [Act.put, List.setIfInBounds_toArray, List.set_cons_zero, List.set_cons_succ]
              clear g0 g1 g2 g3
              have HXQ := Lib.hid ((hx.out.trans hxc.out).trans hx1)
              have HOW := Lib.hid (own_ext hown.out (hxc.out.trans hx1))
              have s0 := hx1.cell r0
              have s1 := hx1.cell r1
              have s2 := hx1.cell r2
              have s3 := hx1.cell r3
              clear hx1 hxc r0 r1 r2 r3 f0 f1 f2 f3
              go_upto_region 10 with fail
              obtain ⟨w8, hw8⟩ : ∃ z : World, z = w1 := ⟨_, rfl⟩
              subst hw8
              have hbase : w.heap.size ≤ w8.heap.size := HXQ.out.size
              go_upto_region 11 with (first
                | (refine vCut (.tmp 48) none (some (.tmp 49)) L m 0 j rfl rfl (Row.of_own HOW.out) rfl ⟨_, _, rfl, by omega, by omega⟩ (Nat.zero_le _) (by omega) ?_; intro v50 h50; rw [List.drop_zero, Nat.sub_zero] at h50; obtain ⟨a50, c50, rfl, _, _⟩ := Row.shape h50; have H50 := Lib.hid h50; clear h50)
                | (at_builtin; refine wpList_append_row 35 34 (.tmp 47) (.tmp 50) rfl w8.heap.size _ 4 40 Tryz.underlying35 info28t rfl (by decide) rfl (.slice none 0 0) 0 [] rfl (own_none _ _ _ _) j ((L.take j).flatMap vC) H50.out (vC_one _) (by omega) (by unfold maxLen; omega) (Nat.le_refl _) ?_; intro v51 w9 hown9 hg9; have HO9 := Lib.hid hown9; have HX9 := Lib.hid ((Ext.refl w8).grown_none (v := .slice none 0 0) hg9 (fun q hq => by cases hq)); clear hown9 hg9))
              have hown9 : w9.ownsRow w8.heap.size 34 4 v51 j ((L.take j).flatMap vC) := by have h := HO9.out; rw [Nat.zero_add, List.nil_append] at h; exact h
              obtain ⟨a51, c51, rfl, _, _⟩ := own_shape hown9
              have t0 := HX9.out.cell s0
              have t1 := HX9.out.cell s1
              have t2 := HX9.out.cell s2
              have t3 := HX9.out.cell s3
              have hxb : Ext w9 (w9.alloc (.cells (vC x).toArray 34)) := (Ext.refl w9).alloc _
              have HROW := Lib.hid (v_row w9 x)
              have HO10 := Lib.hid (own_ext hown9 hxb)
              have HOWb := Lib.hid (own_ext HOW.out (HX9.out.trans hxb))
              have HX10 := Lib.hid (HX9.out.trans hxb)
              have hb10 : w8.heap.size ≤ (w9.alloc (.cells (vC x).toArray 34)).heap.size := HX10.out.size
              clear hown9 HO9 HX9 hxb H50 s0 s1 s2 s3
              go_upto_region 12 with (at_builtin; refine wpList_append_row 35 34 (.tmp 52) (.tmp 57) rfl w8.heap.size _ 4 40 Tryz.underlying35 info28t rfl (by decide) rfl _ j ((L.take j).flatMap vC) rfl HO10.out 1 (vC x) HROW.out (fun u hu => vC_one [x] u (by rw [List.flatMap_singleton]; exact hu)) (by omega) (by unfold maxLen; omega) hb10 ?_; intro v58 w11 hown11 hg11; have HO11 := Lib.hid hown11; have HG11 := Lib.hid hg11; clear hown11 hg11)
              obtain ⟨a58, c58, rfl, _, _⟩ := own_shape HO11.out
              have hkeep1 : ∀ q, (Value.slice (some ⟨B1, o1, none⟩) m co).ownBlock = some q → (Value.slice a51 j c51).ownBlock ≠ some q := fun q hq => own_later HO10.out (Nat.le_refl _) (own_lt HOW.out q hq)
              have HOWc := Lib.hid (own_keep HOWb.out HG11.out (fun q hq e => hkeep1 q hq e))
              have HX11 := Lib.hid (HX10.out.grown_none HG11.out (own_base HO10.out))
              have hb11 : w8.heap.size ≤ w11.heap.size := HX11.out.size
              clear HO10 HROW HOWb HX10 HG11 hkeep1 t0 t1 t2 t3
              go_upto_region 4 with (first
                | (refine vCut (.tmp 60) (some (.tmp 61)) none L m j m rfl rfl (Row.of_own HOWc.out) ⟨_, _, rfl, by omega, by omega⟩ rfl (by omega) (Nat.le_refl _) ?_; intro v62 h62; obtain ⟨a62, c62, rfl, _, _⟩ := Row.shape h62; have H62 := Lib.hid h62; clear h62)
                | (at_builtin; refine wpList_append_row 35 34 (.tmp 59) (.tmp 62) rfl w8.heap.size _ 4 40 Tryz.underlying35 info28t rfl (by decide) rfl _ (j + 1) ((L.take j).flatMap vC ++ vC x) rfl HO11.out (m - j) (((L.take m).drop j).flatMap vC) H62.out (vC_one _) (by omega) (by unfold maxLen; omega) hb11 ?_; intro v63 w12 hown12 hg12; have HO12 := Lib.hid hown12; have HX12 := Lib.hid (HXQ.out.trans (HX11.out.grown_none hg12 (own_base HO11.out))); clear hown12 hg12))
              have hfin : w12.ownsRow w.heap.size 34 4 v63 (sortU cmpV (l.take (k + 1))).length ((sortU cmpV (l.take (k + 1))).flatMap vC) := by
                have h := own_low HO12.out hbase
                have e1 : L.take m = L := List.take_of_length_le (by rw [← HM.out]; exact Nat.le_refl _)
                rw [e1] at h
                rw [HHERE.out]
                have e2 : (L.take j ++ x :: L.drop j).length = j + 1 + (m - j) := by rw [List.length_append, List.length_cons, List.length_take, List.length_drop, ← HM.out]; omega
                have e3 : (L.take j ++ x :: L.drop j).flatMap vC = (L.take j).flatMap vC ++ vC x ++ (L.drop j).flatMap vC := by rw [List.flatMap_append, List.flatMap_cons, List.append_assoc]
                rw [e2, e3]; first | exact h | (rw [e1]; exact h)
              have HFIN := Lib.hid hfin
              clear hfin HO12 HO11 HOWc HX11 H62
              go_wp2_with fail
              go_roundw
              case rel => exact ⟨k + 1, hlt, by go_num, HFIN.out, HX12.out⟩
              case measure => simp [intOf]; omega
        · obtain rfl : j = m := by omega
          have hJ : decide ((j : Int) < (j : Int)) = false := decide_eq_false (by omega)
          have hhere : sortU cmpV (l.take (k + 1)) = L.take j ++ x :: L.drop j := by rw [HST.out]; exact insU_here cmpV x (by rw [← HM.out]; exact Nat.le_refl _) (fun q hq h => hlow.out q hq h) (fun h => absurd h (by rw [← HM.out]; exact Nat.lt_irrefl _))
          have HHERE := Lib.hid hhere
          clear hhere
          go_upto_region 8 with fail
          refine wp_region_facts [Fact.eq (.int .i64 j),
              Fact.eq (.slice ao j co),
              Fact.eq (.int .i64 j),
              Fact.eq (.bool false),
              Fact.eq (.bool false),
              Fact.eq undef,
              Fact.eq undef,
              Fact.eq undef,
              Fact.eq undef,
              Fact.eq undef,
              Fact.eq undef,
              Fact.eq undef,
              Fact.eq undef,
              Fact.eq undef,
              Fact.eq undef,
              Fact.eq (.bool false)]
            [[], [], [(1, 32)], [(0, 31), (2, 33)], [(3, 34)], [(4, 35)], [(4, 35)], [(5, 36), (6, 37), (4, 35)], [(7, 38), (4, 35)], [(4, 35)], [(4, 35)], [(9, 40), (10, 41), (4, 35)], [(11, 42), (4, 35)], [(8, 39), (12, 43), (4, 35)], [(13, 44), (4, 35)], [(4, 35), (14, 45)]]
            [(0, 31), (1, 32), (2, 33), (3, 34), (4, 35), (5, 36), (6, 37), (7, 38), (8, 39), (9, 40), (10, 41), (11, 42), (12, 43), (13, 44), (14, 45), (15, 46)] (by kernel_rfl) (by kernel_rfl) ?_ ?_
          · refine ⟨?_, ?_, ?_, ?_, ?_, ?_, ?_, ?_, ?_, ?_, ?_, ?_, ?_, ?_, ?_, ?_, trivial⟩
            · intro w1 hx1; change wpList _ _ _ _ _ _; exact ob_move rfl rfl rfl rfl rfl
            · intro w1 hx1; change wpList _ _ _ _ _ _; exact ob_move rfl rfl rfl rfl rfl
            · intro w1 hx1; rintro _ rfl; change wpList _ _ _ _ _ _; go_wp2_with fail; exact ⟨rfl, Ext.refl _, rfl, rfl⟩
            · intro w1 hx1; rintro _ rfl; rintro _ rfl; change wpList _ _ _ _ _ _; go_wp2_with fail; exact ⟨rfl, Ext.refl _, rfl, rfl⟩
            · intro w1 hx1; rintro _ rfl; change wpList _ _ _ _ _ _; exact ob_move rfl rfl rfl rfl rfl
            · intro w1 hx1; rintro _ rfl; change wpList _ _ _ _ _ _; exact ob_skip rfl rfl rfl rfl
            · intro w1 hx1; rintro _ rfl; change wpList _ _ _ _ _ _; exact ob_skip rfl rfl rfl rfl
            · intro w1 hx1; rintro _ rfl; rintro _ rfl; rintro _ rfl; change wpList _ _ _ _ _ _; exact ob_skip rfl rfl rfl rfl
            · intro w1 hx1; rintro _ rfl; rintro _ rfl; change wpList _ _ _ _ _ _; exact ob_skip rfl rfl rfl rfl
            · intro w1 hx1; rintro _ rfl; change wpList _ _ _ _ _ _; exact ob_skip rfl rfl rfl rfl
            · intro w1 hx1; rintro _ rfl; change wpList _ _ _ _ _ _; exact ob_skip rfl rfl rfl rfl
            · intro w1 hx1; rintro _ rfl; rintro _ rfl; rintro _ rfl; change wpList _ _ _ _ _ _; exact ob_skip rfl rfl rfl rfl
            · intro w1 hx1; rintro _ rfl; rintro _ rfl; change wpList _ _ _ _ _ _; exact ob_skip rfl rfl rfl rfl
            · intro w1 hx1; rintro _ rfl; rintro _ rfl; rintro _ rfl; change wpList _ _ _ _ _ _; exact ob_skip rfl rfl rfl rfl
            · intro w1 hx1; rintro _ rfl; rintro _ rfl; change wpList _ _ _ _ _ _; exact ob_skip rfl rfl rfl rfl
            · intro w1 hx1; rintro _ rfl; rintro _ rfl; change wpList _ _ _ _ _ _; exact ob_pick rfl rfl rfl rfl rfl rfl
          · intro w1 hx1; rintro _ rfl; rintro _ rfl; rintro _ rfl; rintro _ rfl; rintro _ rfl; rintro _ rfl; rintro _ rfl; rintro _ rfl; rintro _ rfl; rintro _ rfl; rintro _ rfl; rintro _ rfl; rintro _ rfl; rintro _ rfl; rintro _ rfl; rintro _ rfl; refine depsThen_nil ?_; dsimp only; simp only [Act.put, List.setIfInBounds_toArray, List.set_cons_zero, List.set_cons_succ]
            have r0 := hxc.out.cell f0
            have r1 := hxc.out.cell f1
            have r2 := hxc.out.cell f2
            have r3 := hxc.out.cell f3
            have HXQ := Lib.hid ((hx.out.trans hxc.out).trans hx1)
            have HOW := Lib.hid (own_ext hown.out (hxc.out.trans hx1))
            have s0 := hx1.cell r0
            have s1 := hx1.cell r1
            have s2 := hx1.cell r2
            have s3 := hx1.cell r3
            clear hx1 hxc r0 r1 r2 r3 f0 f1 f2 f3
            go_upto_region 10 with fail
            obtain ⟨w8, hw8⟩ : ∃ z : World, z = w1 := ⟨_, rfl⟩
            subst hw8
            have hbase : w.heap.size ≤ w8.heap.size := HXQ.out.size
            go_upto_region 11 with (first
              | (refine vCut (.tmp 48) none (some (.tmp 49)) L j 0 j rfl rfl (Row.of_own HOW.out) rfl ⟨_, _, rfl, by omega, by omega⟩ (Nat.zero_le _) (by omega) ?_; intro v50 h50; rw [List.drop_zero, Nat.sub_zero] at h50; obtain ⟨a50, c50, rfl, _, _⟩ := Row.shape h50; have H50 := Lib.hid h50; clear h50)
              | (at_builtin; refine wpList_append_row 35 34 (.tmp 47) (.tmp 50) rfl w8.heap.size _ 4 40 Tryz.underlying35 info28t rfl (by decide) rfl (.slice none 0 0) 0 [] rfl (own_none _ _ _ _) j ((L.take j).flatMap vC) H50.out (vC_one _) (by omega) (by unfold maxLen; omega) (Nat.le_refl _) ?_; intro v51 w9 hown9 hg9; have HO9 := Lib.hid hown9; have HX9 := Lib.hid ((Ext.refl w8).grown_none (v := .slice none 0 0) hg9 (fun q hq => by cases hq)); clear hown9 hg9))
            have hown9 : w9.ownsRow w8.heap.size 34 4 v51 j ((L.take j).flatMap vC) := by have h := HO9.out; rw [Nat.zero_add, List.nil_append] at h; exact h
            obtain ⟨a51, c51, rfl, _, _⟩ := own_shape hown9
            have t0 := HX9.out.cell s0
            have t1 := HX9.out.cell s1
            have t2 := HX9.out.cell s2
            have t3 := HX9.out.cell s3
            have hxb : Ext w9 (w9.alloc (.cells (vC x).toArray 34)) := (Ext.refl w9).alloc _
            have HROW := Lib.hid (v_row w9 x)
            have HO10 := Lib.hid (own_ext hown9 hxb)
            have HOWb := Lib.hid (own_ext HOW.out (HX9.out.trans hxb))
            have HX10 := Lib.hid (HX9.out.trans hxb)
            have hb10 : w8.heap.size ≤ (w9.alloc (.cells (vC x).toArray 34)).heap.size := HX10.out.size
            clear hown9 HO9 HX9 hxb H50 s0 s1 s2 s3
            go_upto_region 12 with (at_builtin; refine wpList_append_row 35 34 (.tmp 52) (.tmp 57) rfl w8.heap.size _ 4 40 Tryz.underlying35 info28t rfl (by decide) rfl _ j ((L.take j).flatMap vC) rfl HO10.out 1 (vC x) HROW.out (fun u hu => vC_one [x] u (by rw [List.flatMap_singleton]; exact hu)) (by omega) (by unfold maxLen; omega) hb10 ?_; intro v58 w11 hown11 hg11; have HO11 := Lib.hid hown11; have HG11 := Lib.hid hg11; clear hown11 hg11)
            obtain ⟨a58, c58, rfl, _, _⟩ := own_shape HO11.out
            have hkeep1 : ∀ q, (Value.slice ao j co).ownBlock = some q → (Value.slice a51 j c51).ownBlock ≠ some q := fun q hq => own_later HO10.out (Nat.le_refl _) (own_lt HOW.out q hq)
            have HOWc := Lib.hid (own_keep HOWb.out HG11.out (fun q hq e => hkeep1 q hq e))
            have HX11 := Lib.hid (HX10.out.grown_none HG11.out (own_base HO10.out))
            have hb11 : w8.heap.size ≤ w11.heap.size := HX11.out.size
            clear HO10 HROW HOWb HX10 HG11 hkeep1 t0 t1 t2 t3
            go_upto_region 4 with (first
              | (refine vCut (.tmp 60) (some (.tmp 61)) none L j j j rfl rfl (Row.of_own HOWc.out) ⟨_, _, rfl, by omega, by omega⟩ rfl (by omega) (Nat.le_refl _) ?_; intro v62 h62; obtain ⟨a62, c62, rfl, _, _⟩ := Row.shape h62; have H62 := Lib.hid h62; clear h62)
              | (at_builtin; refine wpList_append_row 35 34 (.tmp 59) (.tmp 62) rfl w8.heap.size _ 4 40 Tryz.underlying35 info28t rfl (by decide) rfl _ (j + 1) ((L.take j).flatMap vC ++ vC x) rfl HO11.out (j - j) (((L.take j).drop j).flatMap vC) H62.out (vC_one _) (by omega) (by unfold maxLen; omega) hb11 ?_; intro v63 w12 hown12 hg12; have HO12 := Lib.hid hown12; have HX12 := Lib.hid (HXQ.out.trans (HX11.out.grown_none hg12 (own_base HO11.out))); clear hown12 hg12))
            have hfin : w12.ownsRow w.heap.size 34 4 v63 (sortU cmpV (l.take (k + 1))).length ((sortU cmpV (l.take (k + 1))).flatMap vC) := by
              have h := own_low HO12.out hbase
              have e1 : L.take j = L := List.take_of_length_le (by rw [← HM.out]; exact Nat.le_refl _)
              rw [e1] at h
              rw [HHERE.out]
              have e2 : (L.take j ++ x :: L.drop j).length = j + 1 + (j - j) := by rw [List.length_append, List.length_cons, List.length_take, List.length_drop, ← HM.out]; omega
              have e3 : (L.take j ++ x :: L.drop j).flatMap vC = (L.take j).flatMap vC ++ vC x ++ (L.drop j).flatMap vC := by rw [List.flatMap_append, List.flatMap_cons, List.append_assoc]
              rw [e2, e3]; first | exact h | (rw [e1]; exact h)
            have HFIN := Lib.hid hfin
            clear hfin HO12 HO11 HOWc HX11 H62
            go_wp2_with fail
            go_roundw
            case rel => exact ⟨k + 1, hlt, by go_num, HFIN.out, HX12.out⟩
            case measure => simp [intOf]; omega
    · obtain rfl : k = n := by omega
      have hI : decide ((k : Int) < (k : Int)) = false := decide_eq_false (by omega)
      have hall : l.take k = l := List.take_of_length_le (by have := HN.out; omega)
      rw [hall] at hown
      go_wp2_with fail
      go_ret
      exact ⟨_, rfl, hown.out, hx.out⟩
end Go.Proofs.YtfkemgkbkhacmaaGreat

namespace Go.Proofs.YtfkemgkbkhacmaaGreat
open Go.RowKit

/-- The first place at which p holds, or -1. -/
def idxP {α : Type} (p : α → Bool) (l : List α) : Int := match l.findIdx? p with | some i => (i : Int) | none => -1
theorem idxP_hit {α : Type} {p : α → Bool} {l : List α} {k : Nat} (hk : k < l.length) (h : ∀ x ∈ l.take k, p x = false) (e : p l[k] = true) : idxP p l = k := by
  have : l.findIdx? p = some k := by
    rw [List.findIdx?_eq_some_iff_getElem]
    refine ⟨hk, e, fun j hj => ?_⟩
    have := h l[j] (by rw [List.mem_take_iff_getElem]; exact ⟨j, by omega, rfl⟩)
    rw [this]; simp
  unfold idxP; rw [this]
theorem idxP_miss {α : Type} {p : α → Bool} {l : List α} (h : ∀ x ∈ l, p x = false) : idxP p l = -1 := by
  have : l.findIdx? p = none := by
    rw [List.findIdx?_eq_none_iff]
    exact h
  unfold idxP; rw [this]
theorem idxP_any {α : Type} (p : α → Bool) (l : List α) : decide (0 ≤ idxP p l) = l.any p := by
  unfold idxP
  cases h : l.findIdx? p with
  | none =>
    rw [List.findIdx?_eq_none_iff] at h
    have : l.any p = false := List.any_eq_false.2 fun x hx => by rw [h x hx]; simp
    rw [this]; rfl
  | some i =>
    rw [List.findIdx?_eq_some_iff_getElem] at h
    obtain ⟨hi, e, _⟩ := h
    have : l.any p = true := List.any_eq_true.2 ⟨_, List.getElem_mem hi, e⟩
    rw [this]
    exact decide_eq_true (by show (0 : Int) ≤ (i : Int); omega)
theorem idxP_get {α : Type} (p : α → Bool) (l : List α) : (idxP p l = -1 ∧ l.find? p = none) ∨ ∃ (i : Nat) (hi : i < l.length), idxP p l = i ∧ l.find? p = some l[i] := by
  unfold idxP
  cases h : l.findIdx? p with
  | none =>
    rw [List.findIdx?_eq_none_iff] at h
    exact .inl ⟨rfl, List.find?_eq_none.2 fun x hx => by rw [h x hx]; simp⟩
  | some i =>
    rw [List.findIdx?_eq_some_iff_getElem] at h
    obtain ⟨hi, e, hb⟩ := h
    refine .inr ⟨i, hi, rfl, ?_⟩
    rw [List.find?_eq_some_iff_getElem]
    exact ⟨e, i, hi, rfl, fun j hj => by simpa using hb j hj⟩

set_option maxRecDepth 100000 in
set_option maxHeartbeats 2000000 in
theorem idxA_any (w : World) (v : Value) (l : List (List UInt8 × V)) (h : AttrR w v l) (g : Nat) (cb : Array Value) (p : List UInt8 × V → Bool) (eg : ∀ args w, (callFunc g args).run Tryz.prog w = .ok (.enter g args) w)
    (hc : ∀ (W : World) (x : List UInt8 × V) , Ext w W → x ∈ l → Calls Tryz.prog g (#[.agg #[.string (strOf x.1), .int .i64 x.2.k, .int .i64 x.2.n, .string (strOf x.2.s), .bool x.2.b]] ++ cb) W fun e W' => e = .returned (.bool (p x)) ∧ Ext W W') :
    Calls Tryz.prog 76 #[v, .func (.func g) #[] cb] w fun e w' => e = .returned (.int .i64 (idxP p l)) ∧ Ext w w' := by
  obtain ⟨a, cap, rfl, hcc, hm⟩ := Row.shape h
  unfold maxLen at hm
  generalize hn : l.length = n at *
  have HN := Lib.hid hn
  clear hn
  have HC := Lib.hid hc
  clear hc
  go_enter Tryz.func76, Tryz.ntmps76
  go_wp2_with fail
  go_loopw [5, 8] (fun _ i wr => ∃ k : Nat, k ≤ n ∧ i = .int .i64 k ∧ Hid (∀ x ∈ l.take k, p x = false) ∧ Ext w wr) (fun _ i _ => n - (intOf i).toNat)
  case atStart => exact ⟨0, Nat.zero_le _, rfl, (by show ∀ x ∈ l.take 0, _; simp), Ext.refl w⟩
  case round =>
    obtain ⟨k, hk, rfl, hall, hx⟩ := hrel
    by_cases hlt : k < n
    · have k1 : k < l.length := by rw [HN.out]; exact hlt
      have hI : decide ((k : Int) < (n : Int)) = true := decide_eq_true (by omega)
      have hext := h.ext hx
      obtain ⟨B1, o1, rfl, f0, f1, f2, f3, f4⟩ := AttrR.at hext k1
      have hcall := HC.out _ l[k] hx (List.getElem_mem k1)
      have hhit : p l[k] = true → idxP p l = k := fun e => idxP_hit k1 hall.out e
      have hnext : p l[k] = false → ∀ x ∈ l.take (k + 1), p x = false := fun e x hx => by
        rw [List.take_succ_eq_append_getElem k1] at hx
        rcases List.mem_append.1 hx with hx | hx
        · exact hall.out x hx
        · rw [List.mem_singleton.1 hx]; exact e
      generalize l[k] = x at *
      have HCALL := Lib.hid hcall
      clear hcall
      cases hq : p x with
      | true =>
        have hres := Lib.hid (hhit hq)
        have HQ := Lib.hid hq
        clear hhit hnext hq
        go_wp2_with (go_at_fn g; refine HCALL.out.mono ?_; rw [HQ.out]; rintro e w2 ⟨rfl, hx2⟩)
        go_ret
        exact ⟨by rw [hres.out]; rfl, hx.trans hx2⟩
      | false =>
        have hres := Lib.hid (hnext hq)
        have HQ := Lib.hid hq
        clear hhit hnext hq
        go_wp2_with (go_at_fn g; refine HCALL.out.mono ?_; rw [HQ.out]; rintro e w2 ⟨rfl, hx2⟩)
        go_roundw
        case rel => exact ⟨k + 1, hlt, by go_num, hres.out, hx.trans hx2⟩
        case measure => simp [intOf]; omega
    · obtain rfl : k = n := by omega
      have hI : decide ((k : Int) < (k : Int)) = false := decide_eq_false (by omega)
      have hres : Hid (idxP p l = -1) := by
        show _ = _
        refine idxP_miss fun x hx => hall.out x ?_
        rw [List.take_of_length_le (by rw [HN.out]; exact Nat.le_refl _)]; exact hx
      go_wp2_with fail
      go_ret
      exact ⟨by rw [hres.out]; rfl, hx⟩

set_option maxRecDepth 100000 in
set_option maxHeartbeats 2000000 in
theorem idxC_any (w : World) (v : Value) (l : List (C)) (h : PredR w v l) (g : Nat) (cb : Array Value) (p : C → Bool) (eg : ∀ args w, (callFunc g args).run Tryz.prog w = .ok (.enter g args) w)
    (hc : ∀ (W : World) (x : C) (sa : Option Addr) (sc : Nat) , Ext w W → x ∈ l → SetR W (.slice sa x.set.length sc) x.set → Calls Tryz.prog g (#[.agg #[.string (strOf x.name), .int .i64 x.op, .int .i64 x.v.k, .int .i64 x.v.n, .string (strOf x.v.s), .bool x.v.b, .slice sa x.set.length sc]] ++ cb) W fun e W' => e = .returned (.bool (p x)) ∧ Ext W W') :
    Calls Tryz.prog 51 #[v, .func (.func g) #[] cb] w fun e w' => e = .returned (.int .i64 (idxP p l)) ∧ Ext w w' := by
  obtain ⟨a, cap, rfl, hcc, hm⟩ := h.shape
  unfold maxLen at hm
  generalize hn : l.length = n at *
  have HN := Lib.hid hn
  clear hn
  have HC := Lib.hid hc
  clear hc
  go_enter Tryz.func51, Tryz.ntmps51
  go_wp2_with fail
  go_loopw [5, 8] (fun _ i wr => ∃ k : Nat, k ≤ n ∧ i = .int .i64 k ∧ Hid (∀ x ∈ l.take k, p x = false) ∧ Ext w wr) (fun _ i _ => n - (intOf i).toNat)
  case atStart => exact ⟨0, Nat.zero_le _, rfl, (by show ∀ x ∈ l.take 0, _; simp), Ext.refl w⟩
  case round =>
    obtain ⟨k, hk, rfl, hall, hx⟩ := hrel
    by_cases hlt : k < n
    · have k1 : k < l.length := by rw [HN.out]; exact hlt
      have hI : decide ((k : Int) < (n : Int)) = true := decide_eq_true (by omega)
      have hext := h.ext hx
      obtain ⟨B1, o1, sa, sc, rfl, f0, f1, f2, f3, f4, f5, f6, hs⟩ := PredR.at hext k1
      have hcall := HC.out _ l[k] sa sc hx (List.getElem_mem k1) hs
      have hhit : p l[k] = true → idxP p l = k := fun e => idxP_hit k1 hall.out e
      have hnext : p l[k] = false → ∀ x ∈ l.take (k + 1), p x = false := fun e x hx => by
        rw [List.take_succ_eq_append_getElem k1] at hx
        rcases List.mem_append.1 hx with hx | hx
        · exact hall.out x hx
        · rw [List.mem_singleton.1 hx]; exact e
      generalize l[k] = x at *
      have HCALL := Lib.hid hcall
      clear hcall
      cases hq : p x with
      | true =>
        have hres := Lib.hid (hhit hq)
        have HQ := Lib.hid hq
        clear hhit hnext hq
        go_wp2_with (go_at_fn g; refine HCALL.out.mono ?_; rw [HQ.out]; rintro e w2 ⟨rfl, hx2⟩)
        go_ret
        exact ⟨by rw [hres.out]; rfl, hx.trans hx2⟩
      | false =>
        have hres := Lib.hid (hnext hq)
        have HQ := Lib.hid hq
        clear hhit hnext hq
        go_wp2_with (go_at_fn g; refine HCALL.out.mono ?_; rw [HQ.out]; rintro e w2 ⟨rfl, hx2⟩)
        go_roundw
        case rel => exact ⟨k + 1, hlt, by go_num, hres.out, hx.trans hx2⟩
        case measure => simp [intOf]; omega
    · obtain rfl : k = n := by omega
      have hI : decide ((k : Int) < (k : Int)) = false := decide_eq_false (by omega)
      have hres : Hid (idxP p l = -1) := by
        show _ = _
        refine idxP_miss fun x hx => hall.out x ?_
        rw [List.take_of_length_le (by rw [HN.out]; exact Nat.le_refl _)]; exact hx
      go_wp2_with fail
      go_ret
      exact ⟨by rw [hres.out]; rfl, hx⟩

set_option maxRecDepth 100000 in
set_option maxHeartbeats 2000000 in
theorem hasC_any (w : World) (v : Value) (l : List (C)) (h : PredR w v l) (g : Nat) (cb : Array Value) (p : C → Bool) (eg : ∀ args w, (callFunc g args).run Tryz.prog w = .ok (.enter g args) w)
    (hc : ∀ (W : World) (x : C) (sa : Option Addr) (sc : Nat) , Ext w W → x ∈ l → SetR W (.slice sa x.set.length sc) x.set → Calls Tryz.prog g (#[.agg #[.string (strOf x.name), .int .i64 x.op, .int .i64 x.v.k, .int .i64 x.v.n, .string (strOf x.v.s), .bool x.v.b, .slice sa x.set.length sc]] ++ cb) W fun e W' => e = .returned (.bool (p x)) ∧ Ext W W') :
    Calls Tryz.prog 24 #[v, .func (.func g) #[] cb] w fun e w' => e = .returned (.bool (l.any p)) ∧ Ext w w' := by
  have hcon := idxC_any w v l h g cb p eg hc
  have hb := Lib.hid (idxP_any p l)
  clear hc
  generalize idxP p l = i at *
  obtain ⟨a, cap, rfl, hcc, hm⟩ := h.shape
  go_enter Tryz.func24, Tryz.ntmps24
  go_wp2_with (go_at_call 51; refine hcon.mono ?_; rintro e w' ⟨rfl, hx⟩)
  go_ret
  exact ⟨by rw [hb.out]; rfl, hx⟩

set_option maxRecDepth 100000 in
set_option maxHeartbeats 2000000 in
theorem idxV_any (w : World) (v : Value) (l : List (V)) (h : SetR w v l) (g : Nat) (cb : Array Value) (p : V → Bool) (eg : ∀ args w, (callFunc g args).run Tryz.prog w = .ok (.enter g args) w)
    (hc : ∀ (W : World) (x : V) , Ext w W → x ∈ l → Calls Tryz.prog g (#[.agg #[.int .i64 x.k, .int .i64 x.n, .string (strOf x.s), .bool x.b]] ++ cb) W fun e W' => e = .returned (.bool (p x)) ∧ Ext W W') :
    Calls Tryz.prog 55 #[v, .func (.func g) #[] cb] w fun e w' => e = .returned (.int .i64 (idxP p l)) ∧ Ext w w' := by
  obtain ⟨a, cap, rfl, hcc, hm⟩ := Row.shape h
  unfold maxLen at hm
  generalize hn : l.length = n at *
  have HN := Lib.hid hn
  clear hn
  have HC := Lib.hid hc
  clear hc
  go_enter Tryz.func55, Tryz.ntmps55
  go_wp2_with fail
  go_loopw [5, 8] (fun _ i wr => ∃ k : Nat, k ≤ n ∧ i = .int .i64 k ∧ Hid (∀ x ∈ l.take k, p x = false) ∧ Ext w wr) (fun _ i _ => n - (intOf i).toNat)
  case atStart => exact ⟨0, Nat.zero_le _, rfl, (by show ∀ x ∈ l.take 0, _; simp), Ext.refl w⟩
  case round =>
    obtain ⟨k, hk, rfl, hall, hx⟩ := hrel
    by_cases hlt : k < n
    · have k1 : k < l.length := by rw [HN.out]; exact hlt
      have hI : decide ((k : Int) < (n : Int)) = true := decide_eq_true (by omega)
      have hext := h.ext hx
      obtain ⟨B1, o1, rfl, f0, f1, f2, f3⟩ := SetR.at hext k1
      have hcall := HC.out _ l[k] hx (List.getElem_mem k1)
      have hhit : p l[k] = true → idxP p l = k := fun e => idxP_hit k1 hall.out e
      have hnext : p l[k] = false → ∀ x ∈ l.take (k + 1), p x = false := fun e x hx => by
        rw [List.take_succ_eq_append_getElem k1] at hx
        rcases List.mem_append.1 hx with hx | hx
        · exact hall.out x hx
        · rw [List.mem_singleton.1 hx]; exact e
      generalize l[k] = x at *
      have HCALL := Lib.hid hcall
      clear hcall
      cases hq : p x with
      | true =>
        have hres := Lib.hid (hhit hq)
        have HQ := Lib.hid hq
        clear hhit hnext hq
        go_wp2_with (go_at_fn g; refine HCALL.out.mono ?_; rw [HQ.out]; rintro e w2 ⟨rfl, hx2⟩)
        go_ret
        exact ⟨by rw [hres.out]; rfl, hx.trans hx2⟩
      | false =>
        have hres := Lib.hid (hnext hq)
        have HQ := Lib.hid hq
        clear hhit hnext hq
        go_wp2_with (go_at_fn g; refine HCALL.out.mono ?_; rw [HQ.out]; rintro e w2 ⟨rfl, hx2⟩)
        go_roundw
        case rel => exact ⟨k + 1, hlt, by go_num, hres.out, hx.trans hx2⟩
        case measure => simp [intOf]; omega
    · obtain rfl : k = n := by omega
      have hI : decide ((k : Int) < (k : Int)) = false := decide_eq_false (by omega)
      have hres : Hid (idxP p l = -1) := by
        show _ = _
        refine idxP_miss fun x hx => hall.out x ?_
        rw [List.take_of_length_le (by rw [HN.out]; exact Nat.le_refl _)]; exact hx
      go_wp2_with fail
      go_ret
      exact ⟨by rw [hres.out]; rfl, hx⟩

set_option maxRecDepth 100000 in
set_option maxHeartbeats 2000000 in
theorem hasV_any (w : World) (v : Value) (l : List (V)) (h : SetR w v l) (g : Nat) (cb : Array Value) (p : V → Bool) (eg : ∀ args w, (callFunc g args).run Tryz.prog w = .ok (.enter g args) w)
    (hc : ∀ (W : World) (x : V) , Ext w W → x ∈ l → Calls Tryz.prog g (#[.agg #[.int .i64 x.k, .int .i64 x.n, .string (strOf x.s), .bool x.b]] ++ cb) W fun e W' => e = .returned (.bool (p x)) ∧ Ext W W') :
    Calls Tryz.prog 28 #[v, .func (.func g) #[] cb] w fun e w' => e = .returned (.bool (l.any p)) ∧ Ext w w' := by
  have hcon := idxV_any w v l h g cb p eg hc
  have hb := Lib.hid (idxP_any p l)
  clear hc
  generalize idxP p l = i at *
  obtain ⟨a, cap, rfl, hcc, hm⟩ := Row.shape h
  go_enter Tryz.func28, Tryz.ntmps28
  go_wp2_with (go_at_call 55; refine hcon.mono ?_; rintro e w' ⟨rfl, hx⟩)
  go_ret
  exact ⟨by rw [hb.out]; rfl, hx⟩

end Go.Proofs.YtfkemgkbkhacmaaGreat
