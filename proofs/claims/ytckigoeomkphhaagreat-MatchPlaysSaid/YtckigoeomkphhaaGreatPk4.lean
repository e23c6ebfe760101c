/- The reference's MayCons, May (pneumaticref04).
The reference's set (pneumaticref04): values in order, each once.
An index of predicates (08) in memory: its two maps, its rows of parts.
PLAIN: an index of predicates by rising numbers (the document's) beside one in the order in which they came.
slices.IndexFunc, slices.ContainsFunc at attributes, constraints, values (printed by gen_find.py). -/
import Derived.Deep.CutBlock
import Derived.Test.YtckigoeomkphhaaGreatPk3
import Derived.Test.YtckigoeomkphhaaGreatPk2
import Derived.Test.YtckigoeomkphhaaGreatPk1
namespace Go.Proofs.YtckigoeomkphhaaGreat
open Go.RowKit

theorem mayC_other {c : C} (hn : ¬ (c.name.length < 1 ∨ 16 < c.name.length)) (h1 : c.op ≠ 1) (h9 : c.op ≠ 9) : mayC c = (decide (2 ≤ c.op) && (decide (c.op ≤ 8) && (decide (c.set.length = 0) && (mayV c.v && (!decide (c.op = 8) || decide (c.v.k = 2)))))) := by
  have he : c.set.isEmpty = decide (c.set.length = 0) := by cases c.set <;> rfl
  unfold mayC
  rw [if_neg hn, if_neg h1, he]
  by_cases h27 : 2 ≤ c.op ∧ c.op ≤ 7
  · rw [if_pos h27, decide_eq_true h27.1, decide_eq_true (show c.op ≤ 8 by omega), decide_eq_false (show ¬ c.op = 8 by omega)]
    cases mayV c.v <;> cases decide (c.set.length = 0) <;> rfl
  · rw [if_neg h27]
    by_cases h8 : c.op = 8
    · rw [if_pos h8, decide_eq_true (show 2 ≤ c.op by omega), decide_eq_true (show c.op ≤ 8 by omega), decide_eq_true h8]
      cases mayV c.v <;> cases decide (c.set.length = 0) <;> cases decide (c.v.k = 2) <;> rfl
    · rw [if_neg h8, if_neg h9]
      by_cases h2 : 2 ≤ c.op
      · rw [decide_eq_false (show ¬ c.op ≤ 8 by omega)]; simp
      · rw [decide_eq_false h2]; rfl

set_option maxRecDepth 100000 in
set_option maxHeartbeats 16000000 in
theorem rmaycons_any (w : World) (c : C) (sa : Option Addr) (sc : Nat) (hs : SetR w (.slice sa c.set.length sc) c.set) :
    Calls Tryz.prog 100 #[.agg #[.string (strOf c.name), .int .i64 c.op, .int .i64 c.v.k, .int .i64 c.v.n, .string (strOf c.v.s), .bool c.v.b, .slice sa c.set.length sc]] w fun e w' => e = .returned (.bool (mayC c)) ∧ Ext w w' := by
  obtain ⟨hx0, hb1⟩ := boxes1 w (.cells #[.string (strOf c.name), .int .i64 c.op, .int .i64 c.v.k, .int .i64 c.v.n, .string (strOf c.v.s), .bool c.v.b, .slice sa c.set.length sc] 52)
  obtain ⟨hc1, hm1⟩ : c.set.length ≤ sc ∧ sc ≤ maxLen := by obtain ⟨a', c', e, h1, h2⟩ := Row.shape hs; cases e; exact ⟨h1, h2⟩
  unfold maxLen at hm1
  have HS := Lib.hid (SetR.ext hs hx0)
  have HX0 := Lib.hid hx0
  have HV : Hid (∀ W, Calls Tryz.prog 135 #[.agg #[.int .i64 c.v.k, .int .i64 c.v.n, .string (strOf c.v.s), .bool c.v.b]] W fun e w' => e = .returned (.bool (mayV c.v)) ∧ Grew W w') := fun W => rmayV_any W c.v
  have HB : Hid (∀ W, Calls Tryz.prog 134 #[.agg #[.int .i64 c.v.k, .int .i64 c.v.n, .string (strOf c.v.s), .bool c.v.b]] W fun e w' => e = .returned (.bool (bareV c.v)) ∧ Grew W w') := fun W => rbare_any W c.v
  have a0 := cell_of_row _ _ 0 _ _ _ hb1
  have a1 := cell_of_row _ _ 1 _ _ _ hb1
  have a2 := cell_of_row _ _ 2 _ _ _ hb1
  have a3 := cell_of_row _ _ 3 _ _ _ hb1
  have a4 := cell_of_row _ _ 4 _ _ _ hb1
  have a5 := cell_of_row _ _ 5 _ _ _ hb1
  have a6 := cell_of_row _ _ 6 _ _ _ hb1
  clear hs hx0 hb1
  have hsz : (strOf c.name).size = c.name.length := rfl
  by_cases hn0 : c.name.length = 0
  · have f1 : (((strOf c.name).size : Int) == 0) = true := by rw [hsz, hn0]; rfl
    have hr : mayC c = false := by unfold mayC; rw [if_pos (.inl (by omega))]
    rw [hr]
    clear hsz hr
    go_enter Tryz.func100, Tryz.ntmps100
    go_upto_region 1 with fail
    generalize w.alloc (.cells #[.string (strOf c.name), .int .i64 c.op, .int .i64 c.v.k, .int .i64 c.v.n, .string (strOf c.v.s), .bool c.v.b, .slice sa c.set.length sc] 52) = w0 at *
    go_wp2_with fail
    go_ret
    exact ⟨rfl, HX0.out⟩
  have f1 : (((strOf c.name).size : Int) == 0) = false := by rw [hsz]; exact beq_eq_false_iff_ne.2 (by omega)
  by_cases hn16 : 16 < c.name.length
  · have f2 : decide ((16 : Int) < ((strOf c.name).size : Int)) = true := by rw [hsz]; exact decide_eq_true (by omega)
    have hr : mayC c = false := by unfold mayC; rw [if_pos (.inr hn16)]
    rw [hr]
    clear hsz hr
    go_enter Tryz.func100, Tryz.ntmps100
    go_upto_region 1 with fail
    generalize w.alloc (.cells #[.string (strOf c.name), .int .i64 c.op, .int .i64 c.v.k, .int .i64 c.v.n, .string (strOf c.v.s), .bool c.v.b, .slice sa c.set.length sc] 52) = w0 at *
    go_wp2_with fail
    go_ret
    exact ⟨rfl, HX0.out⟩
  have f2 : decide ((16 : Int) < ((strOf c.name).size : Int)) = false := by rw [hsz]; exact decide_eq_false (by omega)
  have hnn : ¬ (c.name.length < 1 ∨ 16 < c.name.length) := by omega
  have he : c.set.isEmpty = decide (c.set.length = 0) := by cases c.set <;> rfl
  clear hsz
  by_cases h1 : c.op = 1
  · have hr : mayC c = (bareV c.v && decide (c.set.length = 0)) := by unfold mayC; rw [if_neg hnn, if_pos h1, he]
    have g1 : (c.op == 1) = true := beq_iff_eq.2 h1
    rw [hr]
    clear hr he h1 hnn hn0 hn16
    generalize bareV c.v = bv at *
    cases bv with
    | false =>
      go_enter Tryz.func100, Tryz.ntmps100
      go_upto_region 1 with fail
      generalize w.alloc (.cells #[.string (strOf c.name), .int .i64 c.op, .int .i64 c.v.k, .int .i64 c.v.n, .string (strOf c.v.s), .bool c.v.b, .slice sa c.set.length sc] 52) = w0 at *
      go_wp2_with (go_at_call 134; (with_reducible refine (HB.out _).mono ?_); rintro e w1 ⟨rfl, hx⟩; have b6 := hx.1.cell a6; have HX1 := Lib.hid hx.1; clear hx)
      go_ret
      exact ⟨rfl, HX0.out.trans HX1.out⟩
    | true =>
      by_cases hl : c.set.length = 0
      · have g2 : ((c.set.length : Int) == 0) = true := beq_iff_eq.2 (by omega)
        rw [decide_eq_true hl]
        clear hl
        go_enter Tryz.func100, Tryz.ntmps100
        go_upto_region 1 with fail
        generalize w.alloc (.cells #[.string (strOf c.name), .int .i64 c.op, .int .i64 c.v.k, .int .i64 c.v.n, .string (strOf c.v.s), .bool c.v.b, .slice sa c.set.length sc] 52) = w0 at *
        go_wp2_with (go_at_call 134; (with_reducible refine (HB.out _).mono ?_); rintro e w1 ⟨rfl, hx⟩; have b6 := hx.1.cell a6; have HX1 := Lib.hid hx.1; clear hx)
        go_ret
        exact ⟨rfl, HX0.out.trans HX1.out⟩
      · have g2 : ((c.set.length : Int) == 0) = false := beq_eq_false_iff_ne.2 (by omega)
        rw [decide_eq_false hl]
        go_enter Tryz.func100, Tryz.ntmps100
        go_upto_region 1 with fail
        generalize w.alloc (.cells #[.string (strOf c.name), .int .i64 c.op, .int .i64 c.v.k, .int .i64 c.v.n, .string (strOf c.v.s), .bool c.v.b, .slice sa c.set.length sc] 52) = w0 at *
        go_wp2_with (go_at_call 134; (with_reducible refine (HB.out _).mono ?_); rintro e w1 ⟨rfl, hx⟩; have b6 := hx.1.cell a6; have HX1 := Lib.hid hx.1; clear hx)
        go_ret
        exact ⟨rfl, HX0.out.trans HX1.out⟩
  have g1 : (c.op == 1) = false := beq_eq_false_iff_ne.2 h1
  by_cases h9 : c.op = 9
  · have hr : mayC c = (bareV c.v && (decide (1 ≤ c.set.length) && (decide (c.set.length ≤ 6) && c.set.all mayV))) := by
      unfold mayC
      rw [if_neg hnn, if_neg h1, if_neg (show ¬ (2 ≤ c.op ∧ c.op ≤ 7) by omega), if_neg (show ¬ c.op = 8 by omega), if_pos h9, Bool.and_assoc, Bool.and_assoc]
    have g9 : (c.op == 9) = true := beq_iff_eq.2 h9
    rw [hr]
    clear hr he h1 h9 hnn hn0 hn16
    generalize bareV c.v = bv at *
    cases bv with
    | false =>
      go_enter Tryz.func100, Tryz.ntmps100
      go_upto_region 1 with fail
      generalize w.alloc (.cells #[.string (strOf c.name), .int .i64 c.op, .int .i64 c.v.k, .int .i64 c.v.n, .string (strOf c.v.s), .bool c.v.b, .slice sa c.set.length sc] 52) = w0 at *
      go_wp2_with (go_at_call 134; (with_reducible refine (HB.out _).mono ?_); rintro e w1 ⟨rfl, hx⟩; have b6 := hx.1.cell a6; have HX1 := Lib.hid hx.1; clear hx)
      go_ret
      exact ⟨rfl, HX0.out.trans HX1.out⟩
    | true =>
      by_cases hl : c.set.length = 0
      · have g2 : ((c.set.length : Int) == 0) = true := beq_iff_eq.2 (by omega)
        rw [decide_eq_false (show ¬ 1 ≤ c.set.length by omega)]
        clear hl
        go_enter Tryz.func100, Tryz.ntmps100
        go_upto_region 1 with fail
        generalize w.alloc (.cells #[.string (strOf c.name), .int .i64 c.op, .int .i64 c.v.k, .int .i64 c.v.n, .string (strOf c.v.s), .bool c.v.b, .slice sa c.set.length sc] 52) = w0 at *
        go_wp2_with (go_at_call 134; (with_reducible refine (HB.out _).mono ?_); rintro e w1 ⟨rfl, hx⟩; have b6 := hx.1.cell a6; have HX1 := Lib.hid hx.1; clear hx)
        go_ret
        exact ⟨rfl, HX0.out.trans HX1.out⟩
      have g2 : ((c.set.length : Int) == 0) = false := beq_eq_false_iff_ne.2 (by omega)
      rw [decide_eq_true (show 1 ≤ c.set.length by omega)]
      by_cases h6 : 6 < c.set.length
      · have g3 : decide ((6 : Int) < (c.set.length : Int)) = true := decide_eq_true (by omega)
        rw [decide_eq_false (show ¬ c.set.length ≤ 6 by omega)]
        go_enter Tryz.func100, Tryz.ntmps100
        go_upto_region 1 with fail
        generalize w.alloc (.cells #[.string (strOf c.name), .int .i64 c.op, .int .i64 c.v.k, .int .i64 c.v.n, .string (strOf c.v.s), .bool c.v.b, .slice sa c.set.length sc] 52) = w0 at *
        go_wp2_with (go_at_call 134; (with_reducible refine (HB.out _).mono ?_); rintro e w1 ⟨rfl, hx⟩; have b6 := hx.1.cell a6; have HX1 := Lib.hid hx.1; clear hx)
        go_ret
        exact ⟨rfl, HX0.out.trans HX1.out⟩
      have g3 : decide ((6 : Int) < (c.set.length : Int)) = false := decide_eq_false (by omega)
      rw [decide_eq_true (show c.set.length ≤ 6 by omega)]
      show Calls _ _ _ _ fun e w' => e = .returned (.bool (c.set.all mayV)) ∧ _
      go_enter Tryz.func100, Tryz.ntmps100
      go_upto_region 1 with fail
      generalize w.alloc (.cells #[.string (strOf c.name), .int .i64 c.op, .int .i64 c.v.k, .int .i64 c.v.n, .string (strOf c.v.s), .bool c.v.b, .slice sa c.set.length sc] 52) = w0 at *
      go_upto_region 8 with (go_at_call 134; (with_reducible refine (HB.out _).mono ?_); rintro e w1 ⟨rfl, hx⟩; have b6 := hx.1.cell a6; have HX1 := Lib.hid hx.1; clear hx)
      have q6 := b6
      clear b6
      have HS1 := Lib.hid (SetR.ext HS.out HX1.out)
      have HXX := Lib.hid (HX0.out.trans HX1.out)
      clear a0 a1 a2 a3 a4 a5 a6
      obtain ⟨n, hn⟩ : ∃ n, n = c.set.length := ⟨_, rfl⟩
      have HN := Lib.hid hn
      rw [← hn] at q6 g2 g3 hl h6 hc1
      have hn6 : n ≤ 6 := by omega
      go_wp2_with fail
      go_loopw [3] (fun i wr => ∃ k : Nat, k ≤ n ∧ i = .int .i64 k ∧ Hid (∀ x ∈ c.set.take k, mayV x = true) ∧ Hid (Ext w1 wr)) (fun i _ => n - (intOf i).toNat)
      case atStart => exact ⟨0, Nat.zero_le _, rfl, (by show ∀ x ∈ c.set.take 0, _; simp), Ext.refl _⟩
      case round =>
        obtain ⟨k, hk, rfl, hall, hx⟩ := hrel
        have p6 := hx.out.cell q6
        by_cases hlt : k < n
        · have hI : decide ((k : Int) < (n : Int)) = true := decide_eq_true (by omega)
          have hkN : (k : Int) < (n : Int) := by omega
          have hkl : k < c.set.length := by have := HN.out; omega
          obtain ⟨B, o, rfl, f0, f1', f2', f3⟩ := SetR.at (SetR.ext HS1.out hx.out) hkl
          have hnext : mayV c.set[k] = true → ∀ x ∈ c.set.take (k + 1), mayV x = true := fun e x hx => by
            rw [List.take_succ_eq_append_getElem hkl] at hx
            rcases List.mem_append.1 hx with hx | hx
            · exact hall.out x hx
            · rw [List.mem_singleton.1 hx]; exact e
          have hno : mayV c.set[k] = false → c.set.all mayV = false := fun e => by
            rw [List.all_eq_false]
            exact ⟨_, List.getElem_mem hkl, by rw [e]; exact Bool.false_ne_true⟩
          have HM := Lib.hid (fun W => rmayV_any W c.set[k])
          have HNX := Lib.hid hnext
          have HNO := Lib.hid hno
          clear hnext hno
          generalize c.set[k] = x at *
          generalize mayV x = mx at *
          cases mx with
          | true =>
            go_wp2_with (go_at_call 135; (with_reducible refine (HM.out _).mono ?_); rintro e w2 ⟨rfl, hx2⟩; have HX2 := Lib.hid (hx.out.trans hx2.1); clear hx2)
            go_roundw
            case rel => exact ⟨k + 1, hlt, by go_num, HNX.out (by first | rfl | trivial), HX2.out⟩
            case measure => simp [intOf]; omega
          | false =>
            have hr := HNO.out (by first | rfl | trivial)
            go_wp2_with (go_at_call 135; (with_reducible refine (HM.out _).mono ?_); rintro e w2 ⟨rfl, hx2⟩; have HX2 := Lib.hid (hx.out.trans hx2.1); clear hx2)
            go_ret
            exact ⟨by rw [hr]; rfl, HXX.out.trans HX2.out⟩
        · obtain rfl : k = n := by omega
          have hI : decide ((k : Int) < (k : Int)) = false := decide_eq_false (by omega)
          have hr : Hid (c.set.all mayV = true) := by
            show _ = _
            rw [List.all_eq_true]
            intro x hx
            refine hall.out x ?_
            rw [List.take_of_length_le (by rw [← HN.out]; exact Nat.le_refl _)]; exact hx
          go_wp2_with fail
          go_ret
          exact ⟨by rw [hr.out]; rfl, HXX.out.trans hx.out⟩
  have g9 : (c.op == 9) = false := beq_eq_false_iff_ne.2 h9
  rw [mayC_other hnn h1 h9]
  clear he hnn hn0 hn16
  by_cases h2 : c.op < 2
  · have g2 : decide (c.op < 2) = true := decide_eq_true h2
    rw [decide_eq_false (show ¬ 2 ≤ c.op by omega)]
    go_enter Tryz.func100, Tryz.ntmps100
    go_upto_region 1 with fail
    generalize w.alloc (.cells #[.string (strOf c.name), .int .i64 c.op, .int .i64 c.v.k, .int .i64 c.v.n, .string (strOf c.v.s), .bool c.v.b, .slice sa c.set.length sc] 52) = w0 at *
    go_wp2_with fail
    go_ret
    exact ⟨rfl, HX0.out⟩
  have g2 : decide (c.op < 2) = false := decide_eq_false h2
  rw [decide_eq_true (show 2 ≤ c.op by omega)]
  by_cases h8 : 8 < c.op
  · have g3 : decide (8 < c.op) = true := decide_eq_true h8
    rw [decide_eq_false (show ¬ c.op ≤ 8 by omega)]
    go_enter Tryz.func100, Tryz.ntmps100
    go_upto_region 1 with fail
    generalize w.alloc (.cells #[.string (strOf c.name), .int .i64 c.op, .int .i64 c.v.k, .int .i64 c.v.n, .string (strOf c.v.s), .bool c.v.b, .slice sa c.set.length sc] 52) = w0 at *
    go_wp2_with fail
    go_ret
    exact ⟨rfl, HX0.out⟩
  have g3 : decide (8 < c.op) = false := decide_eq_false h8
  rw [decide_eq_true (show c.op ≤ 8 by omega)]
  by_cases hl : 0 < c.set.length
  · have g4 : decide ((0 : Int) < (c.set.length : Int)) = true := decide_eq_true (by omega)
    rw [decide_eq_false (show ¬ c.set.length = 0 by omega)]
    go_enter Tryz.func100, Tryz.ntmps100
    go_upto_region 1 with fail
    generalize w.alloc (.cells #[.string (strOf c.name), .int .i64 c.op, .int .i64 c.v.k, .int .i64 c.v.n, .string (strOf c.v.s), .bool c.v.b, .slice sa c.set.length sc] 52) = w0 at *
    go_wp2_with fail
    go_ret
    exact ⟨rfl, HX0.out⟩
  have g4 : decide ((0 : Int) < (c.set.length : Int)) = false := decide_eq_false (by omega)
  rw [decide_eq_true (show c.set.length = 0 by omega)]
  generalize mayV c.v = mv at *
  cases mv with
  | false =>
    go_enter Tryz.func100, Tryz.ntmps100
    go_upto_region 1 with fail
    generalize w.alloc (.cells #[.string (strOf c.name), .int .i64 c.op, .int .i64 c.v.k, .int .i64 c.v.n, .string (strOf c.v.s), .bool c.v.b, .slice sa c.set.length sc] 52) = w0 at *
    go_wp2_with (go_at_call 135; (with_reducible refine (HV.out _).mono ?_); rintro e w1 ⟨rfl, hx⟩; have HX1 := Lib.hid hx.1; clear hx)
    go_ret
    exact ⟨rfl, HX0.out.trans HX1.out⟩
  | true =>
    by_cases h88 : c.op = 8
    · have g5 : (c.op == 8) = true := beq_iff_eq.2 h88
      have g6 : (c.op != 8) = false := by rw [bne, g5]; rfl
      have g7 : decide (c.v.k = 2) = (c.v.k == 2) := rfl
      rw [decide_eq_true h88, g7]
      clear g7
      cases hk : (c.v.k == 2) with
      | false =>
        clear h88
        go_enter Tryz.func100, Tryz.ntmps100
        go_upto_region 1 with fail
        generalize w.alloc (.cells #[.string (strOf c.name), .int .i64 c.op, .int .i64 c.v.k, .int .i64 c.v.n, .string (strOf c.v.s), .bool c.v.b, .slice sa c.set.length sc] 52) = w0 at *
        go_upto_region 16 with (go_at_call 135; (with_reducible refine (HV.out _).mono ?_); rintro e w1 ⟨rfl, hx⟩; have HX1 := Lib.hid hx.1; clear hx)
        have q1 := HX1.out.cell a1
        have q2 := HX1.out.cell a2
        go_wp2_with fail
        go_ret
        exact ⟨rfl, HX0.out.trans HX1.out⟩
      | true =>
        clear h88
        go_enter Tryz.func100, Tryz.ntmps100
        go_upto_region 1 with fail
        generalize w.alloc (.cells #[.string (strOf c.name), .int .i64 c.op, .int .i64 c.v.k, .int .i64 c.v.n, .string (strOf c.v.s), .bool c.v.b, .slice sa c.set.length sc] 52) = w0 at *
        go_upto_region 16 with (go_at_call 135; (with_reducible refine (HV.out _).mono ?_); rintro e w1 ⟨rfl, hx⟩; have HX1 := Lib.hid hx.1; clear hx)
        have q1 := HX1.out.cell a1
        have q2 := HX1.out.cell a2
        go_wp2_with fail
        go_ret
        exact ⟨rfl, HX0.out.trans HX1.out⟩
    · have g5 : (c.op == 8) = false := beq_eq_false_iff_ne.2 h88
      have g6 : (c.op != 8) = true := by rw [bne, g5]; rfl
      rw [decide_eq_false h88]
      go_enter Tryz.func100, Tryz.ntmps100
      go_upto_region 1 with fail
      generalize w.alloc (.cells #[.string (strOf c.name), .int .i64 c.op, .int .i64 c.v.k, .int .i64 c.v.n, .string (strOf c.v.s), .bool c.v.b, .slice sa c.set.length sc] 52) = w0 at *
      go_upto_region 16 with (go_at_call 135; (with_reducible refine (HV.out _).mono ?_); rintro e w1 ⟨rfl, hx⟩; have HX1 := Lib.hid hx.1; clear hx)
      have q1 := HX1.out.cell a1
      have q2 := HX1.out.cell a2
      go_wp2_with fail
      go_ret
      exact ⟨rfl, HX0.out.trans HX1.out⟩

set_option maxRecDepth 100000 in
set_option maxHeartbeats 8000000 in
theorem rpmay_any (w : World) (v : Value) (p : List C) (hp : PredR w v p) : Calls Tryz.prog 61 #[v] w fun e w' => e = .returned (.bool (mayP p)) ∧ Ext w w' := by
  obtain ⟨a, cap, rfl, hc, hm⟩ := hp.shape
  unfold maxLen at hm
  have HP := Lib.hid hp
  obtain ⟨n, hn⟩ : ∃ n, n = p.length := ⟨_, rfl⟩
  have HN := Lib.hid hn
  rw [← hn] at hc ⊢ HP
  clear hn hp
  go_enter Tryz.func61, Tryz.ntmps61
  go_wp2_with fail
  go_loopw [3] (fun i wr => ∃ k : Nat, k ≤ n ∧ i = .int .i64 k ∧ Hid (∀ x ∈ p.take k, mayC x = true) ∧ Hid (Ext w wr)) (fun i _ => n - (intOf i).toNat)
  case atStart => exact ⟨0, Nat.zero_le _, rfl, (by show ∀ x ∈ p.take 0, _; simp), Ext.refl _⟩
  case round =>
    obtain ⟨k, hk, rfl, hall, hx⟩ := hrel
    by_cases hlt : k < n
    · have hI : decide ((k : Int) < (n : Int)) = true := decide_eq_true (by omega)
      have hkN : (k : Int) < (n : Int) := by omega
      have hkl : k < p.length := by have := HN.out; omega
      obtain ⟨B, o, sa, sc, rfl, f0, f1, f2, f3, f4, f5, f6, fs⟩ := (HP.out.ext hx.out).at hkl
      have hnext : mayC p[k] = true → ∀ x ∈ p.take (k + 1), mayC x = true := fun e x hx => by
        rw [List.take_succ_eq_append_getElem hkl] at hx
        rcases List.mem_append.1 hx with hx | hx
        · exact hall.out x hx
        · rw [List.mem_singleton.1 hx]; exact e
      have hno : mayC p[k] = false → mayP p = false := fun e => by
        unfold mayP
        rw [show p.all mayC = false from List.all_eq_false.2 ⟨_, List.getElem_mem hkl, by rw [e]; exact Bool.false_ne_true⟩, Bool.and_false]
      have HM := Lib.hid (rmaycons_any wr p[k] sa sc fs)
      have HNX := Lib.hid hnext
      have HNO := Lib.hid hno
      clear hnext hno fs
      generalize p[k] = x at *
      generalize mayC x = mx at *
      cases mx with
      | true =>
        go_wp2_with (go_at_call 100; (with_reducible refine HM.out.mono ?_); rintro e w2 ⟨rfl, hx2⟩; have HX2 := Lib.hid (hx.out.trans hx2); clear hx2)
        go_roundw
        case rel => exact ⟨k + 1, hlt, by go_num, HNX.out (by first | rfl | trivial), HX2.out⟩
        case measure => simp [intOf]; omega
      | false =>
        have hr := HNO.out (by first | rfl | trivial)
        go_wp2_with (go_at_call 100; (with_reducible refine HM.out.mono ?_); rintro e w2 ⟨rfl, hx2⟩; have HX2 := Lib.hid (hx.out.trans hx2); clear hx2)
        go_ret
        exact ⟨by rw [hr]; rfl, HX2.out⟩
    · obtain rfl : k = n := by omega
      have hI : decide ((k : Int) < (k : Int)) = false := decide_eq_false (by omega)
      have hr : Hid (mayP p = decide (k ≤ 6)) := by
        show _ = _
        have h1 : p.all mayC = true := by
          rw [List.all_eq_true]
          intro x hx
          refine hall.out x ?_
          rw [List.take_of_length_le (by rw [← HN.out]; exact Nat.le_refl _)]; exact hx
        unfold mayP
        rw [h1, Bool.and_true, HN.out]
      have h6 : decide ((k : Int) ≤ 6) = decide (k ≤ 6) := by rw [Bool.eq_iff_iff, decide_eq_true_iff, decide_eq_true_iff]; omega
      go_wp2_with fail
      go_ret
      exact ⟨by rw [hr.out]; first | rfl | rw [← h6] | exact congrArg (fun x => Ending.returned (Value.bool x)) h6, hx.out⟩
end Go.Proofs.YtckigoeomkphhaaGreat

namespace Go.Proofs.YtckigoeomkphhaaGreat
open Go.RowKit

theorem sort_take {α : Type} (cf : α → α → Int) (l : List α) (k : Nat) (hk : k < l.length) : sortU cf (l.take (k + 1)) = insU cf l[k] (sortU cf (l.take k)) := by
  rw [List.take_succ_eq_append_getElem hk, sortU_snoc]
theorem vCut {ops : Array Oper} {Q : Exit → Act → World → Prop} {a : Act} {w : World} {rest : List Oper} {o : Oper}
    (x : Operand) (lo hi : Option Operand) (us : List V) (n i j : Nat)
    (ho : o.op = .slice 50 x lo hi none)
    (hw : Region.wanted o (yielded ops a.tmps) = true) (hx : Row w 4 (a.eval x) n (us.flatMap vC))
    (hlo : BoundIs a lo 0 i) (hhi : BoundIs a hi n j) (hij : i ≤ j) (hj : j ≤ n)
    (h : ∀ v, Row w 4 v (j - i) (((us.take j).drop i).flatMap vC) → wpList Tryz.prog ops Q rest (a.put o.dst v) w) : wpList Tryz.prog ops Q (o :: rest) a w := by
  refine wpList_cut 50 49 x lo hi 4 n i j _ ho Tryz.underlying50 (by kernel_rfl) hw hx hlo hhi hij hj fun v hv => h v ?_
  rw [flat_take vC 4 vC_len, flat_drop vC 4 vC_len] at hv
  exact hv
theorem own_lt {w : World} {base size n : Nat} {e : TypeId} {v : Value} {xs : List Value} (h : w.ownsRow base e size v n xs) : ∀ q, v.ownBlock = some q → q < w.heap.size := by
  intro q hq
  rcases h.2 with ⟨rfl, _⟩ | ⟨g, cap, cur, rfl, _, hg, _⟩
  · simp [Value.ownBlock] at hq
  · simp only [Value.ownBlock, Option.some.injEq] at hq
    subst hq
    exact (Array.getElem?_eq_some_iff.1 hg).1
theorem v_row (w : World) (x : V) : Row (w.alloc (.cells (vC x).toArray 49)) 4 (.slice (some ⟨w.heap.size, 0, none⟩) 1 1) 1 (vC x) :=
  Row.of_own (World.ownsRow_lit (base := w.heap.size) (e := 49) (size := 4) w (vC x).toArray 1 (Nat.le_refl _) (by decide) rfl)

set_option maxRecDepth 100000 in
set_option maxHeartbeats 16000000 in
theorem rset_any (w : World) (v : Value) (l : List V) (h : SetR w v l) (hl6 : l.length ≤ 6) :
    Calls Tryz.prog 62 #[v] w fun e w' => ∃ v', e = .returned v' ∧ w'.ownsRow w.heap.size 49 4 v' (sortU cmpV l).length ((sortU cmpV l).flatMap vC) ∧ Ext w w' := by
  obtain ⟨a, cap, rfl, hc, hm⟩ := Row.shape h
  unfold maxLen at hm
  have HS := Lib.hid h
  obtain ⟨n, hn⟩ : ∃ n, n = l.length := ⟨_, rfl⟩
  have HN := Lib.hid hn
  rw [← hn] at hc hl6 ⊢ HS
  clear hn h
  go_enter Tryz.func62, Tryz.ntmps62
  go_wp2_with fail
  go_loopw [3, 4] (fun vo i wr => ∃ k : Nat, k ≤ n ∧ i = .int .i64 k ∧ Hid (wr.ownsRow w.heap.size 49 4 vo (sortU cmpV (l.take k)).length ((sortU cmpV (l.take k)).flatMap vC)) ∧ Hid (Ext w wr)) (fun _ i _ => n - (intOf i).toNat)
  case atStart => exact ⟨0, Nat.zero_le _, rfl, own_none _ _ _ _, Ext.refl _⟩
  case round =>
    obtain ⟨k, hk, rfl, hown, hx⟩ := hrel
    obtain ⟨wo, hwo⟩ : ∃ x : World, x = wr := ⟨_, rfl⟩
    subst hwo
    by_cases hlt : k < n
    · have hI : decide ((k : Int) < (n : Int)) = true := decide_eq_true (by omega)
      have hkN : (k : Int) < (n : Int) := by omega
      have hkl : k < l.length := by have := HN.out; omega
      obtain ⟨B, o, rfl, f0, f1, f2, f3⟩ := SetR.at (SetR.ext HS.out hx.out) hkl
      have hst := sort_take cmpV l k hkl
      have HST := Lib.hid hst
      have hmk : (sortU cmpV (l.take k)).length ≤ k := by have := sortU_len (cf := cmpV) (l.take k); rw [List.length_take] at this; omega
      clear hst
      generalize sortU cmpV (l.take k) = L at *
      generalize l[k] = x at *
      obtain ⟨ao, co, hvo, hco, hmo⟩ := own_shape hown.out
      obtain ⟨m, hm'⟩ : ∃ m, m = L.length := ⟨_, rfl⟩
      have HM := Lib.hid hm'
      rw [hvo, ← hm'] at hown
      rw [hvo, ← hm']
      rw [← hm'] at hmk hco
      have hm6 : m ≤ 6 := by omega
      clear hvo hm'
      unfold maxLen at hmo
      go_upto_block 2 with fail
      go_cut [5] from 13 to 30 (fun v5 wx => ∃ j : Nat, v5 = .int .i64 j ∧ j ≤ m ∧ Hid (∀ q (hq : q < L.length), q < j → cmpV L[q] x < 0) ∧ Hid (∀ hq : j < L.length, ¬ cmpV L[j] x < 0) ∧ Hid (Ext wo wx))
      case first =>
        go_wp2_with fail
        go_loopw [5] (fun i wq => ∃ j : Nat, j ≤ m ∧ i = .int .i64 j ∧ Hid (∀ q (hq : q < L.length), q < j → cmpV L[q] x < 0) ∧ Hid (Ext wo wq)) (fun i _ => m - (intOf i).toNat)
        case atStart => exact ⟨0, Nat.zero_le _, rfl, fun q _ h => absurd h (Nat.not_lt_zero _), Ext.refl _⟩
        case round =>
          obtain ⟨j, hj, rfl, hlow, hxq⟩ := hrel
          by_cases hjm : j < m
          · have hJ : decide ((j : Int) < (m : Int)) = true := decide_eq_true (by omega)
            have hjM : (j : Int) < (m : Int) := by omega
            have hjl : j < L.length := by have := HM.out; omega
            have hso : SetR wr (.slice ao m co) L := by have h := Row.ext (Row.of_own hown.out) hxq.out; unfold SetR; rw [← HM.out]; exact h
            obtain ⟨B1, o1, rfl, g0, g1, g2, g3⟩ := SetR.at hso hjl
            have r0 := hxq.out.cell f0
            have r1 := hxq.out.cell f1
            have r2 := hxq.out.cell f2
            have r3 := hxq.out.cell f3
            have hup : cmpV L[j] x < 0 → ∀ q (hq : q < L.length), q < j + 1 → cmpV L[q] x < 0 := fun e q hq h => by
              by_cases hqj : q = j
              · subst hqj; exact e
              · exact hlow.out q hq (by omega)
            have HUP := Lib.hid hup
            obtain ⟨y, hy⟩ : ∃ y, y = L[j] := ⟨_, rfl⟩
            have HY := Lib.hid hy
            rw [← hy] at g0 g1 g2 g3 HUP
            clear hso hup hy
            have HC := Lib.hid (fun W => rcompare_any W y.k y.n x.k x.n y.s x.s y.b x.b)
            have hcv : cmpV ⟨y.k, y.n, y.s, y.b⟩ ⟨x.k, x.n, x.s, x.b⟩ = cmpV y x := rfl
            rw [hcv] at HC
            clear hcv
            by_cases hneg : cmpV y x < 0
            · have hd : decide (cmpV y x < 0) = true := decide_eq_true hneg
              go_upto_region 6 with fail
              refine wp_region_facts [Fact.eq (.int .i64 j),
                  Fact.eq (.slice (some ⟨B1, o1, none⟩) m co),
                  Fact.eq (.int .i64 m),
                  Fact.eq (.bool true),
                  Fact.eq (.bool true),
                  Fact.eq (.slice (some ⟨B1, o1, none⟩) m co),
                  Fact.eq (.int .i64 j),
                  Fact.eq (.pointer (some ⟨B1, o1 + j * 4, none⟩)),
                  Fact.eq (.agg #[.int .i64 y.k, .int .i64 y.n, .string (strOf y.s), .bool y.b]),
                  Fact.eq (.slice (some ⟨B, o, none⟩) n cap),
                  Fact.eq (.int .i64 k),
                  Fact.eq (.pointer (some ⟨B, o + k * 4, none⟩)),
                  Fact.eq (.agg #[.int .i64 x.k, .int .i64 x.n, .string (strOf x.s), .bool x.b]),
                  Fact.eq (.int .i64 (cmpV y x)),
                  Fact.eq (.bool true),
                  Fact.eq (.bool true)]
                [[], [], [(1, 14)], [(0, 13), (2, 15)], [(3, 16)], [(4, 17)], [(4, 17)], [(5, 18), (6, 19), (4, 17)], [(7, 20), (4, 17)], [(4, 17)], [(4, 17)], [(9, 22), (10, 23), (4, 17)], [(11, 24), (4, 17)], [(8, 21), (12, 25), (4, 17)], [(13, 26), (4, 17)], [(4, 17), (14, 27)]]
                [(0, 13), (1, 14), (2, 15), (3, 16), (4, 17), (5, 18), (6, 19), (7, 20), (8, 21), (9, 22), (10, 23), (11, 24), (12, 25), (13, 26), (14, 27), (15, 28)] (by kernel_rfl) (by kernel_rfl) ?_ ?_
              · refine ⟨?_, ?_, ?_, ?_, ?_, ?_, ?_, ?_, ?_, ?_, ?_, ?_, ?_, ?_, ?_, ?_, trivial⟩
                · intro w1 hx1; change wpList _ _ _ _ _ _; exact ob_move rfl rfl rfl rfl rfl
                · intro w1 hx1; change wpList _ _ _ _ _ _; exact ob_move rfl rfl rfl rfl rfl
                · intro w1 hx1; rintro _ rfl; change wpList _ _ _ _ _ _; go_wp2_with fail; exact ⟨rfl, Ext.refl _, rfl, rfl⟩
                · intro w1 hx1; rintro _ rfl; rintro _ rfl; change wpList _ _ _ _ _ _; go_wp2_with fail; exact ⟨rfl, Ext.refl _, rfl, rfl⟩
                · intro w1 hx1; rintro _ rfl; change wpList _ _ _ _ _ _; exact ob_move rfl rfl rfl rfl rfl
                · intro w1 hx1; rintro _ rfl; change wpList _ _ _ _ _ _; exact ob_move rfl rfl rfl rfl rfl
                · intro w1 hx1; rintro _ rfl; change wpList _ _ _ _ _ _; exact ob_move rfl rfl rfl rfl rfl
                · intro w1 hx1; rintro _ rfl; rintro _ rfl; rintro _ rfl; change wpList _ _ _ _ _ _; go_wp2_with fail; exact ⟨rfl, Ext.refl _, rfl, rfl⟩
                · intro w1 hx1; rintro _ rfl; rintro _ rfl; change wpList _ _ _ _ _ _; have m0 := hx1.cell g0; have m1 := hx1.cell g1; have m2 := hx1.cell g2; have m3 := hx1.cell g3; go_wp2_with fail; exact ⟨rfl, Ext.refl _, rfl, rfl⟩
                · intro w1 hx1; rintro _ rfl; change wpList _ _ _ _ _ _; exact ob_move rfl rfl rfl rfl rfl
                · intro w1 hx1; rintro _ rfl; change wpList _ _ _ _ _ _; exact ob_move rfl rfl rfl rfl rfl
                · intro w1 hx1; rintro _ rfl; rintro _ rfl; rintro _ rfl; change wpList _ _ _ _ _ _; go_wp2_with fail; exact ⟨rfl, Ext.refl _, rfl, rfl⟩
                · intro w1 hx1; rintro _ rfl; rintro _ rfl; change wpList _ _ _ _ _ _; have m0 := hx1.cell r0; have m1 := hx1.cell r1; have m2 := hx1.cell r2; have m3 := hx1.cell r3; go_wp2_with fail; exact ⟨rfl, Ext.refl _, rfl, rfl⟩
                · intro w1 hx1; rintro _ rfl; rintro _ rfl; rintro _ rfl; change wpList _ _ _ _ _ _; go_wp2_with fail; (with_reducible refine (HC.out _).mono ?_); rintro e w7 ⟨rfl, hx2⟩; go_wp2_with fail; exact ⟨rfl, hx2.1, rfl, rfl⟩
                · intro w1 hx1; rintro _ rfl; rintro _ rfl; change wpList _ _ _ _ _ _; go_wp2_with fail; exact ⟨rfl, Ext.refl _, rfl, rfl⟩
                · intro w1 hx1; rintro _ rfl; rintro _ rfl; change wpList _ _ _ _ _ _; exact ob_pick rfl rfl rfl rfl rfl rfl
              · intro w1 hx1; rintro _ rfl; rintro _ rfl; rintro _ rfl; rintro _ rfl; rintro _ rfl; rintro _ rfl; rintro _ rfl; rintro _ rfl; rintro _ rfl; rintro _ rfl; rintro _ rfl; rintro _ rfl; rintro _ rfl; rintro _ rfl; rintro _ rfl; rintro _ rfl; refine depsThen_nil ?_; dsimp only; simp only [Act.put, List.setIfInBounds_toArray, List.set_cons_zero, List.set_cons_succ]
                have HXQ := Lib.hid (hxq.out.trans hx1)
                clear g0 g1 g2 g3 r0 r1 r2 r3 hx1 hxq
                go_wp2_with fail
                go_roundw
                case rel => exact ⟨j + 1, hjm, by go_num, HUP.out hneg, HXQ.out⟩
                case measure => simp [intOf]; omega
            · have hd : decide (cmpV y x < 0) = false := decide_eq_false hneg
              go_upto_region 6 with fail
              refine wp_region_facts [Fact.eq (.int .i64 j),
                  Fact.eq (.slice (some ⟨B1, o1, none⟩) m co),
                  Fact.eq (.int .i64 m),
                  Fact.eq (.bool true),
                  Fact.eq (.bool true),
                  Fact.eq (.slice (some ⟨B1, o1, none⟩) m co),
                  Fact.eq (.int .i64 j),
                  Fact.eq (.pointer (some ⟨B1, o1 + j * 4, none⟩)),
                  Fact.eq (.agg #[.int .i64 y.k, .int .i64 y.n, .string (strOf y.s), .bool y.b]),
                  Fact.eq (.slice (some ⟨B, o, none⟩) n cap),
                  Fact.eq (.int .i64 k),
                  Fact.eq (.pointer (some ⟨B, o + k * 4, none⟩)),
                  Fact.eq (.agg #[.int .i64 x.k, .int .i64 x.n, .string (strOf x.s), .bool x.b]),
                  Fact.eq (.int .i64 (cmpV y x)),
                  Fact.eq (.bool false),
                  Fact.eq (.bool false)]
                [[], [], [(1, 14)], [(0, 13), (2, 15)], [(3, 16)], [(4, 17)], [(4, 17)], [(5, 18), (6, 19), (4, 17)], [(7, 20), (4, 17)], [(4, 17)], [(4, 17)], [(9, 22), (10, 23), (4, 17)], [(11, 24), (4, 17)], [(8, 21), (12, 25), (4, 17)], [(13, 26), (4, 17)], [(4, 17), (14, 27)]]
                [(0, 13), (1, 14), (2, 15), (3, 16), (4, 17), (5, 18), (6, 19), (7, 20), (8, 21), (9, 22), (10, 23), (11, 24), (12, 25), (13, 26), (14, 27), (15, 28)] (by kernel_rfl) (by kernel_rfl) ?_ ?_
              · refine ⟨?_, ?_, ?_, ?_, ?_, ?_, ?_, ?_, ?_, ?_, ?_, ?_, ?_, ?_, ?_, ?_, trivial⟩
                · intro w1 hx1; change wpList _ _ _ _ _ _; exact ob_move rfl rfl rfl rfl rfl
                · intro w1 hx1; change wpList _ _ _ _ _ _; exact ob_move rfl rfl rfl rfl rfl
                · intro w1 hx1; rintro _ rfl; change wpList _ _ _ _ _ _; go_wp2_with fail; exact ⟨rfl, Ext.refl _, rfl, rfl⟩
                · intro w1 hx1; rintro _ rfl; rintro _ rfl; change wpList _ _ _ _ _ _; go_wp2_with fail; exact ⟨rfl, Ext.refl _, rfl, rfl⟩
                · intro w1 hx1; rintro _ rfl; change wpList _ _ _ _ _ _; exact ob_move rfl rfl rfl rfl rfl
                · intro w1 hx1; rintro _ rfl; change wpList _ _ _ _ _ _; exact ob_move rfl rfl rfl rfl rfl
                · intro w1 hx1; rintro _ rfl; change wpList _ _ _ _ _ _; exact ob_move rfl rfl rfl rfl rfl
                · intro w1 hx1; rintro _ rfl; rintro _ rfl; rintro _ rfl; change wpList _ _ _ _ _ _; go_wp2_with fail; exact ⟨rfl, Ext.refl _, rfl, rfl⟩
                · intro w1 hx1; rintro _ rfl; rintro _ rfl; change wpList _ _ _ _ _ _; have m0 := hx1.cell g0; have m1 := hx1.cell g1; have m2 := hx1.cell g2; have m3 := hx1.cell g3; go_wp2_with fail; exact ⟨rfl, Ext.refl _, rfl, rfl⟩
                · intro w1 hx1; rintro _ rfl; change wpList _ _ _ _ _ _; exact ob_move rfl rfl rfl rfl rfl
                · intro w1 hx1; rintro _ rfl; change wpList _ _ _ _ _ _; exact ob_move rfl rfl rfl rfl rfl
                · intro w1 hx1; rintro _ rfl; rintro _ rfl; rintro _ rfl; change wpList _ _ _ _ _ _; go_wp2_with fail; exact ⟨rfl, Ext.refl _, rfl, rfl⟩
                · intro w1 hx1; rintro _ rfl; rintro _ rfl; change wpList _ _ _ _ _ _; have m0 := hx1.cell r0; have m1 := hx1.cell r1; have m2 := hx1.cell r2; have m3 := hx1.cell r3; go_wp2_with fail; exact ⟨rfl, Ext.refl _, rfl, rfl⟩
                · intro w1 hx1; rintro _ rfl; rintro _ rfl; rintro _ rfl; change wpList _ _ _ _ _ _; go_wp2_with fail; (with_reducible refine (HC.out _).mono ?_); rintro e w7 ⟨rfl, hx2⟩; go_wp2_with fail; exact ⟨rfl, hx2.1, rfl, rfl⟩
                · intro w1 hx1; rintro _ rfl; rintro _ rfl; change wpList _ _ _ _ _ _; go_wp2_with fail; exact ⟨rfl, Ext.refl _, rfl, rfl⟩
                · intro w1 hx1; rintro _ rfl; rintro _ rfl; change wpList _ _ _ _ _ _; exact ob_pick rfl rfl rfl rfl rfl rfl
              · intro w1 hx1; rintro _ rfl; rintro _ rfl; rintro _ rfl; rintro _ rfl; rintro _ rfl; rintro _ rfl; rintro _ rfl; rintro _ rfl; rintro _ rfl; rintro _ rfl; rintro _ rfl; rintro _ rfl; rintro _ rfl; rintro _ rfl; rintro _ rfl; rintro _ rfl; refine depsThen_nil ?_; dsimp only; simp only [Act.put, List.setIfInBounds_toArray, List.set_cons_zero, List.set_cons_succ]
                have HXQ := Lib.hid (hxq.out.trans hx1)
                clear g0 g1 g2 g3 r0 r1 r2 r3 hx1 hxq
                go_wp2_with fail
                go_meet
                case rel => exact ⟨j, rfl, hj, hlow.out, fun hq => by rw [← HY.out]; exact hneg, HXQ.out⟩
          · obtain rfl : j = m := by omega
            have hJ : decide ((j : Int) < (j : Int)) = false := decide_eq_false (by omega)
            go_upto_region 6 with fail
            refine wp_region_facts [Fact.eq (.int .i64 j),
                Fact.eq (.slice ao j co),
                Fact.eq (.int .i64 j),
                Fact.eq (.bool false),
                Fact.eq (.bool false),
                Fact.eq undef,
                Fact.eq undef,
                Fact.eq undef,
                Fact.eq undef,
                Fact.eq undef,
                Fact.eq undef,
                Fact.eq undef,
                Fact.eq undef,
                Fact.eq undef,
                Fact.eq undef,
                Fact.eq (.bool false)]
              [[], [], [(1, 14)], [(0, 13), (2, 15)], [(3, 16)], [(4, 17)], [(4, 17)], [(5, 18), (6, 19), (4, 17)], [(7, 20), (4, 17)], [(4, 17)], [(4, 17)], [(9, 22), (10, 23), (4, 17)], [(11, 24), (4, 17)], [(8, 21), (12, 25), (4, 17)], [(13, 26), (4, 17)], [(4, 17), (14, 27)]]
              [(0, 13), (1, 14), (2, 15), (3, 16), (4, 17), (5, 18), (6, 19), (7, 20), (8, 21), (9, 22), (10, 23), (11, 24), (12, 25), (13, 26), (14, 27), (15, 28)] (by kernel_rfl) (by kernel_rfl) ?_ ?_
            · refine ⟨?_, ?_, ?_, ?_, ?_, ?_, ?_, ?_, ?_, ?_, ?_, ?_, ?_, ?_, ?_, ?_, trivial⟩
              · intro w1 hx1; change wpList _ _ _ _ _ _; exact ob_move rfl rfl rfl rfl rfl
              · intro w1 hx1; change wpList _ _ _ _ _ _; exact ob_move rfl rfl rfl rfl rfl
              · intro w1 hx1; rintro _ rfl; change wpList _ _ _ _ _ _; go_wp2_with fail; exact ⟨rfl, Ext.refl _, rfl, rfl⟩
              · intro w1 hx1; rintro _ rfl; rintro _ rfl; change wpList _ _ _ _ _ _; go_wp2_with fail; exact ⟨rfl, Ext.refl _, rfl, rfl⟩
              · intro w1 hx1; rintro _ rfl; change wpList _ _ _ _ _ _; exact ob_move rfl rfl rfl rfl rfl
              · intro w1 hx1; rintro _ rfl; change wpList _ _ _ _ _ _; exact ob_skip rfl rfl rfl rfl
              · intro w1 hx1; rintro _ rfl; change wpList _ _ _ _ _ _; exact ob_skip rfl rfl rfl rfl
              · intro w1 hx1; rintro _ rfl; rintro _ rfl; rintro _ rfl; change wpList _ _ _ _ _ _; exact ob_skip rfl rfl rfl rfl
              · intro w1 hx1; rintro _ rfl; rintro _ rfl; change wpList _ _ _ _ _ _; exact ob_skip rfl rfl rfl rfl
              · intro w1 hx1; rintro _ rfl; change wpList _ _ _ _ _ _; exact ob_skip rfl rfl rfl rfl
              · intro w1 hx1; rintro _ rfl; change wpList _ _ _ _ _ _; exact ob_skip rfl rfl rfl rfl
              · intro w1 hx1; rintro _ rfl; rintro _ rfl; rintro _ rfl; change wpList _ _ _ _ _ _; exact ob_skip rfl rfl rfl rfl
              · intro w1 hx1; rintro _ rfl; rintro _ rfl; change wpList _ _ _ _ _ _; exact ob_skip rfl rfl rfl rfl
              · intro w1 hx1; rintro _ rfl; rintro _ rfl; rintro _ rfl; change wpList _ _ _ _ _ _; exact ob_skip rfl rfl rfl rfl
              · intro w1 hx1; rintro _ rfl; rintro _ rfl; change wpList _ _ _ _ _ _; exact ob_skip rfl rfl rfl rfl
              · intro w1 hx1; rintro _ rfl; rintro _ rfl; change wpList _ _ _ _ _ _; exact ob_pick rfl rfl rfl rfl rfl rfl
            · intro w1 hx1; rintro _ rfl; rintro _ rfl; rintro _ rfl; rintro _ rfl; rintro _ rfl; rintro _ rfl; rintro _ rfl; rintro _ rfl; rintro _ rfl; rintro _ rfl; rintro _ rfl; rintro _ rfl; rintro _ rfl; rintro _ rfl; rintro _ rfl; rintro _ rfl; refine depsThen_nil ?_; dsimp only; simp only [Act.put, List.setIfInBounds_toArray, List.set_cons_zero, List.set_cons_succ]
              have HXQ := Lib.hid (hxq.out.trans hx1)
              go_wp2_with fail
              go_meet
              case rel => exact ⟨j, rfl, Nat.le_refl _, hlow.out, fun hq => absurd hq (by rw [← HM.out]; exact Nat.lt_irrefl _), HXQ.out⟩
      case rest =>
        obtain ⟨j, rfl, hj, hlow, hhi, hxc⟩ := hcut
        by_cases hjm : j < m
        · have hJ : decide ((j : Int) < (m : Int)) = true := decide_eq_true (by omega)
          have hjM : (j : Int) < (m : Int) := by omega
          have hjl : j < L.length := by have := HM.out; omega
          have hso : SetR wc (.slice ao m co) L := by have h := Row.ext (Row.of_own hown.out) hxc.out; unfold SetR; rw [← HM.out]; exact h
          obtain ⟨B1, o1, rfl, g0, g1, g2, g3⟩ := SetR.at hso hjl
          have r0 := hxc.out.cell f0
          have r1 := hxc.out.cell f1
          have r2 := hxc.out.cell f2
          have r3 := hxc.out.cell f3
          obtain ⟨y, hy⟩ : ∃ y, y = L[j] := ⟨_, rfl⟩
          have HY := Lib.hid hy
          have hnl : ¬ cmpV y x < 0 := by rw [hy]; exact hhi.out hjl
          rw [← hy] at g0 g1 g2 g3
          clear hso hy
          have HC := Lib.hid (fun W => rcompare_any W y.k y.n x.k x.n y.s x.s y.b x.b)
          have hcv : cmpV ⟨y.k, y.n, y.s, y.b⟩ ⟨x.k, x.n, x.s, x.b⟩ = cmpV y x := rfl
          rw [hcv] at HC
          clear hcv
          by_cases hz : cmpV y x = 0
          · have hd : (cmpV y x == 0) = true := beq_iff_eq.2 hz
            have hstop : sortU cmpV (l.take (k + 1)) = L := by rw [HST.out]; exact insU_stop cmpV x hjl (fun q hq h => hlow.out q hq h) (by rw [← HY.out]; exact hz)
            have HSTOP := Lib.hid hstop
            clear hz hstop
            go_upto_region 8 with fail
            refine wp_region_facts [Fact.eq (.int .i64 j),
                Fact.eq (.slice (some ⟨B1, o1, none⟩) m co),
                Fact.eq (.int .i64 m),
                Fact.eq (.bool true),
                Fact.eq (.bool true),
                Fact.eq (.slice (some ⟨B1, o1, none⟩) m co),
                Fact.eq (.int .i64 j),
                Fact.eq (.pointer (some ⟨B1, o1 + j * 4, none⟩)),
                Fact.eq (.agg #[.int .i64 y.k, .int .i64 y.n, .string (strOf y.s), .bool y.b]),
                Fact.eq (.slice (some ⟨B, o, none⟩) n cap),
                Fact.eq (.int .i64 k),
                Fact.eq (.pointer (some ⟨B, o + k * 4, none⟩)),
                Fact.eq (.agg #[.int .i64 x.k, .int .i64 x.n, .string (strOf x.s), .bool x.b]),
                Fact.eq (.int .i64 (cmpV y x)),
                Fact.eq (.bool true),
                Fact.eq (.bool true)]
              [[], [], [(1, 32)], [(0, 31), (2, 33)], [(3, 34)], [(4, 35)], [(4, 35)], [(5, 36), (6, 37), (4, 35)], [(7, 38), (4, 35)], [(4, 35)], [(4, 35)], [(9, 40), (10, 41), (4, 35)], [(11, 42), (4, 35)], [(8, 39), (12, 43), (4, 35)], [(13, 44), (4, 35)], [(4, 35), (14, 45)]]
              [(0, 31), (1, 32), (2, 33), (3, 34), (4, 35), (5, 36), (6, 37), (7, 38), (8, 39), (9, 40), (10, 41), (11, 42), (12, 43), (13, 44), (14, 45), (15, 46)] (by kernel_rfl) (by kernel_rfl) ?_ ?_
            · refine ⟨?_, ?_, ?_, ?_, ?_, ?_, ?_, ?_, ?_, ?_, ?_, ?_, ?_, ?_, ?_, ?_, trivial⟩
              · intro w1 hx1; change wpList _ _ _ _ _ _; exact ob_move rfl rfl rfl rfl rfl
              · intro w1 hx1; change wpList _ _ _ _ _ _; exact ob_move rfl rfl rfl rfl rfl
              · intro w1 hx1; rintro _ rfl; change wpList _ _ _ _ _ _; go_wp2_with fail; exact ⟨rfl, Ext.refl _, rfl, rfl⟩
              · intro w1 hx1; rintro _ rfl; rintro _ rfl; change wpList _ _ _ _ _ _; go_wp2_with fail; exact ⟨rfl, Ext.refl _, rfl, rfl⟩
              · intro w1 hx1; rintro _ rfl; change wpList _ _ _ _ _ _; exact ob_move rfl rfl rfl rfl rfl
              · intro w1 hx1; rintro _ rfl; change wpList _ _ _ _ _ _; exact ob_move rfl rfl rfl rfl rfl
              · intro w1 hx1; rintro _ rfl; change wpList _ _ _ _ _ _; exact ob_move rfl rfl rfl rfl rfl
              · intro w1 hx1; rintro _ rfl; rintro _ rfl; rintro _ rfl; change wpList _ _ _ _ _ _; go_wp2_with fail; exact ⟨rfl, Ext.refl _, rfl, rfl⟩
              · intro w1 hx1; rintro _ rfl; rintro _ rfl; change wpList _ _ _ _ _ _; have m0 := hx1.cell g0; have m1 := hx1.cell g1; have m2 := hx1.cell g2; have m3 := hx1.cell g3; go_wp2_with fail; exact ⟨rfl, Ext.refl _, rfl, rfl⟩
              · intro w1 hx1; rintro _ rfl; change wpList _ _ _ _ _ _; exact ob_move rfl rfl rfl rfl rfl
              · intro w1 hx1; rintro _ rfl; change wpList _ _ _ _ _ _; exact ob_move rfl rfl rfl rfl rfl
              · intro w1 hx1; rintro _ rfl; rintro _ rfl; rintro _ rfl; change wpList _ _ _ _ _ _; go_wp2_with fail; exact ⟨rfl, Ext.refl _, rfl, rfl⟩
              · intro w1 hx1; rintro _ rfl; rintro _ rfl; change wpList _ _ _ _ _ _; have m0 := hx1.cell r0; have m1 := hx1.cell r1; have m2 := hx1.cell r2; have m3 := hx1.cell r3; go_wp2_with fail; exact ⟨rfl, Ext.refl _, rfl, rfl⟩
              · intro w1 hx1; rintro _ rfl; rintro _ rfl; rintro _ rfl; change wpList _ _ _ _ _ _; go_wp2_with fail; (with_reducible refine (HC.out _).mono ?_); rintro e w7 ⟨rfl, hx2⟩; go_wp2_with fail; exact ⟨rfl, hx2.1, rfl, rfl⟩
              · intro w1 hx1; rintro _ rfl; rintro _ rfl; change wpList _ _ _ _ _ _; go_wp2_with fail; exact ⟨rfl, Ext.refl _, rfl, rfl⟩
              · intro w1 hx1; rintro _ rfl; rintro _ rfl; change wpList _ _ _ _ _ _; exact ob_pick rfl rfl rfl rfl rfl rfl
            · intro w1 hx1; rintro _ rfl; rintro _ rfl; rintro _ rfl; rintro _ rfl; rintro _ rfl; rintro _ rfl; rintro _ rfl; rintro _ rfl; rintro _ rfl; rintro _ rfl; rintro _ rfl; rintro _ rfl; rintro _ rfl; rintro _ rfl; rintro _ rfl; rintro _ rfl; refine depsThen_nil ?_; dsimp only; simp only [Act.put, List.setIfInBounds_toArray, List.set_cons_zero, List.set_cons_succ]
              have HXQ := Lib.hid ((hx.out.trans hxc.out).trans hx1)
              have HOW := Lib.hid (own_ext hown.out (hxc.out.trans hx1))
              clear g0 g1 g2 g3 r0 r1 r2 r3 hx1 hxc
              go_wp2_with fail
              go_roundw
              case rel => exact ⟨k + 1, hlt, by go_num, by rw [HSTOP.out, ← HM.out]; exact HOW.out, HXQ.out⟩
              case measure => simp [intOf]; omega
          · have hd : (cmpV y x == 0) = false := beq_eq_false_iff_ne.2 hz
            have hhere : sortU cmpV (l.take (k + 1)) = L.take j ++ x :: L.drop j := by rw [HST.out]; exact insU_here cmpV x (Nat.le_of_lt hjl) (fun q hq h => hlow.out q hq h) (fun h => by rw [← HY.out]; omega)
            have HHERE := Lib.hid hhere
            clear hz hhere
            go_upto_region 8 with fail
            refine wp_region_facts [Fact.eq (.int .i64 j),
                Fact.eq (.slice (some ⟨B1, o1, none⟩) m co),
                Fact.eq (.int .i64 m),
                Fact.eq (.bool true),
                Fact.eq (.bool true),
                Fact.eq (.slice (some ⟨B1, o1, none⟩) m co),
                Fact.eq (.int .i64 j),
                Fact.eq (.pointer (some ⟨B1, o1 + j * 4, none⟩)),
                Fact.eq (.agg #[.int .i64 y.k, .int .i64 y.n, .string (strOf y.s), .bool y.b]),
                Fact.eq (.slice (some ⟨B, o, none⟩) n cap),
                Fact.eq (.int .i64 k),
                Fact.eq (.pointer (some ⟨B, o + k * 4, none⟩)),
                Fact.eq (.agg #[.int .i64 x.k, .int .i64 x.n, .string (strOf x.s), .bool x.b]),
                Fact.eq (.int .i64 (cmpV y x)),
                Fact.eq (.bool false),
                Fact.eq (.bool false)]
              [[], [], [(1, 32)], [(0, 31), (2, 33)], [(3, 34)], [(4, 35)], [(4, 35)], [(5, 36), (6, 37), (4, 35)], [(7, 38), (4, 35)], [(4, 35)], [(4, 35)], [(9, 40), (10, 41), (4, 35)], [(11, 42), (4, 35)], [(8, 39), (12, 43), (4, 35)], [(13, 44), (4, 35)], [(4, 35), (14, 45)]]
              [(0, 31), (1, 32), (2, 33), (3, 34), (4, 35), (5, 36), (6, 37), (7, 38), (8, 39), (9, 40), (10, 41), (11, 42), (12, 43), (13, 44), (14, 45), (15, 46)] (by kernel_rfl) (by kernel_rfl) ?_ ?_
            · refine ⟨?_, ?_, ?_, ?_, ?_, ?_, ?_, ?_, ?_, ?_, ?_, ?_, ?_, ?_, ?_, ?_, trivial⟩
              · intro w1 hx1; change wpList _ _ _ _ _ _; exact ob_move rfl rfl rfl rfl rfl
              · intro w1 hx1; change wpList _ _ _ _ _ _; exact ob_move rfl rfl rfl rfl rfl
              · intro w1 hx1; rintro _ rfl; change wpList _ _ _ _ _ _; go_wp2_with fail; exact ⟨rfl, Ext.refl _, rfl, rfl⟩
              · intro w1 hx1; rintro _ rfl; rintro _ rfl; change wpList _ _ _ _ _ _; go_wp2_with fail; exact ⟨rfl, Ext.refl _, rfl, rfl⟩
              · intro w1 hx1; rintro _ rfl; change wpList _ _ _ _ _ _; exact ob_move rfl rfl rfl rfl rfl
              · intro w1 hx1; rintro _ rfl; change wpList _ _ _ _ _ _; exact ob_move rfl rfl rfl rfl rfl
              · intro w1 hx1; rintro _ rfl; change wpList _ _ _ _ _ _; exact ob_move rfl rfl rfl rfl rfl
              · intro w1 hx1; rintro _ rfl; rintro _ rfl; rintro _ rfl; change wpList _ _ _ _ _ _; go_wp2_with fail; exact ⟨rfl, Ext.refl _, rfl, rfl⟩
              · intro w1 hx1; rintro _ rfl; rintro _ rfl; change wpList _ _ _ _ _ _; have m0 := hx1.cell g0; have m1 := hx1.cell g1; have m2 := hx1.cell g2; have m3 := hx1.cell g3; go_wp2_with fail; exact ⟨rfl, Ext.refl _, rfl, rfl⟩
              · intro w1 hx1; rintro _ rfl; change wpList _ _ _ _ _ _; exact ob_move rfl rfl rfl rfl rfl
              · intro w1 hx1; rintro _ rfl; change wpList _ _ _ _ _ _; exact ob_move rfl rfl rfl rfl rfl
              · intro w1 hx1; rintro _ rfl; rintro _ rfl; rintro _ rfl; change wpList _ _ _ _ _ _; go_wp2_with fail; exact ⟨rfl, Ext.refl _, rfl, rfl⟩
              · intro w1 hx1; rintro _ rfl; rintro _ rfl; change wpList _ _ _ _ _ _; have m0 := hx1.cell r0; have m1 := hx1.cell r1; have m2 := hx1.cell r2; have m3 := hx1.cell r3; go_wp2_with fail; exact ⟨rfl, Ext.refl _, rfl, rfl⟩
              · intro w1 hx1; rintro _ rfl; rintro _ rfl; rintro _ rfl; change wpList _ _ _ _ _ _; go_wp2_with fail; (with_reducible refine (HC.out _).mono ?_); rintro e w7 ⟨rfl, hx2⟩; go_wp2_with fail; exact ⟨rfl, hx2.1, rfl, rfl⟩
              · intro w1 hx1; rintro _ rfl; rintro _ rfl; change wpList _ _ _ _ _ _; go_wp2_with fail; exact ⟨rfl, Ext.refl _, rfl, rfl⟩
              · intro w1 hx1; rintro _ rfl; rintro _ rfl; change wpList _ _ _ _ _ _; exact ob_pick rfl rfl rfl rfl rfl rfl
            · intro w1 hx1; rintro _ rfl; rintro _ rfl; rintro _ rfl; rintro _ rfl; rintro _ rfl; rintro _ rfl; rintro _ rfl; rintro _ rfl; rintro _ rfl; rintro _ rfl; rintro _ rfl; rintro _ rfl; rintro _ rfl; rintro _ rfl; rintro _ rfl; rintro _ rfl; refine depsThen_nil ?_; dsimp only; simp only [Act.put, List.setIfInBounds_toArray, List.set_cons_zero, List.set_cons_succ]
              clear g0 g1 g2 g3
              have HXQ := Lib.hid ((hx.out.trans hxc.out).trans hx1)
              have HOW := Lib.hid (own_ext hown.out (hxc.out.trans hx1))
              have s0 := hx1.cell r0
              have s1 := hx1.cell r1
              have s2 := hx1.cell r2
              have s3 := hx1.cell r3
              clear hx1 hxc r0 r1 r2 r3 f0 f1 f2 f3
              go_upto_region 10 with fail
              obtain ⟨w8, hw8⟩ : ∃ z : World, z = w1 := ⟨_, rfl⟩
              subst hw8
              have hbase : w.heap.size ≤ w8.heap.size := HXQ.out.size
              go_upto_region 11 with (first
                | (refine vCut (.tmp 48) none (some (.tmp 49)) L m 0 j rfl rfl (Row.of_own HOW.out) rfl ⟨_, _, rfl, by omega, by omega⟩ (Nat.zero_le _) (by omega) ?_; intro v50 h50; rw [List.drop_zero, Nat.sub_zero] at h50; obtain ⟨a50, c50, rfl, _, _⟩ := Row.shape h50; have H50 := Lib.hid h50; clear h50)
                | (at_builtin; refine wpList_append_row 50 49 (.tmp 47) (.tmp 50) rfl w8.heap.size _ 4 40 Tryz.underlying50 info28t rfl (by decide) rfl (.slice none 0 0) 0 [] rfl (own_none _ _ _ _) j ((L.take j).flatMap vC) H50.out (vC_one _) (by omega) (by unfold maxLen; omega) (Nat.le_refl _) ?_; intro v51 w9 hown9 hg9; have HO9 := Lib.hid hown9; have HX9 := Lib.hid ((Ext.refl w8).grown_none (v := .slice none 0 0) hg9 (fun q hq => by cases hq)); clear hown9 hg9))
              have hown9 : w9.ownsRow w8.heap.size 49 4 v51 j ((L.take j).flatMap vC) := by have h := HO9.out; rw [Nat.zero_add, List.nil_append] at h; exact h
              obtain ⟨a51, c51, rfl, _, _⟩ := own_shape hown9
              have t0 := HX9.out.cell s0
              have t1 := HX9.out.cell s1
              have t2 := HX9.out.cell s2
              have t3 := HX9.out.cell s3
              have hxb : Ext w9 (w9.alloc (.cells (vC x).toArray 49)) := (Ext.refl w9).alloc _
              have HROW := Lib.hid (v_row w9 x)
              have HO10 := Lib.hid (own_ext hown9 hxb)
              have HOWb := Lib.hid (own_ext HOW.out (HX9.out.trans hxb))
              have HX10 := Lib.hid (HX9.out.trans hxb)
              have hb10 : w8.heap.size ≤ (w9.alloc (.cells (vC x).toArray 49)).heap.size := HX10.out.size
              clear hown9 HO9 HX9 hxb H50 s0 s1 s2 s3
              go_upto_region 12 with (at_builtin; refine wpList_append_row 50 49 (.tmp 52) (.tmp 57) rfl w8.heap.size _ 4 40 Tryz.underlying50 info28t rfl (by decide) rfl _ j ((L.take j).flatMap vC) rfl HO10.out 1 (vC x) HROW.out (fun u hu => vC_one [x] u (by rw [List.flatMap_singleton]; exact hu)) (by omega) (by unfold maxLen; omega) hb10 ?_; intro v58 w11 hown11 hg11; have HO11 := Lib.hid hown11; have HG11 := Lib.hid hg11; clear hown11 hg11)
              obtain ⟨a58, c58, rfl, _, _⟩ := own_shape HO11.out
              have hkeep1 : ∀ q, (Value.slice (some ⟨B1, o1, none⟩) m co).ownBlock = some q → (Value.slice a51 j c51).ownBlock ≠ some q := fun q hq => own_later HO10.out (Nat.le_refl _) (own_lt HOW.out q hq)
              have HOWc := Lib.hid (own_keep HOWb.out HG11.out (fun q hq e => hkeep1 q hq e))
              have HX11 := Lib.hid (HX10.out.grown_none HG11.out (own_base HO10.out))
              have hb11 : w8.heap.size ≤ w11.heap.size := HX11.out.size
              clear HO10 HROW HOWb HX10 HG11 hkeep1 t0 t1 t2 t3
              go_upto_region 4 with (first
                | (refine vCut (.tmp 60) (some (.tmp 61)) none L m j m rfl rfl (Row.of_own HOWc.out) ⟨_, _, rfl, by omega, by omega⟩ rfl (by omega) (Nat.le_refl _) ?_; intro v62 h62; obtain ⟨a62, c62, rfl, _, _⟩ := Row.shape h62; have H62 := Lib.hid h62; clear h62)
                | (at_builtin; refine wpList_append_row 50 49 (.tmp 59) (.tmp 62) rfl w8.heap.size _ 4 40 Tryz.underlying50 info28t rfl (by decide) rfl _ (j + 1) ((L.take j).flatMap vC ++ vC x) rfl HO11.out (m - j) (((L.take m).drop j).flatMap vC) H62.out (vC_one _) (by omega) (by unfold maxLen; omega) hb11 ?_; intro v63 w12 hown12 hg12; have HO12 := Lib.hid hown12; have HX12 := Lib.hid (HXQ.out.trans (HX11.out.grown_none hg12 (own_base HO11.out))); clear hown12 hg12))
              have hfin : w12.ownsRow w.heap.size 49 4 v63 (sortU cmpV (l.take (k + 1))).length ((sortU cmpV (l.take (k + 1))).flatMap vC) := by
                have h := own_low HO12.out hbase
                have e1 : L.take m = L := List.take_of_length_le (by rw [← HM.out]; exact Nat.le_refl _)
                rw [e1] at h
                rw [HHERE.out]
                have e2 : (L.take j ++ x :: L.drop j).length = j + 1 + (m - j) := by rw [List.length_append, List.length_cons, List.length_take, List.length_drop, ← HM.out]; omega
                have e3 : (L.take j ++ x :: L.drop j).flatMap vC = (L.take j).flatMap vC ++ vC x ++ (L.drop j).flatMap vC := by rw [List.flatMap_append, List.flatMap_cons, List.append_assoc]
                rw [e2, e3]; first | exact h | (rw [e1]; exact h)
              have HFIN := Lib.hid hfin
              clear hfin HO12 HO11 HOWc HX11 H62
              go_wp2_with fail
              go_roundw
              case rel => exact ⟨k + 1, hlt, by go_num, HFIN.out, HX12.out⟩
              case measure => simp [intOf]; omega
        · obtain rfl : j = m := by omega
          have hJ : decide ((j : Int) < (j : Int)) = false := decide_eq_false (by omega)
          have hhere : sortU cmpV (l.take (k + 1)) = L.take j ++ x :: L.drop j := by rw [HST.out]; exact insU_here cmpV x (by rw [← HM.out]; exact Nat.le_refl _) (fun q hq h => hlow.out q hq h) (fun h => absurd h (by rw [← HM.out]; exact Nat.lt_irrefl _))
          have HHERE := Lib.hid hhere
          clear hhere
          go_upto_region 8 with fail
          refine wp_region_facts [Fact.eq (.int .i64 j),
              Fact.eq (.slice ao j co),
              Fact.eq (.int .i64 j),
              Fact.eq (.bool false),
              Fact.eq (.bool false),
              Fact.eq undef,
              Fact.eq undef,
              Fact.eq undef,
              Fact.eq undef,
              Fact.eq undef,
              Fact.eq undef,
              Fact.eq undef,
              Fact.eq undef,
              Fact.eq undef,
              Fact.eq undef,
              Fact.eq (.bool false)]
            [[], [], [(1, 32)], [(0, 31), (2, 33)], [(3, 34)], [(4, 35)], [(4, 35)], [(5, 36), (6, 37), (4, 35)], [(7, 38), (4, 35)], [(4, 35)], [(4, 35)], [(9, 40), (10, 41), (4, 35)], [(11, 42), (4, 35)], [(8, 39), (12, 43), (4, 35)], [(13, 44), (4, 35)], [(4, 35), (14, 45)]]
            [(0, 31), (1, 32), (2, 33), (3, 34), (4, 35), (5, 36), (6, 37), (7, 38), (8, 39), (9, 40), (10, 41), (11, 42), (12, 43), (13, 44), (14, 45), (15, 46)] (by kernel_rfl) (by kernel_rfl) ?_ ?_
          · refine ⟨?_, ?_, ?_, ?_, ?_, ?_, ?_, ?_, ?_, ?_, ?_, ?_, ?_, ?_, ?_, ?_, trivial⟩
            · intro w1 hx1; change wpList _ _ _ _ _ _; exact ob_move rfl rfl rfl rfl rfl
            · intro w1 hx1; change wpList _ _ _ _ _ _; exact ob_move rfl rfl rfl rfl rfl
            · intro w1 hx1; rintro _ rfl; change wpList _ _ _ _ _ _; go_wp2_with fail; exact ⟨rfl, Ext.refl _, rfl, rfl⟩
            · intro w1 hx1; rintro _ rfl; rintro _ rfl; change wpList _ _ _ _ _ _; go_wp2_with fail; exact ⟨rfl, Ext.refl _, rfl, rfl⟩
            · intro w1 hx1; rintro _ rfl; change wpList _ _ _ _ _ _; exact ob_move rfl rfl rfl rfl rfl
            · intro w1 hx1; rintro _ rfl; change wpList _ _ _ _ _ _; exact ob_skip rfl rfl rfl rfl
            · intro w1 hx1; rintro _ rfl; change wpList _ _ _ _ _ _; exact ob_skip rfl rfl rfl rfl
            · intro w1 hx1; rintro _ rfl; rintro _ rfl; rintro _ rfl; change wpList _ _ _ _ _ _; exact ob_skip rfl rfl rfl rfl
            · intro w1 hx1; rintro _ rfl; rintro _ rfl; change wpList _ _ _ _ _ _; exact ob_skip rfl rfl rfl rfl
            · intro w1 hx1; rintro _ rfl; change wpList _ _ _ _ _ _; exact ob_skip rfl rfl rfl rfl
            · intro w1 hx1; rintro _ rfl; change wpList _ _ _ _ _ _; exact ob_skip rfl rfl rfl rfl
            · intro w1 hx1; rintro _ rfl; rintro _ rfl; rintro _ rfl; change wpList _ _ _ _ _ _; exact ob_skip rfl rfl rfl rfl
            · intro w1 hx1; rintro _ rfl; rintro _ rfl; change wpList _ _ _ _ _ _; exact ob_skip rfl rfl rfl rfl
            · intro w1 hx1; rintro _ rfl; rintro _ rfl; rintro _ rfl; change wpList _ _ _ _ _ _; exact ob_skip rfl rfl rfl rfl
            · intro w1 hx1; rintro _ rfl; rintro _ rfl; change wpList _ _ _ _ _ _; exact ob_skip rfl rfl rfl rfl
            · intro w1 hx1; rintro _ rfl; rintro _ rfl; change wpList _ _ _ _ _ _; exact ob_pick rfl rfl rfl rfl rfl rfl
          · intro w1 hx1; rintro _ rfl; rintro _ rfl; rintro _ rfl; rintro _ rfl; rintro _ rfl; rintro _ rfl; rintro _ rfl; rintro _ rfl; rintro _ rfl; rintro _ rfl; rintro _ rfl; rintro _ rfl; rintro _ rfl; rintro _ rfl; rintro _ rfl; rintro _ rfl; refine depsThen_nil ?_; dsimp only; simp only [Act.put, List.setIfInBounds_toArray, List.set_cons_zero, List.set_cons_succ]
            have r0 := hxc.out.cell f0
            have r1 := hxc.out.cell f1
            have r2 := hxc.out.cell f2
            have r3 := hxc.out.cell f3
            have HXQ := Lib.hid ((hx.out.trans hxc.out).trans hx1)
            have HOW := Lib.hid (own_ext hown.out (hxc.out.trans hx1))
            have s0 := hx1.cell r0
            have s1 := hx1.cell r1
            have s2 := hx1.cell r2
            have s3 := hx1.cell r3
            clear hx1 hxc r0 r1 r2 r3 f0 f1 f2 f3
            go_upto_region 10 with fail
            obtain ⟨w8, hw8⟩ : ∃ z : World, z = w1 := ⟨_, rfl⟩
            subst hw8
            have hbase : w.heap.size ≤ w8.heap.size := HXQ.out.size
            go_upto_region 11 with (first
              | (refine vCut (.tmp 48) none (some (.tmp 49)) L j 0 j rfl rfl (Row.of_own HOW.out) rfl ⟨_, _, rfl, by omega, by omega⟩ (Nat.zero_le _) (by omega) ?_; intro v50 h50; rw [List.drop_zero, Nat.sub_zero] at h50; obtain ⟨a50, c50, rfl, _, _⟩ := Row.shape h50; have H50 := Lib.hid h50; clear h50)
              | (at_builtin; refine wpList_append_row 50 49 (.tmp 47) (.tmp 50) rfl w8.heap.size _ 4 40 Tryz.underlying50 info28t rfl (by decide) rfl (.slice none 0 0) 0 [] rfl (own_none _ _ _ _) j ((L.take j).flatMap vC) H50.out (vC_one _) (by omega) (by unfold maxLen; omega) (Nat.le_refl _) ?_; intro v51 w9 hown9 hg9; have HO9 := Lib.hid hown9; have HX9 := Lib.hid ((Ext.refl w8).grown_none (v := .slice none 0 0) hg9 (fun q hq => by cases hq)); clear hown9 hg9))
            have hown9 : w9.ownsRow w8.heap.size 49 4 v51 j ((L.take j).flatMap vC) := by have h := HO9.out; rw [Nat.zero_add, List.nil_append] at h; exact h
            obtain ⟨a51, c51, rfl, _, _⟩ := own_shape hown9
            have t0 := HX9.out.cell s0
            have t1 := HX9.out.cell s1
            have t2 := HX9.out.cell s2
            have t3 := HX9.out.cell s3
            have hxb : Ext w9 (w9.alloc (.cells (vC x).toArray 49)) := (Ext.refl w9).alloc _
            have HROW := Lib.hid (v_row w9 x)
            have HO10 := Lib.hid (own_ext hown9 hxb)
            have HOWb := Lib.hid (own_ext HOW.out (HX9.out.trans hxb))
            have HX10 := Lib.hid (HX9.out.trans hxb)
            have hb10 : w8.heap.size ≤ (w9.alloc (.cells (vC x).toArray 49)).heap.size := HX10.out.size
            clear hown9 HO9 HX9 hxb H50 s0 s1 s2 s3
            go_upto_region 12 with (at_builtin; refine wpList_append_row 50 49 (.tmp 52) (.tmp 57) rfl w8.heap.size _ 4 40 Tryz.underlying50 info28t rfl (by decide) rfl _ j ((L.take j).flatMap vC) rfl HO10.out 1 (vC x) HROW.out (fun u hu => vC_one [x] u (by rw [List.flatMap_singleton]; exact hu)) (by omega) (by unfold maxLen; omega) hb10 ?_; intro v58 w11 hown11 hg11; have HO11 := Lib.hid hown11; have HG11 := Lib.hid hg11; clear hown11 hg11)
            obtain ⟨a58, c58, rfl, _, _⟩ := own_shape HO11.out
            have hkeep1 : ∀ q, (Value.slice ao j co).ownBlock = some q → (Value.slice a51 j c51).ownBlock ≠ some q := fun q hq => own_later HO10.out (Nat.le_refl _) (own_lt HOW.out q hq)
            have HOWc := Lib.hid (own_keep HOWb.out HG11.out (fun q hq e => hkeep1 q hq e))
            have HX11 := Lib.hid (HX10.out.grown_none HG11.out (own_base HO10.out))
            have hb11 : w8.heap.size ≤ w11.heap.size := HX11.out.size
            clear HO10 HROW HOWb HX10 HG11 hkeep1 t0 t1 t2 t3
            go_upto_region 4 with (first
              | (refine vCut (.tmp 60) (some (.tmp 61)) none L j j j rfl rfl (Row.of_own HOWc.out) ⟨_, _, rfl, by omega, by omega⟩ rfl (by omega) (Nat.le_refl _) ?_; intro v62 h62; obtain ⟨a62, c62, rfl, _, _⟩ := Row.shape h62; have H62 := Lib.hid h62; clear h62)
              | (at_builtin; refine wpList_append_row 50 49 (.tmp 59) (.tmp 62) rfl w8.heap.size _ 4 40 Tryz.underlying50 info28t rfl (by decide) rfl _ (j + 1) ((L.take j).flatMap vC ++ vC x) rfl HO11.out (j - j) (((L.take j).drop j).flatMap vC) H62.out (vC_one _) (by omega) (by unfold maxLen; omega) hb11 ?_; intro v63 w12 hown12 hg12; have HO12 := Lib.hid hown12; have HX12 := Lib.hid (HXQ.out.trans (HX11.out.grown_none hg12 (own_base HO11.out))); clear hown12 hg12))
            have hfin : w12.ownsRow w.heap.size 49 4 v63 (sortU cmpV (l.take (k + 1))).length ((sortU cmpV (l.take (k + 1))).flatMap vC) := by
              have h := own_low HO12.out hbase
              have e1 : L.take j = L := List.take_of_length_le (by rw [← HM.out]; exact Nat.le_refl _)
              rw [e1] at h
              rw [HHERE.out]
              have e2 : (L.take j ++ x :: L.drop j).length = j + 1 + (j - j) := by rw [List.length_append, List.length_cons, List.length_take, List.length_drop, ← HM.out]; omega
              have e3 : (L.take j ++ x :: L.drop j).flatMap vC = (L.take j).flatMap vC ++ vC x ++ (L.drop j).flatMap vC := by rw [List.flatMap_append, List.flatMap_cons, List.append_assoc]
              rw [e2, e3]; first | exact h | (rw [e1]; exact h)
            have HFIN := Lib.hid hfin
            clear hfin HO12 HO11 HOWc HX11 H62
            go_wp2_with fail
            go_roundw
            case rel => exact ⟨k + 1, hlt, by go_num, HFIN.out, HX12.out⟩
            case measure => simp [intOf]; omega
    · obtain rfl : k = n := by omega
      have hI : decide ((k : Int) < (k : Int)) = false := decide_eq_false (by omega)
      have hall : l.take k = l := List.take_of_length_le (by have := HN.out; omega)
      rw [hall] at hown
      go_wp2_with fail
      go_ret
      exact ⟨_, rfl, hown.out, hx.out⟩
end Go.Proofs.YtckigoeomkphhaaGreat

namespace Go.Proofs.YtckigoeomkphhaaGreat
open Go.RowKit Go.MapKept

structure PE where
  id : Int
  p : List C
  h : Value
structure PC where
  id : Int
  x : CS
structure PQ where
  nm : List UInt8
  v : Value
  l : List PC
def ptC (x : PC) : List Value := .int .i64 x.id :: csC x.x
theorem ptC_len (x : PC) : (ptC x).length = 8 := rfl
def eS (S : List PE) : List (Value × Value) := S.map fun k => (.int .i64 k.id, k.h)
def eQ (Q : List PQ) : List (Value × Value) := Q.map fun q => (.string (strOf q.nm), q.v)
def sS (S : List PE) : List (Int × List C) := S.map fun k => (k.id, k.p)
def pcK (x : PC) : Int × C := (x.id, x.x.c)
def findQ (Q : List PQ) (nm : List UInt8) : Option PQ := Q.find? fun q => decide (q.nm = nm)
def lookQ (Q : List PQ) (nm : List UInt8) : List PC := match findQ Q nm with | none => [] | some q => q.l
def valQ (Q : List PQ) (nm : List UInt8) : Value := match findQ Q nm with | none => .slice none 0 0 | some q => q.v
def Names (Q : List PQ) : Prop := (Q.map PQ.nm).Nodup
theorem findQ_some {Q : List PQ} {nm : List UInt8} {q : PQ} (h : findQ Q nm = some q) : q ∈ Q ∧ q.nm = nm := ⟨List.mem_of_find?_eq_some h, by have := List.find?_some h; exact of_decide_eq_true this⟩
theorem findQ_no {Q : List PQ} {nm : List UInt8} (h : ∀ q ∈ Q, q.nm ≠ nm) : findQ Q nm = none := List.find?_eq_none.2 fun k hk => by simpa using h k hk
theorem findQ_at {Q : List PQ} (hn : Names Q) {j : Nat} (hj : j < Q.length) : findQ Q Q[j].nm = some Q[j] := by
  induction Q generalizing j with
  | nil => cases hj
  | cons x r ih =>
    have h1 := List.nodup_cons.1 hn
    unfold findQ
    rw [List.find?_cons]
    cases j with
    | zero => simp
    | succ j =>
      have hj2 : j < r.length := by simpa using hj
      have : x.nm ≠ r[j].nm := fun e => h1.1 (by rw [show x.nm = r[j].nm from e]; exact List.mem_map.2 ⟨r[j], List.getElem_mem hj2, rfl⟩)
      simp only [List.getElem_cons_succ, this, decide_false]
      exact ih h1.2 hj2
theorem findQ_mem {Q : List PQ} (hn : Names Q) {q : PQ} (hq : q ∈ Q) : findQ Q q.nm = some q := by
  obtain ⟨j, hj, rfl⟩ := List.getElem_of_mem hq
  exact findQ_at hn hj
theorem lookQ_at {Q : List PQ} (hn : Names Q) {q : PQ} (hq : q ∈ Q) : lookQ Q q.nm = q.l ∧ valQ Q q.nm = q.v := by
  unfold lookQ valQ; rw [findQ_mem hn hq]; exact ⟨rfl, rfl⟩
theorem lookQ_no {Q : List PQ} {nm : List UInt8} (h : ∀ q ∈ Q, q.nm ≠ nm) : lookQ Q nm = [] ∧ valQ Q nm = .slice none 0 0 := by
  unfold lookQ valQ; rw [findQ_no h]; exact ⟨rfl, rfl⟩
theorem str_inj {a b : List UInt8} (h : Value.string (strOf a) = Value.string (strOf b)) : a = b := by
  simp only [Value.string.injEq] at h
  exact strOf_inj.1 h
theorem eQ_names {Q : List PQ} (h : ((eQ Q).map (·.1)).Nodup) : Names Q := by
  unfold Names
  have e : (eQ Q).map (·.1) = (Q.map PQ.nm).map (fun n => Value.string (strOf n)) := by unfold eQ; rw [List.map_map, List.map_map]; rfl
  rw [e] at h
  exact List.Pairwise.of_map _ (fun a b hne e => hne (by rw [e])) h
theorem eQ_none {Q : List PQ} {nm : List UInt8} (h : ∀ x ∈ eQ Q, x.1 ≠ Value.string (strOf nm)) : ∀ q ∈ Q, q.nm ≠ nm := fun k hk e => h _ (List.mem_map.2 ⟨k, hk, rfl⟩) (by rw [e])
theorem eQ_at {Q : List PQ} {nm : List UInt8} {j : Nat} {v : Value} (h : (eQ Q)[j]? = some (Value.string (strOf nm), v)) : ∃ hj : j < Q.length, Q[j].nm = nm ∧ v = Q[j].v := by
  unfold eQ at h
  rw [List.getElem?_map] at h
  cases ht : Q[j]? with
  | none => rw [ht] at h; cases h
  | some u =>
    obtain ⟨hj, rfl⟩ := List.getElem?_eq_some_iff.1 ht
    rw [ht] at h
    simp only [Option.map_some, Option.some.injEq, Prod.mk.injEq] at h
    exact ⟨hj, str_inj h.1, h.2.symm⟩

/-- Rows of parts, each of its own, no two in one block. -/
structure PartsR (w : World) (base bq : Nat) (Q : List PQ) : Prop where
  mq : MapE w bq .string (eQ Q)
  rows : ∀ q ∈ Q, w.ownsRow base 77 8 q.v q.l.length (q.l.flatMap ptC)
  sets : ∀ q ∈ Q, ∀ x ∈ q.l, SetO base w x.x
  apart : ∀ i j (hi : i < Q.length) (hj : j < Q.length), i ≠ j → ∀ g, Q[i].v.ownBlock = some g → Q[j].v.ownBlock ≠ some g
variable {w w1 w2 w' : World} {base b bp bq : Nat} {S : List PE} {Q : List PQ}
theorem PartsR.names (h : PartsR w base bq Q) : Names Q := eQ_names h.mq.keys.2
theorem PartsR.ext (h : PartsR w base bq Q) (hx : Ext w w') : PartsR w' base bq Q :=
  ⟨h.mq.ext hx, fun q hq => own_ext (h.rows q hq) hx, fun q hq x hm => (h.sets q hq x hm).ext hx, h.apart⟩
theorem PartsR.low {c : Nat} (h : PartsR w base bq Q) (hc : c ≤ base) : PartsR w c bq Q :=
  ⟨h.mq, fun q hq => own_low (h.rows q hq) hc, fun q hq x hm => own_low (h.sets q hq x hm) hc, h.apart⟩
/-- A block turns that is neither the map nor one of the rows. -/
theorem PartsR.keep (h : PartsR w base bq Q) {row : Option Nat} (hg : w.grownBy w' row) (hm : row ≠ some bq) (hr : ∀ k, row = some k → k < base ∨ ∀ cs t fr, w.heap[k]? = some (.cells cs t fr) → t ≠ 77 ∧ t ≠ 49) : PartsR w' base bq Q := by
  have key : ∀ {e : TypeId} {size n : Nat} {v : Value} {xs : List Value}, (e = 77 ∨ e = 49) → w.ownsRow base e size v n xs → ∀ k, v.ownBlock = some k → row ≠ some k := fun he ho k hk e => by
    rcases hr k e with h1 | h1
    · have := own_base ho k hk; omega
    · rcases ho.2 with ⟨rfl, _⟩ | ⟨g, cap, cur, rfl, _, hg, _⟩
      · simp [Value.ownBlock] at hk
      · simp only [Value.ownBlock, Option.some.injEq] at hk
        subst hk
        obtain ⟨h2, h3⟩ := h1 _ _ _ hg
        rcases he with rfl | rfl
        · exact h2 rfl
        · exact h3 rfl
  refine ⟨?_, fun q hq => own_keep (h.rows q hq) hg (key (.inl rfl) (h.rows q hq)), fun q hq x hm => own_keep (h.sets q hq x hm) hg (key (.inr rfl) (h.sets q hq x hm)), h.apart⟩
  obtain ⟨es, clock, h1, h2⟩ := h.mq
  exact ⟨es, clock, (hg.block bq (Array.getElem?_eq_some_iff.1 h1).1 (Ne.symm hm)).trans h1, h2⟩
theorem valQ_row (h : PartsR w base bq Q) (nm : List UInt8) : w.ownsRow base 77 8 (valQ Q nm) (lookQ Q nm).length ((lookQ Q nm).flatMap ptC) := by
  unfold valQ lookQ
  cases hf : findQ Q nm with
  | none => exact own_none _ _ _ _
  | some q => exact h.rows q (findQ_some hf).1
theorem valQ_sets (h : PartsR w base bq Q) (nm : List UInt8) : ∀ x ∈ lookQ Q nm, SetO base w x.x := by
  unfold lookQ
  cases hf : findQ Q nm with
  | none => exact fun _ h => by cases h
  | some q => exact h.sets q (findQ_some hf).1
theorem mq_look (h : MapE w bq .string (eQ Q)) (nm : List UInt8) :
    (Instr.lookup 70 (.map (some bq)) (.string (strOf nm)) false).run Tryz.prog w = .ok (valQ Q nm) w := by
  rcases h.look (P := Tryz.prog) Tryz.underlying70 Tryz.underlying9 (z := .slice none 0 0) (by kernel_rfl) (key := .string (strOf nm)) trivial with ⟨h1, h2, _⟩ | ⟨j, v, h1, h2, _⟩
  · rw [h2, (lookQ_no (eQ_none h1)).2]
  · obtain ⟨hj, hn, rfl⟩ := eQ_at h1
    rw [h2, ← hn, (lookQ_at (eQ_names h.keys.2) (List.getElem_mem hj)).2]
theorem PartsR.look (h : PartsR w base bq Q) (nm : List UInt8) :
    (Instr.lookup 70 (.map (some bq)) (.string (strOf nm)) false).run Tryz.prog w = .ok (valQ Q nm) w := mq_look h.mq nm
theorem own_lt4 {base size n : Nat} {e : TypeId} {v : Value} {xs : List Value} (h : w.ownsRow base e size v n xs) : ∀ q, v.ownBlock = some q → q < w.heap.size := own_lt h
/-- The row of a name has turned: its new row stands in the map. -/
theorem PartsR.store (h : PartsR w base bq Q) (nm : List UInt8) (v' : Value) (l' : List PC) (hrow : w1.ownsRow base 77 8 v' l'.length (l'.flatMap ptC)) (hsets : ∀ x ∈ l', SetO base w1 x.x)
    (hg : w.grownBy w1 (valQ Q nm).ownBlock) (hw : v'.ownBlock = (valQ Q nm).ownBlock ∨ ∃ g, v'.ownBlock = some g ∧ w.heap.size ≤ g) (hb : But bq w1 w2)
    (hm : ((∀ p ∈ eQ Q, p.1 ≠ Value.string (strOf nm)) ∧ MapE w2 bq .string (eQ Q ++ [(Value.string (strOf nm), v')])) ∨ ∃ (j : Nat) (u : Value), (eQ Q)[j]? = some (Value.string (strOf nm), u) ∧ MapE w2 bq .string ((eQ Q).set j (Value.string (strOf nm), v'))) :
    ∃ Q', PartsR w2 base bq Q' ∧ ∀ n, lookQ Q' n = if n = nm then l' else lookQ Q n := by
  have hbm : ∀ {e : TypeId} {size n : Nat} {v : Value} {xs : List Value}, w1.ownsRow base e size v n xs → w2.ownsRow base e size v n xs := fun ho => by
    have hm1 : ∃ es c, w1.heap[bq]? = some (.map es c) := by
      obtain ⟨es, c, h1, _⟩ := h.mq
      refine ⟨es, c, (hg.block bq (Array.getElem?_eq_some_iff.1 h1).1 fun e => ?_).trans h1⟩
      exact own_noMap (valQ_row h nm) e.symm h1
    obtain ⟨es, c, hm1⟩ := hm1
    exact own_keep ho hb.grown fun k hk e => own_noMap ho hk (by cases e; exact hm1)
  have hset1 : ∀ x : PC, SetO base w x.x → SetO base w1 x.x := fun x hx => own_keep hx hg fun k hk e => own_apart hx (valQ_row h nm) (by decide) k e hk
  have hlast := hbm hrow
  rcases hm with ⟨h1, h2⟩ | ⟨j, u, h1, h2⟩
  · have hno := eQ_none h1
    have hv0 := (lookQ_no hno).2
    rw [hv0] at hg hw
    refine ⟨Q ++ [⟨nm, v', l'⟩], ⟨?_, ?_, ?_, ?_⟩, fun n => ?_⟩
    · unfold eQ at h2 ⊢; rw [List.map_append]; exact h2
    · intro q hq
      rcases List.mem_append.1 hq with hq | hq
      · exact hbm (own_keep (h.rows q hq) hg fun k _ e => by cases e)
      · rw [List.mem_singleton.1 hq]; exact hlast
    · intro q hq x hx
      rcases List.mem_append.1 hq with hq | hq
      · exact hbm (hset1 x (h.sets q hq x hx))
      · rw [List.mem_singleton.1 hq] at hx; exact hbm (hsets x hx)
    · have hnew : ∀ i (hi : i < Q.length) g, Q[i].v.ownBlock = some g → v'.ownBlock ≠ some g := fun i hi g h3 h4 => by
        have := own_lt (h.rows _ (List.getElem_mem hi)) g h3
        rcases hw with hw | ⟨g2, hw, hg2⟩
        · rw [h4] at hw; cases hw
        · rw [h4] at hw; cases hw; omega
      intro i j hi hj hij g h3
      rw [List.length_append, List.length_singleton] at hi hj
      rw [List.getElem_append] at h3 ⊢
      by_cases hi2 : i < Q.length <;> by_cases hj2 : j < Q.length
      · rw [dif_pos hi2] at h3; rw [dif_pos hj2]; exact h.apart i j hi2 hj2 hij g h3
      · rw [dif_pos hi2] at h3; rw [dif_neg hj2, List.getElem_singleton]; exact hnew i hi2 g h3
      · rw [dif_neg hi2, List.getElem_singleton] at h3; rw [dif_pos hj2]; exact fun h4 => hnew j hj2 g h4 h3
      · omega
    · unfold lookQ findQ
      rw [List.find?_append]
      by_cases e : n = nm
      · subst e
        have hf := findQ_no hno
        unfold findQ at hf
        rw [if_pos rfl, hf]
        simp
      · rw [if_neg e]
        have : ¬ nm = n := fun e2 => e e2.symm
        cases hf : List.find? (fun q : PQ => decide (q.nm = n)) Q <;> simp [this]
  · obtain ⟨hj, hn, hu⟩ := eQ_at h1
    have hv0 := lookQ_at h.names (List.getElem_mem hj)
    rw [hn] at hv0
    rw [hv0.2] at hg hw
    have hk : ∀ i (hi : i < Q.length), i ≠ j → ∀ k, Q[i].v.ownBlock = some k → Q[j].v.ownBlock ≠ some k := fun i hi hij k hk => h.apart i j hi hj hij k hk
    refine ⟨Q.set j ⟨nm, v', l'⟩, ⟨?_, ?_, ?_, ?_⟩, fun n => ?_⟩
    · unfold eQ at h2 ⊢; rw [List.map_set]; exact h2
    · intro q hq
      obtain ⟨i, hi, rfl⟩ := List.getElem_of_mem hq
      rw [List.length_set] at hi
      rw [List.getElem_set]
      split
      · exact hlast
      · rename_i e
        exact hbm (own_keep (h.rows _ (List.getElem_mem hi)) hg (hk i hi fun e2 => e e2.symm))
    · intro q hq x hx
      obtain ⟨i, hi, rfl⟩ := List.getElem_of_mem hq
      rw [List.length_set] at hi
      rw [List.getElem_set] at hx
      split at hx
      · exact hbm (hsets x hx)
      · exact hbm (hset1 x (h.sets _ (List.getElem_mem hi) x hx))
    · have hnew : ∀ i (hi : i < Q.length), i ≠ j → ∀ g, Q[i].v.ownBlock = some g → v'.ownBlock ≠ some g := fun i hi hij g h3 h4 => by
        rcases hw with hw | ⟨g2, hw, hg2⟩
        · exact hk i hi hij g h3 (hw ▸ h4)
        · have := own_lt (h.rows _ (List.getElem_mem hi)) g h3
          rw [h4] at hw; cases hw; omega
      intro i i2 hi hi2 hij g h3
      rw [List.length_set] at hi hi2
      rw [List.getElem_set] at h3 ⊢
      by_cases e1 : j = i <;> by_cases e2 : j = i2
      · omega
      · rw [if_pos e1] at h3; rw [if_neg e2]; exact fun h4 => hnew i2 hi2 (fun e => e2 e.symm) g h4 h3
      · rw [if_neg e1] at h3; rw [if_pos e2]; exact hnew i hi (fun e => e1 e.symm) g h3
      · rw [if_neg e1] at h3; rw [if_neg e2]; exact h.apart i i2 hi hi2 hij g h3
    · have hnn : Names (Q.set j ⟨nm, v', l'⟩) := by
        unfold Names
        rw [List.map_set, show ((⟨nm, v', l'⟩ : PQ).nm) = (Q.map PQ.nm)[j]'(by rwa [List.length_map]) by rw [List.getElem_map]; exact hn.symm, List.set_getElem_self]
        exact h.names
      by_cases e : n = nm
      · subst e
        rw [if_pos rfl]
        have hj2 : j < (Q.set j ⟨n, v', l'⟩).length := by rw [List.length_set]; exact hj
        have h3 := lookQ_at hnn (List.getElem_mem hj2)
        rw [List.getElem_set_self] at h3
        exact h3.1
      · rw [if_neg e]
        by_cases hex : ∃ q ∈ Q, q.nm = n
        · obtain ⟨q, hq, rfl⟩ := hex
          obtain ⟨i, hi, rfl⟩ := List.getElem_of_mem hq
          have hij : j ≠ i := fun e2 => e (by subst e2; exact hn)
          have hi2 : i < (Q.set j ⟨nm, v', l'⟩).length := by rw [List.length_set]; exact hi
          have h3 := lookQ_at hnn (List.getElem_mem hi2)
          rw [List.getElem_set_ne hij] at h3
          rw [h3.1, (lookQ_at h.names hq).1]
        · have hno : ∀ q ∈ Q, q.nm ≠ n := fun q hq e => hex ⟨q, hq, e⟩
          rw [(lookQ_no hno).1]
          refine (lookQ_no fun q hq e2 => ?_).1
          obtain ⟨i, hi, rfl⟩ := List.getElem_of_mem hq
          rw [List.length_set] at hi
          rw [List.getElem_set] at e2
          split at e2
          · exact e e2.symm
          · exact hno _ (List.getElem_mem hi) e2

/-- Block b is an index: its maps are bp and bq. -/
structure IdxR (w : World) (base b bp bq : Nat) (S : List PE) (Q : List PQ) : Prop where
  box : w.heap[b]? = some (.cells #[.map (some bp), .map (some bq)] 72 (0, 0))
  mp : MapE w bp (.int .i64) (eS S)
  preds : ∀ k ∈ S, PredT base w k.h k.p
  parts : PartsR w base bq Q
  cont : ∀ nm, (lookQ Q nm).map pcK = partsOf (sS S) nm
theorem IdxR.ext (h : IdxR w base b bp bq S Q) (hx : Ext w w') : IdxR w' base b bp bq S Q :=
  ⟨block_later h.box hx, h.mp.ext hx, fun k hk => (h.preds k hk).ext hx, h.parts.ext hx, h.cont⟩
end Go.Proofs.YtckigoeomkphhaaGreat

namespace Go.Proofs.YtckigoeomkphhaaGreat

abbrev SP := List (Int × List C)
/-- L is S by rising numbers. -/
def RelSL (S L : SP) : Prop := L.Perm S ∧ L.Pairwise fun a b => a.1 < b.1
theorem RelSL.nil : RelSL [] [] := ⟨List.Perm.refl _, List.Pairwise.nil⟩
theorem RelSL.nodupL {S L : SP} (h : RelSL S L) : (L.map (·.1)).Nodup := List.pairwise_map.2 (h.2.imp fun h => by omega)
theorem RelSL.nodup {S L : SP} (h : RelSL S L) : (S.map (·.1)).Nodup := (h.1.map (·.1)).nodup_iff.1 h.nodupL
theorem RelSL.len {S L : SP} (h : RelSL S L) : L.length = S.length := h.1.length_eq
/-- At the first place whose number is not below. -/
structure AtSL (L : SP) (id : Int) (i : Nat) : Prop where
  le : i ≤ L.length
  low : ∀ j (hj : j < L.length), j < i → L[j].1 < id
  high : ∀ h : i < L.length, ¬ L[i].1 < id
theorem AtSL.take {L : SP} {id : Int} {i : Nat} (h : AtSL L id i) : ∀ x ∈ L.take i, x.1 < id := fun x hx => by
  obtain ⟨j, hj, rfl⟩ := List.getElem_of_mem hx
  rw [List.length_take] at hj
  rw [List.getElem_take]
  exact h.low j (by omega) (by omega)
theorem AtSL.drop {S L : SP} {id : Int} {i : Nat} (h : AtSL L id i) (hr : RelSL S L) : ∀ x ∈ L.drop i, ¬ x.1 < id := fun x hx => by
  obtain ⟨j, hj, rfl⟩ := List.getElem_of_mem hx
  rw [List.length_drop] at hj
  rw [List.getElem_drop]
  have h0 := h.high (by omega)
  rcases Nat.eq_zero_or_pos j with rfl | hj0
  · exact h0
  · have := List.pairwise_iff_getElem.1 hr.2 i (i + j) (by omega) (by omega) (by omega)
    omega
theorem AtSL.has {S L : SP} {id : Int} {i : Nat} (h : AtSL L id i) (hr : RelSL S L) : (∃ k ∈ S, k.1 = id) ↔ ∃ hi : i < L.length, L[i].1 = id := by
  constructor
  · rintro ⟨k, hk, rfl⟩
    have hk := hr.1.mem_iff.2 hk
    rw [← List.take_append_drop i L] at hk
    rcases List.mem_append.1 hk with hk | hk
    · have := h.take k hk; omega
    · have hi : i < L.length := by
        have := List.length_pos_of_mem hk
        rw [List.length_drop] at this; omega
      refine ⟨hi, ?_⟩
      rw [List.drop_eq_getElem_cons hi] at hk
      rcases List.mem_cons.1 hk with e | hk
      · rw [e]
      · obtain ⟨j, hj, e⟩ := List.getElem_of_mem hk
        rw [List.length_drop] at hj
        rw [List.getElem_drop] at e
        have h1 := List.pairwise_iff_getElem.1 hr.2 i (i + 1 + j) hi (by omega) (by omega)
        have h2 := h.high hi
        rw [e] at h1; omega
  · rintro ⟨hi, e⟩
    exact ⟨L[i], hr.1.mem_iff.1 (List.getElem_mem hi), e⟩
theorem RelSL.add {S L : SP} {id : Int} {i : Nat} (hr : RelSL S L) (h : AtSL L id i) (p : List C) (hn : ¬ ∃ k ∈ S, k.1 = id) : RelSL (S ++ [(id, p)]) (L.take i ++ (id, p) :: L.drop i) := by
  refine ⟨?_, ?_⟩
  · have h1 : (L.take i ++ (id, p) :: L.drop i).Perm ((id, p) :: (L.take i ++ L.drop i)) := List.perm_middle
    rw [List.take_append_drop] at h1
    exact h1.trans ((List.Perm.cons _ hr.1).trans (List.perm_append_singleton _ _).symm)
  · have hd := h.drop hr
    refine List.pairwise_append.2 ⟨hr.2.sublist (List.take_sublist _ _), List.pairwise_cons.2 ⟨fun x hx => ?_, hr.2.sublist (List.drop_sublist _ _)⟩, fun x hx y hy => ?_⟩
    · have h1 := hd x hx
      have h2 : x.1 ≠ id := fun e => hn ⟨x, hr.1.mem_iff.1 (List.mem_of_mem_drop hx), e⟩
      show id < x.1
      omega
    · have h1 := h.take x hx
      rcases List.mem_cons.1 hy with rfl | hy
      · exact h1
      · have := hd y hy; omega
theorem RelSL.del {S L : SP} {id : Int} {i : Nat} (hr : RelSL S L) (hi : i < L.length) (e : L[i].1 = id) : RelSL (S.filter fun k => !decide (k.1 = id)) (L.take i ++ L.drop (i + 1)) := by
  have hL : L.take i ++ L.drop (i + 1) = L.filter fun k => !decide (k.1 = id) := by
    have h1 : L = L.take i ++ (L[i] :: L.drop (i + 1)) := by rw [← List.drop_eq_getElem_cons hi, List.take_append_drop]
    have h2 : (L.take i).filter (fun k => !decide (k.1 = id)) = L.take i := List.filter_eq_self.2 fun x hx => by
      obtain ⟨j, hj, rfl⟩ := List.getElem_of_mem hx
      rw [List.length_take] at hj
      rw [List.getElem_take]
      have := List.pairwise_iff_getElem.1 hr.2 j i (by omega) hi (by omega)
      have : ¬ L[j].1 = id := by omega
      simp [this]
    have h3 : (L.drop (i + 1)).filter (fun k => !decide (k.1 = id)) = L.drop (i + 1) := List.filter_eq_self.2 fun x hx => by
      obtain ⟨j, hj, rfl⟩ := List.getElem_of_mem hx
      rw [List.length_drop] at hj
      rw [List.getElem_drop]
      have := List.pairwise_iff_getElem.1 hr.2 i (i + 1 + j) hi (by omega) (by omega)
      have : ¬ L[i + 1 + j].1 = id := by omega
      simp [this]
    conv => rhs; rw [h1]
    rw [List.filter_append, h2, List.filter_cons_of_neg (by simp [e]), h3]
  rw [hL]
  exact ⟨hr.1.filter _, hr.2.sublist List.filter_sublist⟩
theorem RelSL.ids {S L : SP} (hr : RelSL S L) {l : List Int} (hp : l.Perm (S.map (·.1))) (hs : l.Pairwise fun a b => a ≤ b) : l = L.map (·.1) := by
  have h2 : (L.map (·.1)).Pairwise fun a b => a ≤ b := List.pairwise_map.2 (hr.2.imp fun h => by omega)
  exact (hp.trans (hr.1.map _).symm).eq_of_pairwise (fun a b _ _ h1 h2 => by omega) hs h2
/-- What matches, by the counts of what was held. -/
theorem match_ids {S L : SP} (hr : RelSL S L) (l : List AT) (low : Int → Bool) (hlow : ∀ k ∈ S, low k.1 = decide (cntOf (pairsOf S l) k.1 < k.2.length)) : (L.map (·.1)).filter (fun id => !low id) = (L.filter fun k => matchP k.2 l).map (·.1) := by
  rw [List.filter_map]
  congr 1
  refine List.filter_congr fun k hk => ?_
  have hkS := hr.1.mem_iff.1 hk
  show (!low k.1) = _
  rw [hlow k hkS, cnt_match hr.nodup hkS, Bool.not_not]

/-! How many constraints are asked. -/
def asksN (l : List AT) (p : List C) : Nat := (p.filter fun c => l.any fun a => decide (a.1 = c.name)).length
theorem any_find (l : List AT) (nm : List UInt8) : (l.any fun a => decide (a.1 = nm)) = (l.find? fun a => decide (a.1 = nm)).isSome := by
  rw [Bool.eq_iff_iff, List.any_eq_true, List.find?_isSome]
theorem firsts_any (l : List AT) (nm : List UInt8) : ((firstsA l).any fun a => decide (a.1 = nm)) = l.any fun a => decide (a.1 = nm) := by
  rw [any_find, any_find, (firsts_inv l).2 nm]
theorem count_any {F : List AT} (h : F.Pairwise fun a b => a.1 ≠ b.1) (nm : List UInt8) : (F.filter fun a => decide (nm = a.1)).length = if (F.any fun a => decide (a.1 = nm)) then 1 else 0 := by
  induction F with
  | nil => rfl
  | cons a F ih =>
    obtain ⟨h1, h2⟩ := List.pairwise_cons.1 h
    rw [List.filter_cons, List.any_cons]
    by_cases e : nm = a.1
    · have hz : (F.filter fun a => decide (nm = a.1)) = [] := List.filter_eq_nil_iff.2 fun b hb => by
        have : ¬ nm = b.1 := fun k => h1 b hb (e.symm.trans k)
        simp [this]
      rw [hz]; simp [e]
    · have e2 : ¬ a.1 = nm := fun k => e k.symm
      rw [decide_eq_false e, decide_eq_false e2, Bool.false_or]
      simpa using ih h2
theorem asks_swap (F : List AT) (hF : F.Pairwise fun a b => a.1 ≠ b.1) : ∀ p : List C, (F.map fun a => (p.filter fun c => decide (c.name = a.1)).length).sum = (p.filter fun c => F.any fun a => decide (a.1 = c.name)).length
  | [] => by simp only [List.filter_nil, List.length_nil]; induction F with | nil => rfl | cons a F ih => simpa using ih (List.pairwise_cons.1 hF).2
  | c :: p => by
    have h0 : ∀ F : List AT, (F.map fun a => ((c :: p).filter fun c => decide (c.name = a.1)).length).sum = (F.filter fun a => decide (c.name = a.1)).length + (F.map fun a => (p.filter fun c => decide (c.name = a.1)).length).sum := fun F => by
      induction F with
      | nil => rfl
      | cons a F ih =>
        rw [List.map_cons, List.sum_cons, List.map_cons, List.sum_cons, ih, List.filter_cons, List.filter_cons]
        by_cases e : c.name = a.1 <;> simp [e] <;> omega
    rw [h0, count_any hF, asks_swap F hF p, List.filter_cons]
    cases (F.any fun a => decide (a.1 = c.name)) <;> simp <;> omega
theorem pairs_len (S : SP) (l : List AT) : (pairsOf S l).length = (S.map fun k => asksN l k.2).sum := by
  have hF := (firsts_inv l).1
  have h1 : (pairsOf S l).length = ((firstsA l).map fun a => (partsOf S a.1).length).sum := by
    unfold pairsOf pairsF
    rw [List.length_flatMap]
    congr 1
    exact List.map_congr_left fun a _ => by rw [List.length_map]
  rw [h1]
  clear h1
  induction S with
  | nil => show (List.map (fun _ => 0) _).sum = 0; induction (firstsA l) with | nil => rfl | cons a F ih => simpa using ih
  | cons k S ih =>
    rw [List.map_cons, List.sum_cons, ← ih]
    have e : ∀ nm, (partsOf (k :: S) nm).length = (k.2.filter fun c => decide (c.name = nm)).length + (partsOf S nm).length := fun nm => by
      show (partsOf ([k] ++ S) nm).length = _
      rw [partsOf_append, partsOf_one, List.length_append, List.length_map]
    have h2 : asksN l k.2 = ((firstsA l).map fun a => (k.2.filter fun c => decide (c.name = a.1)).length).sum := by
      rw [asks_swap _ hF]
      unfold asksN
      exact congrArg List.length (List.filter_congr fun c _ => (firsts_any l c.name).symm)
    rw [h2]
    clear ih hF h2
    induction (firstsA l) with
    | nil => rfl
    | cons a F ih =>
      simp only [List.map_cons, List.sum_cons]
      rw [e, ih]; omega
theorem looks_eq {S L : SP} (hr : RelSL S L) (l : List AT) : (pairsOf S l).length = (L.map fun k => asksN l k.2).sum := by
  rw [pairs_len]
  exact ((hr.1.map fun k => asksN l k.2).sum_nat).symm
theorem asksN_le (l : List AT) (p : List C) : asksN l p ≤ p.length := List.length_filter_le _ _
theorem pairs_le {S : SP} {m : Nat} (h : ∀ k ∈ S, k.2.length ≤ m) (l : List AT) : (pairsOf S l).length ≤ S.length * m := by
  rw [pairs_len]
  induction S with
  | nil => simp
  | cons k S ih =>
    rw [List.map_cons, List.sum_cons, List.length_cons, Nat.succ_mul]
    have h1 := asksN_le l k.2
    have h2 := h k List.mem_cons_self
    have h3 := ih fun x hx => h x (List.mem_cons_of_mem _ hx)
    omega
end Go.Proofs.YtckigoeomkphhaaGreat

namespace Go.Proofs.YtckigoeomkphhaaGreat
open Go.RowKit

/-- The first place at which p holds, or -1. -/
def idxP {α : Type} (p : α → Bool) (l : List α) : Int := match l.findIdx? p with | some i => (i : Int) | none => -1
theorem idxP_hit {α : Type} {p : α → Bool} {l : List α} {k : Nat} (hk : k < l.length) (h : ∀ x ∈ l.take k, p x = false) (e : p l[k] = true) : idxP p l = k := by
  have : l.findIdx? p = some k := by
    rw [List.findIdx?_eq_some_iff_getElem]
    refine ⟨hk, e, fun j hj => ?_⟩
    have := h l[j] (by rw [List.mem_take_iff_getElem]; exact ⟨j, by omega, rfl⟩)
    rw [this]; simp
  unfold idxP; rw [this]
theorem idxP_miss {α : Type} {p : α → Bool} {l : List α} (h : ∀ x ∈ l, p x = false) : idxP p l = -1 := by
  have : l.findIdx? p = none := by
    rw [List.findIdx?_eq_none_iff]
    exact h
  unfold idxP; rw [this]
theorem idxP_any {α : Type} (p : α → Bool) (l : List α) : decide (0 ≤ idxP p l) = l.any p := by
  unfold idxP
  cases h : l.findIdx? p with
  | none =>
    rw [List.findIdx?_eq_none_iff] at h
    have : l.any p = false := List.any_eq_false.2 fun x hx => by rw [h x hx]; simp
    rw [this]; rfl
  | some i =>
    rw [List.findIdx?_eq_some_iff_getElem] at h
    obtain ⟨hi, e, _⟩ := h
    have : l.any p = true := List.any_eq_true.2 ⟨_, List.getElem_mem hi, e⟩
    rw [this]
    exact decide_eq_true (by show (0 : Int) ≤ (i : Int); omega)
theorem idxP_get {α : Type} (p : α → Bool) (l : List α) : (idxP p l = -1 ∧ l.find? p = none) ∨ ∃ (i : Nat) (hi : i < l.length), idxP p l = i ∧ l.find? p = some l[i] := by
  unfold idxP
  cases h : l.findIdx? p with
  | none =>
    rw [List.findIdx?_eq_none_iff] at h
    exact .inl ⟨rfl, List.find?_eq_none.2 fun x hx => by rw [h x hx]; simp⟩
  | some i =>
    rw [List.findIdx?_eq_some_iff_getElem] at h
    obtain ⟨hi, e, hb⟩ := h
    refine .inr ⟨i, hi, rfl, ?_⟩
    rw [List.find?_eq_some_iff_getElem]
    exact ⟨e, i, hi, rfl, fun j hj => by simpa using hb j hj⟩

set_option maxRecDepth 100000 in
set_option maxHeartbeats 2000000 in
theorem idxA_any (w : World) (v : Value) (l : List (List UInt8 × V)) (h : AttrR w v l) (g : Nat) (cb : Array Value) (p : List UInt8 × V → Bool) (eg : ∀ args w, (callFunc g args).run Tryz.prog w = .ok (.enter g args) w)
    (hc : ∀ (W : World) (x : List UInt8 × V) , Ext w W → x ∈ l → Calls Tryz.prog g (#[.agg #[.string (strOf x.1), .int .i64 x.2.k, .int .i64 x.2.n, .string (strOf x.2.s), .bool x.2.b]] ++ cb) W fun e W' => e = .returned (.bool (p x)) ∧ Ext W W') :
    Calls Tryz.prog 71 #[v, .func (.func g) #[] cb] w fun e w' => e = .returned (.int .i64 (idxP p l)) ∧ Ext w w' := by
  obtain ⟨a, cap, rfl, hcc, hm⟩ := Row.shape h
  unfold maxLen at hm
  generalize hn : l.length = n at *
  have HN := Lib.hid hn
  clear hn
  have HC := Lib.hid hc
  clear hc
  go_enter Tryz.func71, Tryz.ntmps71
  go_wp2_with fail
  go_loopw [5, 8] (fun _ i wr => ∃ k : Nat, k ≤ n ∧ i = .int .i64 k ∧ Hid (∀ x ∈ l.take k, p x = false) ∧ Ext w wr) (fun _ i _ => n - (intOf i).toNat)
  case atStart => exact ⟨0, Nat.zero_le _, rfl, (by show ∀ x ∈ l.take 0, _; simp), Ext.refl w⟩
  case round =>
    obtain ⟨k, hk, rfl, hall, hx⟩ := hrel
    by_cases hlt : k < n
    · have k1 : k < l.length := by rw [HN.out]; exact hlt
      have hI : decide ((k : Int) < (n : Int)) = true := decide_eq_true (by omega)
      have hext := h.ext hx
      obtain ⟨B1, o1, rfl, f0, f1, f2, f3, f4⟩ := AttrR.at hext k1
      have hcall := HC.out _ l[k] hx (List.getElem_mem k1)
      have hhit : p l[k] = true → idxP p l = k := fun e => idxP_hit k1 hall.out e
      have hnext : p l[k] = false → ∀ x ∈ l.take (k + 1), p x = false := fun e x hx => by
        rw [List.take_succ_eq_append_getElem k1] at hx
        rcases List.mem_append.1 hx with hx | hx
        · exact hall.out x hx
        · rw [List.mem_singleton.1 hx]; exact e
      generalize l[k] = x at *
      have HCALL := Lib.hid hcall
      clear hcall
      cases hq : p x with
      | true =>
        have hres := Lib.hid (hhit hq)
        have HQ := Lib.hid hq
        clear hhit hnext hq
        go_wp2_with (go_at_fn g; refine HCALL.out.mono ?_; rw [HQ.out]; rintro e w2 ⟨rfl, hx2⟩)
        go_ret
        exact ⟨by rw [hres.out]; rfl, hx.trans hx2⟩
      | false =>
        have hres := Lib.hid (hnext hq)
        have HQ := Lib.hid hq
        clear hhit hnext hq
        go_wp2_with (go_at_fn g; refine HCALL.out.mono ?_; rw [HQ.out]; rintro e w2 ⟨rfl, hx2⟩)
        go_roundw
        case rel => exact ⟨k + 1, hlt, by go_num, hres.out, hx.trans hx2⟩
        case measure => simp [intOf]; omega
    · obtain rfl : k = n := by omega
      have hI : decide ((k : Int) < (k : Int)) = false := decide_eq_false (by omega)
      have hres : Hid (idxP p l = -1) := by
        show _ = _
        refine idxP_miss fun x hx => hall.out x ?_
        rw [List.take_of_length_le (by rw [HN.out]; exact Nat.le_refl _)]; exact hx
      go_wp2_with fail
      go_ret
      exact ⟨by rw [hres.out]; rfl, hx⟩

set_option maxRecDepth 100000 in
set_option maxHeartbeats 2000000 in
theorem idxC_any (w : World) (v : Value) (l : List (C)) (h : PredR w v l) (g : Nat) (cb : Array Value) (p : C → Bool) (eg : ∀ args w, (callFunc g args).run Tryz.prog w = .ok (.enter g args) w)
    (hc : ∀ (W : World) (x : C) (sa : Option Addr) (sc : Nat) , Ext w W → x ∈ l → SetR W (.slice sa x.set.length sc) x.set → Calls Tryz.prog g (#[.agg #[.string (strOf x.name), .int .i64 x.op, .int .i64 x.v.k, .int .i64 x.v.n, .string (strOf x.v.s), .bool x.v.b, .slice sa x.set.length sc]] ++ cb) W fun e W' => e = .returned (.bool (p x)) ∧ Ext W W') :
    Calls Tryz.prog 67 #[v, .func (.func g) #[] cb] w fun e w' => e = .returned (.int .i64 (idxP p l)) ∧ Ext w w' := by
  obtain ⟨a, cap, rfl, hcc, hm⟩ := h.shape
  unfold maxLen at hm
  generalize hn : l.length = n at *
  have HN := Lib.hid hn
  clear hn
  have HC := Lib.hid hc
  clear hc
  go_enter Tryz.func67, Tryz.ntmps67
  go_wp2_with fail
  go_loopw [5, 8] (fun _ i wr => ∃ k : Nat, k ≤ n ∧ i = .int .i64 k ∧ Hid (∀ x ∈ l.take k, p x = false) ∧ Ext w wr) (fun _ i _ => n - (intOf i).toNat)
  case atStart => exact ⟨0, Nat.zero_le _, rfl, (by show ∀ x ∈ l.take 0, _; simp), Ext.refl w⟩
  case round =>
    obtain ⟨k, hk, rfl, hall, hx⟩ := hrel
    by_cases hlt : k < n
    · have k1 : k < l.length := by rw [HN.out]; exact hlt
      have hI : decide ((k : Int) < (n : Int)) = true := decide_eq_true (by omega)
      have hext := h.ext hx
      obtain ⟨B1, o1, sa, sc, rfl, f0, f1, f2, f3, f4, f5, f6, hs⟩ := PredR.at hext k1
      have hcall := HC.out _ l[k] sa sc hx (List.getElem_mem k1) hs
      have hhit : p l[k] = true → idxP p l = k := fun e => idxP_hit k1 hall.out e
      have hnext : p l[k] = false → ∀ x ∈ l.take (k + 1), p x = false := fun e x hx => by
        rw [List.take_succ_eq_append_getElem k1] at hx
        rcases List.mem_append.1 hx with hx | hx
        · exact hall.out x hx
        · rw [List.mem_singleton.1 hx]; exact e
      generalize l[k] = x at *
      have HCALL := Lib.hid hcall
      clear hcall
      cases hq : p x with
      | true =>
        have hres := Lib.hid (hhit hq)
        have HQ := Lib.hid hq
        clear hhit hnext hq
        go_wp2_with (go_at_fn g; refine HCALL.out.mono ?_; rw [HQ.out]; rintro e w2 ⟨rfl, hx2⟩)
        go_ret
        exact ⟨by rw [hres.out]; rfl, hx.trans hx2⟩
      | false =>
        have hres := Lib.hid (hnext hq)
        have HQ := Lib.hid hq
        clear hhit hnext hq
        go_wp2_with (go_at_fn g; refine HCALL.out.mono ?_; rw [HQ.out]; rintro e w2 ⟨rfl, hx2⟩)
        go_roundw
        case rel => exact ⟨k + 1, hlt, by go_num, hres.out, hx.trans hx2⟩
        case measure => simp [intOf]; omega
    · obtain rfl : k = n := by omega
      have hI : decide ((k : Int) < (k : Int)) = false := decide_eq_false (by omega)
      have hres : Hid (idxP p l = -1) := by
        show _ = _
        refine idxP_miss fun x hx => hall.out x ?_
        rw [List.take_of_length_le (by rw [HN.out]; exact Nat.le_refl _)]; exact hx
      go_wp2_with fail
      go_ret
      exact ⟨by rw [hres.out]; rfl, hx⟩

set_option maxRecDepth 100000 in
set_option maxHeartbeats 2000000 in
theorem hasC_any (w : World) (v : Value) (l : List (C)) (h : PredR w v l) (g : Nat) (cb : Array Value) (p : C → Bool) (eg : ∀ args w, (callFunc g args).run Tryz.prog w = .ok (.enter g args) w)
    (hc : ∀ (W : World) (x : C) (sa : Option Addr) (sc : Nat) , Ext w W → x ∈ l → SetR W (.slice sa x.set.length sc) x.set → Calls Tryz.prog g (#[.agg #[.string (strOf x.name), .int .i64 x.op, .int .i64 x.v.k, .int .i64 x.v.n, .string (strOf x.v.s), .bool x.v.b, .slice sa x.set.length sc]] ++ cb) W fun e W' => e = .returned (.bool (p x)) ∧ Ext W W') :
    Calls Tryz.prog 44 #[v, .func (.func g) #[] cb] w fun e w' => e = .returned (.bool (l.any p)) ∧ Ext w w' := by
  have hcon := idxC_any w v l h g cb p eg hc
  have hb := Lib.hid (idxP_any p l)
  clear hc
  generalize idxP p l = i at *
  obtain ⟨a, cap, rfl, hcc, hm⟩ := h.shape
  go_enter Tryz.func44, Tryz.ntmps44
  go_wp2_with (go_at_call 67; refine hcon.mono ?_; rintro e w' ⟨rfl, hx⟩)
  go_ret
  exact ⟨by rw [hb.out]; rfl, hx⟩

set_option maxRecDepth 100000 in
set_option maxHeartbeats 2000000 in
theorem idxV_any (w : World) (v : Value) (l : List (V)) (h : SetR w v l) (g : Nat) (cb : Array Value) (p : V → Bool) (eg : ∀ args w, (callFunc g args).run Tryz.prog w = .ok (.enter g args) w)
    (hc : ∀ (W : World) (x : V) , Ext w W → x ∈ l → Calls Tryz.prog g (#[.agg #[.int .i64 x.k, .int .i64 x.n, .string (strOf x.s), .bool x.b]] ++ cb) W fun e W' => e = .returned (.bool (p x)) ∧ Ext W W') :
    Calls Tryz.prog 106 #[v, .func (.func g) #[] cb] w fun e w' => e = .returned (.int .i64 (idxP p l)) ∧ Ext w w' := by
  obtain ⟨a, cap, rfl, hcc, hm⟩ := Row.shape h
  unfold maxLen at hm
  generalize hn : l.length = n at *
  have HN := Lib.hid hn
  clear hn
  have HC := Lib.hid hc
  clear hc
  go_enter Tryz.func106, Tryz.ntmps106
  go_wp2_with fail
  go_loopw [5, 8] (fun _ i wr => ∃ k : Nat, k ≤ n ∧ i = .int .i64 k ∧ Hid (∀ x ∈ l.take k, p x = false) ∧ Ext w wr) (fun _ i _ => n - (intOf i).toNat)
  case atStart => exact ⟨0, Nat.zero_le _, rfl, (by show ∀ x ∈ l.take 0, _; simp), Ext.refl w⟩
  case round =>
    obtain ⟨k, hk, rfl, hall, hx⟩ := hrel
    by_cases hlt : k < n
    · have k1 : k < l.length := by rw [HN.out]; exact hlt
      have hI : decide ((k : Int) < (n : Int)) = true := decide_eq_true (by omega)
      have hext := h.ext hx
      obtain ⟨B1, o1, rfl, f0, f1, f2, f3⟩ := SetR.at hext k1
      have hcall := HC.out _ l[k] hx (List.getElem_mem k1)
      have hhit : p l[k] = true → idxP p l = k := fun e => idxP_hit k1 hall.out e
      have hnext : p l[k] = false → ∀ x ∈ l.take (k + 1), p x = false := fun e x hx => by
        rw [List.take_succ_eq_append_getElem k1] at hx
        rcases List.mem_append.1 hx with hx | hx
        · exact hall.out x hx
        · rw [List.mem_singleton.1 hx]; exact e
      generalize l[k] = x at *
      have HCALL := Lib.hid hcall
      clear hcall
      cases hq : p x with
      | true =>
        have hres := Lib.hid (hhit hq)
        have HQ := Lib.hid hq
        clear hhit hnext hq
        go_wp2_with (go_at_fn g; refine HCALL.out.mono ?_; rw [HQ.out]; rintro e w2 ⟨rfl, hx2⟩)
        go_ret
        exact ⟨by rw [hres.out]; rfl, hx.trans hx2⟩
      | false =>
        have hres := Lib.hid (hnext hq)
        have HQ := Lib.hid hq
        clear hhit hnext hq
        go_wp2_with (go_at_fn g; refine HCALL.out.mono ?_; rw [HQ.out]; rintro e w2 ⟨rfl, hx2⟩)
        go_roundw
        case rel => exact ⟨k + 1, hlt, by go_num, hres.out, hx.trans hx2⟩
        case measure => simp [intOf]; omega
    · obtain rfl : k = n := by omega
      have hI : decide ((k : Int) < (k : Int)) = false := decide_eq_false (by omega)
      have hres : Hid (idxP p l = -1) := by
        show _ = _
        refine idxP_miss fun x hx => hall.out x ?_
        rw [List.take_of_length_le (by rw [HN.out]; exact Nat.le_refl _)]; exact hx
      go_wp2_with fail
      go_ret
      exact ⟨by rw [hres.out]; rfl, hx⟩

set_option maxRecDepth 100000 in
set_option maxHeartbeats 2000000 in
theorem hasV_any (w : World) (v : Value) (l : List (V)) (h : SetR w v l) (g : Nat) (cb : Array Value) (p : V → Bool) (eg : ∀ args w, (callFunc g args).run Tryz.prog w = .ok (.enter g args) w)
    (hc : ∀ (W : World) (x : V) , Ext w W → x ∈ l → Calls Tryz.prog g (#[.agg #[.int .i64 x.k, .int .i64 x.n, .string (strOf x.s), .bool x.b]] ++ cb) W fun e W' => e = .returned (.bool (p x)) ∧ Ext W W') :
    Calls Tryz.prog 68 #[v, .func (.func g) #[] cb] w fun e w' => e = .returned (.bool (l.any p)) ∧ Ext w w' := by
  have hcon := idxV_any w v l h g cb p eg hc
  have hb := Lib.hid (idxP_any p l)
  clear hc
  generalize idxP p l = i at *
  obtain ⟨a, cap, rfl, hcc, hm⟩ := Row.shape h
  go_enter Tryz.func68, Tryz.ntmps68
  go_wp2_with (go_at_call 106; refine hcon.mono ?_; rintro e w' ⟨rfl, hx⟩)
  go_ret
  exact ⟨by rw [hb.out]; rfl, hx⟩

end Go.Proofs.YtckigoeomkphhaaGreat
