/- The reference's whole, Order, Compare, Same (pneumaticref04).
The reference's Order, Compare, Same (pneumaticref04).
The reference's Compare, Same (pneumaticref04).
A table of ads (23): calls in the law's words; two ads the same; a constraint of a number.
The law's wakes (23).
A table of ads (23): a call of any kind; the law's table.
The law's table (23). -/
import Derived.Deep.QuietTactic
import Derived.BigQuiet
import Derived.Test.YtabegbelkfhbcaaGreatPk2
import Derived.Test.YtabegbelkfhbcaaGreatPk4
import Derived.Test.YtabegbelkfhbcaaGreatPk12
import Derived.Test.YtabegbelkfhbcaaGreatPk3
namespace Go.Proofs.YtabegbelkfhbcaaGreat
open Go.RowKit

set_option maxRecDepth 100000 in
set_option maxHeartbeats 8000000 in
theorem rwhole_any (w : World) (a b : V) :
    Calls Tryz.prog 105 #[.agg #[.int .i64 a.k, .int .i64 a.n, .string (strOf a.s), .bool a.b], .agg #[.int .i64 b.k, .int .i64 b.n, .string (strOf b.s), .bool b.b]] w fun e w' => e = .returned (.int .i64 (wholeV a b)) ∧ Grew w w' := by
  obtain ⟨hx0, hb1, hb2⟩ := boxes2 w (.cells #[.int .i64 a.k, .int .i64 a.n, .string (strOf a.s), .bool a.b] 50) (.cells #[.int .i64 b.k, .int .i64 b.n, .string (strOf b.s), .bool b.b] 50)
  have hg0 : Grew w ((w.alloc (.cells #[.int .i64 a.k, .int .i64 a.n, .string (strOf a.s), .bool a.b] 50)).alloc (.cells #[.int .i64 b.k, .int .i64 b.n, .string (strOf b.s), .bool b.b] 50)) := ((Grew.refl w).alloc _).alloc _
  have h1 : ∀ W, Calls Tryz.prog 137 #[.agg #[.int .i64 a.k, .int .i64 a.n, .string (strOf a.s), .bool a.b], .agg #[.int .i64 b.k, .int .i64 b.n, .string (strOf b.s), .bool b.b]] W fun e w' => e = .returned (.int .i64 (cmpV a b)) ∧ Grew W w' := fun W => rcompare_any W a.k a.n b.k b.n a.s b.s a.b b.b
  have h2 : ∀ W, Calls Tryz.prog 137 #[.agg #[.int .i64 1, .int .i64 a.n, .string ⟨#[]⟩, .bool false], .agg #[.int .i64 1, .int .i64 b.n, .string ⟨#[]⟩, .bool false]] W fun e w' => e = .returned (.int .i64 (Lib.compareInt a.n b.n)) ∧ Grew W w' := fun W => rcompare_any W 1 a.n 1 b.n [] [] false false
  have h3 : ∀ W, Calls Tryz.prog 137 #[.agg #[.int .i64 2, .int .i64 0, .string (strOf a.s), .bool false], .agg #[.int .i64 2, .int .i64 0, .string (strOf b.s), .bool false]] W fun e w' => e = .returned (.int .i64 (Lib.compareBytes a.s b.s)) ∧ Grew W w' := fun W => rcompare_any W 2 0 2 0 a.s b.s false false
  have h4 : ∀ W, Calls Tryz.prog 137 #[.agg #[.int .i64 3, .int .i64 0, .string ⟨#[]⟩, .bool a.b], .agg #[.int .i64 3, .int .i64 0, .string ⟨#[]⟩, .bool b.b]] W fun e w' => e = .returned (.int .i64 (cmpB a.b b.b)) ∧ Grew W w' := fun W => rcompare_any W 3 0 3 0 [] [] a.b b.b
  have H1 := Lib.hid h1
  have H2 := Lib.hid h2
  have H3 := Lib.hid h3
  have H4 := Lib.hid h4
  have HB1 := Lib.hid hb1
  have HB2 := Lib.hid hb2
  have HG0 := Lib.hid hg0
  have a0 := cell_of_row _ _ 0 _ _ _ hb1
  have a1 := cell_of_row _ _ 1 _ _ _ hb1
  have a2 := cell_of_row _ _ 2 _ _ _ hb1
  have a3 := cell_of_row _ _ 3 _ _ _ hb1
  have b0 := cell_of_row _ _ 0 _ _ _ hb2
  have b1 := cell_of_row _ _ 1 _ _ _ hb2
  have b2 := cell_of_row _ _ 2 _ _ _ hb2
  have b3 := cell_of_row _ _ 3 _ _ _ hb2
  clear h1 h2 h3 h4 hx0 hb1 hb2 hg0
  have hw : wholeV a b = if cmpV a b = 0 then (if Lib.compareInt a.n b.n = 0 then (if Lib.compareBytes a.s b.s = 0 then cmpB a.b b.b else Lib.compareBytes a.s b.s) else Lib.compareInt a.n b.n) else cmpV a b := rfl
  rw [hw]
  clear hw
  generalize cmpV a b = r1 at *
  generalize Lib.compareInt a.n b.n = r2 at *
  generalize Lib.compareBytes a.s b.s = r3 at *
  generalize cmpB a.b b.b = r4 at *
  by_cases z1 : r1 = 0
  · subst z1
    by_cases z2 : r2 = 0
    · subst z2
      by_cases z3 : r3 = 0
      · subst z3
        rw [if_pos rfl, if_pos rfl, if_pos rfl]
        go_enter Tryz.func105, Tryz.ntmps105
        go_upto_region 1 with fail
        generalize (w.alloc (.cells #[.int .i64 a.k, .int .i64 a.n, .string (strOf a.s), .bool a.b] 50)).alloc (.cells #[.int .i64 b.k, .int .i64 b.n, .string (strOf b.s), .bool b.b] 50) = w0 at *
        have HX0 : Hid (Grew w0 w0) := Grew.refl w0
        go_upto_region 2 with (go_at_call 137; (with_reducible refine (H1.out _).mono ?_); rintro e w1 ⟨rfl, hx⟩; have HX1 := Lib.hid (HX0.out.trans hx); clear hx)
        have a1' := HX1.out.1.cell a1
        have b1' := HX1.out.1.cell b1
        go_upto_region 5 with (go_at_call 137; (with_reducible refine (H2.out _).mono ?_); rintro e w2 ⟨rfl, hx⟩; have HX2 := Lib.hid (HX1.out.trans hx); clear hx)
        have a2' := HX2.out.1.cell a2
        have b2' := HX2.out.1.cell b2
        go_upto_region 8 with (go_at_call 137; (with_reducible refine (H3.out _).mono ?_); rintro e w3 ⟨rfl, hx⟩; have HX3 := Lib.hid (HX2.out.trans hx); clear hx)
        have a3' := HX3.out.1.cell a3
        have b3' := HX3.out.1.cell b3
        go_wp2_with (go_at_call 137; (with_reducible refine (H4.out _).mono ?_); rintro e w4 ⟨rfl, hx⟩; have HX4 := Lib.hid (HX3.out.trans hx); clear hx)
        go_ret
        exact ⟨rfl, HG0.out.trans HX4.out⟩
      · have d3 := beq_int_ne z3
        have d3' : (r3 != 0) = true := by simp [z3]
        rw [if_pos rfl, if_pos rfl, if_neg z3]
        clear z3
        go_enter Tryz.func105, Tryz.ntmps105
        go_upto_region 1 with fail
        generalize (w.alloc (.cells #[.int .i64 a.k, .int .i64 a.n, .string (strOf a.s), .bool a.b] 50)).alloc (.cells #[.int .i64 b.k, .int .i64 b.n, .string (strOf b.s), .bool b.b] 50) = w0 at *
        have HX0 : Hid (Grew w0 w0) := Grew.refl w0
        go_upto_region 2 with (go_at_call 137; (with_reducible refine (H1.out _).mono ?_); rintro e w1 ⟨rfl, hx⟩; have HX1 := Lib.hid (HX0.out.trans hx); clear hx)
        have a1' := HX1.out.1.cell a1
        have b1' := HX1.out.1.cell b1
        go_upto_region 5 with (go_at_call 137; (with_reducible refine (H2.out _).mono ?_); rintro e w2 ⟨rfl, hx⟩; have HX2 := Lib.hid (HX1.out.trans hx); clear hx)
        have a2' := HX2.out.1.cell a2
        have b2' := HX2.out.1.cell b2
        go_wp2_with (go_at_call 137; (with_reducible refine (H3.out _).mono ?_); rintro e w3 ⟨rfl, hx⟩; have HX3 := Lib.hid (HX2.out.trans hx); clear hx)
        go_ret
        exact ⟨rfl, HG0.out.trans HX3.out⟩
    · have d2 := beq_int_ne z2
      have d2' : (r2 != 0) = true := by simp [z2]
      rw [if_pos rfl, if_neg z2]
      clear z2
      go_enter Tryz.func105, Tryz.ntmps105
      go_upto_region 1 with fail
      generalize (w.alloc (.cells #[.int .i64 a.k, .int .i64 a.n, .string (strOf a.s), .bool a.b] 50)).alloc (.cells #[.int .i64 b.k, .int .i64 b.n, .string (strOf b.s), .bool b.b] 50) = w0 at *
      have HX0 : Hid (Grew w0 w0) := Grew.refl w0
      go_upto_region 2 with (go_at_call 137; (with_reducible refine (H1.out _).mono ?_); rintro e w1 ⟨rfl, hx⟩; have HX1 := Lib.hid (HX0.out.trans hx); clear hx)
      have a1' := HX1.out.1.cell a1
      have b1' := HX1.out.1.cell b1
      go_wp2_with (go_at_call 137; (with_reducible refine (H2.out _).mono ?_); rintro e w2 ⟨rfl, hx⟩; have HX2 := Lib.hid (HX1.out.trans hx); clear hx)
      go_ret
      exact ⟨rfl, HG0.out.trans HX2.out⟩
  · have d1 := beq_int_ne z1
    have d1' : (r1 != 0) = true := by simp [z1]
    rw [if_neg z1]
    clear z1
    go_enter Tryz.func105, Tryz.ntmps105
    go_upto_region 1 with fail
    generalize (w.alloc (.cells #[.int .i64 a.k, .int .i64 a.n, .string (strOf a.s), .bool a.b] 50)).alloc (.cells #[.int .i64 b.k, .int .i64 b.n, .string (strOf b.s), .bool b.b] 50) = w0 at *
    have HX0 : Hid (Grew w0 w0) := Grew.refl w0
    go_wp2_with (go_at_call 137; (with_reducible refine (H1.out _).mono ?_); rintro e w1 ⟨rfl, hx⟩; have HX1 := Lib.hid (HX0.out.trans hx); clear hx)
    go_ret
    exact ⟨rfl, HG0.out.trans HX1.out⟩
end Go.Proofs.YtabegbelkfhbcaaGreat

namespace Go.Proofs.YtabegbelkfhbcaaGreat
open Go.RowKit

theorem cmpI_cases (x y : Int) : (Lib.compareInt x y = -1 ∧ decide (x < y) = true ∧ (x == y) = false) ∨ (x = y ∧ Lib.compareInt x y = 0) ∨ (Lib.compareInt x y = 1 ∧ decide (x < y) = false ∧ (x == y) = false) := by
  unfold Lib.compareInt
  by_cases h1 : x < y
  · exact .inl ⟨by rw [if_pos h1], decide_eq_true h1, beq_eq_false_iff_ne.2 (by omega)⟩
  · by_cases h2 : x > y
    · exact .inr (.inr ⟨by rw [if_neg h1, if_pos h2], decide_eq_false h1, beq_eq_false_iff_ne.2 (by omega)⟩)
    · exact .inr (.inl ⟨by omega, by rw [if_neg h1, if_neg h2]⟩)

set_option maxRecDepth 100000 in
set_option maxHeartbeats 16000000 in
theorem rorder_any (w : World) (a b : C) (sa : Option Addr) (ca : Nat) (sb : Option Addr) (cb : Nat) (ha : SetR w (.slice sa a.set.length ca) a.set) (hb : SetR w (.slice sb b.set.length cb) b.set) :
    Calls Tryz.prog 73 #[.agg #[.string (strOf a.name), .int .i64 a.op, .int .i64 a.v.k, .int .i64 a.v.n, .string (strOf a.v.s), .bool a.v.b, .slice sa a.set.length ca], .agg #[.string (strOf b.name), .int .i64 b.op, .int .i64 b.v.k, .int .i64 b.v.n, .string (strOf b.v.s), .bool b.v.b, .slice sb b.set.length cb]] w fun e w' => e = .returned (.int .i64 (orderC a b)) ∧ Ext w w' := by
  obtain ⟨hx0, hb1, hb2⟩ := boxes2 w (.cells #[.string (strOf a.name), .int .i64 a.op, .int .i64 a.v.k, .int .i64 a.v.n, .string (strOf a.v.s), .bool a.v.b, .slice sa a.set.length ca] 53) (.cells #[.string (strOf b.name), .int .i64 b.op, .int .i64 b.v.k, .int .i64 b.v.n, .string (strOf b.v.s), .bool b.v.b, .slice sb b.set.length cb] 53)
  have hres : orderC a b = if Lib.compareBytes a.name b.name = 0 then (if Lib.compareInt a.op b.op = 0 then (if wholeV a.v b.v = 0 then cmpL wholeV a.set b.set else wholeV a.v b.v) else Lib.compareInt a.op b.op) else Lib.compareBytes a.name b.name := rfl
  rw [hres]
  clear hres
  obtain ⟨hc1, hm1⟩ : a.set.length ≤ ca ∧ ca ≤ maxLen := by obtain ⟨a', c', e, h1, h2⟩ := Row.shape ha; cases e; exact ⟨h1, h2⟩
  obtain ⟨hc2, hm2⟩ : b.set.length ≤ cb ∧ cb ≤ maxLen := by obtain ⟨a', c', e, h1, h2⟩ := Row.shape hb; cases e; exact ⟨h1, h2⟩
  unfold maxLen at hm1 hm2
  have HA := Lib.hid (SetR.ext ha hx0)
  have HB := Lib.hid (SetR.ext hb hx0)
  have HX0 := Lib.hid hx0
  have HWH : Hid (∀ W, Calls Tryz.prog 105 #[.agg #[.int .i64 a.v.k, .int .i64 a.v.n, .string (strOf a.v.s), .bool a.v.b], .agg #[.int .i64 b.v.k, .int .i64 b.v.n, .string (strOf b.v.s), .bool b.v.b]] W fun e w' => e = .returned (.int .i64 (wholeV a.v b.v)) ∧ Grew W w') := fun W => rwhole_any W a.v b.v
  have a0 := cell_of_row _ _ 0 _ _ _ hb1
  have a1 := cell_of_row _ _ 1 _ _ _ hb1
  have a2 := cell_of_row _ _ 2 _ _ _ hb1
  have a3 := cell_of_row _ _ 3 _ _ _ hb1
  have a4 := cell_of_row _ _ 4 _ _ _ hb1
  have a5 := cell_of_row _ _ 5 _ _ _ hb1
  have a6 := cell_of_row _ _ 6 _ _ _ hb1
  have b0 := cell_of_row _ _ 0 _ _ _ hb2
  have b1 := cell_of_row _ _ 1 _ _ _ hb2
  have b2 := cell_of_row _ _ 2 _ _ _ hb2
  have b3 := cell_of_row _ _ 3 _ _ _ hb2
  have b4 := cell_of_row _ _ 4 _ _ _ hb2
  have b5 := cell_of_row _ _ 5 _ _ _ hb2
  have b6 := cell_of_row _ _ 6 _ _ _ hb2
  clear ha hb hx0 hb1 hb2
  rcases bytes_cases a.name b.name with ⟨e1, e2, e3⟩ | ⟨e1, e2, e3⟩ | ⟨e1, e2, e3⟩
  · rw [e1, if_neg (by decide)]
    have e4 : (a.name != b.name) = true := by rw [bne, e3]; rfl
    go_enter Tryz.func73, Tryz.ntmps73
    go_upto_region 1 with fail
    generalize (w.alloc (.cells #[.string (strOf a.name), .int .i64 a.op, .int .i64 a.v.k, .int .i64 a.v.n, .string (strOf a.v.s), .bool a.v.b, .slice sa a.set.length ca] 53)).alloc (.cells #[.string (strOf b.name), .int .i64 b.op, .int .i64 b.v.k, .int .i64 b.v.n, .string (strOf b.v.s), .bool b.v.b, .slice sb b.set.length cb] 53) = w0 at *
    go_wp2_with fail
    go_ret
    exact ⟨rfl, HX0.out⟩
  · rw [e2, if_pos rfl]
    have e4 : (a.name == b.name) = true := by rw [e1]; exact beq_self_eq_true _
    have e5 : (a.name != b.name) = false := by rw [bne, e4]; rfl
    clear e1 e2 e3
    rcases cmpI_cases a.op b.op with ⟨g1, g2, g3⟩ | ⟨g1, g2⟩ | ⟨g1, g2, g3⟩
    · rw [g1, if_neg (by decide)]
      have g4 : (a.op != b.op) = true := by rw [bne, g3]; rfl
      go_enter Tryz.func73, Tryz.ntmps73
      go_upto_region 1 with fail
      generalize (w.alloc (.cells #[.string (strOf a.name), .int .i64 a.op, .int .i64 a.v.k, .int .i64 a.v.n, .string (strOf a.v.s), .bool a.v.b, .slice sa a.set.length ca] 53)).alloc (.cells #[.string (strOf b.name), .int .i64 b.op, .int .i64 b.v.k, .int .i64 b.v.n, .string (strOf b.v.s), .bool b.v.b, .slice sb b.set.length cb] 53) = w0 at *
      go_wp2_with fail
      go_ret
      exact ⟨rfl, HX0.out⟩
    · rw [g2, if_pos rfl]
      have g3 : (a.op == b.op) = true := by rw [g1]; exact beq_self_eq_true _
      have g4 : (a.op != b.op) = false := by rw [bne, g3]; rfl
      clear g1 g2
      generalize wholeV a.v b.v = r3 at *
      by_cases z3 : r3 = 0
      · subst z3
        rw [if_pos rfl]
        generalize hn1 : a.set.length = n1 at *
        generalize hn2 : b.set.length = n2 at *
        have HN1 := Lib.hid hn1
        have HN2 := Lib.hid hn2
        clear hn1 hn2
        go_enter Tryz.func73, Tryz.ntmps73
        go_upto_region 1 with fail
        generalize (w.alloc (.cells #[.string (strOf a.name), .int .i64 a.op, .int .i64 a.v.k, .int .i64 a.v.n, .string (strOf a.v.s), .bool a.v.b, .slice sa n1 ca] 53)).alloc (.cells #[.string (strOf b.name), .int .i64 b.op, .int .i64 b.v.k, .int .i64 b.v.n, .string (strOf b.v.s), .bool b.v.b, .slice sb n2 cb] 53) = w0 at *
        go_upto_region 12 with (go_at_call 105; (with_reducible refine (HWH.out _).mono ?_); rintro e w1 ⟨rfl, hx⟩; have HX1 := Lib.hid hx.1; clear hx)
        go_wp2_with fail
        go_loopw [6] (fun i wr => ∃ k : Nat, k ≤ n1 ∧ k ≤ n2 ∧ i = .int .i64 k ∧ Hid (cmpL wholeV (a.set.drop k) (b.set.drop k) = cmpL wholeV a.set b.set) ∧ Hid (Ext w0 wr)) (fun i _ => n1 - (intOf i).toNat)
        case atStart => exact ⟨0, Nat.zero_le _, Nat.zero_le _, rfl, rfl, HX1.out⟩
        case round =>
          clear HX1
          obtain ⟨k, hk, hkm, rfl, hcm, hx⟩ := hrel
          have q6 := hx.out.cell a6
          have p6 := hx.out.cell b6
          by_cases hlt : k < n1
          · have k1 : k < a.set.length := by rw [HN1.out]; exact hlt
            have hI : decide ((k : Int) < (n1 : Int)) = true := decide_eq_true (by omega)
            have hkN : (k : Int) < (n1 : Int) := by omega
            by_cases hlm : k < n2
            · have k2 : k < b.set.length := by rw [HN2.out]; exact hlm
              have hI2 : decide ((k : Int) < (n2 : Int)) = true := decide_eq_true (by omega)
              have hkM : (k : Int) < (n2 : Int) := by omega
              obtain ⟨B1, o1, rfl, f0, f1, f2, f3⟩ := SetR.at (SetR.ext HA.out hx.out) k1
              obtain ⟨B2, o2, rfl, g0, g1, g2, g3⟩ := SetR.at (SetR.ext HB.out hx.out) k2
              have hcall := fun W => rwhole_any W a.set[k] b.set[k]
              have hst : wholeV a.set[k] b.set[k] = 0 → cmpL wholeV (a.set.drop (k + 1)) (b.set.drop (k + 1)) = cmpL wholeV a.set b.set := fun h => by rw [← cmpL_step k1 k2 h, hcm.out]
              have hsp : wholeV a.set[k] b.set[k] ≠ 0 → cmpL wholeV a.set b.set = wholeV a.set[k] b.set[k] := fun h => by rw [← hcm.out, cmpL_stop k1 k2 h]
              have HCALL := Lib.hid hcall
              have HST := Lib.hid hst
              have HSP := Lib.hid hsp
              clear hcall hst hsp
              generalize a.set[k] = x at *
              generalize b.set[k] = y at *
              go_upto_region 15 with fail
              refine wp_region_facts [Fact.eq (.pointer (some ⟨w.heap.size, 6, none⟩)),
                  Fact.eq (.slice (some ⟨B1, o1, none⟩) n1 ca),
                  Fact.eq (.int .i64 k),
                  Fact.eq (.pointer (some ⟨B1, o1 + k * 4, none⟩)),
                  Fact.eq (.agg #[.int .i64 x.k, .int .i64 x.n, .string (strOf x.s), .bool x.b]),
                  Fact.eq (.pointer (some ⟨w.heap.size + 1, 6, none⟩)),
                  Fact.eq (.slice (some ⟨B2, o2, none⟩) n2 cb),
                  Fact.eq (.int .i64 k),
                  Fact.eq (.pointer (some ⟨B2, o2 + k * 4, none⟩)),
                  Fact.eq (.agg #[.int .i64 y.k, .int .i64 y.n, .string (strOf y.s), .bool y.b]),
                  Fact.eq (.int .i64 (wholeV x y)),
                  Fact.eq (.int .i64 (wholeV x y))]
                [[], [(0, 49)], [], [(1, 50), (2, 51)], [(3, 52)], [], [(5, 54)], [], [(6, 55), (7, 56)], [(8, 57)], [(4, 53), (9, 58)], [(10, 59)]]
                [(0, 49), (1, 50), (2, 51), (3, 52), (4, 53), (5, 54), (6, 55), (7, 56), (8, 57), (9, 58), (10, 59), (11, 5)] (by kernel_rfl) (by kernel_rfl) ?_ ?_
              · refine ⟨?_, ?_, ?_, ?_, ?_, ?_, ?_, ?_, ?_, ?_, ?_, ?_, trivial⟩
                · intro w1 hx1; change wpList _ _ _ _ _ _; go_wp2_with fail; exact ⟨rfl, Ext.refl _, rfl, rfl⟩
                · intro w1 hx1; rintro _ rfl; change wpList _ _ _ _ _ _; have m := hx1.cell q6; go_wp2_with fail; exact ⟨rfl, Ext.refl _, rfl, rfl⟩
                · intro w1 hx1; change wpList _ _ _ _ _ _; exact ob_move rfl rfl rfl rfl rfl
                · intro w1 hx1; rintro _ rfl; rintro _ rfl; change wpList _ _ _ _ _ _; go_wp2_with fail; exact ⟨rfl, Ext.refl _, rfl, rfl⟩
                · intro w1 hx1; rintro _ rfl; change wpList _ _ _ _ _ _; have m0 := hx1.cell f0; have m1 := hx1.cell f1; have m2 := hx1.cell f2; have m3 := hx1.cell f3; go_wp2_with fail; exact ⟨rfl, Ext.refl _, rfl, rfl⟩
                · intro w1 hx1; change wpList _ _ _ _ _ _; go_wp2_with fail; exact ⟨rfl, Ext.refl _, rfl, rfl⟩
                · intro w1 hx1; rintro _ rfl; change wpList _ _ _ _ _ _; have m := hx1.cell p6; go_wp2_with fail; exact ⟨rfl, Ext.refl _, rfl, rfl⟩
                · intro w1 hx1; change wpList _ _ _ _ _ _; exact ob_move rfl rfl rfl rfl rfl
                · intro w1 hx1; rintro _ rfl; rintro _ rfl; change wpList _ _ _ _ _ _; go_wp2_with fail; exact ⟨rfl, Ext.refl _, rfl, rfl⟩
                · intro w1 hx1; rintro _ rfl; change wpList _ _ _ _ _ _; have m0 := hx1.cell g0; have m1 := hx1.cell g1; have m2 := hx1.cell g2; have m3 := hx1.cell g3; go_wp2_with fail; exact ⟨rfl, Ext.refl _, rfl, rfl⟩
                · intro w1 hx1; rintro _ rfl; rintro _ rfl; change wpList _ _ _ _ _ _; go_wp2_with fail; (with_reducible refine (HCALL.out _).mono ?_); rintro e w2 ⟨rfl, hx2⟩; go_wp2_with fail; exact ⟨rfl, hx2.1, rfl, rfl⟩
                · intro w1 hx1; rintro _ rfl; change wpList _ _ _ _ _ _; exact ob_assign rfl rfl rfl rfl rfl
              · intro w1 hx1; rintro _ rfl; rintro _ rfl; rintro _ rfl; rintro _ rfl; rintro _ rfl; rintro _ rfl; rintro _ rfl; rintro _ rfl; rintro _ rfl; rintro _ rfl; rintro _ rfl; rintro _ rfl; refine depsThen_nil ?_; dsimp only; simp only [Act.put, List.setIfInBounds_toArray, List.set_cons_zero, List.set_cons_succ]
                have HX2 := Lib.hid (hx.out.trans hx1)
                clear q6 p6 f0 f1 f2 f3 g0 g1 g2 g3 hx1 hx HCALL
                by_cases hz : wholeV x y = 0
                · have hres := Lib.hid (HST.out hz)
                  rw [hz]
                  clear hz HST HSP
                  go_wp2_with fail
                  go_roundw
                  case rel => exact ⟨k + 1, hlt, hlm, by go_num, hres.out, HX2.out⟩
                  case measure => simp [intOf]; omega
                · have hres := Lib.hid (HSP.out hz)
                  have hd : (wholeV x y != 0) = true := by simp [hz]
                  have hd1 := beq_int_ne hz
                  clear HST HSP hz
                  generalize wholeV x y = r at *
                  go_wp2_with fail
                  go_ret
                  exact ⟨by rw [hres.out]; rfl, HX0.out.trans HX2.out⟩
            · obtain rfl : k = n2 := by omega
              have hI2 : decide ((k : Int) < (k : Int)) = false := decide_eq_false (by omega)
              have hI3 : decide ((n1 : Int) < (k : Int)) = false := decide_eq_false (by omega)
              have hres : Hid (cmpL wholeV a.set b.set = 1) := by show _ = _; rw [← hcm.out, cmpL_more k1 (by rw [HN2.out]; omega)]
              go_wp2_with fail
              go_ret
              exact ⟨by rw [hres.out]; rfl, HX0.out.trans hx.out⟩
          · obtain rfl : k = n1 := by omega
            have hI : decide ((k : Int) < (k : Int)) = false := decide_eq_false (by omega)
            by_cases hlm : k < n2
            · have hI2 : decide ((k : Int) < (n2 : Int)) = true := decide_eq_true (by omega)
              have hres : Hid (cmpL wholeV a.set b.set = -1) := by show _ = _; rw [← hcm.out, cmpL_less (by rw [HN1.out]; omega) (by rw [HN2.out]; exact hlm)]
              go_wp2_with fail
              go_ret
              exact ⟨by rw [hres.out]; rfl, HX0.out.trans hx.out⟩
            · obtain rfl : k = n2 := by omega
              have hres : Hid (cmpL wholeV a.set b.set = 0) := by show _ = _; rw [← hcm.out, cmpL_same (by rw [HN1.out]; omega) (by rw [HN2.out]; omega)]
              go_wp2_with fail
              go_ret
              exact ⟨by rw [hres.out]; rfl, HX0.out.trans hx.out⟩
      · have d3 := beq_int_ne z3
        have d3' : (r3 != 0) = true := by simp [z3]
        rw [if_neg z3]
        clear z3
        go_enter Tryz.func73, Tryz.ntmps73
        go_upto_region 1 with fail
        generalize (w.alloc (.cells #[.string (strOf a.name), .int .i64 a.op, .int .i64 a.v.k, .int .i64 a.v.n, .string (strOf a.v.s), .bool a.v.b, .slice sa a.set.length ca] 53)).alloc (.cells #[.string (strOf b.name), .int .i64 b.op, .int .i64 b.v.k, .int .i64 b.v.n, .string (strOf b.v.s), .bool b.v.b, .slice sb b.set.length cb] 53) = w0 at *
        go_wp2_with (go_at_call 105; (with_reducible refine (HWH.out _).mono ?_); rintro e w1 ⟨rfl, hx⟩; have HX1 := Lib.hid hx.1; clear hx)
        go_ret
        exact ⟨rfl, HX0.out.trans HX1.out⟩
    · rw [g1, if_neg (by decide)]
      have g4 : (a.op != b.op) = true := by rw [bne, g3]; rfl
      go_enter Tryz.func73, Tryz.ntmps73
      go_upto_region 1 with fail
      generalize (w.alloc (.cells #[.string (strOf a.name), .int .i64 a.op, .int .i64 a.v.k, .int .i64 a.v.n, .string (strOf a.v.s), .bool a.v.b, .slice sa a.set.length ca] 53)).alloc (.cells #[.string (strOf b.name), .int .i64 b.op, .int .i64 b.v.k, .int .i64 b.v.n, .string (strOf b.v.s), .bool b.v.b, .slice sb b.set.length cb] 53) = w0 at *
      go_wp2_with fail
      go_ret
      exact ⟨rfl, HX0.out⟩
  · rw [e1, if_neg (by decide)]
    have e4 : (a.name != b.name) = true := by rw [bne, e3]; rfl
    go_enter Tryz.func73, Tryz.ntmps73
    go_upto_region 1 with fail
    generalize (w.alloc (.cells #[.string (strOf a.name), .int .i64 a.op, .int .i64 a.v.k, .int .i64 a.v.n, .string (strOf a.v.s), .bool a.v.b, .slice sa a.set.length ca] 53)).alloc (.cells #[.string (strOf b.name), .int .i64 b.op, .int .i64 b.v.k, .int .i64 b.v.n, .string (strOf b.v.s), .bool b.v.b, .slice sb b.set.length cb] 53) = w0 at *
    go_wp2_with fail
    go_ret
    exact ⟨rfl, HX0.out⟩
end Go.Proofs.YtabegbelkfhbcaaGreat

namespace Go.Proofs.YtabegbelkfhbcaaGreat
open Go.RowKit

set_option maxRecDepth 100000 in
set_option maxHeartbeats 16000000 in
theorem rpcompare_any (w : World) (v1 v2 : Value) (p q : List C) (h1 : PredR w v1 p) (h2 : PredR w v2 q) :
    Calls Tryz.prog 48 #[v1, v2] w fun e w' => e = .returned (.int .i64 (cmpP p q)) ∧ Ext w w' := by
  obtain ⟨a1, ca, rfl, hc1, hm1⟩ := h1.shape
  obtain ⟨a2, cb, rfl, hc2, hm2⟩ := h2.shape
  unfold maxLen at hm1 hm2
  have HA := Lib.hid h1
  have HB := Lib.hid h2
  generalize hn1 : p.length = n1 at *
  generalize hn2 : q.length = n2 at *
  have HN1 := Lib.hid hn1
  have HN2 := Lib.hid hn2
  clear hn1 hn2 h1 h2
  unfold cmpP
  go_enter Tryz.func48, Tryz.ntmps48
  go_wp2_with fail
  go_loopw [5] (fun i wr => ∃ k : Nat, k ≤ n1 ∧ k ≤ n2 ∧ i = .int .i64 k ∧ Hid (cmpL orderC (p.drop k) (q.drop k) = cmpL orderC p q) ∧ Hid (Ext w wr)) (fun i _ => n1 - (intOf i).toNat)
  case atStart => exact ⟨0, Nat.zero_le _, Nat.zero_le _, rfl, rfl, Ext.refl w⟩
  case round =>
    obtain ⟨k, hk, hkm, rfl, hcm, hx⟩ := hrel
    by_cases hlt : k < n1
    · have k1 : k < p.length := by rw [HN1.out]; exact hlt
      have hI : decide ((k : Int) < (n1 : Int)) = true := decide_eq_true (by omega)
      have hkN : (k : Int) < (n1 : Int) := by omega
      by_cases hlm : k < n2
      · have k2 : k < q.length := by rw [HN2.out]; exact hlm
        have hI2 : decide ((k : Int) < (n2 : Int)) = true := decide_eq_true (by omega)
        have hkM : (k : Int) < (n2 : Int) := by omega
        obtain ⟨B1, o1, sa, sc, rfl, f0, f1, f2, f3, f4, f5, f6, fs⟩ := (HA.out.ext hx.out).at k1
        obtain ⟨B2, o2, ta, tc, rfl, g0, g1, g2, g3, g4, g5, g6, gs⟩ := (HB.out.ext hx.out).at k2
        have hst : orderC p[k] q[k] = 0 → cmpL orderC (p.drop (k + 1)) (q.drop (k + 1)) = cmpL orderC p q := fun h => by rw [← cmpL_step k1 k2 h, hcm.out]
        have hsp : orderC p[k] q[k] ≠ 0 → cmpL orderC p q = orderC p[k] q[k] := fun h => by rw [← hcm.out, cmpL_stop k1 k2 h]
        have HST := Lib.hid hst
        have HSP := Lib.hid hsp
        have FS := Lib.hid fs
        have GS := Lib.hid gs
        clear hst hsp fs gs
        generalize p[k] = x at *
        generalize q[k] = y at *
        go_upto_region 4 with fail
        refine wp_region_facts [Fact.eq (.slice (some ⟨B1, o1, none⟩) n1 ca),
            Fact.eq (.int .i64 k),
            Fact.eq (.pointer (some ⟨B1, o1 + k * 7, none⟩)),
            Fact.eq (.agg #[.string (strOf x.name), .int .i64 x.op, .int .i64 x.v.k, .int .i64 x.v.n, .string (strOf x.v.s), .bool x.v.b, .slice sa x.set.length sc]),
            Fact.eq (.slice (some ⟨B2, o2, none⟩) n2 cb),
            Fact.eq (.int .i64 k),
            Fact.eq (.pointer (some ⟨B2, o2 + k * 7, none⟩)),
            Fact.eq (.agg #[.string (strOf y.name), .int .i64 y.op, .int .i64 y.v.k, .int .i64 y.v.n, .string (strOf y.v.s), .bool y.v.b, .slice ta y.set.length tc]),
            Fact.eq (.int .i64 (orderC x y)),
            Fact.eq (.int .i64 (orderC x y))]
          [[], [], [(0, 19), (1, 20)], [(2, 21)], [], [], [(4, 23), (5, 24)], [(6, 25)], [(3, 22), (7, 26)], [(8, 27)]]
          [(0, 19), (1, 20), (2, 21), (3, 22), (4, 23), (5, 24), (6, 25), (7, 26), (8, 27), (9, 6)] (by kernel_rfl) (by kernel_rfl) ?_ ?_
        · refine ⟨?_, ?_, ?_, ?_, ?_, ?_, ?_, ?_, ?_, ?_, trivial⟩
          · intro w1 hx1; change wpList _ _ _ _ _ _; exact ob_move rfl rfl rfl rfl rfl
          · intro w1 hx1; change wpList _ _ _ _ _ _; exact ob_move rfl rfl rfl rfl rfl
          · intro w1 hx1; rintro _ rfl; rintro _ rfl; change wpList _ _ _ _ _ _; go_wp2_with fail; exact ⟨rfl, Ext.refl _, rfl, rfl⟩
          · intro w1 hx1; rintro _ rfl; change wpList _ _ _ _ _ _; have m0 := hx1.cell f0; have m1 := hx1.cell f1; have m2 := hx1.cell f2; have m3 := hx1.cell f3; have m4 := hx1.cell f4; have m5 := hx1.cell f5; have m6 := hx1.cell f6; go_wp2_with fail; exact ⟨rfl, Ext.refl _, rfl, rfl⟩
          · intro w1 hx1; change wpList _ _ _ _ _ _; exact ob_move rfl rfl rfl rfl rfl
          · intro w1 hx1; change wpList _ _ _ _ _ _; exact ob_move rfl rfl rfl rfl rfl
          · intro w1 hx1; rintro _ rfl; rintro _ rfl; change wpList _ _ _ _ _ _; go_wp2_with fail; exact ⟨rfl, Ext.refl _, rfl, rfl⟩
          · intro w1 hx1; rintro _ rfl; change wpList _ _ _ _ _ _; have m0 := hx1.cell g0; have m1 := hx1.cell g1; have m2 := hx1.cell g2; have m3 := hx1.cell g3; have m4 := hx1.cell g4; have m5 := hx1.cell g5; have m6 := hx1.cell g6; go_wp2_with fail; exact ⟨rfl, Ext.refl _, rfl, rfl⟩
          · intro w1 hx1; rintro _ rfl; rintro _ rfl; change wpList _ _ _ _ _ _; go_wp2_with fail; (with_reducible refine (rorder_any w1 x y sa sc ta tc (SetR.ext FS.out hx1) (SetR.ext GS.out hx1)).mono ?_); rintro e w2 ⟨rfl, hx2⟩; go_wp2_with fail; exact ⟨rfl, hx2, rfl, rfl⟩
          · intro w1 hx1; rintro _ rfl; change wpList _ _ _ _ _ _; exact ob_assign rfl rfl rfl rfl rfl
        · intro w1 hx1; rintro _ rfl; rintro _ rfl; rintro _ rfl; rintro _ rfl; rintro _ rfl; rintro _ rfl; rintro _ rfl; rintro _ rfl; rintro _ rfl; rintro _ rfl; refine depsThen_nil ?_; dsimp only; simp only [Act.put, List.setIfInBounds_toArray, List.set_cons_zero, List.set_cons_succ]
          have HX2 := Lib.hid (hx.out.trans hx1)
          clear f0 f1 f2 f3 f4 f5 f6 g0 g1 g2 g3 g4 g5 g6 hx1 hx FS GS
          by_cases hz : orderC x y = 0
          · have hres := Lib.hid (HST.out hz)
            rw [hz]
            clear hz HST HSP
            go_wp2_with fail
            go_roundw
            case rel => exact ⟨k + 1, hlt, hlm, by go_num, hres.out, HX2.out⟩
            case measure => simp [intOf]; omega
          · have hres := Lib.hid (HSP.out hz)
            have hd : (orderC x y != 0) = true := by simp [hz]
            have hd1 := beq_int_ne hz
            clear HST HSP hz
            generalize orderC x y = r at *
            go_wp2_with fail
            go_ret
            exact ⟨by rw [hres.out]; rfl, HX2.out⟩
      · obtain rfl : k = n2 := by omega
        have hI2 : decide ((k : Int) < (k : Int)) = false := decide_eq_false (by omega)
        have hI3 : decide ((n1 : Int) < (k : Int)) = false := decide_eq_false (by omega)
        have hres : Hid (cmpL orderC p q = 1) := by show _ = _; rw [← hcm.out, cmpL_more k1 (by rw [HN2.out]; omega)]
        go_wp2_with fail
        go_ret
        exact ⟨by rw [hres.out]; rfl, hx.out⟩
    · obtain rfl : k = n1 := by omega
      have hI : decide ((k : Int) < (k : Int)) = false := decide_eq_false (by omega)
      by_cases hlm : k < n2
      · have hI2 : decide ((k : Int) < (n2 : Int)) = true := decide_eq_true (by omega)
        have hres : Hid (cmpL orderC p q = -1) := by show _ = _; rw [← hcm.out, cmpL_less (by rw [HN1.out]; omega) (by rw [HN2.out]; exact hlm)]
        go_wp2_with fail
        go_ret
        exact ⟨by rw [hres.out]; rfl, hx.out⟩
      · obtain rfl : k = n2 := by omega
        have hres : Hid (cmpL orderC p q = 0) := by show _ = _; rw [← hcm.out, cmpL_same (by rw [HN1.out]; omega) (by rw [HN2.out]; omega)]
        go_wp2_with fail
        go_ret
        exact ⟨by rw [hres.out]; rfl, hx.out⟩

theorem rpsame_any (w : World) (v1 v2 : Value) (p q : List C) (h1 : PredR w v1 p) (h2 : PredR w v2 q) :
    Calls Tryz.prog 27 #[v1, v2] w fun e w' => e = .returned (.bool (cmpP p q == 0)) ∧ Ext w w' := by
  have hc := rpcompare_any w v1 v2 p q h1 h2
  obtain ⟨a1, ca, rfl, _, _⟩ := h1.shape
  obtain ⟨a2, cb, rfl, _, _⟩ := h2.shape
  have HC := Lib.hid hc
  clear hc h1 h2
  generalize p.length = n1 at *
  generalize q.length = n2 at *
  go_enter Tryz.func27, Tryz.ntmps27
  go_wp2_with (go_at_call 48; (with_reducible refine HC.out.mono ?_); rintro e w2 ⟨rfl, hx2⟩; have HX2 := Lib.hid hx2; clear hx2)
  go_ret
  exact ⟨rfl, HX2.out⟩
end Go.Proofs.YtabegbelkfhbcaaGreat

namespace Go.Proofs.YtabegbelkfhbcaaGreat
open Go.RowKit Go.MapKept

theorem ext_grown {W w w' : World} {bm : Nat} (h : Ext W w) (hg : w.grownBy w' (some bm)) (hb : W.heap.size ≤ bm) : Ext W w' :=
  h.grown_none (v := .slice (some ⟨bm, 0, none⟩) 0 0) hg (fun k hk => by simp only [Value.ownBlock, Option.some.injEq] at hk; omega)

theorem learn_new (w : World) (b bm : Nat) (T : List KN) (ht : TabR w b bm T) (link pub : Int) (ver : Nat) (h : Value) (p : List C) (hp : PredR w h p) (ha : argB link pub ver = false) (hm : mayP p = true) (hu : getF T pub = none) :
    Calls Tryz.prog 9 #[.pointer (some ⟨b, 0, none⟩), .int .i64 link, .agg #[.int .i64 pub, .int .u64 (ver : Nat), h]] w fun e w' => e = .returned (.tuple #[.bool true, .int .i64 0]) ∧ (∃ h', TabR w' b bm (putF T ⟨link, pub, ver, p, h'⟩)) ∧ w.grownBy w' (some bm) :=
  (learn_ok w b bm T ht link pub ver h p hp ha hm false zeroK hu (fun _ => rfl) (fun h => by cases h)).mono fun _ _ ⟨h1, h2⟩ => ⟨h1, h2⟩
theorem learn_old (w : World) (b bm : Nat) (T : List KN) (ht : TabR w b bm T) (link pub : Int) (ver : Nat) (h : Value) (p : List C) (hp : PredR w h p) (ha : argB link pub ver = false) (hm : mayP p = true) (u : KN) (hu : getF T pub = some u) (hl : u.link = link) :
    Calls Tryz.prog 9 #[.pointer (some ⟨b, 0, none⟩), .int .i64 link, .agg #[.int .i64 pub, .int .u64 (ver : Nat), h]] w fun e w' => (∃ c, e = .returned (.tuple #[.bool c, .int .i64 0]) ∧ (u.ver = ver → u.p = p → c = false)) ∧ (∃ h', TabR w' b bm (putF T ⟨link, pub, ver, p, h'⟩)) ∧ w.grownBy w' (some bm) :=
  (learn_ok w b bm T ht link pub ver h p hp ha hm true u hu (fun h => by cases h) (fun _ => hl)).mono fun _ _ ⟨h1, h2⟩ => ⟨⟨_, h1, fun e1 e2 => by
    rw [e1, e2, beq_self_eq_true, decide_eq_true (wo_P.refl p)]; rfl⟩, h2⟩

/-! Two ads the same. -/
set_option maxRecDepth 100000 in
set_option maxHeartbeats 8000000 in
theorem adsame_any (w : World) (p1 p2 : Int) (v1 v2 : Nat) (h1 h2 : Value) (p q : List C) (hp : PredR w h1 p) (hq : PredR w h2 q) :
    Calls Tryz.prog 11 #[.agg #[.int .i64 p1, .int .u64 (v1 : Nat), h1], .agg #[.int .i64 p2, .int .u64 (v2 : Nat), h2]] w fun e w' => e = .returned (.bool ((p1 == p2) && ((v1 == v2) && (cmpP p q == 0)))) ∧ Ext w w' := by
  obtain ⟨a1, ca, rfl, _, _⟩ := hp.shape
  obtain ⟨a2, cb, rfl, _, _⟩ := hq.shape
  obtain ⟨hx0, hb1, hb2⟩ := boxes2 w (.cells #[.int .i64 p1, .int .u64 (v1 : Nat), .slice a1 p.length ca] 27) (.cells #[.int .i64 p2, .int .u64 (v2 : Nat), .slice a2 q.length cb] 27)
  have HS := Lib.hid (rpsame_any _ _ _ p q (hp.ext hx0) (hq.ext hx0))
  have c0 := cell_of_row _ _ 0 _ _ _ hb1
  have c1 := cell_of_row _ _ 1 _ _ _ hb1
  have c2 := cell_of_row _ _ 2 _ _ _ hb1
  have d0 := cell_of_row _ _ 0 _ _ _ hb2
  have d1 := cell_of_row _ _ 1 _ _ _ hb2
  have d2 := cell_of_row _ _ 2 _ _ _ hb2
  have HX0 := Lib.hid hx0
  clear hp hq hx0 hb1 hb2
  generalize p.length = n1 at *
  generalize q.length = n2 at *
  generalize (cmpP p q == 0) = s at *
  cases e1 : (p1 == p2) with
  | false =>
    go_enter Tryz.func11, Tryz.ntmps11
    go_wp2
    go_ret
    exact ⟨rfl, HX0.out⟩
  | true =>
    cases e2 : (v1 == v2) with
    | false =>
      have e3 : ((v1 : Int) == (v2 : Int)) = false := by rw [beq_eq_false_iff_ne] at e2 ⊢; omega
      clear e2
      go_enter Tryz.func11, Tryz.ntmps11
      go_wp2
      go_ret
      exact ⟨rfl, HX0.out⟩
    | true =>
      have e3 : ((v1 : Int) == (v2 : Int)) = true := by rw [beq_iff_eq] at e2 ⊢; omega
      clear e2
      go_enter Tryz.func11, Tryz.ntmps11
      go_wp2_with (go_at_call 27; (with_reducible refine HS.out.mono ?_); rintro e w2 ⟨rfl, hx⟩; have HX2 := Lib.hid hx; clear hx)
      go_ret
      exact ⟨by simp, HX0.out.trans HX2.out⟩
theorem adsame_yes (w : World) (p1 : Int) (v1 : Nat) (h1 h2 : Value) (p : List C) (hp : PredR w h1 p) (hq : PredR w h2 p) :
    Calls Tryz.prog 11 #[.agg #[.int .i64 p1, .int .u64 (v1 : Nat), h1], .agg #[.int .i64 p1, .int .u64 (v1 : Nat), h2]] w fun e w' => e = .returned (.bool true) ∧ Ext w w' :=
  (adsame_any w p1 p1 v1 v1 h1 h2 p p hp hq).mono fun _ _ ⟨h, hx⟩ => ⟨by rw [h, beq_self_eq_true, beq_self_eq_true, show cmpP p p = 0 from wo_P.refl p]; rfl, hx⟩

/-! A predicate of one constraint with a number. -/
def conC (s : List UInt8) (op n : Int) : C := ⟨s, op, ⟨1, n, [], false⟩, []⟩
theorem conL_any (w : World) (s : List UInt8) (op n : Int) : Calls Tryz.prog 26 #[.string (strOf s), .int .i64 op, .int .i64 n] w fun e w' => ∃ B, e = .returned (.slice (some ⟨B, 0, none⟩) 1 1) ∧ PredR w' (.slice (some ⟨B, 0, none⟩) 1 1) [conC s op n] ∧ Ext w w' := by
  go_enter Tryz.func26, Tryz.ntmps26
  go_wp2_with (go_at_call 47; refine (number_any _ n).mono ?_; rintro e w1 ⟨rfl, hg⟩)
  go_ret
  have hx2 : Ext w1 (w1.alloc (.cells #[.string (strOf s), .int .i64 op, .int .i64 1, .int .i64 n, .string (strOf []), .bool false, .slice none 0 0] 53)) := (Ext.refl w1).alloc _
  refine ⟨w1.heap.size, rfl, ?_, hg.1.trans hx2⟩
  have hr : Row (w1.alloc (.cells (csC ⟨conC s op n, .slice none 0 0⟩).toArray 53)) 7 (.slice (some ⟨w1.heap.size, 0, none⟩) 1 1) 1 (csC ⟨conC s op n, .slice none 0 0⟩) :=
    Row.of_own (World.ownsRow_lit (base := w1.heap.size) (e := 53) (size := 7) w1 (csC ⟨conC s op n, .slice none 0 0⟩).toArray 1 (Nat.le_refl _) (by decide) rfl)
  exact PredR.mk [⟨conC s op n, .slice none 0 0⟩] (by rw [List.flatMap_singleton]; exact hr) fun x hx => by rw [List.mem_singleton.1 hx]; exact SetR.nil _
theorem okC_con {s : List UInt8} {op n : Int} (hs : s.length ≤ 16) (ho : okN op) (hn : okN n) : okC (conC s op n) :=
  ⟨Nat.le_trans hs (by decide), ho, ⟨⟨(by decide : (-9223372036854775808 : Int) ≤ 1), (by decide : (1 : Int) ≤ 9223372036854775807)⟩, hn, Nat.zero_le _⟩, fun x hx => by cases hx⟩
end Go.Proofs.YtabegbelkfhbcaaGreat

namespace Go.Proofs.YtabegbelkfhbcaaGreat
open Go.RowKit Go.MapKept

def wP : List C := [conC [97] 6 3]
theorem wP_may : mayP wP = true := by kernel_rfl
theorem w_ov1 : overlapsF [conC [97] 4 5] wP = true := by kernel_rfl
theorem w_ov2 : overlapsF [conC [97] 4 2] wP = false := by kernel_rfl
theorem okN_of {n : Int} (h1 : -9223372036854775808 ≤ n) (h2 : n ≤ 9223372036854775807) : okN n := ⟨h1, h2⟩
theorem okL_con {op n : Int} (h1 : okN op) (h2 : okN n) : ∀ c ∈ [conC [97] op n], okC c := fun c hc => by rw [List.mem_singleton.1 hc]; exact okC_con (by decide) h1 h2

theorem one_le {x : KN} : [x].length ≤ 1000000 := Nat.le_of_ble_eq_true rfl
theorem bypub_none (w : World) (b bm : Nat) (T : List KN) (ht : TabR w b bm T) (hok : ∀ k ∈ T, mayP k.p = true) (pub : Int) (hu : getF T pub = none) :
    Calls Tryz.prog 8 #[.pointer (some ⟨b, 0, none⟩), .int .i64 pub] w fun e w' => ∃ a n c, e = .returned (.tuple #[.int .i64 0, .agg #[.int .i64 0, .int .u64 0, .slice a n c], .bool false]) ∧ PredR w' (.slice a n c) [] ∧ Ext w w' := by
  refine (bypub_any w b bm T ht hok pub).mono ?_
  rintro e w' ⟨h', rfl, h1, h2⟩
  rw [(got_none hu).1, (got_none hu).2] at *
  obtain ⟨a, c, rfl, _, _⟩ := h1.shape
  exact ⟨a, _, c, rfl, h1, h2⟩
theorem ris_one {k : KN} {q : KN → Bool} {ks : List KN} (h : RisK [k] q ks) (hq : q k = true) : ks = [k] := by
  have h1 := h.1
  rw [show [k].filter q = [k] by rw [List.filter_cons, hq]; rfl] at h1
  exact List.perm_singleton.1 h1
theorem wants_lit (w : World) (b bm : Nat) (T : List KN) (ht : TabR w b bm T) (hokc : ∀ k ∈ T, ∀ c ∈ k.p, okC c) (hlen : T.length ≤ 1000000) (link : Int) (vp : Value) (p : List C) (hp : PredR w vp p) (kp : ∀ c ∈ p, okC c) (x : Bool) (hx : (T.any fun k => k.link == link && overlapsF p k.p) = x) :
    Calls Tryz.prog 16 #[.pointer (some ⟨b, 0, none⟩), .int .i64 link, vp] w fun e w' => e = .returned (.bool x) ∧ Ext w w' := by
  rw [← hx]; exact wants_any w b bm T ht hokc hlen link vp p hp kp
theorem con97 (w : World) (op n : Int) : Calls Tryz.prog 26 #[.string ⟨#[97]⟩, .int .i64 op, .int .i64 n] w fun e w' => ∃ B, e = .returned (.slice (some ⟨B, 0, none⟩) 1 1) ∧ PredR w' (.slice (some ⟨B, 0, none⟩) 1 1) [conC [97] op n] ∧ Ext w w' := conL_any w [97] op n

set_option maxRecDepth 100000 in
set_option maxHeartbeats 16000000 in
theorem wakes_any (w : World) : Calls Tryz.prog 10 #[] w fun e w' => e = .returned (.bool true) ∧ Ext w w' := by
  have HOK : Hid (∀ c ∈ wP, okC c) := okL_con (okN_of (by decide) (by decide)) (okN_of (by decide) (by decide))
  have HO1 : Hid (∀ c ∈ [conC [97] 4 5], okC c) := okL_con (okN_of (by decide) (by decide)) (okN_of (by decide) (by decide))
  have HO2 : Hid (∀ c ∈ [conC [97] 4 2], okC c) := okL_con (okN_of (by decide) (by decide)) (okN_of (by decide) (by decide))
  go_enter Tryz.func10, Tryz.ntmps10
  go_upto_region 2 with (go_at_call 17; (with_reducible refine (new_any _).mono ?_); rintro e w1 ⟨b, bm, rfl, ht, hb1, hb2, hx⟩; have HT1 := Lib.hid ht; have HB1 := Lib.hid hb1; have HB2 := Lib.hid hb2; have HX1 := Lib.hid hx; clear ht hb1 hb2 hx)
  go_upto_region 3 with (go_at_call 26; (with_reducible refine (con97 _ 6 3).mono ?_); rintro e w2 ⟨B, rfl, hp, hx⟩; have HP := Lib.hid hp; have HX2 := Lib.hid (HX1.out.trans hx); have HT2 := Lib.hid (HT1.out.ext hx); clear hp hx HT1)
  obtain ⟨hxa, hba⟩ := boxes1 w2 (.cells #[.int .i64 5, .int .u64 1, .slice (some ⟨B, 0, none⟩) 1 1] 30)
  have HX3 := Lib.hid (HX2.out.trans hxa)
  have HT3 := Lib.hid (HT2.out.ext hxa)
  have HP3 := Lib.hid (HP.out.ext hxa)
  have HBA := Lib.hid hba
  have c0 := cell_of_row _ _ 0 _ _ _ hba
  have c1 := cell_of_row _ _ 1 _ _ _ hba
  have c2 := cell_of_row _ _ 2 _ _ _ hba
  clear hxa hba HX2 HT2 HP
  generalize w2.alloc (.cells #[.int .i64 5, .int .u64 1, .slice (some ⟨B, 0, none⟩) 1 1] 30) = w3 at *
  go_upto_region 4 with (go_at_call 9; refine (learn_new w3 b bm [] HT3.out 2 5 1 _ wP HP3.out rfl wP_may rfl).mono ?_; rintro e w4 ⟨rfl, ⟨h', ht⟩, hg⟩; have HT4 := Lib.hid ht; have HG4 := Lib.hid hg; clear ht hg)
  have hmap := HT3.out.map.isMap
  have HX4 := Lib.hid (ext_grown HX3.out HG4.out HB2.out)
  have HP4 := Lib.hid (predR_grown HP3.out HG4.out hmap)
  have hba4 := (HG4.out.block w2.heap.size (Array.getElem?_eq_some_iff.1 HBA.out).1 (fun e => by obtain ⟨es, c, hm⟩ := hmap; have h1 := HBA.out; rw [Option.some.inj e, hm] at h1; cases h1)).trans HBA.out
  have HBA4 := Lib.hid hba4
  have d0 := cell_of_row _ _ 0 _ _ _ hba4
  have d1 := cell_of_row _ _ 1 _ _ _ hba4
  have d2 := cell_of_row _ _ 2 _ _ _ hba4
  clear c0 c1 c2 hmap hba4 HBA HG4 HP3 HT3 HX3
  go_upto_region 5 with (go_at_call 9; refine (learn_old w4 b bm _ HT4.out 2 5 1 _ wP HP4.out rfl wP_may ⟨2, 5, 1, wP, h'⟩ rfl rfl).mono ?_; rintro e w5 ⟨⟨c, rfl, hc⟩, ⟨h2, ht⟩, hg⟩; obtain rfl := hc rfl rfl; have HT5 := Lib.hid ht; have HG5 := Lib.hid hg; clear ht hg hc)
  have hmap := HT4.out.map.isMap
  have HX5 := Lib.hid (ext_grown HX4.out HG5.out HB2.out)
  have HP5 := Lib.hid (predR_grown HP4.out HG5.out hmap)
  have hba5 := (HG5.out.block w2.heap.size (Array.getElem?_eq_some_iff.1 HBA4.out).1 (fun e => by obtain ⟨es, c, hm⟩ := hmap; have h1 := HBA4.out; rw [Option.some.inj e, hm] at h1; cases h1)).trans HBA4.out
  have c0 := cell_of_row _ _ 0 _ _ _ hba5
  have c1 := cell_of_row _ _ 1 _ _ _ hba5
  have c2 := cell_of_row _ _ 2 _ _ _ hba5
  clear d0 d1 d2 hmap hba5 HBA4 HG5 HP4 HT4 HX4
  go_upto_region 6 with (go_at_call 9; refine (learn_there w5 b bm _ HT5.out 3 5 1 _ wP HP5.out rfl wP_may ⟨2, 5, 1, wP, h2⟩ rfl (show (2 : Int) ≠ 3 by decide)).mono ?_; rintro e w6 ⟨rfl, hx⟩; have HX6 := Lib.hid (HX5.out.trans hx); have HT6 := Lib.hid (HT5.out.ext hx); clear hx)
  clear c0 c1 c2 HT5 HX5 HP5
  have HT6' : Hid (TabR w6 b bm [⟨2, 5, 1, wP, h2⟩]) := HT6.out
  clear HT6
  have HOKT : Hid (∀ k ∈ [(⟨2, 5, 1, wP, h2⟩ : KN)], ∀ c ∈ k.p, okC c) := fun k hk => by rw [List.mem_singleton.1 hk]; exact HOK.out
  have HT6 : Hid (TabR w6 b bm [⟨2, 5, 1, wP, h2⟩]) := HT6'.out
  clear HT6'
  go_wp2_with fail
  refine (con97 _ 4 5).mono ?_
  rintro e w7 ⟨B7, rfl, hp, hx⟩
  have HP7 := Lib.hid hp
  have HT7 := Lib.hid (HT6.out.ext hx)
  have HX7 := Lib.hid (HX6.out.trans hx)
  clear hp hx
  go_wp2_with fail
  refine (wants_lit w7 b bm _ HT7.out HOKT.out one_le 2 _ _ HP7.out HO1.out true (by show ((2 : Int) == 2 && overlapsF [conC [97] 4 5] wP || false) = true; rw [w_ov1]; rfl)).mono ?_
  rintro e w8 ⟨rfl, hx⟩
  have HT8 := Lib.hid (HT7.out.ext hx)
  have HX8 := Lib.hid (HX7.out.trans hx)
  clear hx HT7 HX7 HP7
  go_wp2_with fail
  refine (con97 _ 4 2).mono ?_
  rintro e w9 ⟨B9, rfl, hp, hx⟩
  have HP9 := Lib.hid hp
  have HT9 := Lib.hid (HT8.out.ext hx)
  have HX9 := Lib.hid (HX8.out.trans hx)
  clear hp hx
  go_wp2_with fail
  refine (wants_lit w9 b bm _ HT9.out HOKT.out one_le 2 _ _ HP9.out HO2.out false (by show ((2 : Int) == 2 && overlapsF [conC [97] 4 2] wP || false) = false; rw [w_ov2]; rfl)).mono ?_
  rintro e w10 ⟨rfl, hx⟩
  have HT10 := Lib.hid (HT9.out.ext hx)
  have HX10 := Lib.hid (HX9.out.trans hx)
  clear hx HT9 HX9 HP9
  go_wp2_with fail
  refine (con97 _ 4 5).mono ?_
  rintro e w11 ⟨B11, rfl, hp, hx⟩
  have HP11 := Lib.hid hp
  have HT11 := Lib.hid (HT10.out.ext hx)
  have HX11 := Lib.hid (HX10.out.trans hx)
  clear hp hx
  go_wp2_with fail
  refine (wants_lit w11 b bm _ HT11.out HOKT.out one_le 3 _ _ HP11.out HO1.out false (by show ((2 : Int) == 3 && overlapsF [conC [97] 4 5] wP || false) = false; rfl)).mono ?_
  rintro e w12 ⟨rfl, hx⟩
  have HT12 := Lib.hid (HT11.out.ext hx)
  have HX12 := Lib.hid (HX11.out.trans hx)
  clear hx HT11 HX11 HP11
  go_upto_region 11 with (go_at_call 15; (with_reducible refine (forget_any w12 b bm _ HT12.out one_le 2).mono ?_); rintro e w13 ⟨v, ks, rfl, hr, ho, ht, hg⟩; have HR := Lib.hid hr; have HO := Lib.hid ho; have HTF := Lib.hid ht; have HGF := Lib.hid hg; clear hr ho ht hg)
  obtain rfl := ris_one HR.out rfl
  have HT13 : Hid (TabR w13 b bm []) := HTF.out
  have HX13 := Lib.hid (ext_grown HX12.out HGF.out HB2.out)
  obtain ⟨av, cv, rfl, _, _⟩ := own_shape HO.out
  have HROW := Lib.hid (pubRow HO.out)
  clear HT12 HX12 HTF HGF HO HR
  go_upto_region 12 with (go_at_call 8; refine (bypub_none w13 b bm [] HT13.out (fun k hk => (by cases hk)) 5 rfl).mono ?_; rintro e w14 ⟨a14, n14, c14, rfl, _, hx⟩; have HX14 := Lib.hid (HX13.out.trans hx); have HROW14 := Lib.hid (Row.ext HROW.out hx); clear hx)
  obtain ⟨Bq, oq, rfl, hcell⟩ := Row.cell HROW14.out (j := 0) (u := .int .i64 5) rfl (Nat.zero_lt_one)
  rw [Nat.add_zero] at hcell
  have hcell2 := ((Ext.refl w14).alloc (.cells #[.int .i64 0, .int .u64 0, .slice a14 n14 c14] 30)).cell hcell
  have HX15 := Lib.hid (HX14.out.alloc (.cells #[.int .i64 0, .int .u64 0, .slice a14 n14 c14] 30))
  clear hcell
  go_wp2_with fail
  go_ret
  exact ⟨rfl, HX15.out⟩
end Go.Proofs.YtabegbelkfhbcaaGreat

namespace Go.Proofs.YtabegbelkfhbcaaGreat
open Go.RowKit Go.MapKept

def okT (T : List KN) : Prop := ∀ k ∈ T, mayP k.p = true ∧ (∀ c ∈ k.p, okC c) ∧ -1 ≤ k.link ∧ k.link < 64
theorem okT.may {T : List KN} (h : okT T) : ∀ k ∈ T, mayP k.p = true := fun k hk => (h k hk).1
theorem okT.ok {T : List KN} (h : okT T) : ∀ k ∈ T, ∀ c ∈ k.p, okC c := fun k hk => (h k hk).2.1
theorem okT.put {T : List KN} (h : okT T) {k : KN} (h1 : mayP k.p = true) (h2 : ∀ c ∈ k.p, okC c) (h3 : -1 ≤ k.link) (h4 : k.link < 64) : okT (putF T k) := fun x hx => by
  rcases putF_mem hx with rfl | hx
  · exact ⟨h1, h2, h3, h4⟩
  · exact h x hx
theorem okT.del {T : List KN} (h : okT T) {p : Int} : okT (delF T p) := fun x hx => h x (delF_mem.1 hx).1
theorem arg_link {link pub : Int} {ver : Nat} (ha : argB link pub ver = false) : -1 ≤ link ∧ link < 64 := by
  obtain ⟨h1, h2, _⟩ := arg_no ha
  have h1 := of_decide_eq_false h1
  have h2 := of_decide_eq_false h2
  omega
/-- What Learn does to what is known: its error's number. -/
def learnE (T : List KN) (link pub : Int) (ver : Nat) (p : List C) : Int :=
  if argB link pub ver = true then 1 else if mayP p = false then 30 else if isF T pub = true ∧ (gotF T pub).link ≠ link then 9 else 0
theorem learn_all (w : World) (b bm : Nat) (T : List KN) (ht : TabR w b bm T) (hok : okT T) (link pub : Int) (ver : Nat) (h : Value) (p : List C) (hp : PredR w h p) (kp : ∀ c ∈ p, okC c) :
    Calls Tryz.prog 9 #[.pointer (some ⟨b, 0, none⟩), .int .i64 link, .agg #[.int .i64 pub, .int .u64 (ver : Nat), h]] w fun e w' =>
      ∃ c T', e = .returned (.tuple #[.bool c, .int .i64 (learnE T link pub ver p)]) ∧ TabR w' b bm T' ∧ okT T' ∧ T'.length ≤ T.length + 1 ∧ w.grownBy w' (some bm) ∧
        (learnE T link pub ver p ≠ 0 → T' = T ∧ c = false) ∧ (learnE T link pub ver p = 0 → argB link pub ver = false ∧ mayP p = true ∧ (∃ h', T' = putF T ⟨link, pub, ver, p, h'⟩) ∧ ∀ u, getF T pub = some u → u.link = link ∧ (u.ver = ver → u.p = p → c = false)) := by
  have gx : ∀ {w' : World}, Ext w w' → w.grownBy w' (some bm) := fun hx => grown_after hx (World.grownBy.refl _ _)
  cases ha : argB link pub ver with
  | true =>
    have e1 : learnE T link pub ver p = 1 := by unfold learnE; rw [if_pos ha]
    refine (learn_arg w b bm T ht link pub ver h (by obtain ⟨a, c, e, _⟩ := hp.shape; rw [e]; rfl) ha).mono ?_
    rintro e w' ⟨rfl, hx⟩
    rw [e1]
    exact ⟨false, T, rfl, ht.ext hx, hok, Nat.le_succ _, gx hx, fun _ => ⟨rfl, rfl⟩, fun h => absurd h (by decide)⟩
  | false =>
    cases hm : mayP p with
    | false =>
      have e1 : learnE T link pub ver p = 30 := by unfold learnE; rw [if_neg (by rw [ha]; exact Bool.false_ne_true), if_pos hm]
      refine (learn_mal w b bm T ht link pub ver h p hp ha hm).mono ?_
      rintro e w' ⟨rfl, hx⟩
      rw [e1]
      exact ⟨false, T, rfl, ht.ext hx, hok, Nat.le_succ _, gx hx, fun _ => ⟨rfl, rfl⟩, fun h => absurd h (by decide)⟩
    | true =>
      cases hu : getF T pub with
      | none =>
        have e1 : learnE T link pub ver p = 0 := by unfold learnE; rw [if_neg (by rw [ha]; exact Bool.false_ne_true), if_neg (by rw [hm]; exact (fun h => by cases h)), if_neg (by rw [(got_none hu).2]; exact fun h => by cases h.1)]
        refine (learn_new w b bm T ht link pub ver h p hp ha hm hu).mono ?_
        rintro e w' ⟨rfl, ⟨h', ht'⟩, hg⟩
        rw [e1]
        exact ⟨true, _, rfl, ht', hok.put hm kp (arg_link ha).1 (arg_link ha).2, putF_len, hg, fun h => absurd rfl h, fun _ => ⟨rfl, rfl, ⟨h', rfl⟩, fun u hu' => by cases hu'⟩⟩
      | some u =>
        by_cases hl : u.link = link
        · have e1 : learnE T link pub ver p = 0 := by unfold learnE; rw [if_neg (by rw [ha]; exact Bool.false_ne_true), if_neg (by rw [hm]; exact (fun h => by cases h)), if_neg (by rw [(got_some hu).1]; exact fun h => h.2 hl)]
          refine (learn_old w b bm T ht link pub ver h p hp ha hm u hu hl).mono ?_
          rintro e w' ⟨⟨c, rfl, hc⟩, ⟨h', ht'⟩, hg⟩
          rw [e1]
          exact ⟨c, _, rfl, ht', hok.put hm kp (arg_link ha).1 (arg_link ha).2, putF_len, hg, fun h => absurd rfl h, fun _ => ⟨rfl, rfl, ⟨h', rfl⟩, fun u' hu' => by cases hu'; exact ⟨hl, hc⟩⟩⟩
        · have e1 : learnE T link pub ver p = 9 := by unfold learnE; rw [if_neg (by rw [ha]; exact Bool.false_ne_true), if_neg (by rw [hm]; exact (fun h => by cases h)), if_pos ⟨(got_some hu).2, by rw [(got_some hu).1]; exact hl⟩]
          refine (learn_there w b bm T ht link pub ver h p hp ha hm u hu hl).mono ?_
          rintro e w' ⟨rfl, hx⟩
          rw [e1]
          exact ⟨false, T, rfl, ht.ext hx, hok, Nat.le_succ _, gx hx, fun _ => ⟨rfl, rfl⟩, fun h => absurd h (by decide)⟩
theorem withdraw_all (w : World) (b bm : Nat) (T : List KN) (ht : TabR w b bm T) (hok : okT T) (link pub : Int) :
    Calls Tryz.prog 14 #[.pointer (some ⟨b, 0, none⟩), .int .i64 link, .int .i64 pub] w fun e w' => ∃ n T', e = .returned (.int .i64 n) ∧ TabR w' b bm T' ∧ okT T' ∧ T'.length ≤ T.length ∧ w.grownBy w' (some bm) := by
  by_cases h : isF T pub = true ∧ (gotF T pub).link = link
  · refine (withdraw_yes w b bm T ht link pub h.1 h.2).mono ?_
    rintro e w' ⟨rfl, h1, h2⟩
    exact ⟨0, _, rfl, h1, hok.del, delF_len, h2⟩
  · refine (withdraw_no w b bm T ht link pub ?_).mono ?_
    · cases hi : isF T pub with
      | false => exact .inl rfl
      | true => exact .inr fun e => h ⟨hi, e⟩
    · rintro e w' ⟨rfl, hx⟩
      exact ⟨6, T, rfl, ht.ext hx, hok, Nat.le_refl _, grown_after hx (World.grownBy.refl _ _)⟩

/-! The law's calls. -/
structure OA where
  what : Int
  link : Int
  pub : Int
  ver : Nat
  p : List C
  h : Value
def oaC (x : OA) : List Value := [.int .i64 x.what, .int .i64 x.link, .int .i64 x.pub, .int .u64 (x.ver : Nat), x.h]
theorem oaC_len (x : OA) : (oaC x).length = 5 := rfl
structure OAR (w : World) (v : Value) (us : List OA) : Prop where
  row : Row w 5 v us.length (us.flatMap oaC)
  preds : ∀ x ∈ us, PredR w x.h x.p
  ok : ∀ x ∈ us, ∀ c ∈ x.p, okC c
theorem OAR.ext {w w' : World} {v : Value} {us : List OA} (h : OAR w v us) (hx : Ext w w') : OAR w' v us := ⟨h.row.ext hx, fun x hm => (h.preds x hm).ext hx, h.ok⟩
theorem OAR.at {W : World} {a : Option Addr} {n cap : Nat} {us : List OA} (h : OAR W (.slice a n cap) us) {k : Nat} (hk : k < us.length) :
    ∃ B o ah nh ch, a = some ⟨B, o, none⟩ ∧ us[k].h = .slice ah nh ch ∧ W.cell? ⟨B, o + k * 5, none⟩ = some (.int .i64 us[k].what) ∧ W.cell? ⟨B, o + k * 5 + 1, none⟩ = some (.int .i64 us[k].link) ∧ W.cell? ⟨B, o + k * 5 + 2, none⟩ = some (.int .i64 us[k].pub) ∧ W.cell? ⟨B, o + k * 5 + 3, none⟩ = some (.int .u64 (us[k].ver : Nat)) ∧ W.cell? ⟨B, o + k * 5 + 4, none⟩ = some (.slice ah nh ch) := by
  obtain ⟨a', c', e, _, _⟩ := Row.shape h.row
  cases e
  have g0 := flat_get oaC 5 oaC_len us k hk
  have hp : 0 < us.length := by omega
  obtain ⟨B, o, rfl⟩ := Row.base h.row hp (by decide)
  obtain ⟨ah, ch, hh, _, _⟩ := (h.preds _ (List.getElem_mem hk)).shape
  have at_ : ∀ j u, (oaC us[k])[j]? = some u → j < 5 → W.cell? ⟨B, o + k * 5 + j, none⟩ = some u := fun j u hj h5 => by
    have := Row.cellAt h.row (j := k * 5 + j) (u := u) ((g0 j h5).trans hj) hp
    rwa [← Nat.add_assoc] at this
  exact ⟨B, o, ah, _, ch, rfl, hh, by simpa using at_ 0 _ rfl (by decide), at_ 1 _ rfl (by decide), at_ 2 _ rfl (by decide), at_ 3 _ rfl (by decide), at_ 4 _ (by rw [← hh]; rfl) (by decide)⟩
end Go.Proofs.YtabegbelkfhbcaaGreat

namespace Go.Proofs.YtabegbelkfhbcaaGreat
open Go.RowKit Go.MapKept

set_option maxRecDepth 100000 in
set_option maxHeartbeats 16000000 in
theorem table_any (w : World) (v : Value) (us : List OA) (hv : OAR w v us) :
    Calls Tryz.prog 7 #[v] w fun e w' => ∃ b bm T, e = .returned (.pointer (some ⟨b, 0, none⟩)) ∧ TabR w' b bm T ∧ okT T ∧ T.length ≤ 40 ∧ w.heap.size ≤ b ∧ w.heap.size ≤ bm ∧ Ext w w' := by
  obtain ⟨a, cap, rfl, hc, hcm⟩ := Row.shape hv.row
  unfold maxLen at hcm
  have HV := Lib.hid hv
  obtain ⟨n, hn⟩ : ∃ n, n = us.length := ⟨_, rfl⟩
  have HN := Lib.hid hn
  rw [← hn] at hc ⊢ HV
  clear hn hv
  go_enter Tryz.func7, Tryz.ntmps7
  go_upto_region 2 with (go_at_call 17; (with_reducible refine (new_any _).mono ?_); rintro e w1 ⟨b, bm, rfl, ht, hb1, hb2, hx⟩; have HT1 := Lib.hid ht; have HB1 := Lib.hid hb1; have HB2 := Lib.hid hb2; have HX1 := Lib.hid hx; clear ht hb1 hb2 hx)
  go_wp2_with fail
  go_loopw [4] (fun i wr => ∃ (k : Nat) (T : List KN), k ≤ n ∧ k ≤ 40 ∧ i = .int .i64 k ∧ Hid (TabR wr b bm T) ∧ Hid (okT T) ∧ Hid (T.length ≤ k) ∧ Hid (Ext w wr)) (fun i _ => n - (intOf i).toNat)
  case atStart => exact ⟨0, [], Nat.zero_le _, Nat.zero_le _, rfl, HT1.out, (fun _ h => (by cases h)), Nat.le_refl _, HX1.out⟩
  case round =>
    clear HT1 HX1
    obtain ⟨k, T, hk, hk40, rfl, hT, hok, hl, hx⟩ := hrel
    by_cases hlt : k < n
    · have hI : decide ((k : Int) < (n : Int)) = true := decide_eq_true (by omega)
      have hkN : (k : Int) < (n : Int) := by omega
      by_cases h4 : k < 40
      · have hI4 : decide ((k : Int) < 40) = true := decide_eq_true (by omega)
        have hkl : k < us.length := by have := HN.out; omega
        obtain ⟨B, o, ah, nh, ch, rfl, hh, f0, f1, f2, f3, f4⟩ := (HV.out.ext hx.out).at hkl
        have hpk := HV.out.preds _ (List.getElem_mem hkl)
        have hck := HV.out.ok _ (List.getElem_mem hkl)
        rw [hh] at hpk
        generalize us[k] = x at *
        obtain ⟨xw, xl, xp, xv, xq, xh⟩ := x
        dsimp only at *
        have HPK := Lib.hid hpk
        have HCK := Lib.hid hck
        clear hpk hck hh
        go_upto_region 6 with fail
        obtain ⟨hxa, hba⟩ := boxes1 wr (.cells #[.int .i64 xp, .int .u64 (xv : Nat), .slice ah nh ch] 30)
        have c0 := cell_of_row _ _ 0 _ _ _ hba
        have c1 := cell_of_row _ _ 1 _ _ _ hba
        have c2 := cell_of_row _ _ 2 _ _ _ hba
        have g0 := hxa.cell f0
        have g1 := hxa.cell f1
        have HTA := Lib.hid (hT.out.ext hxa)
        have HXA := Lib.hid (hx.out.trans hxa)
        clear f0 f1 f2 f3 f4 hT hx hba hxa
        generalize wr.heap.size = ba at *
        generalize hwa : wr.alloc (.cells #[.int .i64 xp, .int .u64 (xv : Nat), .slice ah nh ch] 30) = wa at *
        clear hwa
        cases h2 : (xw == 2) with
        | true =>
          go_upto_region 7 with fail
          refine wp_region_chain 8 [Fact.eq (.pointer (some ⟨b, 0, none⟩)),
              Fact.eq (.slice (some ⟨B, o, none⟩) n cap),
              Fact.eq (.int .i64 k),
              Fact.eq (.pointer (some ⟨B, o + k * 5, none⟩)),
              Fact.eq (.pointer (some ⟨B, o + k * 5 + 1, none⟩)),
              Fact.eq (.int .i64 xl),
              Fact.eq (.pointer (some ⟨ba, 0, none⟩)),
              Fact.eq (.int .i64 xp)]
            [[], [], [], [(1, 29), (2, 30)], [(3, 31)], [(4, 32)], [], [(6, 34)]]
            [(0, 28), (1, 29), (2, 30), (3, 31), (4, 32), (5, 33), (6, 34), (7, 35)] (by kernel_rfl) (by kernel_rfl) ?_ ?_
          · refine ⟨?_, ?_, ?_, ?_, ?_, ?_, ?_, ?_, trivial⟩
            · intro w1 hx1; change wpList _ _ _ _ _ _; exact ob_move rfl rfl rfl rfl rfl
            · intro w1 hx1; change wpList _ _ _ _ _ _; exact ob_move rfl rfl rfl rfl rfl
            · intro w1 hx1; change wpList _ _ _ _ _ _; exact ob_move rfl rfl rfl rfl rfl
            · intro w1 hx1; rintro _ rfl; rintro _ rfl; change wpList _ _ _ _ _ _; go_wp2_with fail; exact ⟨rfl, Ext.refl _, rfl, rfl⟩
            · intro w1 hx1; rintro _ rfl; change wpList _ _ _ _ _ _; go_wp2_with fail; exact ⟨rfl, Ext.refl _, rfl, rfl⟩
            · intro w1 hx1; rintro _ rfl; change wpList _ _ _ _ _ _; have m := hx1.cell g1; go_wp2_with fail; exact ⟨rfl, Ext.refl _, rfl, rfl⟩
            · intro w1 hx1; change wpList _ _ _ _ _ _; go_wp2_with fail; exact ⟨rfl, Ext.refl _, rfl, rfl⟩
            · intro w1 hx1; rintro _ rfl; change wpList _ _ _ _ _ _; have m := hx1.cell c0; go_wp2_with fail; exact ⟨rfl, Ext.refl _, rfl, rfl⟩
          · intro w1 hx1; rintro _ rfl; rintro _ rfl; rintro _ rfl; rintro _ rfl; rintro _ rfl; rintro _ rfl; rintro _ rfl; rintro _ rfl; refine depsThen_nil ?_; dsimp only; simp only [Act.put, List.setIfInBounds_toArray, List.set_cons_zero, List.set_cons_succ, List.drop_succ_cons, List.drop_zero]
            have HT5 := Lib.hid (HTA.out.ext hx1)
            have HX5 := Lib.hid (HXA.out.trans hx1)
            clear g0 g1 c0 c1 c2 hx1
            go_upto_region 4 with (go_at_call 14; (with_reducible refine (withdraw_all _ b bm T HT5.out hok.out xl xp).mono ?_); rintro e w6 ⟨m6, T', rfl, p1, p2, p3, p4⟩; have HT6 := Lib.hid p1; have HOK6 := Lib.hid p2; have HL6 : Hid (T'.length ≤ k + 1) := Nat.le_trans p3 (Nat.le_succ_of_le hl.out); have HX6 := Lib.hid (ext_grown HX5.out p4 HB2.out); clear p1 p2 p3 p4)
            go_wp2_with fail
            go_roundw
            case rel => exact ⟨k + 1, T', hlt, h4, by go_num, HT6.out, HOK6.out, HL6, HX6.out⟩
            case measure => simp [intOf]; omega
        | false =>
          go_upto_region 8 with fail
          refine wp_region_chain 7 [Fact.eq (.pointer (some ⟨b, 0, none⟩)),
              Fact.eq (.slice (some ⟨B, o, none⟩) n cap),
              Fact.eq (.int .i64 k),
              Fact.eq (.pointer (some ⟨B, o + k * 5, none⟩)),
              Fact.eq (.pointer (some ⟨B, o + k * 5 + 1, none⟩)),
              Fact.eq (.int .i64 xl),
              Fact.eq (.agg #[.int .i64 xp, .int .u64 (xv : Nat), .slice ah nh ch])]
            [[], [], [], [(1, 38), (2, 39)], [(3, 40)], [(4, 41)], []]
            [(0, 37), (1, 38), (2, 39), (3, 40), (4, 41), (5, 42), (6, 43)] (by kernel_rfl) (by kernel_rfl) ?_ ?_
          · refine ⟨?_, ?_, ?_, ?_, ?_, ?_, ?_, trivial⟩
            · intro w1 hx1; change wpList _ _ _ _ _ _; exact ob_move rfl rfl rfl rfl rfl
            · intro w1 hx1; change wpList _ _ _ _ _ _; exact ob_move rfl rfl rfl rfl rfl
            · intro w1 hx1; change wpList _ _ _ _ _ _; exact ob_move rfl rfl rfl rfl rfl
            · intro w1 hx1; rintro _ rfl; rintro _ rfl; change wpList _ _ _ _ _ _; go_wp2_with fail; exact ⟨rfl, Ext.refl _, rfl, rfl⟩
            · intro w1 hx1; rintro _ rfl; change wpList _ _ _ _ _ _; go_wp2_with fail; exact ⟨rfl, Ext.refl _, rfl, rfl⟩
            · intro w1 hx1; rintro _ rfl; change wpList _ _ _ _ _ _; have m := hx1.cell g1; go_wp2_with fail; exact ⟨rfl, Ext.refl _, rfl, rfl⟩
            · intro w1 hx1; change wpList _ _ _ _ _ _; have m0 := hx1.cell c0; have m1 := hx1.cell c1; have m2 := hx1.cell c2; go_wp2_with fail; exact ⟨rfl, Ext.refl _, rfl, rfl⟩
          · intro w1 hx1; rintro _ rfl; rintro _ rfl; rintro _ rfl; rintro _ rfl; rintro _ rfl; rintro _ rfl; rintro _ rfl; refine depsThen_nil ?_; dsimp only; simp only [Act.put, List.setIfInBounds_toArray, List.set_cons_zero, List.set_cons_succ, List.drop_succ_cons, List.drop_zero]
            have HT5 := Lib.hid (HTA.out.ext hx1)
            have HX5 := Lib.hid (HXA.out.trans hx1)
            have HP5 := Lib.hid (HPK.out.ext HX5.out)
            clear g0 g1 c0 c1 c2 hx1
            go_upto_region 4 with (go_at_call 9; (with_reducible refine (learn_all _ b bm T HT5.out hok.out xl xp xv _ xq HP5.out HCK.out).mono ?_); rintro e w6 ⟨c6, T', rfl, p1, p2, p3, p4, _⟩; have HT6 := Lib.hid p1; have HOK6 := Lib.hid p2; have HL6 : Hid (T'.length ≤ k + 1) := Nat.le_trans p3 (Nat.succ_le_succ hl.out); have HX6 := Lib.hid (ext_grown HX5.out p4 HB2.out); clear p1 p2 p3 p4)
            go_wp2_with fail
            go_roundw
            case rel => exact ⟨k + 1, T', hlt, h4, by go_num, HT6.out, HOK6.out, HL6, HX6.out⟩
            case measure => simp [intOf]; omega
      · have hI4 : decide ((k : Int) < 40) = false := decide_eq_false (by omega)
        go_wp2_with fail
        go_ret
        exact ⟨b, bm, T, rfl, hT.out, hok.out, Nat.le_trans hl.out hk40, HB1.out, HB2.out, hx.out⟩
    · obtain rfl : k = n := by omega
      have hI : decide ((k : Int) < (k : Int)) = false := decide_eq_false (by omega)
      go_wp2_with fail
      go_ret
      exact ⟨b, bm, T, rfl, hT.out, hok.out, Nat.le_trans hl.out hk40, HB1.out, HB2.out, hx.out⟩
end Go.Proofs.YtabegbelkfhbcaaGreat
