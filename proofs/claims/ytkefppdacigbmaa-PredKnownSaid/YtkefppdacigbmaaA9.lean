/- The reference's Holds. -/
import Derived.Test.YtkefppdacigbmaaA8
import Derived.Test.YtkefppdacigbmaaA7
import Derived.Lib.Bytes2
import Derived.Lib.Strings
namespace Go.Proofs.Ytkefppdacigbmaa
open Go.RowKit

theorem strOf_size (l : List UInt8) : (strOf l).size = l.length := by show l.toArray.size = _; simp
theorem pre_str (s p : List UInt8) (h : p.length ≤ s.length) : (((strOf s).extract 0 (strOf p).size).toList == p) = p.isPrefixOf s := by
  have := Lib.hasPrefix_raw (strOf s) (strOf p)
  rw [strOf_toList, strOf_size, strOf_size, decide_eq_true h, Bool.true_and] at this
  rw [strOf_size, this]; rfl

theorem rcmpV_any (w : World) (a b : V) : Calls Try.prog 54 #[.agg #[.int .i64 a.k, .int .i64 a.n, .string (strOf a.s), .bool a.b], .agg #[.int .i64 b.k, .int .i64 b.n, .string (strOf b.s), .bool b.b]] w fun e w' => e = .returned (.int .i64 (cmpV a b)) ∧ Grew w w' := rcompare_any w _ _ _ _ _ _ _ _
theorem cmpV_any (w : World) (a b : V) : Calls Try.prog 23 #[.agg #[.int .i64 a.k, .int .i64 a.n, .string (strOf a.s), .bool a.b], .agg #[.int .i64 b.k, .int .i64 b.n, .string (strOf b.s), .bool b.b]] w fun e w' => e = .returned (.int .i64 (cmpV a b)) ∧ Grew w w' := compare_any w _ _ _ _ _ _ _ _

set_option maxRecDepth 100000 in
set_option maxHeartbeats 8000000 in
theorem rholds_any (w : World) (c : C) (sa : Option Addr) (sc : Nat) (hs : SetR w (.slice sa c.set.length sc) c.set) (v : V) :
    Calls Try.prog 14 #[.agg #[.string (strOf c.name), .int .i64 c.op, .int .i64 c.v.k, .int .i64 c.v.n, .string (strOf c.v.s), .bool c.v.b, .slice sa c.set.length sc], .agg #[.int .i64 v.k, .int .i64 v.n, .string (strOf v.s), .bool v.b]] w
      fun e w' => e = .returned (.bool (holdsC c v)) ∧ Ext w w' := by
  have hx0 : Ext w ((w.alloc (.cells #[.string (strOf c.name), .int .i64 c.op, .int .i64 c.v.k, .int .i64 c.v.n, .string (strOf c.v.s), .bool c.v.b, .slice sa c.set.length sc] 31)).alloc (.cells #[.int .i64 v.k, .int .i64 v.n, .string (strOf v.s), .bool v.b] 28)) := ((Ext.refl w).alloc _).alloc _
  have hN : ((w.alloc (.cells #[.string (strOf c.name), .int .i64 c.op, .int .i64 c.v.k, .int .i64 c.v.n, .string (strOf c.v.s), .bool c.v.b, .slice sa c.set.length sc] 31)).alloc (.cells #[.int .i64 v.k, .int .i64 v.n, .string (strOf v.s), .bool v.b] 28)).heap[w.heap.size + 1]? = some (.cells #[.int .i64 v.k, .int .i64 v.n, .string (strOf v.s), .bool v.b] 28 (0, 0)) := by
    have h := heap_alloc_new (w.alloc (.cells #[.string (strOf c.name), .int .i64 c.op, .int .i64 c.v.k, .int .i64 c.v.n, .string (strOf c.v.s), .bool c.v.b, .slice sa c.set.length sc] 31)) (.cells #[.int .i64 v.k, .int .i64 v.n, .string (strOf v.s), .bool v.b] 28)
    rw [World.size_alloc] at h; exact h
  have hB : CBox ((w.alloc (.cells #[.string (strOf c.name), .int .i64 c.op, .int .i64 c.v.k, .int .i64 c.v.n, .string (strOf c.v.s), .bool c.v.b, .slice sa c.set.length sc] 31)).alloc (.cells #[.int .i64 v.k, .int .i64 v.n, .string (strOf v.s), .bool v.b] 28)) w.heap.size c sa sc :=
    (CBox.mk (heap_alloc_new _ _) (hs.ext ((Ext.refl w).alloc _))).ext ((Ext.refl _).alloc _)
  obtain ⟨c0, c1, c2, c3, c4, c5, c6⟩ := hB.cell
  have n0 := cell_of_row _ _ 0 _ _ _ hN
  have n1 := cell_of_row _ _ 1 _ _ _ hN
  have n2 := cell_of_row _ _ 2 _ _ _ hN
  have n3 := cell_of_row _ _ 3 _ _ _ hN
  have hsd := hB.s
  have HB := Lib.hid hB
  clear hs hN hB
  by_cases h1 : c.op = 1
  · have hh : holdsC c v = true := by unfold holdsC; rw [if_pos h1]
    rw [hh]
    have d1 : (c.op == 1) = true := beq_iff_eq.2 h1
    clear hh h1
    go_enter Try.func14, Try.ntmps14
    go_wp2_with fail
    go_ret
    exact ⟨rfl, hx0⟩
  have d1 := beq_int_ne h1
  by_cases h9 : c.op = 9
  · have hh : holdsC c v = c.set.any fun x => decide (cmpV v x = 0) := by unfold holdsC; rw [if_neg h1, if_pos h9]
    rw [hh]
    have d9 : (c.op == 9) = true := beq_iff_eq.2 h9
    obtain ⟨_, _, es, _, hms⟩ := Row.shape hsd
    simp only [Value.slice.injEq] at es
    obtain ⟨rfl, -, rfl⟩ := es
    unfold maxLen at hms
    clear hh h1 h9
    go_enter Try.func14, Try.ntmps14
    go_wp2_with fail
    generalize (w.alloc (.cells #[.string (strOf c.name), .int .i64 c.op, .int .i64 c.v.k, .int .i64 c.v.n, .string (strOf c.v.s), .bool c.v.b, .slice sa c.set.length sc] 31)).alloc (.cells #[.int .i64 v.k, .int .i64 v.n, .string (strOf v.s), .bool v.b] 28) = wa at *
    go_loopw [5] (fun i wr => ∃ k : Nat, k ≤ c.set.length ∧ i = .int .i64 k ∧ Hid (∀ x ∈ c.set.take k, decide (cmpV v x = 0) = false) ∧ Ext wa wr) (fun i _ => c.set.length - (intOf i).toNat)
    case atStart => exact ⟨0, Nat.zero_le _, rfl, (by show ∀ x ∈ c.set.take 0, _; simp), Ext.refl _⟩
    case round =>
      obtain ⟨k, hk, rfl, hall, hx⟩ := hrel
      have g6 := hx.cell c6
      by_cases hlt : k < c.set.length
      · obtain ⟨B1, o1, rfl, f0, f1, f2, f3⟩ := SetR.at (hsd.ext hx) hlt
        have hI : decide ((k : Int) < (c.set.length : Int)) = true := decide_eq_true (by omega)
        have hhit : cmpV v c.set[k] = 0 → (c.set.any fun x => decide (cmpV v x = 0)) = true := fun e => List.any_eq_true.2 ⟨_, List.getElem_mem hlt, decide_eq_true e⟩
        have hnext : cmpV v c.set[k] ≠ 0 → ∀ x ∈ c.set.take (k + 1), decide (cmpV v x = 0) = false := fun e x hx => by
          rw [List.take_succ_eq_append_getElem hlt] at hx
          rcases List.mem_append.1 hx with hx | hx
          · exact hall.out x hx
          · rw [List.mem_singleton.1 hx]; exact decide_eq_false e
        generalize c.set[k] = x at *
        have hxd : Ext wr wr.drew := (Ext.refl wr).drew
        have q0 := (hx.trans hxd).cell n0
        have q1 := (hx.trans hxd).cell n1
        have q2 := (hx.trans hxd).cell n2
        have q3 := (hx.trans hxd).cell n3
        have q6 := hxd.cell g6
        have e0 := hxd.cell f0
        have e1 := hxd.cell f1
        have e2 := hxd.cell f2
        have e3 := hxd.cell f3
        by_cases hz : cmpV v x = 0
        · have hres := Lib.hid (hhit hz)
          have hcm := fun W => rcmpV_any W v x
          rw [hz] at hcm
          clear hz hhit hnext
          go_upto_region 7 with fail
          go_region_law (first | (go_simp; go_at_call 54; refine (hcm _).mono ?_; rintro e w2 ⟨rfl, hx2⟩))
          all_goals
            go_wp2_with fail
            go_ret
            exact ⟨by rw [hres.out]; rfl, hx0.trans (hx.trans (hxd.trans hx2.1))⟩
        · have hres := Lib.hid (hnext hz)
          have hcm := fun W => rcmpV_any W v x
          have hzz := beq_int_ne hz
          generalize cmpV v x = r at *
          clear hz hhit hnext
          go_upto_region 7 with fail
          go_region_law (first | (go_simp; go_at_call 54; refine (hcm _).mono ?_; rintro e w2 ⟨rfl, hx2⟩))
          all_goals
            go_wp2_with fail
            go_roundw
            case rel => exact ⟨k + 1, hlt, by go_num, hres, hx.trans (hxd.trans hx2.1)⟩
            case measure => simp [intOf]; omega
      · obtain rfl : k = c.set.length := by omega
        have hI : decide ((c.set.length : Int) < (c.set.length : Int)) = false := decide_eq_false (by omega)
        have hres : Hid ((c.set.any fun x => decide (cmpV v x = 0)) = false) := by
          show _ = _
          refine List.any_eq_false.2 fun x hx => ?_
          have := hall.out x (by rw [List.take_length]; exact hx)
          simpa using this
        go_wp2_with fail
        go_ret
        exact ⟨by rw [hres.out]; rfl, hx0.trans hx⟩
  have d9 := beq_int_ne h9
  by_cases hk : v.k = c.v.k
  · have dk : (v.k != c.v.k) = false := by simp [hk]
    have hcm := fun W => rcmpV_any W v c.v
    by_cases h2 : c.op = 2
    · have hh : holdsC c v = decide (cmpV v c.v = 0) := by unfold holdsC; rw [if_neg h1, if_neg h9, if_pos hk, if_pos h2]
      rw [hh]
      have d2 : (c.op == 2) = true := beq_iff_eq.2 h2
      clear hh h1 h9 h2 hk
      generalize cmpV v c.v = r at *
      go_enter Try.func14, Try.ntmps14
      go_wp2_with (go_at_call 54; refine (hcm _).mono ?_; rintro e w2 ⟨rfl, hx2⟩; have x1 := hx2.1.cell c1)
      go_ret
      exact ⟨by rw [← beq_dec]; rfl, hx0.trans hx2.1⟩
    have d2 := beq_int_ne h2
    by_cases h3 : c.op = 3
    · have hh : holdsC c v = !decide (cmpV v c.v = 0) := by unfold holdsC; rw [if_neg h1, if_neg h9, if_pos hk, if_neg h2, if_pos h3]
      rw [hh]
      have d3 : (c.op == 3) = true := beq_iff_eq.2 h3
      clear hh h1 h9 h3 hk
      generalize cmpV v c.v = r at *
      go_enter Try.func14, Try.ntmps14
      go_wp2_with (go_at_call 54; refine (hcm _).mono ?_; rintro e w2 ⟨rfl, hx2⟩; have x1 := hx2.1.cell c1)
      go_ret
      exact ⟨by rw [← beq_dec]; rfl, hx0.trans hx2.1⟩
    have d3 := beq_int_ne h3
    by_cases h4 : c.op = 4
    · have hh : holdsC c v = decide (cmpV v c.v < 0) := by unfold holdsC; rw [if_neg h1, if_neg h9, if_pos hk, if_neg h2, if_neg h3, if_pos h4]
      rw [hh]
      have d4 : (c.op == 4) = true := beq_iff_eq.2 h4
      clear hh h1 h9 h4 hk
      generalize cmpV v c.v = r at *
      go_enter Try.func14, Try.ntmps14
      go_wp2_with (go_at_call 54; refine (hcm _).mono ?_; rintro e w2 ⟨rfl, hx2⟩; have x1 := hx2.1.cell c1)
      go_ret
      exact ⟨rfl, hx0.trans hx2.1⟩
    have d4 := beq_int_ne h4
    by_cases h5 : c.op = 5
    · have hh : holdsC c v = decide (cmpV v c.v ≤ 0) := by unfold holdsC; rw [if_neg h1, if_neg h9, if_pos hk, if_neg h2, if_neg h3, if_neg h4, if_pos h5]
      rw [hh]
      have d5 : (c.op == 5) = true := beq_iff_eq.2 h5
      clear hh h1 h9 h5 hk
      generalize cmpV v c.v = r at *
      go_enter Try.func14, Try.ntmps14
      go_wp2_with (go_at_call 54; refine (hcm _).mono ?_; rintro e w2 ⟨rfl, hx2⟩; have x1 := hx2.1.cell c1)
      go_ret
      exact ⟨rfl, hx0.trans hx2.1⟩
    have d5 := beq_int_ne h5
    by_cases h6 : c.op = 6
    · have hh : holdsC c v = decide (0 < cmpV v c.v) := by unfold holdsC; rw [if_neg h1, if_neg h9, if_pos hk, if_neg h2, if_neg h3, if_neg h4, if_neg h5, if_pos h6]
      rw [hh]
      have d6 : (c.op == 6) = true := beq_iff_eq.2 h6
      clear hh h1 h9 h6 hk
      generalize cmpV v c.v = r at *
      go_enter Try.func14, Try.ntmps14
      go_wp2_with (go_at_call 54; refine (hcm _).mono ?_; rintro e w2 ⟨rfl, hx2⟩; have x1 := hx2.1.cell c1)
      go_ret
      exact ⟨rfl, hx0.trans hx2.1⟩
    have d6 := beq_int_ne h6
    by_cases h7 : c.op = 7
    · have hh : holdsC c v = decide (0 ≤ cmpV v c.v) := by unfold holdsC; rw [if_neg h1, if_neg h9, if_pos hk, if_neg h2, if_neg h3, if_neg h4, if_neg h5, if_neg h6, if_pos h7]
      rw [hh]
      have d7 : (c.op == 7) = true := beq_iff_eq.2 h7
      clear hh h1 h9 h7 hk
      generalize cmpV v c.v = r at *
      go_enter Try.func14, Try.ntmps14
      go_wp2_with (go_at_call 54; refine (hcm _).mono ?_; rintro e w2 ⟨rfl, hx2⟩; have x1 := hx2.1.cell c1)
      go_ret
      exact ⟨rfl, hx0.trans hx2.1⟩
    have d7 := beq_int_ne h7
    by_cases h8 : c.op = 8
    · have d8 : (c.op == 8) = true := beq_iff_eq.2 h8
      by_cases hk2 : v.k = 2
      · have hh : holdsC c v = c.v.s.isPrefixOf v.s := by
          rw [holds_pre h8, decide_eq_true hk2, decide_eq_true (by omega : c.v.k = 2)]; rfl
        rw [hh]
        have dk2 : (v.k == 2) = true := beq_iff_eq.2 hk2
        clear hh h1 h2 h3 h4 h5 h6 h7 h8 h9 hk hk2
        generalize cmpV v c.v = r at *
        go_enter Try.func14, Try.ntmps14
        go_upto_region 28 with (go_at_call 54; refine (hcm _).mono ?_; rintro e w2 ⟨rfl, hx2⟩; have x1 := hx2.1.cell c1; have x4 := hx2.1.cell c4; have y0 := hx2.1.cell n0; have y2 := hx2.1.cell n2)
        by_cases hle : c.v.s.length ≤ v.s.length
        · have hI : decide (((strOf c.v.s).size : Int) ≤ ((strOf v.s).size : Int)) = true := decide_eq_true (by rw [strOf_size, strOf_size]; omega)
          have hI2 : (strOf c.v.s).size ≤ (strOf v.s).size := by rw [strOf_size, strOf_size]; exact hle
          have hP := pre_str v.s c.v.s hle
          generalize hR : c.v.s.isPrefixOf v.s = R at hP
          go_quiet (fail)
          go_wp2_with fail
          go_ret
          exact ⟨by rw [hR]; rfl, (hx0.trans hx2.1).drewN _⟩
        · have hI : decide (((strOf c.v.s).size : Int) ≤ ((strOf v.s).size : Int)) = false := decide_eq_false (by rw [strOf_size, strOf_size]; omega)
          have hP : c.v.s.isPrefixOf v.s = false := by
            cases hq : c.v.s.isPrefixOf v.s with
            | false => rfl
            | true => exact absurd (Lib.hasPrefix_le (s := v.s) (p := c.v.s) hq) hle
          have hI2 : decide ((strOf c.v.s).size ≤ (strOf v.s).size) = false := decide_eq_false (by rw [strOf_size, strOf_size]; exact hle)
          have hI3 : ¬ (strOf c.v.s).size ≤ (strOf v.s).size := by rw [strOf_size, strOf_size]; exact hle
          go_quiet (fail)
          go_wp2_with fail
          go_ret
          exact ⟨by rw [hP]; rfl, (hx0.trans hx2.1).drewN _⟩
      · have hh : holdsC c v = false := by
          rw [holds_pre h8, decide_eq_false hk2]; rfl
        rw [hh]
        have dk2 : (v.k == 2) = false := beq_eq_false_iff_ne.2 hk2
        clear hh h1 h2 h3 h4 h5 h6 h7 h8 h9 hk hk2
        generalize cmpV v c.v = r at *
        go_enter Try.func14, Try.ntmps14
        go_upto_region 28 with (go_at_call 54; refine (hcm _).mono ?_; rintro e w2 ⟨rfl, hx2⟩; have x1 := hx2.1.cell c1; have x4 := hx2.1.cell c4; have y0 := hx2.1.cell n0; have y2 := hx2.1.cell n2)
        go_quiet (fail)
        go_wp2_with fail
        go_ret
        exact ⟨rfl, (hx0.trans hx2.1).drewN _⟩
    have d8 := beq_int_ne h8
    have hh : holdsC c v = false := by unfold holdsC; rw [if_neg h1, if_neg h9, if_pos hk, if_neg h2, if_neg h3, if_neg h4, if_neg h5, if_neg h6, if_neg h7, if_neg h8]
    rw [hh]
    clear hh h1 h2 h3 h4 h5 h6 h7 h8 h9 hk
    generalize cmpV v c.v = r at *
    go_enter Try.func14, Try.ntmps14
    go_wp2_with (go_at_call 54; refine (hcm _).mono ?_; rintro e w2 ⟨rfl, hx2⟩; have x1 := hx2.1.cell c1)
    go_ret
    exact ⟨rfl, hx0.trans hx2.1⟩
  · have hh : holdsC c v = false := by unfold holdsC; rw [if_neg h1, if_neg h9, if_neg hk]
    rw [hh]
    have dk : (v.k != c.v.k) = true := by simp [hk]
    clear hh h1 h9 hk
    go_enter Try.func14, Try.ntmps14
    go_wp2_with fail
    go_ret
    exact ⟨rfl, hx0⟩
end Go.Proofs.Ytkefppdacigbmaa
